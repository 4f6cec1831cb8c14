/-
  Digits bring bytes back, and bytes digits: plain.
-/
import Derived.Test.YtcibhaoilcohbaaHl
set_option linter.unusedVariables false
set_option linter.unusedSimpArgs false
namespace Go.Proofs.Ytcibhaoilcohbaa
open Go.RowKit

theorem sb_str (zs : List Int) (i : Nat) (hB : B8 zs) : (sb (strOfNums zs) i : Int) = zs.getD i 0 := by
  unfold sb
  rw [strOfNums_data]
  have hb := hB i
  by_cases h : i < zs.length
  · rw [show (zs.map fun n => UInt8.ofNat n.toNat).getD i 0 = UInt8.ofNat (zs.getD i 0).toNat from by simp [List.getD, h]]
    generalize zs.getD i 0 = z at hb ⊢
    obtain ⟨n, rfl⟩ := Int.eq_ofNat_of_zero_le hb.1
    simp
    omega
  · rw [show (zs.map fun n => UInt8.ofNat n.toNat).getD i 0 = 0 from by simp [List.getD, Nat.le_of_not_lt h], show zs.getD i 0 = 0 from by simp [List.getD, Nat.le_of_not_lt h]]
    rfl
theorem hexL_get (xs : List Int) : ∀ j, j < xs.length → (hexL xs).getD (2 * j) 0 = hexd ((xs.getD j 0).toNat / 16) ∧ (hexL xs).getD (2 * j + 1) 0 = hexd ((xs.getD j 0).toNat % 16) := by
  induction xs with
  | nil => intro j h; simp at h
  | cons x xs ih =>
    intro j h
    have e : hexL (x :: xs) = hexd (x.toNat / 16) :: hexd (x.toNat % 16) :: hexL xs := by simp [hexL, hx2]
    rw [e]
    cases j with
    | zero => exact ⟨rfl, rfl⟩
    | succ j =>
      have := ih j (by simpa using h)
      rw [show 2 * (j + 1) = (2 * j + 1) + 1 from by omega]
      simpa [List.getD] using this
theorem hval_hexd (n : Nat) (h : n < 16) : hval (hexd n).toNat = n := by
  have hu := hexd_u8 n h
  have := (hexd_hval n (hexd n).toNat h (by omega)).1 (by omega)
  exact this
theorem hexd_hval2 (c : Nat) (hc : c < 256) (h : hval c < 16) : hexd (hval c) = (c : Int) := (hexd_hval (hval c) c h hc).2 rfl
theorem sb_hex {xs : List Int} (hB : B8 xs) (j : Nat) (hj : j < xs.length) : hval (sb (strOfNums (hexL xs)) (2 * j)) = (xs.getD j 0).toNat / 16 ∧ hval (sb (strOfNums (hexL xs)) (2 * j + 1)) = (xs.getD j 0).toNat % 16 := by
  have hb := hB j
  have h8 := hexL_b8 hB
  obtain ⟨g1, g2⟩ := hexL_get xs j hj
  have s1 := sb_str (hexL xs) (2 * j) h8
  have s2 := sb_str (hexL xs) (2 * j + 1) h8
  rw [g1] at s1
  rw [g2] at s2
  constructor
  · rw [show sb (strOfNums (hexL xs)) (2 * j) = (hexd ((xs.getD j 0).toNat / 16)).toNat from by omega]
    exact hval_hexd _ (by omega)
  · rw [show sb (strOfNums (hexL xs)) (2 * j + 1) = (hexd ((xs.getD j 0).toNat % 16)).toNat from by omega]
    exact hval_hexd _ (by omega)
theorem hex_size (xs : List Int) : (strOfNums (hexL xs)).size = 2 * xs.length := by rw [strOfNums_size, hexL_len]
theorem hex_good {xs : List Int} (hB : B8 xs) : hgood (strOfNums (hexL xs)) = true := by
  refine good_of (by rw [hex_size]; omega) (fun i hi => ?_)
  rw [hex_size] at hi
  obtain ⟨h1, h2⟩ := sb_hex hB (i / 2) (by omega)
  have hb := hB (i / 2)
  by_cases hodd : i % 2 = 0
  · rw [show 2 * (i / 2) = i from by omega] at h1
    rw [h1]; omega
  · rw [show 2 * (i / 2) + 1 = i from by omega] at h2
    rw [h2]; omega
theorem hex_uL {xs : List Int} (hB : B8 xs) : uL (strOfNums (hexL xs)) = xs := by
  unfold uL
  rw [hex_good hB, if_pos rfl, hex_size, show 2 * xs.length / 2 = xs.length from by omega]
  apply List.ext_getElem (by rw [upairs_len])
  intro j h1 h2
  obtain ⟨g1, g2⟩ := sb_hex hB j h2
  have hb := hB j
  rw [show xs.getD j 0 = xs[j] from by simp [List.getD, h2]] at g1 g2 hb
  simp only [upairs, List.getElem_map, List.getElem_range]
  rw [g1, g2]
  omega
theorem hex_uE {xs : List Int} (hB : B8 xs) : uE (strOfNums (hexL xs)) = 0 := by
  unfold uE
  rw [hex_good hB, if_pos rfl]
theorem str_ext {s t : ByteArray} (hs : s.size = t.size) (h : ∀ i, i < s.size → sb s i = sb t i) : s = t := by
  apply ByteArray.ext
  apply Array.ext'
  have l1 : s.data.toList.length = s.size := by rw [Array.length_toList]; rfl
  have l2 : t.data.toList.length = t.size := by rw [Array.length_toList]; rfl
  apply List.ext_getElem (by omega)
  intro i h1 h2
  have := h i (by omega)
  unfold sb at this
  rw [show s.data.toList.getD i 0 = s.data.toList[i] from by rw [List.getD_eq_getElem?_getD, List.getElem?_eq_getElem h1]; rfl, show t.data.toList.getD i 0 = t.data.toList[i] from by rw [List.getD_eq_getElem?_getD, List.getElem?_eq_getElem h2]; rfl] at this
  exact UInt8.toNat_inj.1 this
theorem good_parts {s : ByteArray} (h : hgood s = true) : s.size % 2 = 0 ∧ hok s s.size := by
  unfold hgood at h
  simpa using h
theorem uL_b8 (s : ByteArray) : B8 (uL s) := by
  unfold uL
  split
  · rename_i h
    obtain ⟨h1, h2⟩ := good_parts h
    intro i
    by_cases hi : i < s.size / 2
    · rw [show (upairs s (s.size / 2)).getD i 0 = ((16 * hval (sb s (2 * i)) + hval (sb s (2 * i + 1)) : Nat) : Int) from by simp [upairs, List.getD, hi]]
      have a := h2 (2 * i) (by omega)
      have b := h2 (2 * i + 1) (by omega)
      omega
    · rw [show (upairs s (s.size / 2)).getD i 0 = 0 from by simp [upairs, List.getD, Nat.le_of_not_lt hi]]; omega
  · intro i; simp
theorem unhex_hex {s : ByteArray} (h : hgood s = true) : strOfNums (hexL (uL s)) = s := by
  obtain ⟨h1, h2⟩ := good_parts h
  have hu : uL s = upairs s (s.size / 2) := by unfold uL; rw [h, if_pos rfl]
  have hB := uL_b8 s
  have hl : (uL s).length = s.size / 2 := by rw [hu, upairs_len]
  refine str_ext (by rw [hex_size, hl]; omega) (fun i hi => ?_)
  rw [hex_size, hl] at hi
  have h8 := hexL_b8 hB
  have hj : i / 2 < (uL s).length := by omega
  obtain ⟨g1, g2⟩ := hexL_get (uL s) (i / 2) hj
  have e : (uL s).getD (i / 2) 0 = ((16 * hval (sb s (2 * (i / 2))) + hval (sb s (2 * (i / 2) + 1)) : Nat) : Int) := by
    rw [hu]
    simp [upairs, List.getD, show i / 2 < s.size / 2 from by omega]
  have a := h2 (2 * (i / 2)) (by omega)
  have b := h2 (2 * (i / 2) + 1) (by omega)
  have hs := sb_str (hexL (uL s)) i h8
  rw [e, Int.toNat_natCast] at g1 g2
  by_cases hodd : i % 2 = 0
  · rw [show 2 * (i / 2) = i from by omega] at g1 a
    rw [show (16 * hval (sb s i) + hval (sb s (i + 1))) / 16 = hval (sb s i) from by rw [show 2 * (i / 2) = i from by omega] at b; omega, hexd_hval2 _ (sb_lt s i) a] at g1
    rw [g1] at hs
    omega
  · rw [show 2 * (i / 2) + 1 = i from by omega] at g2 b
    rw [show (16 * hval (sb s (2 * (i / 2))) + hval (sb s i)) % 16 = hval (sb s i) from by omega, hexd_hval2 _ (sb_lt s i) b] at g2
    rw [g2] at hs
    omega
theorem str_append (xs ys : List Int) : strOfNums (xs ++ ys) = strOfNums xs ++ strOfNums ys := by
  apply ByteArray.ext
  apply Array.ext'
  simp [strOfNums]
end Go.Proofs.Ytcibhaoilcohbaa
