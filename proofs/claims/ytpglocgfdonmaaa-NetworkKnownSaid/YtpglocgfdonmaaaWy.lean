/-
  Walks: the document's Ways and Shift, the law's own 'shifted'.
-/
import Derived.Test.YtpglocgfdonmaaaSp
import Derived.Test.YtpglocgfdonmaaaHr
import Derived.Test.YtpglocgfdonmaaaSl
set_option linter.unusedVariables false
set_option linter.unusedSimpArgs false
namespace Go.Proofs.Ytpglocgfdonmaaa
open Go.RowKit

def wayAt (L : List Bool) (i : Nat) : Int := if L.getD i false = true then (deadF L i : Int) else -1
def waysN (L : List Bool) (n : Nat) : List Int := (List.range n).map (wayAt L)
def waysF (L : List Bool) : List Int := waysN L L.length
theorem waysN_succ (L : List Bool) (n : Nat) : waysN L (n + 1) = waysN L n ++ [wayAt L n] := by simp [waysN, List.range_succ]
theorem waysN_len (L : List Bool) (n : Nat) : (waysN L n).length = n := by simp [waysN]
theorem waysN_at (L : List Bool) {n i : Nat} (h : i < n) : (waysN L n).getD i 0 = wayAt L i := by simp [waysN, h]
theorem rdv_at {w : World} {A : Option Addr} {L : List Bool} (h : RdV w A (L.map Value.bool)) (i : Nat) (hi : i < L.length) : ∃ b off, A = some ⟨b, off, none⟩ ∧ w.cell? ⟨b, off + i, none⟩ = some (.bool (L.getD i false)) := by
  obtain ⟨b, off, hA, hc⟩ := h i (by simpa using hi)
  refine ⟨b, off, hA, ?_⟩
  rw [hc]
  simp [hi]

set_option maxHeartbeats 1000000 in
/-- Ways -/
theorem ways_any (A : Option Addr) (n c : Nat) (L : List Bool) (w : World) (hn : n = L.length) (hr : RdV w A (L.map Value.bool)) (hl : L.length ≤ 1000000) :
    Calls Try.prog 49 #[.slice A n c] w (Made 3 .i64 (waysF L) w) := by
  have HR := Lib.hid hr
  have HN := Lib.hid hn
  have O0 := Lib.hid (Own.nil w w.heap.size 3 .i64)
  have F0 := Lib.hid (Below.refl w.heap.size w)
  have D0 := Lib.hid (dead_zero L)
  clear hr hn
  go_enter Try.func49, Try.ntmps49
  go_wp2_with fail
  go_loopw [3, 4, 5] (fun v dv iv wr => ∃ i : Nat, i ≤ n ∧ iv = .int .i64 (i : Int) ∧ dv = .int .i64 (deadF L i : Int) ∧ Hid (Own wr w.heap.size 3 .i64 v (waysN L i)) ∧ Hid (Below w.heap.size w wr)) (fun _ _ iv _ => n - (intOf iv).toNat)
  case atStart => exact ⟨0, Nat.zero_le _, rfl, by rw [D0.out]; rfl, O0, F0⟩
  case round =>
    obtain ⟨i, hi, rfl, rfl, HO, HB⟩ := hrel
    by_cases hlt : i < n
    · have hiL : i < L.length := by rw [← HN.out]; exact hlt
      obtain ⟨b, off, rfl, hc⟩ := (rdv_at (HR.out.below (w' := wr) ((HB.out))) i hiL)
      have HS := Lib.hid (dead_succ L i hiL)
      have HD := Lib.hid (dead_le L i)
      have hlt' : (i : Int) < (n : Int) := by omega
      have m1 : IntKind.i64.wrap ((i : Int) + 1) = ((i + 1 : Nat) : Int) := by rw [IntKind.wrap_i64] <;> omega
      have m2 : IntKind.i64.wrap ((deadF L i : Int) + 1) = ((deadF L i + 1 : Nat) : Int) := by have := HD.out; rw [IntKind.wrap_i64] <;> omega
      have hc1 : ((waysN L i).length + 1) * 8 ≤ 140737488355328 := by rw [waysN_len]; omega
      have HC1 := Lib.hid hc1
      have HW : Hid (wayAt L i = if L.getD i false = true then (deadF L i : Int) else -1) := Lib.hid rfl
      clear hc1 hiL
      generalize L.getD i false = x at *
      generalize hdd : deadF L i = d at *
      cases x
      · have HW1 : Hid (waysN L (i + 1) = waysN L i ++ [-1]) := Lib.hid (by rw [waysN_succ, HW.out]; rfl)
        have HS1 : Hid (deadF L (i + 1) = d + 1) := Lib.hid (by rw [HS.out]; rfl)
        go_wp2_with (first | (at_builtin; refine wpList_push wr rfl _ _ 39 rfl w.heap.size 3 .i64 8 Try.underlying39 info3 _ rfl _ _ rfl rfl HO.out HC1.out (by decide) HB.out.size ?_; intro v' w1 ho hf; have O1 := Lib.hid ho; have B1 : Hid (Below w.heap.size w w1) := Lib.hid (HB.out.trans (hf.below HB.out.size (fun g hg => (HO.out.base_le hg).1))); clear ho hf))
        go_roundw
        case rel => exact ⟨i + 1, by omega, by simp, (by rw [HS1.out]; simp), by rw [HW1.out]; exact O1, B1⟩
        case measure => simp [intOf]; omega
      · have HW1 : Hid (waysN L (i + 1) = waysN L i ++ [(d : Int)]) := Lib.hid (by rw [waysN_succ, HW.out]; rfl)
        have HS1 : Hid (deadF L (i + 1) = d) := Lib.hid (by rw [HS.out]; rfl)
        go_wp2_with (first | (at_builtin; refine wpList_push wr rfl _ _ 39 rfl w.heap.size 3 .i64 8 Try.underlying39 info3 _ rfl _ _ rfl rfl HO.out HC1.out (by decide) HB.out.size ?_; intro v' w1 ho hf; have O1 := Lib.hid ho; have B1 : Hid (Below w.heap.size w w1) := Lib.hid (HB.out.trans (hf.below HB.out.size (fun g hg => (HO.out.base_le hg).1))); clear ho hf))
        go_roundw
        case rel => exact ⟨i + 1, by omega, by simp, (by rw [HS1.out]), by rw [HW1.out]; exact O1, B1⟩
        case measure => simp [intOf]; omega
    · have HE : Hid (waysN L i = waysF L) := Lib.hid (by unfold waysF; rw [← HN.out, show i = n from by omega])
      have hge : decide ((i : Int) < (n : Int)) = false := by simp; omega
      rw [HE.out] at HO
      clear HE
      go_wp2_with fail
      go_ret
      exact ⟨_, rfl, HO.out, HB.out⟩

def natI (l : List Nat) : List Int := l.map fun p : Nat => (p : Int)
def SHL (L : List Bool) : List Nat := if L.length ≤ 65536 then shF L else []
theorem natI_len (l : List Nat) : (natI l).length = l.length := by simp [natI]
theorem natI_range_succ (n : Nat) : natI (List.range (n + 1)) = natI (List.range n) ++ [(n : Int)] := by simp [natI, List.range_succ]
theorem natI_at (l : List Nat) (i : Nat) (h : i < l.length) : (natI l).getD i 0 = ((l.getD i 0 : Nat) : Int) := by simp [natI, h]
theorem natI_swap (l : List Nat) (a b : Nat) : natI (swapL 0 l a b) = ((natI l).set b ((l.getD a 0 : Nat) : Int)).set a ((l.getD b 0 : Nat) : Int) := swap_map _ l a b
theorem cell_pre {w : World} {g T : Nat} {kd : IntKind} {ys : List Int} {rest : List Value} (h : Blk w g T (ys.map (Value.int kd) ++ rest)) (i : Nat) (hi : i < ys.length) : w.cell? ⟨g, i, none⟩ = some (.int kd (ys.getD i 0)) := by
  rw [h.cell, List.getElem?_append_left (by simpa using hi), List.getElem?_map, List.getD_eq_getElem?_getD, List.getElem?_eq_getElem hi]; rfl
theorem blk_set {w : World} {g T : Nat} {kd : IntKind} {ys : List Int} {rest : List Value} (h : Blk w g T (ys.map (Value.int kd) ++ rest)) (i : Nat) (hi : i < ys.length) (y : Int) : Blk (w.setCell ⟨g, i, none⟩ (.int kd y)) g T ((ys.set i y).map (Value.int kd) ++ rest) := by
  have h1 := Blk.set h i (.int kd y)
  rw [List.set_append_left _ _ (by simpa using hi), ← List.map_set] at h1
  exact h1

theorem rd_own {w : World} {base : Nat} {T : TypeId} {g n c : Nat} {kd : IntKind} {xs : List Int} (h : Own w base T kd (.slice (some ⟨g, 0, none⟩) n c) xs) (i : Nat) (hi : i < xs.length) : w.cell? ⟨g, i, none⟩ = some (.int kd (xs.getD i 0)) := by
  obtain ⟨b, off, hA, hc⟩ := h.rdAdr i hi
  injection hA with hA
  injection hA with h1 h2
  subst h1 h2
  rwa [Nat.zero_add] at hc

set_option maxRecDepth 100000 in
set_option maxHeartbeats 8000000 in
/-- the document's Shift -/
theorem rshift_any (A : Option Addr) (n c : Nat) (L : List Bool) (w : World) (hn : n = L.length) (hr : RdV w A (L.map Value.bool)) (hl : L.length ≤ 17592186044000) :
    Calls Try.prog 46 #[.slice A n c] w (Made 3 .i64 (natI (SHL L)) w) := by
  by_cases hbig : 65536 < n
  · have HS : Hid (SHL L = []) := Lib.hid (by unfold SHL; rw [if_neg (by omega)])
    have hb : (65536 : Int) < (n : Int) := by omega
    have HN0 : Hid (natI [] = []) := Lib.hid rfl
    clear hn hr
    go_enter Try.func46, Try.ntmps46
    go_wp2_with fail
    go_ret
    exact ⟨_, rfl, by rw [HS.out, HN0.out]; exact Own.nil _ _ _ _, Below.refl _ _⟩
  · have HS : Hid (SHL L = shF L) := Lib.hid (by unfold SHL; rw [if_pos (by omega)])
    have HSF : Hid (shF L = shG L (List.range n) (hops (n : Int))) := Lib.hid (by unfold shF; rw [hn])
    have hb : ¬ (65536 : Int) < (n : Int) := by omega
    have HN := Lib.hid hn
    have HW := Lib.hid (ways_any A n c L w hn hr (by omega))
    have HRH := Lib.hid (fun W => rhops_any (n : Int) W (by omega))
    have HH := Lib.hid (hops_len (n : Int))
    have HPL : Hid (∀ i, Pl n (shG L (List.range n) ((hops (n : Int)).take i))) := Lib.hid (fun i => Pl.all _ (Pl.range n) (fun x hx => List.mem_of_mem_take hx))
    have hn6 : n ≤ 65536 := by omega
    clear hn hr hl hbig
    go_enter Try.func46, Try.ntmps46
    go_wp2_with fail
    refine HW.out.mono ?_
    rintro e w1 ⟨v, rfl, ho, hb1⟩
    have hown := ho
    obtain ⟨WA, wc, rfl, -, -, hrw, -⟩ := ho.slice
    have HWL : Hid ((waysF L).length = n) := Lib.hid (by unfold waysF; rw [waysN_len]; exact HN.out.symm)
    have HB1 := Lib.hid hb1
    have OW := Lib.hid hown
    have RW1 := Lib.hid hrw
    have O0 : Hid (Own w1 w1.heap.size 3 .i64 (.slice none 0 0) (natI (List.range 0))) := Lib.hid (Own.nil w1 w1.heap.size 3 .i64)
    rw [HWL.out] at OW ⊢
    clear ho hb1 hown hrw
    go_wp2_with fail
    go_loopw [5, 6] (fun v iv wr => ∃ i : Nat, i ≤ n ∧ iv = .int .i64 (i : Int) ∧ Hid (Own wr w1.heap.size 3 .i64 v (natI (List.range i))) ∧ Hid (Below w1.heap.size w1 wr)) (fun _ iv _ => n - (intOf iv).toNat)
    case atStart => exact ⟨0, Nat.zero_le _, rfl, O0, Lib.hid (Below.refl _ _)⟩
    case round =>
      obtain ⟨i, hi, rfl, HO, HB⟩ := hrel
      by_cases hlt : i < n
      · have hlt' : (i : Int) < (n : Int) := by omega
        have m1 : IntKind.i64.wrap ((i : Int) + 1) = ((i + 1 : Nat) : Int) := by rw [IntKind.wrap_i64] <;> omega
        have HC1 : Hid (((natI (List.range i)).length + 1) * 8 ≤ 140737488355328) := Lib.hid (by rw [natI_len]; simp; omega)
        go_wp2_with (first | (at_builtin; refine wpList_push wr rfl _ _ 39 rfl w1.heap.size 3 .i64 8 Try.underlying39 info3 _ rfl _ _ rfl rfl HO.out HC1.out (by decide) HB.out.size ?_; intro v' w2 ho hf; have O1 := Lib.hid ho; have B1 : Hid (Below w1.heap.size w1 w2) := Lib.hid (HB.out.trans (hf.below HB.out.size (fun g hg => (HO.out.base_le hg).1))); clear ho hf))
        go_roundw
        case rel => exact ⟨i + 1, by omega, by simp, by rw [natI_range_succ]; exact O1, B1⟩
        case measure => simp [intOf]; omega
      · obtain rfl : i = n := by omega
        have hge : decide ((i : Int) < (i : Int)) = false := by simp
        clear hlt hi
        obtain ⟨w2, hw2⟩ : ∃ w2 : World, w2 = wr := ⟨_, rfl⟩
        subst hw2
        have HO2 := HO
        obtain ⟨PA, pc, hpv, -, -, -, -⟩ := HO.out.slice
        rw [natI_len, List.length_range] at hpv
        subst hpv
        have RH := Lib.hid (HRH.out w2)
        go_wp2_with fail
        refine RH.out.mono ?_
        rintro e w3 ⟨hv, rfl, hoP, hb3⟩
        obtain ⟨HA, hc, rfl, hrP⟩ := hoP.slice
        have HB3 : Hid (Below w2.heap.size w2 w3) := Lib.hid hb3
        have HL23 : Hid (w1.heap.size ≤ w2.heap.size) := Lib.hid HB.out.size
        -- the rows in w3
        have OA3 : Hid (Own w3 w1.heap.size 3 .i64 (.slice PA i pc) (natI (List.range i))) := Lib.hid (HO.out.below hb3)
        have WB : Hid (∀ x, x < i → ∃ bw ow, WA = some ⟨bw, ow, none⟩ ∧ bw < w1.heap.size ∧ w3.cell? ⟨bw, ow + x, none⟩ = some (.int .i64 (wayAt L x))) := Lib.hid (fun x hx => by
          obtain ⟨bw, ow, hA, hcc⟩ := RW1.out x (by rw [HWL.out]; exact hx)
          have hlt := World.block_lt_of_cell? w1 _ hcc
          refine ⟨bw, ow, hA, hlt, ?_⟩
          unfold waysF at hcc
          rw [waysN_at L (by rw [← HN.out]; exact hx)] at hcc
          exact (hb3.cell (p := ⟨bw, ow + x, none⟩) (Nat.lt_of_lt_of_le hlt HL23.out)).trans ((HB.out.cell (p := ⟨bw, ow + x, none⟩) hlt).trans hcc))
        have HRG : Hid (∀ j, j < (hops (i : Int)).length → ∃ b off, HA = some ⟨b, off, none⟩ ∧ w2.heap.size ≤ b ∧ b < w3.heap.size ∧ w3.cell? ⟨b, off + j * 2, none⟩ = some (.int .i64 ((hops (i : Int)).getD j (0, 0)).1) ∧ w3.cell? ⟨b, off + j * 2 + 1, none⟩ = some (.int .i64 ((hops (i : Int)).getD j (0, 0)).2)) := Lib.hid (fun j hj => by
          obtain ⟨b, off, hA, hlt, h1, h2⟩ := hrP j hj
          refine ⟨b, off, hA, ?_, hlt, h1, h2⟩
          subst hA
          exact (World.ownsRow.lt hoP b (by rfl)).1)
        have HMEM : Hid (∀ x ∈ hops (i : Int), ∃ a b c : Nat, x = ((a : Int), (b : Int)) ∧ a < i ∧ b + 2 ^ c = a) := Lib.hid (fun x hx => by
          obtain ⟨a, b, n', c, h1, h2, h3, h4⟩ := hops_mem hx
          exact ⟨a, b, c, h2, by omega, h4⟩)
        have HBW : Hid (Below w.heap.size w w3) := Lib.hid ((HB1.out.trans (HB.out.mono HB1.out.size)).trans (hb3.mono (Nat.le_trans HB1.out.size HB.out.size)))
        have HGP : Hid (∀ g, (Value.slice PA i pc).ownBlock = some g → w1.heap.size ≤ g ∧ g < w2.heap.size) := Lib.hid (fun g hg => HO.out.base_le hg)
        have HL3 : Hid (w2.heap.size ≤ w3.heap.size) := Lib.hid hb3.size
        clear hoP hrP hb3 RH HO HO2 HB HRH O0 OW RW1
        rw [HSF.out] at HS
        generalize hops (i : Int) = G at *
        go_wp2_with fail
        go_loopw [8] (fun kv wr => ∃ k : Nat, kv = .int .i64 (k : Int) ∧ k ≤ G.length ∧ Hid (Own wr w1.heap.size 3 .i64 (.slice PA i pc) (natI (shG L (List.range i) (G.take k)))) ∧ Hid (Fr (fun g => (Value.slice PA i pc).ownBlock = some g) w3 wr)) (fun kv _ => ((G.length : Int) - intOf kv).toNat)
        case atStart => exact ⟨0, rfl, by omega, OA3, Lib.hid (Fr.refl _ _)⟩
        case round =>
          clear OA3
          obtain ⟨k, rfl, hk, HO, HF⟩ := hrel
          by_cases hkl : k < G.length
          · obtain ⟨hb, off, hA, hlo, hhi, hc0, hc1⟩ := HRG.out k hkl
            subst hA
            obtain ⟨a, b, cc, hab, ha, hbc⟩ := HMEM.out (G.getD k (0, 0)) (by rw [List.getD_eq_getElem?_getD, List.getElem?_eq_getElem hkl]; simp)
            rw [hab] at hc0 hc1
            have HT : Hid (shG L (List.range i) (G.take (k + 1)) = stepH L (shG L (List.range i) (G.take k)) ((a : Int), (b : Int))) := Lib.hid (by
              rw [← shG_snoc, ← hab, List.take_add_one, List.getD_eq_getElem?_getD, List.getElem?_eq_getElem hkl]; simp)
            have hpl := HPL.out k
            generalize shG L (List.range i) (G.take k) = P at *
            have HLL : Hid (P.length = i) := Lib.hid hpl.1
            have hp2 : 0 < 2 ^ cc := Nat.two_pow_pos cc
            obtain ⟨d, hd⟩ : ∃ d, d = 2 ^ cc := ⟨_, rfl⟩
            rw [← hd] at hbc hp2
            obtain ⟨x, hx⟩ : ∃ x, x = P.getD a 0 := ⟨_, rfl⟩
            obtain ⟨y, hy⟩ : ∃ y, y = P.getD b 0 := ⟨_, rfl⟩
            have hxn : x < i := by rw [hx]; exact hpl.2 a ha
            obtain ⟨g, pc', ya, hv, cA, fA⟩ := HO.out.cells (k := a) (by rw [natI_len, HLL.out]; exact ha)
            injection hv with e1 e2 e3
            subst e1 e3
            obtain ⟨g', pc', yb, hv, cB, fB⟩ := HO.out.cells (k := b) (by rw [natI_len, HLL.out]; omega)
            injection hv with e1 e2' e3
            injection e1 with e1
            injection e1 with e1
            subst e1 e3
            have hya := (rd_own HO.out a (by rw [natI_len, HLL.out]; exact ha)).symm.trans cA
            have hyb := (rd_own HO.out b (by rw [natI_len, HLL.out]; omega)).symm.trans cB
            rw [natI_at P a (by rw [HLL.out]; exact ha), ← hx] at hya
            rw [natI_at P b (by rw [HLL.out]; omega), ← hy] at hyb
            injection hya with hya
            injection hya with _ hya
            injection hyb with hyb
            injection hyb with _ hyb
            subst hya hyb
            obtain ⟨bw, ow, hWA, hbw, cW⟩ := WB.out x hxn
            subst hWA
            have hgr := HGP.out g rfl
            have cW' : wr.cell? ⟨bw, ow + x, none⟩ = some (.int .i64 (wayAt L x)) := (World.cell?_of_block (w := w3) (w' := wr) (HF.out.block bw (by have := HL23.out; have := HL3.out; omega) (fun e => by have := HGP.out bw e; omega))).trans cW
            have hc0' : wr.cell? ⟨hb, off + k * 2, none⟩ = some (.int .i64 (a : Int)) := (World.cell?_of_block (w := w3) (w' := wr) (HF.out.block hb hhi (fun e => by have := HGP.out hb e; omega))).trans hc0
            have hc1' : wr.cell? ⟨hb, off + k * 2 + 1, none⟩ = some (.int .i64 (b : Int)) := (World.cell?_of_block (w := w3) (w' := wr) (HF.out.block hb hhi (fun e => by have := HGP.out hb e; omega))).trans hc1
            have HX := Lib.hid hx
            have HY := Lib.hid hy
            have HNE : Hid (hb ≠ g ∧ a ≠ b ∧ bw ≠ g) := Lib.hid ⟨by omega, by omega, by omega⟩
            have ha' : (a : Int) < (i : Int) := by omega
            have hb' : (b : Int) < (i : Int) := by omega
            have hx' : (x : Int) < (i : Int) := by omega
            have m1 : IntKind.i64.wrap ((k : Int) + 1) = ((k + 1 : Nat) : Int) := by have := HH.out; rw [IntKind.wrap_i64] <;> omega
            have m2 : IntKind.i64.wrap ((a : Int) - (b : Int)) = (d : Int) := by rw [IntKind.wrap_i64] <;> omega
            have hk' : (k : Int) < (G.length : Int) := by omega
            have HGo : Hid (stepH L P ((a : Int), (b : Int)) = if goF L x d = true then swapL 0 P a b else P) := Lib.hid (by
              unfold stepH
              rw [Int.toNat_natCast, Int.toNat_natCast, ← hx, show ((a : Int) - (b : Int)).toNat = d from by omega])
            have HWX : Hid (wayAt L x = if L.getD x false = true then (deadF L x : Int) else -1) := Lib.hid rfl
            have HDX : Hid (deadF L x ≤ x) := Lib.hid (dead_le L x)
            have HGX : Hid (goF L x d = (L.getD x false && (deadF L x / d % 2 == 1))) := Lib.hid rfl
            generalize wayAt L x = q at *
            generalize deadF L x = dd at *
            generalize goF L x d = go at *
            generalize L.getD x false = lx at *
            clear hx hy hab hc0 hc1 cW hd hbc hgr hlo hhi hbw hpl e2 e2'
            -- MARK
            cases lx
            · obtain rfl : q = -1 := HWX.out
              have HT2 : Hid (shG L (List.range i) (G.take (k + 1)) = P) := Lib.hid (by rw [HT.out, HGo.out, HGX.out]; rfl)
              clear HT HGo HGX
              go_wp2_with fail
              go_quiet (fail)
              go_wp2_with fail
              go_roundw
              case rel => exact ⟨k + 1, rfl, by omega, Lib.hid (by rw [HT2.out]; exact HO.out), Lib.hid (HF.out.drewN _)⟩
              case measure => simp [intOf]; omega
            · obtain rfl : q = (dd : Int) := HWX.out
              have h0 : ((d : Int) == 0) = false := by simp; omega
              have h1 : ¬ (d : Int) = 0 := by omega
              have h3 : ¬ (d : Int) = -1 := by omega
              have t1 : Int.tdiv (dd : Int) (d : Int) = ((dd / d : Nat) : Int) := by rw [Int.tdiv_eq_ediv_of_nonneg (by omega)]; simp
              have hle : dd / d ≤ dd := Nat.div_le_self _ _
              have hdd6 := HDX.out
              have hq0 : ¬ (dd : Int) < 0 := by omega
              generalize dd / d = e at *
              have m3 : IntKind.i64.wrap (e : Int) = (e : Int) := by rw [IntKind.wrap_i64] <;> omega
              by_cases hbit : e % 2 = 1
              · have t2 : Int.tmod (e : Int) 2 = 1 := by rw [Int.tmod_eq_emod_of_nonneg (by omega)]; omega
                have HT2 : Hid (shG L (List.range i) (G.take (k + 1)) = swapL 0 P a b) := Lib.hid (by rw [HT.out, HGo.out, HGX.out, if_pos (by simp; omega)])
                clear HT HGo HGX hbit
                go_wp2_with fail
                go_quiet (fail)
                rename_i nq
                have cA1 : (wr.drewN nq).cell? ⟨g, a, none⟩ = some (.int .i64 (x : Int)) := cA
                have cB1 : (wr.drewN nq).cell? ⟨g, b, none⟩ = some (.int .i64 (y : Int)) := cB
                have fA1 : (wr.drewN nq).frozen? ⟨g, a, none⟩ = false := fA
                have fB1 : (wr.drewN nq).frozen? ⟨g, b, none⟩ = false := fB
                have c01 : (wr.drewN nq).cell? ⟨hb, off + k * 2, none⟩ = some (.int .i64 (a : Int)) := hc0'
                have c11 : (wr.drewN nq).cell? ⟨hb, off + k * 2 + 1, none⟩ = some (.int .i64 (b : Int)) := hc1'
                have cW1 : (wr.drewN nq).cell? ⟨bw, ow + x, none⟩ = some (.int .i64 (dd : Int)) := cW'
                have HO1 : Hid (Own (wr.drewN nq) w1.heap.size 3 .i64 (.slice (some ⟨g, 0, none⟩) i pc) (natI P)) := Lib.hid HO.out
                have HF1 : Hid (Fr (fun g_1 => (Value.slice (some ⟨g, 0, none⟩) i pc).ownBlock = some g_1) w3 (wr.drewN nq)) := Lib.hid (HF.out.drewN _)
                clear cA cB fA fB hc0' hc1' cW' HO HF
                generalize wr.drewN nq = wz at *
                go_wp2_with fail
                go_still_tail 15, (by kernel_rfl)
                change wpList _ _ _ _ _ wz.drew
                have cA2 : wz.drew.cell? ⟨g, a, none⟩ = some (.int .i64 (x : Int)) := cA1
                have cB2 : wz.drew.cell? ⟨g, b, none⟩ = some (.int .i64 (y : Int)) := cB1
                have fA2 : wz.drew.frozen? ⟨g, a, none⟩ = false := fA1
                have fB2 : wz.drew.frozen? ⟨g, b, none⟩ = false := fB1
                have c02 : wz.drew.cell? ⟨hb, off + k * 2, none⟩ = some (.int .i64 (a : Int)) := c01
                have c12 : wz.drew.cell? ⟨hb, off + k * 2 + 1, none⟩ = some (.int .i64 (b : Int)) := c11
                have HO2 : Hid (Own wz.drew w1.heap.size 3 .i64 (.slice (some ⟨g, 0, none⟩) i pc) (natI P)) := Lib.hid HO1.out
                have HF2 : Hid (Fr (fun g_1 => (Value.slice (some ⟨g, 0, none⟩) i pc).ownBlock = some g_1) w3 wz.drew) := Lib.hid HF1.out.drew
                clear cA1 cB1 fA1 fB1 c01 c11 cW1 HO1 HF1
                generalize wz.drew = wy at *
                have n1 : ¬ g = hb := fun e => HNE.out.1 e.symm
                have n2 : ¬ hb = g := fun e => HNE.out.1 e
                have n3 : ¬ a = b := HNE.out.2.1
                have n4 : ¬ b = a := fun e => HNE.out.2.1 e.symm
                have HO3 : Hid (Own ((wy.setCell ⟨g, a, none⟩ (.int .i64 (y : Int))).setCell ⟨g, b, none⟩ (.int .i64 (x : Int))) w1.heap.size 3 .i64 (.slice (some ⟨g, 0, none⟩) i pc) (natI (swapL 0 P a b))) := Lib.hid (by
                  have h1 := (HO2.out.setAt (k := a) (by rw [natI_len, HLL.out]; exact ha) (y : Int)).setAt (k := b) (by rw [List.length_set, natI_len, HLL.out]; omega) (x : Int)
                  rw [natI_swap, ← HX.out, ← HY.out, List.set_comm _ _ (Ne.symm HNE.out.2.1)]
                  exact h1)
                have HF3 : Hid (Fr (fun g_1 => (Value.slice (some ⟨g, 0, none⟩) i pc).ownBlock = some g_1) w3 ((wy.setCell ⟨g, a, none⟩ (.int .i64 (y : Int))).setCell ⟨g, b, none⟩ (.int .i64 (x : Int)))) := Lib.hid ((HF2.out.setCell (p := ⟨g, a, none⟩) (.inl rfl) _).setCell (p := ⟨g, b, none⟩) (.inl rfl) _)
                go_wp2_with fail
                go_roundw
                case rel => exact ⟨k + 1, rfl, by omega, by rw [HT2.out]; exact HO3, HF3⟩
                case measure => simp [intOf]; omega
              · have t2 : Int.tmod (e : Int) 2 = 0 := by rw [Int.tmod_eq_emod_of_nonneg (by omega)]; omega
                have HT2 : Hid (shG L (List.range i) (G.take (k + 1)) = P) := Lib.hid (by rw [HT.out, HGo.out, HGX.out, if_neg (by simp; omega)])
                clear HT HGo HGX
                go_wp2_with fail
                go_quiet (fail)
                go_wp2_with fail
                go_roundw
                case rel => exact ⟨k + 1, rfl, by omega, Lib.hid (by rw [HT2.out]; exact HO.out), Lib.hid (HF.out.drewN _)⟩
                case measure => simp [intOf]; omega
          · have hke : k = G.length := by omega
            have HE : Hid (Own wr w1.heap.size 3 .i64 (.slice PA i pc) (natI (SHL L))) := Lib.hid (by
              have ho := HO.out
              rw [hke, List.take_length, ← HS.out] at ho
              exact ho)
            have HBE : Hid (Below w.heap.size w wr) := Lib.hid (HBW.out.trans (HF.out.below (B := w.heap.size) HBW.out.size (fun g hg => Nat.le_trans HB1.out.size (HGP.out g hg).1)))
            have hge2 : decide ((k : Int) < (G.length : Int)) = false := by simp; omega
            clear HO HF
            go_wp2_with fail
            go_ret
            exact ⟨_, rfl, HE.out.lower HB1.out.size, HBE.out⟩
end Go.Proofs.Ytpglocgfdonmaaa
