/-
  Bytes: what is made; two rows compared (EqBytes).
-/
import Derived.Test.YtcfbaildcocnhaaRow
import Derived.Test.YtcfbaildcocnhaaRows
import Derived.Outline
import Derived.WalkLawsBesides
import Derived.LoopTactic
import Derived.Deep.QuietTactic
import Derived.BigQuiet
set_option linter.unusedVariables false
set_option linter.unusedSimpArgs false
namespace Go.Proofs.Ytcfbaildcocnhaa
open Go.RowKit

theorem info5 : (Try.prog.info? 5).map (fun i => (i.zero, i.size, i.bytes)) = some (some (.int .u8 0), 1, 1) := by kernel_rfl
theorem size5' : (Try.prog.info? 5).map (·.size) = some 1 := by kernel_rfl
def Made (T : TypeId) (k : IntKind) (xs : List Int) (w : World) (e : Ending) (w' : World) : Prop := ∃ v, e = .returned v ∧ Own w' w.heap.size T k v xs ∧ Below w.heap.size w w'
theorem getD_ne {xs ys : List Int} {k : Nat} (h : ¬ xs.getD k 0 = ys.getD k 0) : ¬ xs = ys := fun e => h (by rw [e])
theorem blk_rd {w : World} {g T : Nat} {kd : IntKind} {xs : List Int} {r : List Value} (h : Blk w g T (xs.map (Value.int kd) ++ r)) : Rd w kd (some ⟨g, 0, none⟩) xs := fun i hi => by
  refine ⟨g, 0, rfl, ?_⟩
  rw [h.cell]
  simp [List.getElem?_append, hi, List.getD]
theorem blk_rd0 {w : World} {g T : Nat} {kd : IntKind} {xs : List Int} (h : Blk w g T (xs.map (Value.int kd))) : Rd w kd (some ⟨g, 0, none⟩) xs := blk_rd (r := []) (by rw [List.append_nil]; exact h)

set_option maxHeartbeats 400000 in
/-- EqBytes. -/
theorem eqb_any (A B : Option Addr) (n m c d : Nat) (xs ys : List Int) (w : World) (hn : n = xs.length) (hm : m = ys.length) (hx : Rd w .u8 A xs) (hy : Rd w .u8 B ys) (hl : xs.length ≤ 9223372036854775807) (hm2 : ys.length ≤ 9223372036854775807) :
    Calls Try.prog 40 #[.slice A n c, .slice B m d] w fun e w' => ∃ q, e = .returned (.bool (decide (xs = ys))) ∧ w' = w.drewN q := by
  subst hn hm
  have HX := Lib.hid hx
  have HYY := Lib.hid hy
  clear hx hy
  by_cases hlen : xs.length = ys.length
  · have hb : (xs.length != ys.length) = false := by simp [hlen]
    have HL := Lib.hid hlen
    clear hlen
    go_enter Try.func40, Try.ntmps40
    go_wp2
    go_loopw [5] (fun i wr => ∃ k n : Nat, k ≤ xs.length ∧ i = .int .i64 k ∧ Hid (xs.take k = ys.take k) ∧ wr = w.drewN n) (fun i _ => xs.length - (intOf i).toNat)
    case atStart => exact ⟨0, 0, Nat.zero_le _, rfl, Lib.hid rfl, rfl⟩
    case round =>
      clear hb
      obtain ⟨k, n, hk, rfl, HT, rfl⟩ := hrel
      by_cases hlt : k < xs.length
      · have hlt2 : k < ys.length := by have := HL.out; omega
        obtain ⟨b, off, x, rfl, hc, HXK⟩ := HX.out.at k hlt
        obtain ⟨b2, off2, y, rfl, hc2, HYK⟩ := HYY.out.at k hlt2
        by_cases hxy : x = y
        · subst hxy
          have HZ : Hid (xs.take (k + 1) = ys.take (k + 1)) := by
            refine Lib.hid ?_
            rw [take_snocI xs k hlt, take_snocI ys k hlt2, HT.out, ← HXK.out, ← HYK.out]
          go_wp2
          go_quiet (fail)
          go_wp2
          go_roundw
          case rel => exact ⟨k + 1, _, by omega, by go_num, HZ, rfl⟩
          case measure => simp [intOf]; omega
        · have hne : ¬ xs = ys := getD_ne (k := k) (by rw [← HXK.out, ← HYK.out]; exact hxy)
          have HN := Lib.hid hne
          clear hne
          have hd : (x != y) = true := by simpa using hxy
          clear hxy
          go_wp2
          go_quiet (fail)
          go_wp2
          go_ret
          exact ⟨_, by simp [HN.out], World.drewN_drewN ..⟩
      · obtain rfl : k = xs.length := by omega
        go_wp2
        go_ret
        refine ⟨_, ?_, rfl⟩
        have h := HT.out
        rw [List.take_length, List.take_of_length_le (by have := HL.out; omega)] at h
        simp [h]
  · have hb : (xs.length != ys.length) = true := by simpa using hlen
    have HN : Hid (¬ xs = ys) := Lib.hid (fun e => hlen (by rw [e]))
    clear hlen
    go_enter Try.func40, Try.ntmps40
    go_wp2
    go_ret
    exact ⟨0, by simp [HN.out], rfl⟩

end Go.Proofs.Ytcfbaildcocnhaa
