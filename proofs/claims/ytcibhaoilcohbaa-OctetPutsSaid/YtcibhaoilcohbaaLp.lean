/-
  Walk: OctetPuts.
-/
import Derived.Test.YtcibhaoilcohbaaRf
import Derived.Test.YtcibhaoilcohbaaAp
import Derived.Deep.RegionHeld3
set_option linter.unusedVariables false
set_option linter.unusedSimpArgs false
namespace Go.Proofs.Ytcibhaoilcohbaa
open Go.RowKit

theorem be_rev (X s : Nat) : beN X s s = (leN X s).reverse := by
  apply List.ext_getElem
  · simp [beN_len, leN_len]
  · intro k h1 h2
    rw [beN_len] at h1
    simp [beN, leN]
/-- The m-th list: its width, its bytes. -/
def wd (m : Nat) : Nat := 2 ^ (m / 4)
def cont (xs : List Int) (X m : Nat) : List Int := if m % 2 = 0 then xs ++ leN (X % 256 ^ wd m) (wd m) else xs ++ (leN (X % 256 ^ wd m) (wd m)).reverse
theorem cont_len (xs : List Int) (X m : Nat) : (cont xs X m).length = xs.length + wd m := by
  unfold cont
  split <;> simp [leN_len]
theorem wd_le (m : Nat) (h : m < 16) : wd m ≤ 8 := by
  have : m / 4 = 0 ∨ m / 4 = 1 ∨ m / 4 = 2 ∨ m / 4 = 3 := by omega
  unfold wd
  rcases this with h | h | h | h <;> rw [h] <;> decide
/-- Both rows of lists, m laid. -/
structure Two (w0 wr : World) (base : Nat) (xs : List Int) (X m : Nat) (V U : Nat → Value) (al wl : Value) : Prop where
  all : OwnV wr base 22 al ((List.range m).map V)
  want : OwnV wr base 22 wl ((List.range m).map U)
  sep : ∀ g, al.ownBlock = some g → wl.ownBlock ≠ some g
  one : ∀ j, j < m → Own wr base 5 .u8 (V j) (cont xs X j)
  two : ∀ j, j < m → Own wr base 5 .u8 (U j) (cont xs X j)
  dist : Dist m V
  uv : ∀ i, i < m → ∀ j, j < m → ∀ g, (V i).ownBlock = some g → (U j).ownBlock ≠ some g
  bel : Below base w0 wr
  bs : base ≤ w0.heap.size
theorem Own.neV {w : World} {base base' : Nat} {T T' : TypeId} {k : IntKind} {v v' : Value} {xs : List Int} {cs' : List Value} (h : Own w base T k v xs) (h' : OwnV w base' T' v' cs') (hne : T ≠ T') : ∀ g, v.ownBlock = some g → v'.ownBlock ≠ some g := h.toV.ne h' hne
def put2 (V : Nat → Value) (m : Nat) (a b : Value) : Nat → Value := fun j => if j = m then a else if j = m + 1 then b else V j
theorem put2_map (V : Nat → Value) (m : Nat) (a b : Value) : (List.range (m + 2)).map (put2 V m a b) = (List.range m).map V ++ [a, b] := by
  rw [List.range_succ, List.range_succ, List.map_append, List.map_append, List.append_assoc]
  congr 1
  · apply List.map_congr_left
    intro j hj
    have := List.mem_range.1 hj
    unfold put2
    rw [if_neg (by omega), if_neg (by omega)]
  · simp [put2]
theorem put2_all {P : Nat → Value → Prop} {V : Nat → Value} {m : Nat} {a b : Value} (h : ∀ j, j < m → P j (V j)) (ha : P m a) (hb : P (m + 1) b) : ∀ j, j < m + 2 → P j (put2 V m a b j) := fun j hj => by
  unfold put2
  split
  · next e => subst e; exact ha
  · split
    · next e => subst e; exact hb
    · exact h j (by omega)
theorem put2_dist {V : Nat → Value} {m B : Nat} {a b : Value} (h : Dist m V) (hV : ∀ j, j < m → ∀ g, (V j).ownBlock = some g → g < B) (ha : ∀ g, a.ownBlock = some g → B ≤ g) (hb : ∀ g, b.ownBlock = some g → B ≤ g) (hab : ∀ g, a.ownBlock = some g → b.ownBlock ≠ some g) : Dist (m + 2) (put2 V m a b) := by
  intro i j hi hj hne g h1 h2
  unfold put2 at h1 h2
  split at h1
  · next e1 =>
    split at h2
    · next e2 => exact hne (e1.trans e2.symm)
    · split at h2
      · exact hab g h1 h2
      · have := hV j (by omega) g h2; have := ha g h1; omega
  · split at h1
    · next e0 e1 =>
      split at h2
      · exact hab g h2 h1
      · split at h2
        · next e2 => exact hne (e1.trans e2.symm)
        · have := hV j (by omega) g h2; have := hb g h1; omega
    · split at h2
      · have := hV i (by omega) g h1; have := ha g h2; omega
      · split at h2
        · have := hV i (by omega) g h1; have := hb g h2; omega
        · exact h i j (by omega) (by omega) hne g h1 h2
/-- One step: two lists are laid behind all, two behind want. -/
theorem Two.next {w0 wr w2 w4 w6 w8 : World} {base : Nat} {xs : List Int} {X m : Nat} {V U : Nat → Value} {al wl a b al' c d wl' : Value} (h : Two w0 wr base xs X m V U al wl)
    (b2 : Below wr.heap.size wr w2) (ha : Own w2 wr.heap.size 5 .u8 a (cont xs X m)) (hb : Own w2 wr.heap.size 5 .u8 b (cont xs X (m + 1))) (hab : ∀ g, a.ownBlock = some g → b.ownBlock ≠ some g)
    (h4 : OwnV w4 base 22 al' ((List.range m).map V ++ [a, b])) (g4 : Grew w2 w4 al al')
    (b6 : Below w4.heap.size w4 w6) (hc : Own w6 w4.heap.size 5 .u8 c (cont xs X m)) (hd : Own w6 w4.heap.size 5 .u8 d (cont xs X (m + 1)))
    (h8 : OwnV w8 base 22 wl' ((List.range m).map U ++ [c, d])) (g8 : Grew w6 w8 wl wl') : Two w0 w8 base xs X (m + 2) (put2 V m a b) (put2 U m c d) al' wl' := by
  have hbs : base ≤ wr.heap.size := Nat.le_trans h.bs h.bel.size
  have s2 := b2.size
  have s4 := g4.1.size
  have s6 := b6.size
  have s8 := g8.1.size
  -- the two long lists on their way
  have al2 := h.all.below b2
  have wl2 := h.want.below b2
  have wl4 := wl2.fr g4.1 (fun g hg e => h.sep g e hg)
  have wl6 := wl4.below b6
  have al6 := h4.below b6
  have hal : ∀ g, al'.ownBlock = some g → wl.ownBlock ≠ some g := fun g hg hw => by
    rcases g4.2 with e | ⟨g2, e, hg2⟩
    · exact h.sep g (e ▸ hg) hw
    · rw [e] at hg; injection hg with hg; subst hg
      have := (wl2.base_le hw).2; omega
  have al8 := al6.fr g8.1 (fun g hg e => hal g hg e)
  have hV : ∀ j, j < m → Own w8 base 5 .u8 (V j) (cont xs X j) := fun j hj =>
    ((((h.one j hj).below b2).fr g4.1 (fun g hg e => (h.one j hj).neV h.all (by decide) g hg e)).below b6).fr g8.1 (fun g hg e => (h.one j hj).neV h.want (by decide) g hg e)
  have hU : ∀ j, j < m → Own w8 base 5 .u8 (U j) (cont xs X j) := fun j hj =>
    ((((h.two j hj).below b2).fr g4.1 (fun g hg e => (h.two j hj).neV h.all (by decide) g hg e)).below b6).fr g8.1 (fun g hg e => (h.two j hj).neV h.want (by decide) g hg e)
  have up : ∀ {v : Value} {ys : List Int}, Own w2 wr.heap.size 5 .u8 v ys → Own w8 base 5 .u8 v ys := fun hv =>
    (((hv.fr g4.1 (fun g hg e => hv.neV al2 (by decide) g hg e)).below b6).fr g8.1 (fun g hg e => hv.neV wl2 (by decide) g hg e)).lower hbs
  have up6 : ∀ {v : Value} {ys : List Int}, Own w6 w4.heap.size 5 .u8 v ys → Own w8 base 5 .u8 v ys := fun hv =>
    (hv.fr g8.1 (fun g hg e => hv.neV wl6 (by decide) g hg e)).lower (by omega)
  refine ⟨by rw [put2_map]; exact al8, by rw [put2_map]; exact h8, fun g hg hw => ?_, put2_all (P := fun j v => Own w8 base 5 .u8 v (cont xs X j)) hV (up ha) (up hb), put2_all (P := fun j v => Own w8 base 5 .u8 v (cont xs X j)) hU (up6 hc) (up6 hd), ?_, ?_, ?_, h.bs⟩
  · rcases g8.2 with e | ⟨g2, e, hg2⟩
    · exact hal g hg (e ▸ hw)
    · rw [e] at hw; injection hw with hw; subst hw
      have := (al6.base_le hg).2; omega
  · exact put2_dist (B := wr.heap.size) h.dist (fun j hj g hg => ((h.one j hj).base_le hg).2) (fun g hg => (ha.base_le hg).1) (fun g hg => (hb.base_le hg).1) hab
  · -- V's, and the new two; U's, and the new two
    have oa : ∀ g, a.ownBlock = some g → wr.heap.size ≤ g ∧ g < w2.heap.size := fun g hg => ha.base_le hg
    have ob : ∀ g, b.ownBlock = some g → wr.heap.size ≤ g ∧ g < w2.heap.size := fun g hg => hb.base_le hg
    have oc : ∀ g, c.ownBlock = some g → w4.heap.size ≤ g := fun g hg => (hc.base_le hg).1
    have od : ∀ g, d.ownBlock = some g → w4.heap.size ≤ g := fun g hg => (hd.base_le hg).1
    refine put2_all (P := fun _ v => ∀ j, j < m + 2 → ∀ g, v.ownBlock = some g → (put2 U m c d j).ownBlock ≠ some g) (fun i hi => put2_all (P := fun _ u => ∀ g, (V i).ownBlock = some g → u.ownBlock ≠ some g) (fun j hj => h.uv i hi j hj) ?_ ?_) (put2_all (P := fun _ u => ∀ g, a.ownBlock = some g → u.ownBlock ≠ some g) ?_ ?_ ?_) (put2_all (P := fun _ u => ∀ g, b.ownBlock = some g → u.ownBlock ≠ some g) ?_ ?_ ?_)
    · intro g h1 h2; have := ((h.one i hi).base_le h1).2; have := oc g h2; omega
    · intro g h1 h2; have := ((h.one i hi).base_le h1).2; have := od g h2; omega
    · intro j hj g h1 h2; have := ((h.two j hj).base_le h2).2; have := oa g h1; omega
    · intro g h1 h2; have := oa g h1; have := oc g h2; omega
    · intro g h1 h2; have := oa g h1; have := od g h2; omega
    · intro j hj g h1 h2; have := ((h.two j hj).base_le h2).2; have := ob g h1; omega
    · intro g h1 h2; have := ob g h1; have := oc g h2; omega
    · intro g h1 h2; have := ob g h1; have := od g h2; omega
  · exact (((h.bel.trans (b2.mono hbs)).trans (g4.1.below (by omega) (fun k hk => (h.all.base_le hk).1))).trans (b6.mono (by omega))).trans (g8.1.below (by omega) (fun k hk => (h.want.base_le hk).1))
theorem Two.drewN {w0 wr : World} {base : Nat} {xs : List Int} {X m : Nat} {V U : Nat → Value} {al wl : Value} (h : Two w0 wr base xs X m V U al wl) (q : Nat) : Two w0 (wr.drewN q) base xs X m V U al wl :=
  ⟨h.all, h.want, h.sep, h.one, h.two, h.dist, h.uv, belowN h.bel q, h.bs⟩
/-- A row of values: where its cells lie. -/
theorem rowsAt {w : World} {base T m : Nat} {v : Value} {V : Nat → Value} (h : OwnV w base T v ((List.range m).map V)) (hm : 0 < m) : ∃ g c, v = .slice (some ⟨g, 0, none⟩) m c ∧ base ≤ g ∧ m ≤ c ∧ c ≤ maxLen ∧ ∀ j, j < m → w.cell? ⟨g, j, none⟩ = some (V j) := by
  have hl : ((List.range m).map V).length = m := by rw [List.length_map, List.length_range]
  rcases h.form with ⟨_, h0⟩ | ⟨g, c, rest, hv, hb, hB, hc, hmx⟩
  · rw [h0] at hl; simp at hl; omega
  · rw [hl] at hv hc
    refine ⟨g, c, hv, hb, by omega, hmx, fun j hj => ?_⟩
    rw [hB.cell, List.getElem?_append_left (by rw [hl]; exact hj)]
    simp [hj]
theorem Own.at {w : World} {base : Nat} {T : TypeId} {k : IntKind} {v : Value} {xs : List Int} (h : Own w base T k v xs) : ∃ A n c, v = .slice A n c ∧ Hid (n = xs.length) ∧ Hid (Rd w k A xs) := by
  obtain ⟨A, c, h1, _, _, h2, _⟩ := h.slice
  exact ⟨A, _, c, h1, Lib.hid rfl, Lib.hid h2⟩
theorem same_quiet {A B : Option Addr} {n m c d : Nat} {xs : List Int} {w : World} (y x : Nat) (hn : Hid (n = xs.length)) (hm : Hid (m = xs.length)) (hx : Hid (Rd w .u8 A xs)) (hy : Hid (Rd w .u8 B xs)) (hl : xs.length ≤ 9223372036854775807) :
    Calls Try.prog 20 #[.slice A n c, .slice B m d] (w.drewN (y + x)) fun e w'' => e = .returned (.bool true) ∧ ∃ q, w'' = w.drewN (y + q) := by
  refine (same_any A B n m c d xs xs _ hn.out hm.out (hx.out.draws _) (hy.out.draws _) hl hl).mono ?_
  rintro e w' ⟨q, rfl, rfl⟩
  exact ⟨by simp, x + q, by rw [World.drewN_drewN, Nat.add_assoc]⟩
theorem cellB {w w' : World} {q : Nat} {p : Addr} {v : Value} (h : Hid (w.cell? p = some v)) (b : Below (w.drewN q).heap.size (w.drewN q) w') : Hid (w'.cell? p = some v) := Lib.hid ((b.cell (World.block_lt_of_cell? w _ h.out)).trans h.out)
theorem rdB {w w' : World} {q : Nat} {k : IntKind} {A : Option Addr} {xs : List Int} (h : Hid (Rd w k A xs)) (b : Below (w.drewN q).heap.size (w.drewN q) w') : Hid (Rd w' k A xs) := Lib.hid ((h.out.draws q).below b)
theorem apart16 {w0 W : World} {base Ga ca Gw cw : Nat} {xs : List Int} {X : Nat} {V U : Nat → Value} (h : Two w0 W base xs X 16 V U (.slice (some ⟨Ga, 0, none⟩) 16 ca) (.slice (some ⟨Gw, 0, none⟩) 16 cw)) (hc : ∀ j, j < 16 → W.cell? ⟨Ga, j, none⟩ = some (V j)) (hl : xs.length ≤ 140737488352000) :
    Calls Try.prog 22 #[.slice (some ⟨Ga, 0, none⟩) 16 ca] W fun e w' => e = .returned (.bool true) ∧ Below base w0 w' ∧ (∀ j, j < 16 → Rd w' .u8 (adr (U j)) (cont xs X j)) ∧ (∀ j, j < 16 → w'.cell? ⟨Gw, j, none⟩ = some (U j)) := by
  have hbs : base ≤ W.heap.size := Nat.le_trans h.bs h.bel.size
  refine (apart_any base Ga 16 ca V (fun j => (cont xs X j).length) (cont xs X) W (by decide) (fun j _ => rfl) h.one h.dist (fun j hj e => (h.one j hj).neV h.all (by decide) Ga e rfl) hc hbs (fun j hj => by rw [cont_len]; have := wd_le j hj; omega)).mono ?_
  rintro e w' ⟨rfl, hf⟩
  have hwl : OwnV w' base 22 (.slice (some ⟨Gw, 0, none⟩) 16 cw) ((List.range 16).map U) := h.want.fr hf (fun g hg ⟨j, hj, e⟩ => (h.one j hj).neV h.want (by decide) g e hg)
  refine ⟨rfl, h.bel.trans (hf.below hbs (fun k ⟨j, hj, e⟩ => ((h.one j hj).base_le e).1)), fun j hj => ((h.two j hj).fr hf (fun g hg ⟨i, hi, e⟩ => h.uv i hi j hj g e hg)).rdAdr, ?_⟩
  obtain ⟨g, c, hv, _, _, _, hcell⟩ := rowsAt hwl (by decide)
  injection hv with h1 _ _
  injection h1 with h1
  injection h1 with h1
  subst h1
  exact hcell
theorem by24 (V : Nat → Value) (m : Nat) (h : m ≤ 16) : (((List.range m).map V).length + 2) * 24 ≤ 140737488355328 := by rw [List.length_map, List.length_range]; omega
theorem wantAt {w0 wr w2 w4 w6 : World} {base : Nat} {xs : List Int} {X m : Nat} {V U : Nat → Value} {al wl al' : Value} (h : Two w0 wr base xs X m V U al wl) (b2 : Below wr.heap.size wr w2) (g4 : Grew w2 w4 al al') (b6 : Below w4.heap.size w4 w6) : OwnV w6 base 22 wl ((List.range m).map U) :=
  ((h.want.below b2).fr g4.1 (fun g hg e => h.sep g e hg)).below b6
theorem Two.start (w : World) {base : Nat} (xs : List Int) (X : Nat) (hb : base ≤ w.heap.size) : Two w w base xs X 0 (fun _ => .slice none 0 0) (fun _ => .slice none 0 0) (.slice none 0 0) (.slice none 0 0) :=
  ⟨OwnV.nil _ _ _, OwnV.nil _ _ _, fun g hg => (by cases hg), fun j hj => absurd hj (Nat.not_lt_zero _), fun j hj => absurd hj (Nat.not_lt_zero _), fun i j hi => absurd hi (Nat.not_lt_zero _), fun i hi => absurd hi (Nat.not_lt_zero _), Below.refl _ _, hb⟩

theorem wd_two {t : Nat} (h : t < 4) : Wd (2 ^ t) := by
  have : t = 0 ∨ t = 1 ∨ t = 2 ∨ t = 3 := by omega
  unfold Wd
  rcases this with rfl | rfl | rfl | rfl <;> decide
theorem cont_lo (xs : List Int) (X t i s : Nat) (hi : i < 2) (hs : s = 2 ^ t) : xs ++ leN (X % 256 ^ s) s = cont xs X (4 * t + 2 * i) := by
  have e : (4 * t + 2 * i) / 4 = t := by omega
  unfold cont wd
  rw [if_pos (by omega), e, hs]
theorem cont_hi (xs : List Int) (X t i s : Nat) (hi : i < 2) (hs : s = 2 ^ t) : xs ++ (leN (X % 256 ^ s) s).reverse = cont xs X (4 * t + 2 * i + 1) := by
  have e : (4 * t + 2 * i + 1) / 4 = t := by omega
  unfold cont wd
  rw [if_neg (by omega), e, hs]

set_option maxHeartbeats 4000000 in
theorem puts_any (A : Option Addr) (n c X : Nat) (xs : List Int) (w : World) (hn : n = xs.length) (hx : Rd w .u8 A xs) (hX : X < 18446744073709551616) (hl : xs.length ≤ 140737488352000) :
    Calls Try.prog 3 #[.slice A n c, .int .u64 X] w fun e w' => e = .returned (.bool true) ∧ Below w.heap.size w w' := by
  have HX := Lib.hid hx
  have HN := Lib.hid hn
  clear hn hx
  go_enter Try.func3, Try.ntmps3
  go_wp2_with fail
  refine (lent_any A n c xs w HN.out HX.out (by omega)).mono ?_
  rintro e w1 ⟨G, cg, rest, rfl, hGw, hL, bb⟩
  have HGW := Lib.hid hGw
  have HL := Lib.hid hL
  have W1 := Lib.hid bb
  clear hGw hL bb
  have T0 := Lib.hid (Two.start w1 xs X (Nat.le_refl w1.heap.size))
  go_wp2_with fail
  go_loopw [5, 6, 8] (fun al wl z wr => ∃ (t : Nat) (V U : Nat → Value), t ≤ 4 ∧ z = .int .i64 (2 ^ t : Nat) ∧ Hid (Two w1 wr w1.heap.size xs X (4 * t) V U al wl)) (fun _ _ z _ => 16 - (intOf z).toNat)
  case atStart => exact ⟨0, _, _, Nat.zero_le _, rfl, T0⟩
  case round =>
    clear T0
    obtain ⟨t, V, U, ht, rfl, H⟩ := hrel
    by_cases hlt : t < 4
    · obtain ⟨s, hs⟩ : ∃ s, s = 2 ^ t := ⟨_, rfl⟩
      rw [← hs]
      have hsw : Wd s := hs ▸ wd_two hlt
      have hs8 : s ≤ 8 := hsw.le
      have hs1 : 1 ≤ s := by rcases hsw with h | h | h | h <;> omega
      have hd8 : decide ((s : Int) ≤ 8) = true := by simp; omega
      have HS := Lib.hid hs
      have HSW := Lib.hid hsw
      clear hs hsw
      go_wp2_with fail
      go_loopw [5, 6, 9] (fun al wl z wr => ∃ (i : Nat) (V U : Nat → Value), i ≤ 2 ∧ z = .int .i64 i ∧ Hid (Two w1 wr w1.heap.size xs X (4 * t + 2 * i) V U al wl)) (fun _ _ z _ => 2 - (intOf z).toNat)
      case atStart => exact ⟨0, V, U, Nat.zero_le _, rfl, H⟩
      case round =>
        clear H
        obtain ⟨i, V, U, hi, rfl, H⟩ := hrel
        by_cases hil : i < 2
        · have L1 := Lib.hid (HL.out.below H.out.bel)
          have X1 := Lib.hid ((HX.out.below W1.out).below H.out.bel)
          obtain ⟨Z, hZ⟩ : ∃ Z, Z = X % 256 ^ s := ⟨_, rfl⟩
          have hZB : Z < 18446744073709551616 := hZ ▸ HSW.out.pow X
          have C0 : Hid (xs ++ leN Z s = cont xs X (4 * t + 2 * i)) := Lib.hid (by rw [hZ]; exact cont_lo xs X t i s hil HS.out)
          have C1 : Hid (xs ++ (leN Z s).reverse = cont xs X (4 * t + 2 * i + 1)) := Lib.hid (by rw [hZ]; exact cont_hi xs X t i s hil HS.out)
          have HCUT : Hid (∀ w : World, Calls Try.prog 18 #[.int .u64 X, .int .i64 s] w fun e w' => e = .returned (.int .u64 (Z : Nat)) ∧ w' = w) := Lib.hid (fun w => by rw [hZ]; exact cut_any X s w hX HSW.out)
          have HZ := Lib.hid hZ
          clear hZ
          go_wp2_with fail
          refine (puL_any _ n cg xs X s wr HN.out L1.out.rd (by omega) hX HSW.out).mono ?_
          rintro e w2 ⟨v1, rfl, o1, b1⟩
          rw [← HZ.out, C0.out] at o1
          have O1 := Lib.hid o1
          have B1 := Lib.hid b1
          have L2 := Lib.hid (L1.out.below b1)
          obtain ⟨A1, n1, c1, rfl⟩ : ∃ A n c, v1 = .slice A n c := by obtain ⟨A, c, h, _⟩ := o1.slice; exact ⟨A, _, c, h⟩
          clear o1 b1
          go_wp2_with fail
          refine (puB_any _ n cg xs X s w2 HN.out L2.out.rd (by omega) hX HSW.out).mono ?_
          rintro e w3 ⟨v2, rfl, o2, b2⟩
          rw [← HZ.out, be_rev, C1.out] at o2
          have O2 := Lib.hid o2
          have B3 := Lib.hid (B1.out.trans (b2.mono B1.out.size))
          have O13 := Lib.hid (O1.out.below b2)
          have HAB : Hid (∀ g, (Value.slice A1 n1 c1).ownBlock = some g → v2.ownBlock ≠ some g) := Lib.hid (fun g h1 h2 => by have := (O1.out.base_le h1).2; have := (o2.base_le h2).1; omega)
          have OV := Lib.hid (H.out.all.below B3.out)
          obtain ⟨A2, n2, c2, rfl⟩ : ∃ A n c, v2 = .slice A n c := by obtain ⟨A, c, h, _⟩ := o2.slice; exact ⟨A, _, c, h⟩
          have O23 := Lib.hid (o2.lower B1.out.size)
          clear o2 b2 O1 O2 L1 L2
          have hm16 : 4 * t + 2 * i ≤ 16 := by omega
          have HBY := Lib.hid (by24 V _ hm16)
          have HBY2 := Lib.hid (by24 U _ hm16)
          have hbs : w1.heap.size ≤ w3.heap.size := Nat.le_trans H.out.bel.size B3.out.size
          go_wp2_with (first | (at_builtin; refine wpList_push2V w3 rfl _ _ 24 rfl w1.heap.size 22 (.slice none 0 0) 24 Try.underlying24 infoBT rfl _ _ rfl rfl rfl _ _ rfl rfl OV.out HBY.out (by decide) hbs ?_; intro al' w4 hown4 hg4))
          have H4 := Lib.hid hown4
          have G4 := Lib.hid hg4
          have W14 : Hid (Below w1.heap.size w1 w4) := Lib.hid ((H.out.bel.trans (B3.out.mono H.out.bel.size)).trans (hg4.1.below hbs (fun k hk => (H.out.all.base_le hk).1)))
          have X4 := Lib.hid ((HX.out.below W1.out).below W14.out)
          clear hown4 hg4 X1 OV
          go_wp2_with fail
          refine (HCUT.out w4).mono ?_
          rintro e w' ⟨rfl, rfl⟩
          go_wp2_with fail
          refine (rpl_any A n c xs Z s _ HN.out X4.out (by omega) hZB (by omega)).mono ?_
          rintro e w5 ⟨v3, rfl, o3, b3⟩
          rw [C0.out] at o3
          have O3 := Lib.hid o3
          have B5 := Lib.hid b3
          have X5 := Lib.hid (X4.out.below b3)
          obtain ⟨A3, n3, c3, rfl⟩ : ∃ A n c, v3 = .slice A n c := by obtain ⟨A, c, h, _⟩ := o3.slice; exact ⟨A, _, c, h⟩
          clear o3 b3 X4
          go_wp2_with fail
          refine (HCUT.out w5).mono ?_
          rintro e w' ⟨rfl, rfl⟩
          go_wp2_with fail
          refine (rpb_any A n c xs Z s _ HN.out X5.out (by omega) hZB (by omega)).mono ?_
          rintro e w6 ⟨v4, rfl, o4, b4⟩
          rw [C1.out] at o4
          have B6 := Lib.hid (B5.out.trans (b4.mono B5.out.size))
          have O36 := Lib.hid (O3.out.below b4)
          obtain ⟨A4, n4, c4, rfl⟩ : ∃ A n c, v4 = .slice A n c := by obtain ⟨A, c, h, _⟩ := o4.slice; exact ⟨A, _, c, h⟩
          have O46 := Lib.hid (o4.lower B5.out.size)
          have WV : Hid (OwnV w6 w1.heap.size 22 u6 ((List.range (4 * t + 2 * i)).map U)) := Lib.hid (wantAt H.out B3.out G4.out B6.out)
          have hbs6 : w1.heap.size ≤ w6.heap.size := Nat.le_trans W14.out.size B6.out.size
          clear o4 b4 O3 X5
          go_wp2_with (first | (at_builtin; refine wpList_push2V w6 rfl _ _ 24 rfl w1.heap.size 22 (.slice none 0 0) 24 Try.underlying24 infoBT rfl _ _ rfl rfl rfl _ _ rfl rfl WV.out HBY2.out (by decide) hbs6 ?_; intro wl' w8 hown8 hg8))
          have HN2 := Lib.hid (H.out.next B3.out O13.out O23.out HAB.out H4.out G4.out B6.out O36.out O46.out hown8 hg8)
          clear hown8 hg8
          go_wp2_with fail
          go_roundw
          case rel => exact ⟨i + 1, _, _, by omega, by go_num, by rw [show 4 * t + 2 * (i + 1) = 4 * t + 2 * i + 2 by omega]; exact HN2⟩
          case measure => simp [intOf]; omega
        · have hi2 : i = 2 := by omega
          subst hi2
          have HH := H
          rw [show 4 * t + 2 * 2 = 4 * (t + 1) by omega] at HH
          have hs2 : Hid (2 * s = 2 ^ (t + 1)) := Lib.hid (by rw [HS.out, Nat.pow_succ]; omega)
          have hw2 : IntKind.i64.wrap (2 * (s : Int)) = ((2 * s : Nat) : Int) := by simp [IntKind.wrap, IntKind.bits, IntKind.signed]; omega
          have hms : Hid (16 - 2 * s < 16 - s) := Lib.hid (by omega)
          go_wp2_with fail
          go_roundw
          case rel => exact ⟨t + 1, V, U, by omega, by rw [← hs2.out]; rfl, HH⟩
          case measure =>
            have := hms.out
            simp [intOf]; omega
    · obtain rfl : t = 4 := by omega
      have e16 : ((2 ^ 4 : Nat) : Int) = 16 := by decide
      obtain ⟨Ga, ca, hal, hga, hca, hcam, hcellA⟩ := rowsAt H.out.all (by decide)
      obtain ⟨Gw, cw, hwl, hgw, hcw, hcwm, hcellW⟩ := rowsAt H.out.want (by decide)
      rw [show 4 * 4 = 16 from rfl] at hal hwl hcellA hcellW hca hcw H
      subst hal hwl
      have HCA := Lib.hid hcellA
      have HCW := Lib.hid hcellW
      clear hcellA hcellW ht
      go_wp2_with fail
      go_loopw [10] (fun z wx => ∃ i q : Nat, i ≤ 16 ∧ z = .int .i64 i ∧ wx = wr.drewN q) (fun z _ => 16 - (intOf z).toNat)
      case atStart => exact ⟨0, 0, Nat.zero_le _, rfl, rfl⟩
      case round =>
        clear hlt e16
        obtain ⟨i, q, hi, rfl, rfl⟩ := hrel
        by_cases hlt : i < 16
        · have hc1 := HCA.out i hlt
          have hc2 := HCW.out i hlt
          obtain ⟨A1, n1, c1, hv1, N1, R1⟩ := (H.out.one i hlt).at
          obtain ⟨A2, n2, c2, hv2, N2, R2⟩ := (H.out.two i hlt).at
          rw [hv1] at hc1
          rw [hv2] at hc2
          have HCL : Hid ((cont xs X i).length ≤ 9223372036854775807) := Lib.hid (by rw [cont_len]; have := wd_le i hlt; omega)
          clear hv1 hv2
          go_wp2_with fail
          go_quiet (first | (go_at_call 20; exact same_quiet _ _ N1 N2 R1 R2 HCL.out))
          go_wp2_with fail
          go_roundw
          case rel => exact ⟨i + 1, _, by omega, by go_num, rfl⟩
          case measure => simp [intOf]; omega
        · have hge : decide ((i : Int) < 16) = false := by simp; omega
          have HT := Lib.hid (H.out.drewN q)
          have hc12 := HCW.out 12 (by decide)
          have hc1 := HCW.out 1 (by decide)
          obtain ⟨B12, n12, d12, hv12, N12, -⟩ := (H.out.two 12 (by decide)).at
          obtain ⟨B1, m1, d1, hv1, M1, -⟩ := (H.out.two 1 (by decide)).at
          have HV12 := Lib.hid hv12
          have HV1 := Lib.hid hv1
          rw [hv12] at hc12
          rw [hv1] at hc1
          have HLA : Hid (∀ W, Below w1.heap.size w1 W → Lent W G cg xs rest) := Lib.hid (fun W hW => HL.out.below hW)
          have HXA : Hid (∀ W, Below w1.heap.size w1 W → Rd W .u8 A xs) := Lib.hid (fun W hW => (HX.out.below W1.out).below hW)
          have hBz : Hid (Below w1.heap.size w1 (wr.drewN q).drew) := Lib.hid (H.out.drewN q).bel.drew
          have HC12 : Hid ((wr.drewN q).drew.cell? ⟨Gw, 12, none⟩ = some (.slice B12 n12 d12)) := Lib.hid hc12
          have HC1 : Hid ((wr.drewN q).drew.cell? ⟨Gw, 1, none⟩ = some (.slice B1 m1 d1)) := Lib.hid hc1
          have E12 : Hid (xs ++ leN (X % 256 ^ 8) 8 = cont xs X 12) := Lib.hid (cont_lo xs X 3 0 8 (by decide) rfl)
          have E1 : Hid (xs ++ beN (X % 256 ^ 1) 1 1 = cont xs X 1) := Lib.hid (by rw [be_rev]; exact cont_hi xs X 0 0 1 (by decide) rfl)
          have L12 : Hid ((cont xs X 12).length ≤ 9223372036854775807) := Lib.hid (by rw [cont_len]; have := wd_le 12 (by decide); omega)
          have L1 : Hid ((cont xs X 1).length ≤ 9223372036854775807) := Lib.hid (by rw [cont_len]; have := wd_le 1 (by decide); omega)
          have hlx : Hid (xs.length ≤ 140737488355000) := Lib.hid (by omega)
          clear hc12 hc1 hv12 hv1
          go_wp2_with fail
          go_region_held3 (fun w' => w'.cell? ⟨Gw, 12, none⟩ = some (.slice B12 n12 d12) ∧ w'.cell? ⟨Gw, 1, none⟩ = some (.slice B1 m1 d1))
            (first | exact ⟨HC12.out, HC1.out⟩)
            (first
            | (have zz := O7.out; clear zz; go_at_call 20; refine (same_any _ _ _ _ _ _ (cont xs X 1) (cont xs X 1) _ K7.out M1.out O7.out Q1.out L1.out L1.out).mono ?_; rintro e w' ⟨q4, rfl, rfl⟩; rw [show decide (cont xs X 1 = cont xs X 1) = true from by simp])
            | (have zz := O6.out; clear zz; go_at_call 16; refine (puB_any _ n cg xs X 1 _ HN.out (HLA.out _ (belowN B6.out _)).rd hlx.out hX (.inl rfl)).mono ?_; rintro e w7 ⟨v7, rfl, o7, b7⟩; rw [E1.out] at o7; have B7 := Lib.hid ((belowN B6.out _).trans (b7.mono (belowN B6.out _).size)); have Q1 := rdB Q1 b7; have HC12 := cellB HC12 b7; have HC1 := cellB HC1 b7; obtain ⟨A7, n7, c7, rfl, K7, O7⟩ := o7.at; clear o7 b7)
            | (have zz := O6.out; clear zz; go_at_call 20; refine (same_any _ _ _ _ _ _ (cont xs X 12) (cont xs X 12) _ K6.out N12.out O6.out Q12.out L12.out L12.out).mono ?_; rintro e w' ⟨q3, rfl, rfl⟩; rw [show decide (cont xs X 12 = cont xs X 12) = true from by simp])
            | (have zz := B5.out; clear zz; go_at_call 21; refine (still_any _ G cg _ n n xs rest _ HN.out HN.out (HLA.out _ B5.out) (HXA.out _ B5.out)).mono ?_; rintro e w' ⟨q2, rfl, rfl⟩)
            | (go_at_call 21; refine (still_any _ G cg _ n n xs rest _ HN.out HN.out (HLA.out _ hBz.out) (HXA.out _ hBz.out)).mono ?_; rintro e w' ⟨q1, rfl, rfl⟩)
            | (go_at_call 22; refine (apart16 (H.out.drewN _) HCA.out hl).mono ?_; rintro e w5 ⟨rfl, b5, r5, k5⟩; have B5 := Lib.hid b5; have HC12 := Lib.hid (k5 12 (by decide)); have HC1 := Lib.hid (k5 1 (by decide)); have Q12 := Lib.hid (r5 12 (by decide)); have Q1 := Lib.hid (r5 1 (by decide)); rw [HV12.out] at HC12 Q12; rw [HV1.out] at HC1 Q1; clear b5 r5 k5)
            | (have zz := B5.out; clear zz; go_at_call 15; refine (puL_any _ n cg xs X 8 _ HN.out (HLA.out _ (belowN B5.out _)).rd hlx.out hX (.inr (.inr (.inr rfl)))).mono ?_; rintro e w6 ⟨v6, rfl, o6, b6⟩; rw [E12.out] at o6; have B6 := Lib.hid ((belowN B5.out _).trans (b6.mono (belowN B5.out _).size)); have Q12 := rdB Q12 b6; have Q1 := rdB Q1 b6; have HC12 := cellB HC12 b6; have HC1 := cellB HC1 b6; obtain ⟨A6, n6, c6, rfl, K6, O6⟩ := o6.at; clear o6 b6))
          all_goals (
            go_wp2_with fail
            go_ret
            exact ⟨rfl, W1.out.trans ((belowN B7.out _).mono W1.out.size)⟩)
end Go.Proofs.Ytcibhaoilcohbaa
