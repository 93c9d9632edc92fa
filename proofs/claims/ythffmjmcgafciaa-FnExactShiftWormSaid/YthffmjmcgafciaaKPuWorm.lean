/- Plain lemmas: what the printed worm functions come to (both sides), for arguments of any size; no program in sight. -/
import Derived.Test.YthffmjmcgafciaaPKx1
import Derived.Test.YthffmjmcgafciaaPKx3
import Derived.Test.YthffmjmcgafciaaPl
namespace Go.Proofs.Ythffmjmcgafciaa.Pure
open Go.RowKit Go.Proofs.Ythffmjmcgafciaa Go.Proofs.Ythffmjmcgafciaa.PK Go.Proofs.YthffmjmcgafciaaW.PrintWords Go.Proofs.YthffmjmcgafciaaW.PrintLast
set_option linter.unusedVariables false
set_option linter.unusedSimpArgs false

def Bits (s : ByteArray) (i : Int) : Prop := ∀ j : Int, i ≤ j → j < s.size → bt s j = 48 ∨ bt s j = 49

structure GoodW (w h : Int) (r d : ByteArray) (x y way : Int) : Prop where
  w3 : 3 ≤ w
  w6 : w ≤ 6
  h3 : 3 ≤ h
  h6 : h ≤ 6
  rs : (r.size : Int) = w * h
  ds : (d.size : Int) = w * h
  rb : Bits r 0
  db : Bits d 0
  x0 : 0 ≤ x
  xw : x < w
  y0 : 0 ≤ y
  yh : y < h
  v0 : 0 ≤ way
  v3 : way ≤ 3

theorem bits_end {s : ByteArray} {i : Int} (h : s.size ≤ i) : Bits s i := fun j h1 h2 => by omega
theorem bits_step {s : ByteArray} {i : Int} (h : bt s i = 48 ∨ bt s i = 49) : Bits s i ↔ Bits s (i + 1) := by
  refine ⟨fun hb j h1 h2 => hb j (by omega) h2, fun hb j h1 h2 => ?_⟩
  by_cases e : j = i
  · rw [e]; exact h
  · exact hb j (by omega) h2

theorem within_t {a b c : Int} (h1 : b ≤ a) (h2 : a ≤ c) : impl_within.f a b c = some true := by
  unfold impl_within.f
  rw [if_pos h1, decide_eq_true h2]
theorem within_f {a b c : Int} (h : a < b ∨ c < a) : impl_within.f a b c = some false := by
  unfold impl_within.f
  by_cases h1 : b ≤ a
  · rw [if_pos h1, decide_eq_false (by omega)]
  · rw [if_neg h1]
theorem within_val (a b c : Int) : impl_within.f a b c = some (decide (b ≤ a ∧ a ≤ c)) := by
  by_cases h : b ≤ a ∧ a ≤ c
  · rw [within_t h.1 h.2, decide_eq_true h]
  · rw [within_f (by omega), decide_eq_false h]
theorem l1In_t {a b c : Int} (h1 : b ≤ a) (h2 : a ≤ c) : spec_l1In.f a b c = some true := by
  unfold spec_l1In.f
  rw [if_pos h1, decide_eq_true h2]
theorem l1In_f {a b c : Int} (h : a < b ∨ c < a) : spec_l1In.f a b c = some false := by
  unfold spec_l1In.f
  by_cases h1 : b ≤ a
  · rw [if_pos h1, decide_eq_false (by omega)]
  · rw [if_neg h1]
theorem l1In_val (a b c : Int) : spec_l1In.f a b c = some (decide (b ≤ a ∧ a ≤ c)) := by
  by_cases h : b ≤ a ∧ a ≤ c
  · rw [l1In_t h.1 h.2, decide_eq_true h]
  · rw [l1In_f (by omega), decide_eq_false h]
theorem and3 {P Q R : Prop} [Decidable P] [Decidable Q] [Decidable R] : (if P then (if Q then some (decide R) else some false) else some false) = some (decide (P ∧ Q ∧ R)) := by
  by_cases h1 : P <;> by_cases h2 : Q <;> simp [h1, h2]

theorem wmGood_l0 {w h : Int} {r d : ByteArray} {x y way : Int} (hw : 3 ≤ w) (hw' : w ≤ 6) (hh : 3 ≤ h) (hh' : h ≤ 6) (hd : d.size = r.size) (hr : r.size ≤ 9223372036854775807) (n : Nat) :
    ∀ i : Int, (r.size - i).toNat = n → 0 ≤ i → i ≤ r.size → ∃ b, Ev (fun k => spec_wmGood.l0 k i w h r d x y way) b ∧
      (b = true ↔ (Bits r i ∧ Bits d i) ∧ (0 ≤ x ∧ x ≤ w - 1) ∧ (0 ≤ y ∧ y ≤ h - 1) ∧ (0 ≤ way ∧ way ≤ 3)) := by
  induction n with
  | zero =>
    intro i hn h0 h1
    refine ⟨decide ((0 ≤ x ∧ x ≤ w - 1) ∧ (0 ≤ y ∧ y ≤ h - 1) ∧ (0 ≤ way ∧ way ≤ 3)), Pl.ev_unf ⟨0, fun k _ => ?_⟩, ?_⟩
    · simp (disch := omega) only [↓reduceIte, Pl.lt_t, Pl.lt_f, Pl.le_t, Pl.le_f, Pl.ge_t, Pl.ge_f, Pl.gt_t, Pl.gt_f, Pl.eq_t, Pl.eq_f, Pl.nlt_t, Pl.nle_t, Pl.w64, Option.bind_some, Bool.false_eq_true, decide_eq_true_eq, spec_wmGood.l0, l1In_val]
      exact and3
    · have b1 : Bits r i := bits_end (by omega)
      have b2 : Bits d i := bits_end (by omega)
      simp only [decide_eq_true_eq, b1, b2, true_and]
  | succ n ih =>
    intro i hn h0 h1
    obtain ⟨b, ⟨K, hK⟩, hb⟩ := ih (i + 1) (by omega) (by omega) (by omega)
    by_cases c1 : bt r i = 48 ∨ bt r i = 49
    · by_cases c2 : bt d i = 48 ∨ bt d i = 49
      · refine ⟨b, Pl.ev_unf ⟨K, fun k hk => ?_⟩, ?_⟩
        · have e := hK k hk
          rcases c1 with c1 | c1 <;> rcases c2 with c2 | c2 <;> simp (disch := omega) only [↓reduceIte, Pl.lt_t, Pl.lt_f, Pl.le_t, Pl.le_f, Pl.ge_t, Pl.ge_f, Pl.gt_t, Pl.gt_f, Pl.eq_t, Pl.eq_f, Pl.nlt_t, Pl.nle_t, Pl.w64, Option.bind_some, Bool.false_eq_true, decide_eq_true_eq, spec_wmGood.l0, e]
        · rw [hb, bits_step c1, bits_step c2]
      · refine ⟨false, Pl.ev_unf ⟨0, fun k _ => ?_⟩, ?_⟩
        · rcases c1 with c1 | c1 <;> simp (disch := omega) only [↓reduceIte, Pl.lt_t, Pl.lt_f, Pl.le_t, Pl.le_f, Pl.ge_t, Pl.ge_f, Pl.gt_t, Pl.gt_f, Pl.eq_t, Pl.eq_f, Pl.nlt_t, Pl.nle_t, Pl.w64, Option.bind_some, Bool.false_eq_true, decide_eq_true_eq, spec_wmGood.l0]
        · refine ⟨fun h => (by cases h), fun h => absurd (h.1.2 i (by omega) (by omega)) c2⟩
    · refine ⟨false, Pl.ev_unf ⟨0, fun k _ => ?_⟩, ?_⟩
      · simp (disch := omega) only [↓reduceIte, Pl.lt_t, Pl.lt_f, Pl.le_t, Pl.le_f, Pl.ge_t, Pl.ge_f, Pl.gt_t, Pl.gt_f, Pl.eq_t, Pl.eq_f, Pl.nlt_t, Pl.nle_t, Pl.w64, Option.bind_some, Bool.false_eq_true, decide_eq_true_eq, spec_wmGood.l0]
      · refine ⟨fun h => (by cases h), fun h => absurd (h.1.1 i (by omega) (by omega)) c1⟩

theorem spec_good {w h : Int} {r d : ByteArray} {x y way : Int} (hr : r.size ≤ 9223372036854775807) (hd : d.size ≤ 9223372036854775807) :
    ∃ b, Ev (fun k => spec_wmGood.f k w h r d x y way) b ∧ (b = true ↔ GoodW w h r d x y way) := by
  by_cases gw : 3 ≤ w ∧ w ≤ 6
  · by_cases gh : 3 ≤ h ∧ h ≤ 6
    · obtain ⟨m0, m1⟩ := Pl.mul_in (a := w) (b := h) (A := 6) (B := 6) (by omega) gw.2 (by omega) gh.2
      by_cases e1 : (r.size : Int) = w * h
      · by_cases e2 : (d.size : Int) = r.size
        · obtain ⟨b, ⟨K, hK⟩, hb⟩ := wmGood_l0 (x := x) (y := y) (way := way) gw.1 gw.2 gh.1 gh.2 (by omega) hr (d := d) _ 0 rfl (by omega) (by omega)
          refine ⟨b, Pl.ev_unf ⟨K, fun k hk => ?_⟩, ?_⟩
          · have e := hK k hk
            have e3 : ((d.size : Int) != (r.size : Int)) = false := by simp [e2]
            simp (disch := omega) only [↓reduceIte, Pl.lt_t, Pl.lt_f, Pl.le_t, Pl.le_f, Pl.ge_t, Pl.ge_f, Pl.gt_t, Pl.gt_f, Pl.eq_t, Pl.eq_f, Pl.nlt_t, Pl.nle_t, Pl.w64, Option.bind_some, Bool.false_eq_true, decide_eq_true_eq, spec_wmGood.f, spec_wmGood.j0, l1In_t, e3, e]
          · rw [hb]
            exact ⟨fun h => ⟨gw.1, gw.2, gh.1, gh.2, e1, by omega, h.1.1, h.1.2, by omega, by omega, by omega, by omega, by omega, by omega⟩, fun h => ⟨⟨h.rb, h.db⟩, ⟨h.x0, by have := h.xw; omega⟩, ⟨h.y0, by have := h.yh; omega⟩, h.v0, h.v3⟩⟩
        · refine ⟨false, Pl.ev_unf ⟨0, fun k _ => ?_⟩, ⟨fun h => (by cases h), fun g => absurd (g.ds.trans g.rs.symm) e2⟩⟩
          have e3 : ((d.size : Int) != (r.size : Int)) = true := bne_iff_ne.mpr e2
          simp (disch := omega) only [↓reduceIte, Pl.lt_t, Pl.lt_f, Pl.le_t, Pl.le_f, Pl.ge_t, Pl.ge_f, Pl.gt_t, Pl.gt_f, Pl.eq_t, Pl.eq_f, Pl.nlt_t, Pl.nle_t, Pl.w64, Option.bind_some, Bool.false_eq_true, decide_eq_true_eq, spec_wmGood.f, spec_wmGood.j0, l1In_t, e3]
      · refine ⟨false, Pl.ev_unf ⟨0, fun k _ => ?_⟩, ⟨fun h => (by cases h), fun g => absurd g.rs e1⟩⟩
        simp (disch := omega) only [↓reduceIte, Pl.lt_t, Pl.lt_f, Pl.le_t, Pl.le_f, Pl.ge_t, Pl.ge_f, Pl.gt_t, Pl.gt_f, Pl.eq_t, Pl.eq_f, Pl.nlt_t, Pl.nle_t, Pl.w64, Option.bind_some, Bool.false_eq_true, decide_eq_true_eq, spec_wmGood.f, spec_wmGood.j0, l1In_t]
    · refine ⟨false, Pl.ev_unf ⟨0, fun k _ => ?_⟩, ⟨fun h => (by cases h), fun g => absurd ⟨g.h3, g.h6⟩ gh⟩⟩
      simp (disch := omega) only [↓reduceIte, Pl.lt_t, Pl.lt_f, Pl.le_t, Pl.le_f, Pl.ge_t, Pl.ge_f, Pl.gt_t, Pl.gt_f, Pl.eq_t, Pl.eq_f, Pl.nlt_t, Pl.nle_t, Pl.w64, Option.bind_some, Bool.false_eq_true, decide_eq_true_eq, spec_wmGood.f, spec_wmGood.j0, l1In_t, l1In_f]
  · refine ⟨false, Pl.ev_unf ⟨0, fun k _ => ?_⟩, ⟨fun h => (by cases h), fun g => absurd ⟨g.w3, g.w6⟩ gw⟩⟩
    simp (disch := omega) only [↓reduceIte, Pl.lt_t, Pl.lt_f, Pl.le_t, Pl.le_f, Pl.ge_t, Pl.ge_f, Pl.gt_t, Pl.gt_f, Pl.eq_t, Pl.eq_f, Pl.nlt_t, Pl.nle_t, Pl.w64, Option.bind_some, Bool.false_eq_true, decide_eq_true_eq, spec_wmGood.f, spec_wmGood.j0, l1In_f]

theorem areCells_l0 {s : ByteArray} {many t : Int} (ht : 1 ≤ t) (ht' : t ≤ 100) (hs : s.size ≤ 9223372036854775807) (n : Nat) :
    ∀ i : Int, (s.size - i).toNat = n → 0 ≤ i → i ≤ s.size → ∃ b, Ev (fun k => impl_areCells.l0 k s many t s.size i) b ∧
      (b = true ↔ (∀ j, i ≤ j → j < s.size → 48 ≤ bt s j ∧ bt s j ≤ 47 + t) ∧ (s.size : Int) = many) := by
  induction n with
  | zero =>
    intro i hn h0 h1
    refine ⟨(s.size : Int) == many, Pl.ev_unf ⟨0, fun k _ => ?_⟩, ?_⟩
    · simp (disch := omega) only [↓reduceIte, Pl.lt_t, Pl.lt_f, Pl.le_t, Pl.le_f, Pl.ge_t, Pl.ge_f, Pl.gt_t, Pl.gt_f, Pl.eq_t, Pl.eq_f, Pl.nlt_t, Pl.nle_t, Pl.w64, Option.bind_some, Bool.false_eq_true, decide_eq_true_eq, impl_areCells.l0]
    · rw [beq_iff_eq]
      exact ⟨fun h => ⟨fun j h2 h3 => by omega, h⟩, fun h => h.2⟩
  | succ n ih =>
    intro i hn h0 h1
    obtain ⟨b, ⟨K, hK⟩, hb⟩ := ih (i + 1) (by omega) (by omega) (by omega)
    have hr := bt_range s i
    by_cases c1 : 48 ≤ bt s i ∧ bt s i ≤ 47 + t
    · refine ⟨b, Pl.ev_unf ⟨K, fun k hk => ?_⟩, ?_⟩
      · have e := hK k hk
        simp (disch := omega) only [↓reduceIte, Pl.lt_t, Pl.lt_f, Pl.le_t, Pl.le_f, Pl.ge_t, Pl.ge_f, Pl.gt_t, Pl.gt_f, Pl.eq_t, Pl.eq_f, Pl.nlt_t, Pl.nle_t, Pl.w64, Option.bind_some, Bool.false_eq_true, decide_eq_true_eq, impl_areCells.l0, within_t, e]
      · rw [hb]
        refine ⟨fun h => ⟨fun j h2 h3 => ?_, h.2⟩, fun h => ⟨fun j h2 h3 => h.1 j (by omega) h3, h.2⟩⟩
        by_cases e : j = i
        · rw [e]; exact c1
        · exact h.1 j (by omega) h3
    · refine ⟨false, Pl.ev_unf ⟨0, fun k _ => ?_⟩, ?_⟩
      · simp (disch := omega) only [↓reduceIte, Pl.lt_t, Pl.lt_f, Pl.le_t, Pl.le_f, Pl.ge_t, Pl.ge_f, Pl.gt_t, Pl.gt_f, Pl.eq_t, Pl.eq_f, Pl.nlt_t, Pl.nle_t, Pl.w64, Option.bind_some, Bool.false_eq_true, decide_eq_true_eq, impl_areCells.l0, within_f]
      · exact ⟨fun h => (by cases h), fun h => absurd (h.1 i (by omega) (by omega)) c1⟩

theorem areCells_val {s : ByteArray} {many t : Int} (ht : 1 ≤ t) (ht' : t ≤ 100) (hs : s.size ≤ 9223372036854775807) :
    ∃ b, Ev (fun k => impl_areCells.f k s many t) b ∧ (b = true ↔ (∀ j : Int, 0 ≤ j → j < s.size → 48 ≤ bt s j ∧ bt s j ≤ 47 + t) ∧ (s.size : Int) = many) := by
  obtain ⟨b, hb, hi⟩ := areCells_l0 (many := many) ht ht' hs _ 0 rfl (by omega) (by omega)
  exact ⟨b, hb, hi⟩

theorem isGrid_t {w h : Int} (h1 : 3 ≤ w) (h2 : w ≤ 6) (h3 : 3 ≤ h) (h4 : h ≤ 6) : impl_isGrid.f w h = some true := by
  simp (disch := omega) only [↓reduceIte, Pl.lt_t, Pl.lt_f, Pl.le_t, Pl.le_f, Pl.ge_t, Pl.ge_f, Pl.gt_t, Pl.gt_f, Pl.eq_t, Pl.eq_f, Pl.nlt_t, Pl.nle_t, Pl.w64, Option.bind_some, Bool.false_eq_true, decide_eq_true_eq, impl_isGrid.f, within_t]
theorem isGrid_f {w h : Int} (h1 : ¬ ((3 ≤ w ∧ w ≤ 6) ∧ (3 ≤ h ∧ h ≤ 6))) : impl_isGrid.f w h = some false := by
  by_cases g : 3 ≤ w ∧ w ≤ 6
  · simp (disch := omega) only [↓reduceIte, Pl.lt_t, Pl.lt_f, Pl.le_t, Pl.le_f, Pl.ge_t, Pl.ge_f, Pl.gt_t, Pl.gt_f, Pl.eq_t, Pl.eq_f, Pl.nlt_t, Pl.nle_t, Pl.w64, Option.bind_some, Bool.false_eq_true, decide_eq_true_eq, impl_isGrid.f, within_t, within_f]
  · simp (disch := omega) only [↓reduceIte, Pl.lt_t, Pl.lt_f, Pl.le_t, Pl.le_f, Pl.ge_t, Pl.ge_f, Pl.gt_t, Pl.gt_f, Pl.eq_t, Pl.eq_f, Pl.nlt_t, Pl.nle_t, Pl.w64, Option.bind_some, Bool.false_eq_true, decide_eq_true_eq, impl_isGrid.f, within_f]
theorem isWay_val (v : Int) : impl_isWay.f v = some (decide (0 ≤ v ∧ v ≤ 3)) := by
  simp (disch := omega) only [↓reduceIte, Pl.lt_t, Pl.lt_f, Pl.le_t, Pl.le_f, Pl.ge_t, Pl.ge_f, Pl.gt_t, Pl.gt_f, Pl.eq_t, Pl.eq_f, Pl.nlt_t, Pl.nle_t, Pl.w64, Option.bind_some, Bool.false_eq_true, decide_eq_true_eq, impl_isWay.f, within_val]
theorem isAnt_val {w h x y v : Int} (hw : 0 ≤ w) (hw' : w ≤ 1000) (hh : 0 ≤ h) (hh' : h ≤ 1000) :
    impl_isAnt.f w h x y v = some (decide ((0 ≤ x ∧ x ≤ w - 1) ∧ (0 ≤ y ∧ y ≤ h - 1) ∧ (0 ≤ v ∧ v ≤ 3))) := by
  simp (disch := omega) only [↓reduceIte, Pl.lt_t, Pl.lt_f, Pl.le_t, Pl.le_f, Pl.ge_t, Pl.ge_f, Pl.gt_t, Pl.gt_f, Pl.eq_t, Pl.eq_f, Pl.nlt_t, Pl.nle_t, Pl.w64, Option.bind_some, Bool.false_eq_true, decide_eq_true_eq, impl_isAnt.f, within_val, isWay_val]
  exact and3

theorem bits_iff (s : ByteArray) : Bits s 0 ↔ ∀ j : Int, 0 ≤ j → j < s.size → 48 ≤ bt s j ∧ bt s j ≤ 47 + 2 :=
  ⟨fun h j h1 h2 => by have := h j h1 h2; omega, fun h j h1 h2 => by have := h j h1 h2; omega⟩

theorem impl_good {w h : Int} {r d : ByteArray} {x y way : Int} (hr : r.size ≤ 9223372036854775807) (hd : d.size ≤ 9223372036854775807) :
    ∃ b, Ev (fun k => impl_IsWorm.f k w h r d x y way) b ∧ (b = true ↔ GoodW w h r d x y way) := by
  by_cases g : (3 ≤ w ∧ w ≤ 6) ∧ (3 ≤ h ∧ h ≤ 6)
  · obtain ⟨⟨g1, g2⟩, g3, g4⟩ := g
    obtain ⟨m0, m1⟩ := Pl.mul_in (a := w) (b := h) (A := 6) (B := 6) (by omega) g2 (by omega) g4
    obtain ⟨b1, ⟨K1, e1⟩, i1⟩ := areCells_val (s := r) (many := w * h) (t := 2) (by omega) (by omega) hr
    obtain ⟨b2, ⟨K2, e2⟩, i2⟩ := areCells_val (s := d) (many := w * h) (t := 2) (by omega) (by omega) hd
    rw [← bits_iff] at i1 i2
    cases b1 with
    | false =>
      refine ⟨false, ⟨K1, fun k hk => ?_⟩, ⟨fun h => (by cases h), fun g => by have := i1.2 ⟨g.rb, g.rs⟩; cases this⟩⟩
      have e := e1 k hk
      simp (disch := omega) only [↓reduceIte, Pl.lt_t, Pl.lt_f, Pl.le_t, Pl.le_f, Pl.ge_t, Pl.ge_f, Pl.gt_t, Pl.gt_f, Pl.eq_t, Pl.eq_f, Pl.nlt_t, Pl.nle_t, Pl.w64, Option.bind_some, Bool.false_eq_true, decide_eq_true_eq, impl_IsWorm.f, isGrid_t, e]
    | true =>
      cases b2 with
      | false =>
        refine ⟨false, ⟨K1 + K2, fun k hk => ?_⟩, ⟨fun h => (by cases h), fun g => by have := i2.2 ⟨g.db, g.ds⟩; cases this⟩⟩
        have e := e1 k (by omega)
        have e' := e2 k (by omega)
        simp (disch := omega) only [↓reduceIte, Pl.lt_t, Pl.lt_f, Pl.le_t, Pl.le_f, Pl.ge_t, Pl.ge_f, Pl.gt_t, Pl.gt_f, Pl.eq_t, Pl.eq_f, Pl.nlt_t, Pl.nle_t, Pl.w64, Option.bind_some, Bool.false_eq_true, decide_eq_true_eq, impl_IsWorm.f, isGrid_t, e, e']
      | true =>
        refine ⟨decide ((0 ≤ x ∧ x ≤ w - 1) ∧ (0 ≤ y ∧ y ≤ h - 1) ∧ (0 ≤ way ∧ way ≤ 3)), ⟨K1 + K2, fun k hk => ?_⟩, ?_⟩
        · have e := e1 k (by omega)
          have e' := e2 k (by omega)
          simp (disch := omega) only [↓reduceIte, Pl.lt_t, Pl.lt_f, Pl.le_t, Pl.le_f, Pl.ge_t, Pl.ge_f, Pl.gt_t, Pl.gt_f, Pl.eq_t, Pl.eq_f, Pl.nlt_t, Pl.nle_t, Pl.w64, Option.bind_some, Bool.false_eq_true, decide_eq_true_eq, impl_IsWorm.f, isGrid_t, e, e', isAnt_val]
        · have a := i1.1 rfl
          have a' := i2.1 rfl
          rw [decide_eq_true_eq]
          exact ⟨fun h => ⟨g1, g2, g3, g4, a.2, a'.2, a.1, a'.1, by omega, by omega, by omega, by omega, by omega, by omega⟩, fun h => ⟨⟨h.x0, by have := h.xw; omega⟩, ⟨h.y0, by have := h.yh; omega⟩, h.v0, h.v3⟩⟩
  · refine ⟨false, ⟨0, fun k _ => ?_⟩, ⟨fun h => (by cases h), fun k => absurd ⟨⟨k.w3, k.w6⟩, k.h3, k.h6⟩ g⟩⟩
    simp (disch := omega) only [↓reduceIte, Pl.lt_t, Pl.lt_f, Pl.le_t, Pl.le_f, Pl.ge_t, Pl.ge_f, Pl.gt_t, Pl.gt_f, Pl.eq_t, Pl.eq_f, Pl.nlt_t, Pl.nle_t, Pl.w64, Option.bind_some, Bool.false_eq_true, decide_eq_true_eq, impl_IsWorm.f, isGrid_f]

theorem good_both (w h : Int) (r d : ByteArray) (x y way : Int) (hr : r.size ≤ 9223372036854775807) (hd : d.size ≤ 9223372036854775807) :
    ∃ b, Ev (fun k => spec_wmGood.f k w h r d x y way) b ∧ Ev (fun k => impl_IsWorm.f k w h r d x y way) b ∧ (b = true ↔ GoodW w h r d x y way) := by
  obtain ⟨b1, h1, i1⟩ := spec_good (w := w) (h := h) (x := x) (y := y) (way := way) hr hd
  obtain ⟨b2, h2, i2⟩ := impl_good (w := w) (h := h) (x := x) (y := y) (way := way) hr hd
  have : b1 = b2 := Bool.eq_iff_iff.2 (i1.trans i2.symm)
  subst this
  exact ⟨b1, h1, h2, i1⟩

theorem sz_big {w h : Int} {r d : ByteArray} {x y way : Int} (hr : r.size ≤ 9223372036854775807) (hd : d.size ≤ 9223372036854775807) (hs : 1048576 < (r.size : Int) + d.size) :
    laws_szWorm.f w h r d x y way 1048576 = some (-1) := by
  by_cases g : 1048576 < (r.size : Int)
  · simp (disch := omega) only [↓reduceIte, Pl.lt_t, Pl.lt_f, Pl.le_t, Pl.le_f, Pl.ge_t, Pl.ge_f, Pl.gt_t, Pl.gt_f, Pl.eq_t, Pl.eq_f, Pl.nlt_t, Pl.nle_t, Pl.w64, Option.bind_some, Bool.false_eq_true, decide_eq_true_eq, laws_szWorm.f]
  · simp (disch := omega) only [↓reduceIte, Pl.lt_t, Pl.lt_f, Pl.le_t, Pl.le_f, Pl.ge_t, Pl.ge_f, Pl.gt_t, Pl.gt_f, Pl.eq_t, Pl.eq_f, Pl.nlt_t, Pl.nle_t, Pl.w64, Option.bind_some, Bool.false_eq_true, decide_eq_true_eq, laws_szWorm.f]
theorem sz_small {w h : Int} {r d : ByteArray} {x y way : Int} (hs : (r.size : Int) + d.size ≤ 1048576) :
    laws_szWorm.f w h r d x y way 1048576 = some (1048576 - (r.size : Int) - (d.size : Int)) := by
  simp (disch := omega) only [↓reduceIte, Pl.lt_t, Pl.lt_f, Pl.le_t, Pl.le_f, Pl.ge_t, Pl.ge_f, Pl.gt_t, Pl.gt_f, Pl.eq_t, Pl.eq_f, Pl.nlt_t, Pl.nle_t, Pl.w64, Option.bind_some, Bool.false_eq_true, decide_eq_true_eq, laws_szWorm.f]

/-! the board -/
def dx (v : Int) : Int := if v = 1 then 1 else if v = 3 then -1 else 0
def dy (v : Int) : Int := if v = 0 then -1 else if v = 2 then 1 else 0
theorem way_cases {v : Int} (h0 : 0 ≤ v) (h3 : v ≤ 3) : v = 0 ∨ v = 1 ∨ v = 2 ∨ v = 3 := by omega
theorem dx_in (v : Int) : -1 ≤ dx v ∧ dx v ≤ 1 := by
  unfold dx
  split
  · omega
  · split <;> omega
theorem dy_in (v : Int) : -1 ≤ dy v ∧ dy v ≤ 1 := by
  unfold dy
  split
  · omega
  · split <;> omega
theorem step_mod {x w e : Int} (hw : 1 ≤ w) (hw' : w ≤ 1000) (h0 : 0 ≤ x) (h1 : x < w) (e0 : -1 ≤ e) (e1 : e ≤ 1) : Int.tmod (wrap64 (wrap64 (x + e) + w)) w = (x + e) % w := by
  rw [Pl.w64 (n := x + e) (by omega) (by omega), Pl.w64 (by omega) (by omega), Pl.tmod_nn (by omega), Int.add_emod_right]
theorem l1Mod_val {n m : Int} (hm : 1 ≤ m) (hm' : m ≤ 1000) (h0 : -1000000 ≤ n) (h1 : n ≤ 1000000) : spec_l1Mod.f n m = some (n % m) := by
  unfold spec_l1Mod.f
  have a : -m < Int.tmod n m := by
    have := Int.lt_tmod_of_pos n (show 0 < m by omega)
    omega
  have b : Int.tmod n m < m := Int.tmod_lt_of_pos n (by omega)
  rw [if_neg (by omega), Pl.w64 (by omega) (by omega), Pl.tmod_nn (by omega), Int.add_emod_right, Pl.tmod_emod]

/-- the node beside another one -/
def bnode (w h n v : Int) : Int := ((n / w + dy v) % h) * w + (n % w + dx v) % w
theorem bnode_in {w h n v : Int} (hw : 1 ≤ w) (hh : 1 ≤ h) : 0 ≤ bnode w h n v ∧ bnode w h n v < w * h :=
  Pl.node_lt (Pl.mod_lo (by omega)) (Pl.mod_hi (by omega)) (Pl.mod_lo (by omega)) (Pl.mod_hi (by omega))
/-- is the line of a node on a way there? -/
def lineB (r d : ByteArray) (w h n v : Int) : Bool :=
  if v = 0 then bt d (bnode w h n 0) == 49 else if v = 1 then bt r n == 49 else if v = 2 then bt d n == 49 else bt r (bnode w h n 3) == 49
end Go.Proofs.Ythffmjmcgafciaa.Pure
