/- Plain lemmas: two lists of numbers held against each other; marks laid in a list and found again. No condition. -/
import Derived.Test.YtgaplnhjddlieaaDoorPNx8
import Derived.Test.YtgaplnhjddlieaaDoorPl
namespace Go.Proofs.YtgaplnhjddlieaaDoor.Pure
open Go.RowKit Go.Proofs.YtgaplnhjddlieaaDoor Go.Proofs.YtgaplnhjddlieaaDoor.PN Go.Proofs.YtgaplnhjddlieaaDoorW.PrintWords Go.Proofs.YtgaplnhjddlieaaDoorW.PrintLast
set_option linter.unusedVariables false
set_option linter.unusedSimpArgs false

theorem rd_set {l : List Int} {i j v : Int} (hi : 0 ≤ i) (hl : i < l.length) (hj : 0 ≤ j) : rd (l.set i.toNat v) j = if j = i then v else rd l j := by
  unfold rd
  rw [List.getD_eq_getElem?_getD, List.getD_eq_getElem?_getD, List.getElem?_set]
  by_cases e : j = i
  · subst e
    rw [if_pos rfl, if_pos (by omega), if_pos rfl]
    rfl
  · rw [if_neg (by omega), if_neg e]

theorem eqIntS_l0 {l : List Int} (hl : l.length ≤ 1000000000) (n : Nat) : ∀ i : Int, (l.length - i).toNat = n → 0 ≤ i → i ≤ l.length → Ev (fun k => laws_eqIntS.l0 k l l i) true := by
  induction n with
  | zero =>
    intro i hn h0 h1
    refine Pl.ev_unf ⟨0, fun k _ => ?_⟩
    simp (disch := omega) only [↓reduceIte, Pl.lt_t, Pl.lt_f, Pl.le_t, Pl.le_f, Pl.ge_t, Pl.ge_f, Pl.gt_t, Pl.gt_f, Pl.eq_t, Pl.eq_f, Pl.nlt_t, Pl.nle_t, Pl.w64, Option.bind_some, Bool.false_eq_true, decide_eq_true_eq, laws_eqIntS.l0]
  | succ n ih =>
    intro i hn h0 h1
    obtain ⟨K, hK⟩ := ih (i + 1) (by omega) (by omega) (by omega)
    refine Pl.ev_unf ⟨K, fun k hk => ?_⟩
    have e := hK k hk
    simp (disch := omega) only [↓reduceIte, Pl.lt_t, Pl.lt_f, Pl.le_t, Pl.le_f, Pl.ge_t, Pl.ge_f, Pl.gt_t, Pl.gt_f, Pl.eq_t, Pl.eq_f, Pl.nlt_t, Pl.nle_t, Pl.w64, Option.bind_some, Bool.false_eq_true, decide_eq_true_eq, laws_eqIntS.l0, e]
theorem eqIntS_self {l : List Int} (hl : l.length ≤ 1000000000) : Ev (fun k => laws_eqIntS.f k l l) true := by
  obtain ⟨K, hK⟩ := eqIntS_l0 hl _ 0 rfl (by omega) (by omega)
  refine ⟨K, fun k hk => ?_⟩
  have e := hK k hk
  simp (disch := omega) only [↓reduceIte, Pl.lt_t, Pl.lt_f, Pl.le_t, Pl.le_f, Pl.ge_t, Pl.ge_f, Pl.gt_t, Pl.gt_f, Pl.eq_t, Pl.eq_f, Pl.nlt_t, Pl.nle_t, Pl.w64, Option.bind_some, Bool.false_eq_true, decide_eq_true_eq, laws_eqIntS.f, e]

theorem markIntS_l0 {a : Int} (ha : 0 ≤ a) (ha' : a ≤ 1000000000) (n : Nat) : ∀ (i : Int) (l : List Int), l.length ≤ 1000000000 → (l.length - i).toNat = n → 0 ≤ i → i ≤ l.length → (∀ j : Int, 0 ≤ j → j < i → rd l j = a + j) →
    ∃ l', Ev (fun k => laws_markIntS.l0 k l (a + i) i) (a + l.length, l') ∧ l'.length = l.length ∧ ∀ j : Int, 0 ≤ j → j < l.length → rd l' j = a + j := by
  induction n with
  | zero =>
    intro i l hl hn h0 h1 hm
    obtain rfl : i = l.length := by omega
    refine ⟨l, Pl.ev_unf ⟨0, fun k _ => ?_⟩, rfl, fun j h2 h3 => hm j h2 h3⟩
    simp (disch := omega) only [↓reduceIte, Pl.lt_t, Pl.lt_f, Pl.le_t, Pl.le_f, Pl.ge_t, Pl.ge_f, Pl.gt_t, Pl.gt_f, Pl.eq_t, Pl.eq_f, Pl.nlt_t, Pl.nle_t, Pl.w64, Option.bind_some, Bool.false_eq_true, decide_eq_true_eq, laws_markIntS.l0]
  | succ n ih =>
    intro i l hl hn h0 h1 hm
    obtain ⟨l', ⟨K, hK⟩, h2, h3⟩ := ih (i + 1) (l.set i.toNat (a + i)) (by simpa using hl) (by simp; omega) (by omega) (by simp; omega) (fun j h2 h3 => by
      rw [rd_set h0 (by omega) h2]
      by_cases e : j = i
      · rw [if_pos e, e]
      · rw [if_neg e, hm j h2 (by omega)])
    simp only [List.length_set] at hK h2 h3
    refine ⟨l', Pl.ev_unf ⟨K, fun k hk => ?_⟩, h2, h3⟩
    have e := hK k hk
    rw [show a + (i + 1) = a + i + 1 by omega] at e
    simp (disch := omega) only [↓reduceIte, Pl.lt_t, Pl.lt_f, Pl.le_t, Pl.le_f, Pl.ge_t, Pl.ge_f, Pl.gt_t, Pl.gt_f, Pl.eq_t, Pl.eq_f, Pl.nlt_t, Pl.nle_t, Pl.w64, Option.bind_some, Bool.false_eq_true, decide_eq_true_eq, laws_markIntS.l0, e]
theorem heldIntS_l0 {a : Int} {l : List Int} (ha : 0 ≤ a) (ha' : a ≤ 1000000000) (hl : l.length ≤ 1000000000) (hm : ∀ j : Int, 0 ≤ j → j < l.length → rd l j = a + j) (n : Nat) :
    ∀ i : Int, (l.length - i).toNat = n → 0 ≤ i → i ≤ l.length → Ev (fun k => laws_heldIntS.l0 k l (a + i) i) (a + l.length) := by
  induction n with
  | zero =>
    intro i hn h0 h1
    obtain rfl : i = l.length := by omega
    refine Pl.ev_unf ⟨0, fun k _ => ?_⟩
    simp (disch := omega) only [↓reduceIte, Pl.lt_t, Pl.lt_f, Pl.le_t, Pl.le_f, Pl.ge_t, Pl.ge_f, Pl.gt_t, Pl.gt_f, Pl.eq_t, Pl.eq_f, Pl.nlt_t, Pl.nle_t, Pl.w64, Option.bind_some, Bool.false_eq_true, decide_eq_true_eq, laws_heldIntS.l0]
  | succ n ih =>
    intro i hn h0 h1
    obtain ⟨K, hK⟩ := ih (i + 1) (by omega) (by omega) (by omega)
    refine Pl.ev_unf ⟨K, fun k hk => ?_⟩
    have e := hK k hk
    have e2 := hm i h0 (by omega)
    rw [show a + (i + 1) = a + i + 1 by omega] at e
    simp (disch := omega) only [↓reduceIte, Pl.lt_t, Pl.lt_f, Pl.le_t, Pl.le_f, Pl.ge_t, Pl.ge_f, Pl.gt_t, Pl.gt_f, Pl.eq_t, Pl.eq_f, Pl.nlt_t, Pl.nle_t, Pl.w64, Option.bind_some, Bool.false_eq_true, decide_eq_true_eq, laws_heldIntS.l0, e2, e]
/-- marks are laid, and found again -/
theorem mark_held {a : Int} {l : List Int} (ha : 0 ≤ a) (ha' : a ≤ 1000000000) (hl : l.length ≤ 1000000000) :
    ∃ l', Ev (fun k => laws_markIntS.f k l a) (a + l.length, l') ∧ Ev (fun k => laws_heldIntS.f k l' a) (a + l.length) ∧ l'.length = l.length := by
  obtain ⟨l', ⟨K, hK⟩, h2, h3⟩ := markIntS_l0 ha ha' _ 0 l hl rfl (by omega) (by omega) (fun j h1 h2 => by omega)
  obtain ⟨K2, hK2⟩ := heldIntS_l0 (l := l') ha ha' (by omega) (fun j h1 h4 => h3 j h1 (by omega)) _ 0 rfl (by omega) (by omega)
  refine ⟨l', ⟨K, fun k hk => ?_⟩, ⟨K2, fun k hk => ?_⟩, h2⟩
  · have e := hK k hk
    rw [Int.add_zero] at e
    exact e
  · have e := hK2 k hk
    rw [Int.add_zero, h2] at e
    exact e

end Go.Proofs.YtgaplnhjddlieaaDoor.Pure
