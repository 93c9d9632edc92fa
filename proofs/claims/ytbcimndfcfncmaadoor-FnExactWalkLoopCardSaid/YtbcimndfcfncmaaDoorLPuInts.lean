/- Plain lemmas: two lists of numbers held against each other; marks laid in a list and found again. No condition. -/
import Derived.Test.YtbcimndfcfncmaaDoorPLx5
import Derived.Test.YtbcimndfcfncmaaDoorPl
namespace Go.Proofs.YtbcimndfcfncmaaDoor.Pure
open Go.RowKit Go.Proofs.YtbcimndfcfncmaaDoor Go.Proofs.YtbcimndfcfncmaaDoor.PL Go.Proofs.YtbcimndfcfncmaaDoorW.PrintWords Go.Proofs.YtbcimndfcfncmaaDoorW.PrintLast
set_option linter.unusedVariables false
set_option linter.unusedSimpArgs false

theorem rd_set {l : List Int} {i j v : Int} (hi : 0 ≤ i) (hl : i < l.length) (hj : 0 ≤ j) : rd (l.set i.toNat v) j = if j = i then v else rd l j := by
  unfold rd
  rw [List.getD_eq_getElem?_getD, List.getD_eq_getElem?_getD, List.getElem?_set]
  by_cases e : j = i
  · subst e
    rw [if_pos rfl, if_pos (by omega), if_pos rfl]
    rfl
  · rw [if_neg (by omega), if_neg e]

theorem eqIntS_l0 {l : List Int} (hl : l.length ≤ 1000000000) (n : Nat) : ∀ i : Int, (l.length - i).toNat = n → 0 ≤ i → i ≤ l.length → Ev (fun k => laws_eqIntS.l0 k l l i) true := by
  induction n with
  | zero =>
    intro i hn h0 h1
    refine Pl.ev_unf ⟨0, fun k _ => ?_⟩
    simp (disch := omega) only [↓reduceIte, Pl.lt_t, Pl.lt_f, Pl.le_t, Pl.le_f, Pl.ge_t, Pl.ge_f, Pl.gt_t, Pl.gt_f, Pl.eq_t, Pl.eq_f, Pl.nlt_t, Pl.nle_t, Pl.w64, Option.bind_some, Bool.false_eq_true, decide_eq_true_eq, laws_eqIntS.l0]
  | succ n ih =>
    intro i hn h0 h1
    obtain ⟨K, hK⟩ := ih (i + 1) (by omega) (by omega) (by omega)
    refine Pl.ev_unf ⟨K, fun k hk => ?_⟩
    have e := hK k hk
    simp (disch := omega) only [↓reduceIte, Pl.lt_t, Pl.lt_f, Pl.le_t, Pl.le_f, Pl.ge_t, Pl.ge_f, Pl.gt_t, Pl.gt_f, Pl.eq_t, Pl.eq_f, Pl.nlt_t, Pl.nle_t, Pl.w64, Option.bind_some, Bool.false_eq_true, decide_eq_true_eq, laws_eqIntS.l0, e]
theorem eqIntS_self {l : List Int} (hl : l.length ≤ 1000000000) : Ev (fun k => laws_eqIntS.f k l l) true := by
  obtain ⟨K, hK⟩ := eqIntS_l0 hl _ 0 rfl (by omega) (by omega)
  refine ⟨K, fun k hk => ?_⟩
  have e := hK k hk
  simp (disch := omega) only [↓reduceIte, Pl.lt_t, Pl.lt_f, Pl.le_t, Pl.le_f, Pl.ge_t, Pl.ge_f, Pl.gt_t, Pl.gt_f, Pl.eq_t, Pl.eq_f, Pl.nlt_t, Pl.nle_t, Pl.w64, Option.bind_some, Bool.false_eq_true, decide_eq_true_eq, laws_eqIntS.f, e]

end Go.Proofs.YtbcimndfcfncmaaDoor.Pure
