/- The plain law of IsTaste: for every text the program's answer is the reference's. No condition. -/
import Derived.Test.YtgifhfkpfgpagaaPIx1
import Derived.Test.YtgifhfkpfgpagaaPIx4
import Derived.Test.YtgifhfkpfgpagaaPl
namespace Go.Proofs.Ytgifhfkpfgpagaa.Pure
open Go.RowKit Go.Proofs.Ytgifhfkpfgpagaa Go.Proofs.Ytgifhfkpfgpagaa.PI Go.Proofs.YtgifhfkpfgpagaaW.PrintWords Go.Proofs.YtgifhfkpfgpagaaW.PrintLast
set_option linter.unusedVariables false
set_option linter.unusedSimpArgs false

theorem taste_l0 {l : List ByteArray} {s : ByteArray} (hl : l.length ≤ 1000) (n : Nat) : ∀ i : Int, (l.length - i).toNat = n → 0 ≤ i → i ≤ l.length →
    ∃ c : Int, Ev (fun k => spec_wmTaste.l0 k s l l.length i) (decide (c ≥ 0)) ∧ Ev (fun k => slices_Index_string_string.l0 k l s l.length i) c ∧ (c ≥ 0 → s ∈ l) := by
  induction n with
  | zero =>
    intro i hn h0 h1
    refine ⟨-1, Pl.ev_unf ⟨0, fun k _ => ?_⟩, Pl.ev_unf ⟨0, fun k _ => ?_⟩, fun h => absurd h (by omega)⟩
    · simp (disch := omega) only [↓reduceIte, Pl.lt_t, Pl.lt_f, Pl.le_t, Pl.le_f, Pl.ge_t, Pl.ge_f, Pl.gt_t, Pl.gt_f, Pl.eq_t, Pl.eq_f, Pl.nlt_t, Pl.nle_t, Pl.w64, Option.bind_some, Bool.false_eq_true, decide_eq_true_eq, spec_wmTaste.l0]
      rfl
    · simp (disch := omega) only [↓reduceIte, Pl.lt_t, Pl.lt_f, Pl.le_t, Pl.le_f, Pl.ge_t, Pl.ge_f, Pl.gt_t, Pl.gt_f, Pl.eq_t, Pl.eq_f, Pl.nlt_t, Pl.nle_t, Pl.w64, Option.bind_some, Bool.false_eq_true, decide_eq_true_eq, slices_Index_string_string.l0]
  | succ n ih =>
    intro i hn h0 h1
    by_cases c : (rdOf ByteArray.empty l i).toList = s.toList
    · refine ⟨i, Pl.ev_unf ⟨0, fun k _ => ?_⟩, Pl.ev_unf ⟨0, fun k _ => ?_⟩, fun _ => ?_⟩
      · simp (disch := omega) only [↓reduceIte, Pl.lt_t, Pl.lt_f, Pl.le_t, Pl.le_f, Pl.ge_t, Pl.ge_f, Pl.gt_t, Pl.gt_f, Pl.eq_t, Pl.eq_f, Pl.nlt_t, Pl.nle_t, Pl.w64, Option.bind_some, Bool.false_eq_true, decide_eq_true_eq, spec_wmTaste.l0, c]
        rfl
      · simp (disch := omega) only [↓reduceIte, Pl.lt_t, Pl.lt_f, Pl.le_t, Pl.le_f, Pl.ge_t, Pl.ge_f, Pl.gt_t, Pl.gt_f, Pl.eq_t, Pl.eq_f, Pl.nlt_t, Pl.nle_t, Pl.w64, Option.bind_some, Bool.false_eq_true, decide_eq_true_eq, slices_Index_string_string.l0, c]
      · have e := Pl.toList_inj.1 c
        rw [← e, rdOf, List.getD_eq_getElem?_getD, List.getElem?_eq_getElem (show i.toNat < l.length by omega)]
        exact List.getElem_mem _
    · have c' : ¬ s.toList = (rdOf ByteArray.empty l i).toList := fun h => c h.symm
      obtain ⟨r, ⟨K1, e1⟩, ⟨K2, e2⟩, hm⟩ := ih (i + 1) (by omega) (by omega) (by omega)
      refine ⟨r, Pl.ev_unf ⟨K1, fun k hk => ?_⟩, Pl.ev_unf ⟨K2, fun k hk => ?_⟩, hm⟩
      · have e := e1 k hk
        simp (disch := omega) only [↓reduceIte, Pl.lt_t, Pl.lt_f, Pl.le_t, Pl.le_f, Pl.ge_t, Pl.ge_f, Pl.gt_t, Pl.gt_f, Pl.eq_t, Pl.eq_f, Pl.nlt_t, Pl.nle_t, Pl.w64, Option.bind_some, Bool.false_eq_true, decide_eq_true_eq, spec_wmTaste.l0, c, e]
      · have e := e2 k hk
        simp (disch := omega) only [↓reduceIte, Pl.lt_t, Pl.lt_f, Pl.le_t, Pl.le_f, Pl.ge_t, Pl.ge_f, Pl.gt_t, Pl.gt_f, Pl.eq_t, Pl.eq_f, Pl.nlt_t, Pl.nle_t, Pl.w64, Option.bind_some, Bool.false_eq_true, decide_eq_true_eq, slices_Index_string_string.l0, c', e]

theorem taste_both' (s : ByteArray) : ∃ b, Ev (fun k => spec_wmTaste.f k s) b ∧ Ev (fun k => impl_IsTaste.f k s) b ∧ (b = true → s ∈ [(⟨#[76, 78, 82]⟩ : ByteArray), (⟨#[76, 82, 78]⟩ : ByteArray), (⟨#[78, 76, 82]⟩ : ByteArray), (⟨#[78, 82, 76]⟩ : ByteArray), (⟨#[82, 76, 78]⟩ : ByteArray), (⟨#[82, 78, 76]⟩ : ByteArray)]) := by
  obtain ⟨c, ⟨K1, e1⟩, ⟨K2, e2⟩, hm⟩ := taste_l0 (s := s) (l := [(⟨#[76, 78, 82]⟩ : ByteArray), (⟨#[76, 82, 78]⟩ : ByteArray), (⟨#[78, 76, 82]⟩ : ByteArray), (⟨#[78, 82, 76]⟩ : ByteArray), (⟨#[82, 76, 78]⟩ : ByteArray), (⟨#[82, 78, 76]⟩ : ByteArray)]) (by decide) _ 0 rfl (by omega) (by decide)
  refine ⟨decide (c ≥ 0), ⟨K1, fun k hk => ?_⟩, ⟨K2, fun k hk => ?_⟩, fun h => hm (of_decide_eq_true h)⟩
  · have e := e1 k hk
    simp only [spec_wmTaste.f, spec_wmTastes.f, Option.bind_some]
    exact e
  · have e : slices_Index_string_string.f k _ s = some c := e2 k hk
    simp only [impl_IsTaste.f, impl_tastes.f, Option.bind_some, slices_Contains_string_string.f]
    rw [e]
    rfl
theorem taste_both (s : ByteArray) : ∃ b, Ev (fun k => spec_wmTaste.f k s) b ∧ Ev (fun k => impl_IsTaste.f k s) b := by
  obtain ⟨b, h1, h2, _⟩ := taste_both' s
  exact ⟨b, h1, h2⟩

end Go.Proofs.Ytgifhfkpfgpagaa.Pure
