/- Plain lemmas: two lists of rows of numbers held against each other; marks laid in rows of rows and found again. No condition. -/
import Derived.Test.YtgaplnhjddlieaaDoorPNx8
import Derived.Test.YtgaplnhjddlieaaDoorPNx9
import Derived.Test.YtgaplnhjddlieaaDoorNPuInts
namespace Go.Proofs.YtgaplnhjddlieaaDoor.Pure
open Go.RowKit Go.Proofs.YtgaplnhjddlieaaDoor Go.Proofs.YtgaplnhjddlieaaDoor.PN Go.Proofs.YtgaplnhjddlieaaDoorW.PrintWords Go.Proofs.YtgaplnhjddlieaaDoorW.PrintLast
set_option linter.unusedVariables false
set_option linter.unusedSimpArgs false

theorem rdL_set {l : List (List Int)} {i j : Int} {v : List Int} (hi : 0 ≤ i) (hl : i < l.length) (hj : 0 ≤ j) : rd_L4 (l.set i.toNat v) j = if j = i then v else rd_L4 l j := by
  unfold rd_L4
  rw [List.getD_eq_getElem?_getD, List.getD_eq_getElem?_getD, List.getElem?_set]
  by_cases e : j = i
  · subst e
    rw [if_pos rfl, if_pos (by omega), if_pos rfl]
    rfl
  · rw [if_neg (by omega), if_neg e]
theorem eqIntSS_l0 {l : List (List Int)} (hl : l.length ≤ 100000) (hr : ∀ j : Int, 0 ≤ j → j < l.length → (rd_L4 l j).length ≤ 1000) (n : Nat) : ∀ i : Int, (l.length - i).toNat = n → 0 ≤ i → i ≤ l.length → Ev (fun k => laws_eqIntSS.l0 k l l i) true := by
  induction n with
  | zero =>
    intro i hn h0 h1
    refine Pl.ev_unf ⟨0, fun k _ => ?_⟩
    rw [laws_eqIntSS.l0, if_neg (by omega)]
  | succ n ih =>
    intro i hn h0 h1
    obtain ⟨K, hK⟩ := ih (i + 1) (by omega) (by omega) (by omega)
    obtain ⟨K2, hK2⟩ := eqIntS_self (l := rd_L4 l i) (by have := hr i h0 (by omega); omega)
    refine Pl.ev_unf ⟨K + K2, fun k hk => ?_⟩
    have e := hK k (by omega)
    have e2 := hK2 k (by omega)
    dsimp only at e e2
    rw [laws_eqIntSS.l0, if_pos (by omega), if_pos h0, if_pos (by omega), e2, Option.bind_some, if_pos rfl, Pl.w64 (by omega) (by omega)]
    exact e
theorem eqIntSS_self {l : List (List Int)} (hl : l.length ≤ 100000) (hr : ∀ j : Int, 0 ≤ j → j < l.length → (rd_L4 l j).length ≤ 1000) : Ev (fun k => laws_eqIntSS.f k l l) true := by
  obtain ⟨K, hK⟩ := eqIntSS_l0 hl hr _ 0 rfl (by omega) (by omega)
  refine ⟨K, fun k hk => ?_⟩
  have e := hK k hk
  dsimp only at e ⊢
  rw [laws_eqIntSS.f, if_pos rfl]
  exact e
theorem markIntSS_l0 (n : Nat) : ∀ (i a : Int) (l : List (List Int)), l.length ≤ 100000 → (∀ j : Int, 0 ≤ j → j < l.length → (rd_L4 l j).length ≤ 1000) → (l.length - i).toNat = n → 0 ≤ i → i ≤ l.length → 0 ≤ a → a ≤ 1 + 1000 * i →
    ∃ l' b, Ev (fun k => laws_markIntSS.l0 k l a i) (b, l') ∧ Ev (fun k => laws_heldIntSS.l0 k l' a i) b ∧ l'.length = l.length ∧ (∀ j : Int, 0 ≤ j → j < i → rd_L4 l' j = rd_L4 l j) ∧ a ≤ b := by
  induction n with
  | zero =>
    intro i a l hl hr hn h0 h1 ha hb
    refine ⟨l, a, Pl.ev_unf ⟨0, fun k _ => ?_⟩, Pl.ev_unf ⟨0, fun k _ => ?_⟩, rfl, fun _ _ _ => rfl, Int.le_refl _⟩
    · rw [laws_markIntSS.l0, if_neg (by omega)]
    · rw [laws_heldIntSS.l0, if_neg (by omega)]
  | succ n ih =>
    intro i a l hl hr hn h0 h1 ha hb
    have hri := hr i h0 (by omega)
    obtain ⟨r', ⟨K1, f1⟩, ⟨K2, f2⟩, hlen⟩ := mark_held (a := a) (l := rd_L4 l i) ha (by omega) (by omega)
    obtain ⟨l', b, ⟨K3, f3⟩, ⟨K4, f4⟩, hl', hk, hab⟩ := ih (i + 1) (a + (rd_L4 l i).length) (l.set i.toNat r') (by rw [List.length_set]; omega) (fun j hj hj2 => by
      rw [List.length_set] at hj2
      rw [rdL_set h0 (by omega) hj]
      split
      · omega
      · exact hr j hj hj2) (by rw [List.length_set]; omega) (by omega) (by rw [List.length_set]; omega) (by omega) (by omega)
    rw [List.length_set] at hl'
    have hi : rd_L4 l' i = r' := by
      rw [hk i h0 (by omega), rdL_set h0 (by omega) h0, if_pos rfl]
    have w1 : wrap64 (i + 1) = i + 1 := Pl.w64 (by omega) (by omega)
    refine ⟨l', b, Pl.ev_unf ⟨K1 + K3, fun k hk' => ?_⟩, Pl.ev_unf ⟨K2 + K4, fun k hk' => ?_⟩, hl', fun j hj hj2 => ?_, by omega⟩
    · have e := f1 k (by omega)
      have e2 := f3 k (by omega)
      dsimp only at e e2
      rw [laws_markIntSS.l0, if_pos (by omega), if_pos h0, e, Option.bind_some, w1]
      exact e2
    · have e := f2 k (by omega)
      have e2 := f4 k (by omega)
      dsimp only at e e2
      rw [laws_heldIntSS.l0, if_pos (by omega), if_pos h0, hi, e, Option.bind_some, if_neg (by omega), w1]
      exact e2
    · rw [hk j hj (by omega), rdL_set h0 (by omega) hj, if_neg (by omega)]
/-- marks are laid, and found again -/
theorem mark_heldSS {l : List (List Int)} (hl : l.length ≤ 100000) (hr : ∀ j : Int, 0 ≤ j → j < l.length → (rd_L4 l j).length ≤ 1000) :
    ∃ l' b, Ev (fun k => laws_markIntSS.f k l 1) (b, l') ∧ Ev (fun k => laws_heldIntSS.f k l' 1) b ∧ 1 ≤ b := by
  obtain ⟨l', b, ⟨K1, f1⟩, ⟨K2, f2⟩, _, _, hb⟩ := markIntSS_l0 _ 0 1 l hl hr rfl (by omega) (by omega) (by omega) (by omega)
  refine ⟨l', b, ⟨K1, fun k hk => ?_⟩, ⟨K2, fun k hk => ?_⟩, hb⟩
  · have e := f1 k hk
    dsimp only at e ⊢
    rw [laws_markIntSS.f]
    exact e
  · have e := f2 k hk
    dsimp only at e ⊢
    rw [laws_heldIntSS.f]
    exact e

end Go.Proofs.YtgaplnhjddlieaaDoor.Pure
