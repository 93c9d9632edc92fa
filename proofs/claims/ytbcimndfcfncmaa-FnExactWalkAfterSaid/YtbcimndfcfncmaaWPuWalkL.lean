/- The plain law of WalkAfter: for every route, place and number of steps the program's answer is the reference's. No condition. -/
import Derived.Test.YtbcimndfcfncmaaPWx5
import Derived.Test.YtbcimndfcfncmaaPWx6
import Derived.Test.YtbcimndfcfncmaaWPuWalk
namespace Go.Proofs.Ytbcimndfcfncmaa.Pure
open Go.RowKit Go.Proofs.Ytbcimndfcfncmaa Go.Proofs.Ytbcimndfcfncmaa.PW Go.Proofs.YtbcimndfcfncmaaW.PrintWords Go.Proofs.YtbcimndfcfncmaaW.PrintLast
set_option linter.unusedVariables false
set_option linter.unusedSimpArgs false

theorem markIntSS_l0 (n : Nat) : ∀ (i a : Int) (l : List (List Int)), l.length ≤ 100000 → (∀ j : Int, 0 ≤ j → j < l.length → (rd_L1 l j).length ≤ 1000) → (l.length - i).toNat = n → 0 ≤ i → i ≤ l.length → 0 ≤ a → a ≤ 1 + 1000 * i →
    ∃ l' b, Ev (fun k => laws_markIntSS.l0 k l a i) (b, l') ∧ Ev (fun k => laws_heldIntSS.l0 k l' a i) b ∧ l'.length = l.length ∧ (∀ j : Int, 0 ≤ j → j < i → rd_L1 l' j = rd_L1 l j) ∧ a ≤ b ∧ b ≤ a + 1000 * (l.length - i) := by
  induction n with
  | zero =>
    intro i a l hl hr hn h0 h1 ha hb
    refine ⟨l, a, Pl.ev_unf ⟨0, fun k _ => ?_⟩, Pl.ev_unf ⟨0, fun k _ => ?_⟩, rfl, fun _ _ _ => rfl, Int.le_refl _, by omega⟩
    · rw [laws_markIntSS.l0, if_neg (by omega)]
    · rw [laws_heldIntSS.l0, if_neg (by omega)]
  | succ n ih =>
    intro i a l hl hr hn h0 h1 ha hb
    have hri := hr i h0 (by omega)
    obtain ⟨r', ⟨K1, f1⟩, ⟨K2, f2⟩, hlen⟩ := mark_held (a := a) (l := rd_L1 l i) ha (by omega) (by omega)
    obtain ⟨l', b, ⟨K3, f3⟩, ⟨K4, f4⟩, hl', hk, hab, hab2⟩ := ih (i + 1) (a + (rd_L1 l i).length) (l.set i.toNat r') (by rw [List.length_set]; omega) (fun j hj hj2 => by
      rw [List.length_set] at hj2
      rw [rdL_set h0 (by omega) hj]
      split
      · omega
      · exact hr j hj hj2) (by rw [List.length_set]; omega) (by omega) (by rw [List.length_set]; omega) (by omega) (by omega)
    rw [List.length_set] at hl' hab2
    have hi : rd_L1 l' i = r' := by
      rw [hk i h0 (by omega), rdL_set h0 (by omega) h0, if_pos rfl]
    have w1 : wrap64 (i + 1) = i + 1 := Pl.w64 (by omega) (by omega)
    refine ⟨l', b, Pl.ev_unf ⟨K1 + K3, fun k hk' => ?_⟩, Pl.ev_unf ⟨K2 + K4, fun k hk' => ?_⟩, hl', fun j hj hj2 => ?_, by omega, by omega⟩
    · have e := f1 k (by omega)
      have e2 := f3 k (by omega)
      dsimp only at e e2
      rw [laws_markIntSS.l0, if_pos (by omega), if_pos h0, e, Option.bind_some, w1]
      exact e2
    · have e := f2 k (by omega)
      have e2 := f4 k (by omega)
      dsimp only at e e2
      rw [laws_heldIntSS.l0, if_pos (by omega), if_pos h0, hi, e, Option.bind_some, if_neg (by omega), w1]
      exact e2
    · rw [hk j hj (by omega), rdL_set h0 (by omega) hj, if_neg (by omega)]
theorem mark_heldRoute {l : List (List Int)} {m : List Int} (hl : l.length ≤ 1000) (hr : ∀ j : Int, 0 ≤ j → j < l.length → (rd_L1 l j).length ≤ 1000) (hm : m.length ≤ 1000) :
    ∃ (b : Int) (n1 : List (List Int)) (n2 : List Int), Ev (fun k => laws_markRoute.f k l m 1) (b, (n1, n2)) ∧ Ev (fun k => laws_heldRoute.f k n1 n2 1) b ∧ 0 ≤ b := by
  obtain ⟨l', c, ⟨K1, f1⟩, ⟨K2, f2⟩, _, _, hb, hb2⟩ := markIntSS_l0 _ 0 1 l (by omega) hr rfl (by omega) (by omega) (by omega) (by omega)
  obtain ⟨m', ⟨K3, f3⟩, ⟨K4, f4⟩, _⟩ := mark_held (a := c) (l := m) (by omega) (by omega) (by omega)
  refine ⟨c + m.length, l', m', ⟨K1 + K3, fun k hk => ?_⟩, ⟨K2 + K4, fun k hk => ?_⟩, by omega⟩
  · have f1 := f1 k (by omega)
    have f3 := f3 k (by omega)
    dsimp only at f1 f3 ⊢
    rw [laws_markRoute.f, laws_markIntSS.f, f1, Option.bind_some, f3, Option.bind_some]
  · have f2 := f2 k (by omega)
    have f4 := f4 k (by omega)
    dsimp only at f2 f4 ⊢
    rw [laws_heldRoute.f, laws_heldIntSS.f, f2, Option.bind_some, if_neg (by omega), f4, Option.bind_some, if_neg (by omega)]
theorem markRoute_val {l : List (List Int)} {m : List Int} (h : l.length + tot l + m.length ≤ 1048576) : ∃ r, Ev (fun k => laws_markRoute.f k l m 1) (1 + (tot l : Int) + m.length, r) := by
  obtain ⟨l', ⟨K, f⟩⟩ := markSS_l0 _ 0 1 l (by omega) rfl (by omega) (by omega) (by omega) (by show 1 + ((tot l : Nat) : Int) ≤ 1048577; omega)
  have e0 : l.drop (0 : Int).toNat = l := rfl
  rw [e0] at f
  obtain ⟨m', ⟨K2, f2⟩, _, _⟩ := mark_held (a := 1 + (tot l : Int)) (l := m) (by omega) (by omega) (by omega)
  refine ⟨(l', m'), ⟨K + K2, fun k hk => ?_⟩⟩
  have f := f k (by omega)
  have f2 := f2 k (by omega)
  dsimp only at f f2 ⊢
  rw [laws_markRoute.f, laws_markIntSS.f, f, Option.bind_some, f2, Option.bind_some]
theorem FnExactWalkAfter (l0_0 : List (List Int)) (l0_1 : List Int) (a1 : Int) (a2 : Int) (h0 : (l0_0.length ≤ 9223372036854775807 ∧ ∀ e_ ∈ l0_0, e_.length ≤ 9223372036854775807 ∧ ∀ x_ ∈ e_, (Lit.int .i64 x_).wf = true) ∧ (l0_1.length ≤ 9223372036854775807 ∧ ∀ e_ ∈ l0_1, (Lit.int .i64 e_).wf = true)) (h1 : (Lit.int .i64 a1).wf = true) (h2 : (Lit.int .i64 a2).wf = true) : ∃ k, laws_FnExactWalkAfter.f k l0_0 l0_1 a1 a2 = some true := by
  obtain ⟨v, ⟨K1, f1⟩, hv⟩ := szRoute_val (l := l0_0) (m := l0_1) h0.1.1 (fun e he => (h0.1.2 e he).1) h0.2.1
  by_cases c : v < 0
  · refine ⟨K1, ?_⟩
    have f1 : laws_szRoute.f K1 l0_0 l0_1 1048576 = some v := f1 K1 (Nat.le_refl _)
    rw [laws_FnExactWalkAfter.f, f1, Option.bind_some, if_pos c]
  · have hv' := hv (by omega)
    have hr : ∀ e ∈ l0_0, e.length ≤ 1048576 := fun e he => by have := tot_mem he; omega
    have hl : l0_0.length ≤ 1048576 := by omega
    have hm : l0_1.length ≤ 1048576 := by omega
    obtain ⟨K2, f2⟩ := toRoute_val hl hr hm
    obtain ⟨L, M, u, b, hg, ⟨K3, f3⟩, ⟨K4, f4⟩⟩ := walkafter_both hr hl hm a1 a2
    obtain ⟨K6, f6⟩ := eqRoute_self hl hr hm
    obtain ⟨w', ⟨K9, f9⟩⟩ := markRoute_val (l := l0_0) (m := l0_1) hv'
    have hL : L.length ≤ 10 ∧ M.length ≤ 10 ∧ ∀ j : Int, 0 ≤ j → j < L.length → (rd_L1 L j).length ≤ 4 := by
      rcases hg with hg | ⟨rfl, rfl⟩
      · have g3 := hg.2.2.1
        exact ⟨hg.2.1, by have := hg.2.1; omega, fun j j0 j1 => (hg.2.2.2 j j0 j1).2.1⟩
      · exact ⟨by simp, by simp, fun j j0 j1 => absurd j1 (by simp; omega)⟩
    obtain ⟨q, n1, n2, ⟨K11, f11⟩, ⟨K12, f12⟩, hq⟩ := mark_heldRoute (l := L) (m := M) (by omega) (fun j j0 j1 => by have := hL.2.2 j j0 j1; omega) (by omega)
    have hLr : ∀ e ∈ L, e.length ≤ 1048576 := fun e he => by
      obtain ⟨i, hi, rfl⟩ := List.mem_iff_getElem.1 he
      have := hL.2.2 (i : Int) (by omega) (by omega)
      rw [rdL_get (by omega)] at this
      simp only [Int.toNat_natCast] at this
      omega
    obtain ⟨K7, f7⟩ := eqRoute_self (l := L) (by omega) hLr (m := M) (by omega)
    obtain ⟨K, hK⟩ : ∃ K, K = K1 + K2 + K3 + K4 + K6 + K7 + K9 + K11 + K12 := ⟨_, rfl⟩
    refine ⟨K, ?_⟩
    have f1 := f1 K (by omega)
    have f2 := f2 K (by omega)
    have f3 := f3 K (by omega)
    have f4 := f4 K (by omega)
    have f6 := f6 K (by omega)
    have f7 := f7 K (by omega)
    have f9 := f9 K (by omega)
    have f11 := f11 K (by omega)
    have f12 := f12 K (by omega)
    dsimp only at f1 f2 f3 f4 f6 f7 f9 f11 f12
    obtain ⟨wa, wb⟩ := w'
    rw [laws_FnExactWalkAfter.f, f1, Option.bind_some, if_neg c, f2, Option.bind_some, f3, Option.bind_some, f4, Option.bind_some, f7, Option.bind_some, f6, Option.bind_some, if_pos ⟨rfl, rfl, rfl⟩, f9, Option.bind_some, f11, Option.bind_some, f12, Option.bind_some, if_pos ⟨by omega, hq, rfl⟩]

end Go.Proofs.Ytbcimndfcfncmaa.Pure
