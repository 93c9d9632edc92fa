/- The plain law of CornersAfter: for every program and number of repeats the program's corners are the reference's. No condition. -/
import Derived.Test.YthngapcocbclgaaPDx2
import Derived.Test.YthngapcocbclgaaPDx4
import Derived.Test.YthngapcocbclgaaPDx5
import Derived.Test.YthngapcocbclgaaDPuCorn
import Derived.Test.YthngapcocbclgaaDPuIntSS
namespace Go.Proofs.Ythngapcocbclgaa.Pure
open Go.RowKit Go.Proofs.Ythngapcocbclgaa Go.Proofs.Ythngapcocbclgaa.PD Go.Proofs.YthngapcocbclgaaW.PrintWords Go.Proofs.YthngapcocbclgaaW.PrintLast
set_option linter.unusedVariables false
set_option linter.unusedSimpArgs false

theorem few_both (s : ByteArray) (m : Int) (hs : s.size ≤ 9223372036854775000) : ∃ b, Ev (fun k => spec_tuFew.f k s m) b ∧ Ev (fun k => impl_isCornered.f k s m) b ∧ (b = true → GoodP s ∧ 0 ≤ m ∧ m ≤ 100) := by
  obtain ⟨b, ⟨K1, e1⟩, ⟨K2, e2⟩, hb⟩ := asked_bothP s m hs
  cases b with
  | false =>
    refine ⟨false, ⟨K1, fun k hk => ?_⟩, ⟨K2, fun k hk => ?_⟩, by simp⟩
    · have e := e1 k hk
      dsimp only at e ⊢
      rw [spec_tuFew.f, e, Option.bind_some, if_neg (by simp)]
    · have e := e2 k hk
      dsimp only at e ⊢
      rw [impl_isCornered.f, e, Option.bind_some, if_neg (by simp)]
  | true =>
    refine ⟨decide ((wrap64 ((wrap64 ((s.size : Int) / 2)) * m)) ≤ 400), ⟨K1, fun k hk => ?_⟩, ⟨K2, fun k hk => ?_⟩, fun _ => hb.1 rfl⟩
    · have e := e1 k hk
      dsimp only at e ⊢
      rw [spec_tuFew.f, e, Option.bind_some, if_pos rfl]
    · have e := e2 k hk
      dsimp only at e ⊢
      rw [impl_isCornered.f, e, Option.bind_some, if_pos rfl]
theorem rows_l0 {C : List Pt} (hC : C.length ≤ 1000000) (n : Nat) : ∀ (i : Int) (acc : List (List Int)), ((C.length : Int) - i).toNat = n → 0 ≤ i → i ≤ C.length → acc.length ≤ i → Ev (fun k => impl_CornersAfter.l0 k acc C C.length i) (acc ++ (C.drop i.toNat).map rowP, true) := by
  induction n with
  | zero =>
    intro i acc hn h1 h2 h3
    refine Pl.ev_unf ⟨0, fun k _ => ?_⟩
    rw [impl_CornersAfter.l0, if_neg (by omega), List.drop_eq_nil_of_le (by omega)]
    simp
  | succ n ih =>
    intro i acc hn h1 h2 h3
    have w1 : wrap64 (i + 1) = i + 1 := Pl.w64 (by omega) (by omega)
    obtain ⟨K, f⟩ := ih (i + 1) (acc ++ [rowP (rd_T45 C i)]) (by omega) (by omega) (by omega) (by rw [List.length_append, List.length_singleton]; omega)
    refine Pl.ev_unf ⟨K, fun k hk => ?_⟩
    have f := f k hk
    dsimp only at f
    have hd : C.drop i.toNat = rd_T45 C i :: C.drop (i + 1).toNat := by
      rw [show (i + 1).toNat = i.toNat + 1 by omega, List.drop_eq_getElem_cons (by omega)]
      congr 1
      unfold rd_T45
      rw [List.getD_eq_getElem?_getD, List.getElem?_eq_getElem (by omega)]
      rfl
    rw [impl_CornersAfter.l0, if_pos (by omega), if_pos h1, if_pos (by omega), if_pos (by omega), w1, hd, List.map_cons]
    rw [List.append_assoc, List.singleton_append] at f
    exact f
theorem cornersAfter_both (s : ByteArray) (m : Int) (hs : s.size ≤ 9223372036854775000) : ∃ l b, Ev (fun k => spec_CornersAfter.f k s m) (l, b) ∧ Ev (fun k => impl_CornersAfter.f k s m) (l, b) ∧ l.length ≤ 1000 ∧ ∀ j : Int, 0 ≤ j → j < l.length → (rd_L1 l j).length ≤ 1000 := by
  obtain ⟨b, ⟨K1, e1⟩, ⟨K2, e2⟩, hb⟩ := few_both s m hs
  cases b with
  | false =>
    refine ⟨[], false, ⟨K1, fun k hk => ?_⟩, ⟨K2, fun k hk => ?_⟩, by simp, fun j h1 h2 => by simp at h2; omega⟩
    · have e := e1 k hk
      dsimp only at e ⊢
      rw [spec_CornersAfter.f, e, Option.bind_some, if_neg (by simp)]
    · have e := e2 k hk
      dsimp only at e ⊢
      rw [impl_CornersAfter.f, e, Option.bind_some, if_neg (by simp)]
  | true =>
    obtain ⟨g, m0, m1⟩ := hb rfl
    obtain ⟨K3, f3⟩ := tuCorners_val g m0 m1
    obtain ⟨K4, f4⟩ := corners_val g m0 m1
    have hl := cornersOf_length g m1
    obtain ⟨K6, f6⟩ := rows_l0 (C := cornersOf s m) (by omega) _ 0 [] rfl (by omega) (by omega) (by simp)
    refine ⟨(cornersOf s m).map rowP, true, ⟨K1 + K3, fun k hk => ?_⟩, ⟨K2 + K4 + K6, fun k hk => ?_⟩, by rw [List.length_map]; omega, fun j h1 h2 => ?_⟩
    · have e := e1 k (by omega)
      have f := f3 k (by omega)
      dsimp only at e f ⊢
      rw [spec_CornersAfter.f, e, Option.bind_some, if_pos rfl, f, Option.bind_some]
    · have e := e2 k (by omega)
      have f := f4 k (by omega)
      have h := f6 k (by omega)
      dsimp only at e f h ⊢
      rw [impl_CornersAfter.f, e, Option.bind_some, if_pos rfl, f, Option.bind_some, h]
      simp
    · rw [List.length_map] at h2
      rw [rowP_at h1 h2, rowP_len]
      omega
theorem FnExactCornersAfter (a0 : ByteArray) (a1 : Int) (h0 : a0.size ≤ maxLen) (h1 : (Lit.int .i64 a1).wf = true) : ∃ k, laws_FnExactCornersAfter.f k a0 a1 = some true := by
  by_cases hs : (a0.size : Int) ≤ 1048576
  · obtain ⟨l, b, ⟨K1, e1⟩, ⟨K2, e2⟩, hl, hr⟩ := cornersAfter_both a0 a1 (by omega)
    obtain ⟨K5, e5⟩ := eqIntSS_self (l := l) (by omega) hr
    obtain ⟨l', c, ⟨K6, e6⟩, ⟨K7, e7⟩, hc⟩ := mark_heldSS (l := l) (by omega) hr
    obtain ⟨K, hK⟩ : ∃ K, K = K1 + K2 + K5 + K6 + K7 := ⟨_, rfl⟩
    refine ⟨K, ?_⟩
    have f3 : spec_CornersAfter.f K a0 a1 = some (l, b) := e1 K (by omega)
    have f4 : impl_CornersAfter.f K a0 a1 = some (l, b) := e2 K (by omega)
    have f5 : laws_eqIntSS.f K l l = some true := e5 K (by omega)
    have g6 : laws_markIntSS.f K l 1 = some (c, l') := e6 K (by omega)
    have g7 : laws_heldIntSS.f K l' 1 = some c := e7 K (by omega)
    rw [laws_FnExactCornersAfter.f, if_neg (by omega), f3, Option.bind_some, f4, Option.bind_some]
    dsimp only
    rw [f5, Option.bind_some, if_pos ⟨rfl, rfl⟩, g6, Option.bind_some]
    dsimp only
    rw [g7, Option.bind_some, if_pos ⟨by omega, rfl⟩]
  · refine ⟨0, ?_⟩
    rw [laws_FnExactCornersAfter.f, if_pos (by omega)]

end Go.Proofs.Ythngapcocbclgaa.Pure
