/- The plain law of TwiceArea: for every program the program's sum is the reference's. No condition. -/
import Derived.Test.YthngapcocbclgaaPHx4
import Derived.Test.YthngapcocbclgaaPHx5
import Derived.Test.YthngapcocbclgaaPHx7
import Derived.Test.YthngapcocbclgaaHPuPlace
import Derived.Test.YthngapcocbclgaaHPuCorn
namespace Go.Proofs.Ythngapcocbclgaa.Pure
open Go.RowKit Go.Proofs.Ythngapcocbclgaa Go.Proofs.Ythngapcocbclgaa.PH Go.Proofs.YthngapcocbclgaaW.PrintWords Go.Proofs.YthngapcocbclgaaW.PrintLast
set_option linter.unusedVariables false
set_option linter.unusedSimpArgs false

theorem area_l0 {C : List Pt} (hC : C.length ≤ 1000000) (n : Nat) : ∀ (i acc : Int), ((C.length : Int) - i).toNat = n → 1 ≤ i → i ≤ C.length → ∃ r, Ev (fun k => spec_TwiceArea.l0 k (C.map rowP) acc i) r ∧ Ev (fun k => impl_TwiceArea.l0 k C acc i) r := by
  induction n with
  | zero =>
    intro i acc hn h1 h2
    refine ⟨(acc, true), Pl.ev_unf ⟨0, fun k _ => ?_⟩, Pl.ev_unf ⟨0, fun k _ => ?_⟩⟩
    · rw [spec_TwiceArea.l0, List.length_map, if_neg (by omega)]
    · rw [impl_TwiceArea.l0, if_neg (by omega)]
  | succ n ih =>
    intro i acc hn h1 h2
    have w1 : wrap64 (i + 1) = i + 1 := Pl.w64 (by omega) (by omega)
    have w2 : wrap64 (i - 1) = i - 1 := Pl.w64 (by omega) (by omega)
    obtain ⟨r, ⟨K1, f1⟩, ⟨K2, f2⟩⟩ := ih (i + 1) (wrap64 (acc + wrap64 (wrap64 ((rd_T45 C (i - 1)).f0 * (rd_T45 C i).f1) - wrap64 ((rd_T45 C i).f0 * (rd_T45 C (i - 1)).f1)))) (by omega) (by omega) (by omega)
    refine ⟨r, Pl.ev_unf ⟨K1, fun k hk => ?_⟩, Pl.ev_unf ⟨K2, fun k hk => ?_⟩⟩
    · have f1 := f1 k hk
      dsimp only at f1
      have l1 : 0 < (((rowP (rd_T45 C (i - 1))).length : Nat) : Int) := by rw [rowP_len]; omega
      have l2 : 1 < (((rowP (rd_T45 C (i - 1))).length : Nat) : Int) := by rw [rowP_len]; omega
      have l3 : 0 < (((rowP (rd_T45 C i)).length : Nat) : Int) := by rw [rowP_len]; omega
      have l4 : 1 < (((rowP (rd_T45 C i)).length : Nat) : Int) := by rw [rowP_len]; omega
      rw [spec_TwiceArea.l0, List.length_map, w2, if_pos (by omega), if_pos (by omega), if_pos (by omega), if_pos (by omega), rowP_at (by omega) (by omega), rowP_at (by omega) (by omega), if_pos l1, if_pos l4, if_pos l2, if_pos l3, rowP_0, rowP_0, rowP_1, rowP_1, Int.mul_comm (rd_T45 C (i - 1)).f1, w1]
      exact f1
    · rw [impl_TwiceArea.l0, w2, if_pos (by omega), if_pos (by omega), if_pos (by omega), if_pos (by omega), w1]
      exact f2 k hk
theorem area_both (s : ByteArray) (hs : s.size ≤ 9223372036854775000) : ∃ r, Ev (fun k => spec_TwiceArea.f k s) r ∧ Ev (fun k => impl_TwiceArea.f k s) r := by
  obtain ⟨b, ⟨K1, e1⟩, ⟨K2, e2⟩, hb⟩ := goodP_both s hs
  cases b with
  | false =>
    refine ⟨(0, false), ⟨K1 + 1, fun k hk => ?_⟩, ⟨K2, fun k hk => ?_⟩⟩
    · have e := e1 k (by omega)
      obtain ⟨q, rfl⟩ : ∃ q, k = q + 1 := ⟨k - 1, by omega⟩
      dsimp only at e ⊢
      rw [spec_TwiceArea.f, e, Option.bind_some, if_neg (by simp), spec_TwiceArea.j0, if_pos rfl]
    · have e := e2 k hk
      dsimp only at e ⊢
      rw [impl_TwiceArea.f, impl_ClosesAfter.f, e, Option.bind_some, if_neg (by simp), Option.bind_some, if_neg (by simp)]
  | true =>
    have g := hb.1 rfl
    obtain ⟨K3, f3⟩ := tuCloses_val g
    obtain ⟨K4, f4⟩ := closes_val g
    have hc := clos_in (pl s (s.size / 2) 0) 4 1 (by omega)
    by_cases h0 : clos (pl s (s.size / 2) 0) 4 1 = 0
    · refine ⟨(0, false), ⟨K1 + K3 + 1, fun k hk => ?_⟩, ⟨K2 + K4, fun k hk => ?_⟩⟩
      · have e := e1 k (by omega)
        have f := f3 k (by omega)
        obtain ⟨q, rfl⟩ : ∃ q, k = q + 1 := ⟨k - 1, by omega⟩
        dsimp only at e f ⊢
        rw [spec_TwiceArea.f, e, Option.bind_some, if_pos rfl, f, Option.bind_some, h0, spec_TwiceArea.j0, if_pos (show ((0 : Int) == 0) = true from rfl)]
      · have e := e2 k (by omega)
        have f := f4 k (by omega)
        dsimp only at e f ⊢
        rw [impl_TwiceArea.f, impl_ClosesAfter.f, e, Option.bind_some, if_pos rfl, f, Option.bind_some, h0, if_neg (by simp)]
    · obtain ⟨K5, f5⟩ := tuCorners_val g (m := clos (pl s (s.size / 2) 0) 4 1) (by omega) (by omega)
      obtain ⟨K6, f6⟩ := corners_val g (m := clos (pl s (s.size / 2) 0) 4 1) (by omega) (by omega)
      have hl := cornersOf_length g (m := clos (pl s (s.size / 2) 0) 4 1) (by omega)
      obtain ⟨r, ⟨K7, f7⟩, ⟨K8, f8⟩⟩ := area_l0 (C := cornersOf s (clos (pl s (s.size / 2) 0) 4 1)) (by omega) _ 1 0 rfl (by omega) (by omega)
      refine ⟨r, ⟨K1 + K3 + K5 + K7 + 1, fun k hk => ?_⟩, ⟨K2 + K4 + K6 + K8, fun k hk => ?_⟩⟩
      · have e := e1 k (by omega)
        have f := f3 k (by omega)
        obtain ⟨q, rfl⟩ : ∃ q, k = q + 1 := ⟨k - 1, by omega⟩
        have g1 := f3 q (by omega)
        have g2 := f5 q (by omega)
        have g3 := f7 q (by omega)
        dsimp only at e f g1 g2 g3 ⊢
        rw [spec_TwiceArea.f, e, Option.bind_some, if_pos rfl, f, Option.bind_some, spec_TwiceArea.j0, if_neg (by simpa using h0), g1, Option.bind_some, g2, Option.bind_some]
        exact g3
      · have e := e2 k (by omega)
        have f := f4 k (by omega)
        have g2 := f6 k (by omega)
        have g3 := f8 k (by omega)
        dsimp only at e f g2 g3 ⊢
        rw [impl_TwiceArea.f, impl_ClosesAfter.f, e, Option.bind_some, if_pos rfl, f, Option.bind_some]
        dsimp only
        rw [decide_eq_true (show clos (pl s (s.size / 2) 0) 4 1 > 0 by omega), if_pos rfl, g2, Option.bind_some]
        exact g3
theorem FnExactTwiceArea (a0 : ByteArray) (h0 : a0.size ≤ maxLen) : ∃ k, laws_FnExactTwiceArea.f k a0 = some true := by
  by_cases hs : (a0.size : Int) ≤ 1048576
  · obtain ⟨r, ⟨K1, e1⟩, ⟨K2, e2⟩⟩ := area_both a0 (by omega)
    refine ⟨K1 + K2, ?_⟩
    have e1 := e1 (K1 + K2) (by omega)
    have e2 := e2 (K1 + K2) (by omega)
    dsimp only at e1 e2
    rw [laws_FnExactTwiceArea.f, if_neg (by omega), e1, e2]
    simp only [Option.bind_some, if_true, bne_self_eq_false, Bool.false_eq_true, if_false]
  · refine ⟨0, ?_⟩
    rw [laws_FnExactTwiceArea.f, if_pos (by omega)]

end Go.Proofs.Ythngapcocbclgaa.Pure
