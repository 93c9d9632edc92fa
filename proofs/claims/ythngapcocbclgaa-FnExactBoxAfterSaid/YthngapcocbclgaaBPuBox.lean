/- The plain law of BoxAfter: for every program and number of repeats the program's box is the reference's. No condition. -/
import Derived.Test.YthngapcocbclgaaPBx2
import Derived.Test.YthngapcocbclgaaPBx3
import Derived.Test.YthngapcocbclgaaPBx4
import Derived.Test.YthngapcocbclgaaPBx6
import Derived.Test.YthngapcocbclgaaPBx7
import Derived.Test.YthngapcocbclgaaBPuCorn
import Derived.Test.YthngapcocbclgaaBPuInts
namespace Go.Proofs.Ythngapcocbclgaa.Pure
open Go.RowKit Go.Proofs.Ythngapcocbclgaa Go.Proofs.Ythngapcocbclgaa.PB Go.Proofs.YthngapcocbclgaaW.PrintWords Go.Proofs.YthngapcocbclgaaW.PrintLast
set_option linter.unusedVariables false
set_option linter.unusedSimpArgs false

theorem least_val (a b : Int) : spec_l1Least.f a b = some (mn a b) := by
  unfold spec_l1Least.f mn
  by_cases h : a < b
  · rw [if_pos h, if_neg (by omega)]
  · rw [if_neg h]
    by_cases h2 : b < a
    · rw [if_pos h2]
    · rw [if_neg h2, show b = a by omega]
theorem most_val (a b : Int) : spec_l1Most.f a b = some (mx a b) := by
  unfold spec_l1Most.f mx
  by_cases h : a > b
  · rw [if_pos h, if_neg (by omega)]
  · rw [if_neg h]
    by_cases h2 : a < b
    · rw [if_pos h2]
    · rw [if_neg h2, show b = a by omega]
theorem box_l0 {C : List Pt} (hC : C.length ≤ 1000000) (n : Nat) : ∀ (i a b c d : Int), ((C.length : Int) - i).toNat = n → 0 ≤ i → i ≤ C.length → ∃ r : List Int, r.length = 4 ∧ Ev (fun k => spec_tuBox.l0 k [a, b, c, d] (C.map rowP) C.length i) r ∧ Ev (fun k => impl_box.l0 k [a, b, c, d] C C.length i) r := by
  induction n with
  | zero =>
    intro i a b c d hn h1 h2
    refine ⟨[a, b, c, d], rfl, Pl.ev_unf ⟨0, fun k _ => ?_⟩, Pl.ev_unf ⟨0, fun k _ => ?_⟩⟩
    · rw [spec_tuBox.l0, if_neg (by omega)]
    · rw [impl_box.l0, if_neg (by omega)]
  | succ n ih =>
    intro i a b c d hn h1 h2
    have w1 : wrap64 (i + 1) = i + 1 := Pl.w64 (by omega) (by omega)
    obtain ⟨r, hr, ⟨K1, f1⟩, ⟨K2, f2⟩⟩ := ih (i + 1) (mn a (rd_T45 C i).f0) (mx b (rd_T45 C i).f0) (mn c (rd_T45 C i).f1) (mx d (rd_T45 C i).f1) (by omega) (by omega) (by omega)
    have q : (((([a, b, c, d] : List Int)).length : Nat) : Int) = 4 := rfl
    have q0 : rd ([a, b, c, d] : List Int) 0 = a := rfl
    have q1 : rd ([a, b, c, d] : List Int) 1 = b := rfl
    have q2 : rd ([a, b, c, d] : List Int) 2 = c := rfl
    have q3 : rd ([a, b, c, d] : List Int) 3 = d := rfl
    refine ⟨r, hr, Pl.ev_unf ⟨K1, fun k hk => ?_⟩, Pl.ev_unf ⟨K2, fun k hk => ?_⟩⟩
    · have f1 := f1 k hk
      dsimp only at f1
      have l1 : 0 < (((rowP (rd_T45 C i)).length : Nat) : Int) := by rw [rowP_len]; omega
      have l2 : 1 < (((rowP (rd_T45 C i)).length : Nat) : Int) := by rw [rowP_len]; omega
      rw [spec_tuBox.l0, List.length_map, q, q0, q1, q2, q3, if_pos (by omega), if_pos (by omega), if_pos (by omega), if_pos (by omega), rowP_at (by omega) (by omega), if_pos l1, rowP_0, rowP_1, least_val, Option.bind_some, if_pos (by omega), most_val, Option.bind_some, if_pos (by omega), if_pos l2, least_val, Option.bind_some, if_pos (by omega), most_val, Option.bind_some, w1]
      exact f1
    · have f2 := f2 k hk
      dsimp only at f2
      rw [impl_box.l0, q, q0, q1, q2, q3, w1, if_pos (by omega), if_pos (by omega), if_pos (by omega), if_pos (by omega), if_pos (by omega), if_pos (by omega), if_pos (by omega)]
      exact f2
theorem box_val {C : List Pt} (h1 : 1 ≤ C.length) (hC : C.length ≤ 1000000) : ∃ r : List Int, r.length = 4 ∧ Ev (fun k => spec_tuBox.f k (C.map rowP)) r ∧ Ev (fun k => impl_box.f k C) r := by
  obtain ⟨r, hr, ⟨K1, f1⟩, ⟨K2, f2⟩⟩ := box_l0 hC _ 0 (rd_T45 C 0).f0 (rd_T45 C 0).f0 (rd_T45 C 0).f1 (rd_T45 C 0).f1 rfl (by omega) (by omega)
  refine ⟨r, hr, ⟨K1, fun k hk => ?_⟩, ⟨K2, fun k hk => ?_⟩⟩
  · have f1 := f1 k hk
    dsimp only at f1 ⊢
    have l1 : 0 < (((rowP (rd_T45 C 0)).length : Nat) : Int) := by rw [rowP_len]; omega
    have l2 : 1 < (((rowP (rd_T45 C 0)).length : Nat) : Int) := by rw [rowP_len]; omega
    rw [spec_tuBox.f, List.length_map, if_pos (by omega), rowP_at (by omega) (by omega), if_pos l1, if_pos l2, rowP_0, rowP_1]
    exact f1
  · have f2 := f2 k hk
    dsimp only at f2 ⊢
    rw [impl_box.f, if_pos (by omega)]
    exact f2
theorem few_both (s : ByteArray) (m : Int) (hs : s.size ≤ 9223372036854775000) : ∃ b, Ev (fun k => spec_tuFew.f k s m) b ∧ Ev (fun k => impl_isCornered.f k s m) b ∧ (b = true → GoodP s ∧ 0 ≤ m ∧ m ≤ 100) := by
  obtain ⟨b, ⟨K1, e1⟩, ⟨K2, e2⟩, hb⟩ := asked_bothP s m hs
  cases b with
  | false =>
    refine ⟨false, ⟨K1, fun k hk => ?_⟩, ⟨K2, fun k hk => ?_⟩, by simp⟩
    · have e := e1 k hk
      dsimp only at e ⊢
      rw [spec_tuFew.f, e, Option.bind_some, if_neg (by simp)]
    · have e := e2 k hk
      dsimp only at e ⊢
      rw [impl_isCornered.f, e, Option.bind_some, if_neg (by simp)]
  | true =>
    refine ⟨decide ((wrap64 ((wrap64 ((s.size : Int) / 2)) * m)) ≤ 400), ⟨K1, fun k hk => ?_⟩, ⟨K2, fun k hk => ?_⟩, fun _ => hb.1 rfl⟩
    · have e := e1 k hk
      dsimp only at e ⊢
      rw [spec_tuFew.f, e, Option.bind_some, if_pos rfl]
    · have e := e2 k hk
      dsimp only at e ⊢
      rw [impl_isCornered.f, e, Option.bind_some, if_pos rfl]
theorem boxAfter_both (s : ByteArray) (m : Int) (hs : s.size ≤ 9223372036854775000) : ∃ l b, Ev (fun k => spec_BoxAfter.f k s m) (l, b) ∧ Ev (fun k => impl_BoxAfter.f k s m) (l, b) ∧ l.length ≤ 4 := by
  obtain ⟨b, ⟨K1, e1⟩, ⟨K2, e2⟩, hb⟩ := few_both s m hs
  cases b with
  | false =>
    refine ⟨[], false, ⟨K1, fun k hk => ?_⟩, ⟨K2, fun k hk => ?_⟩, by simp⟩
    · have e := e1 k hk
      dsimp only at e ⊢
      rw [spec_BoxAfter.f, e, Option.bind_some, if_neg (by simp)]
    · have e := e2 k hk
      dsimp only at e ⊢
      rw [impl_BoxAfter.f, e, Option.bind_some, if_neg (by simp)]
  | true =>
    obtain ⟨g, m0, m1⟩ := hb rfl
    obtain ⟨K3, f3⟩ := tuCorners_val g m0 m1
    obtain ⟨K4, f4⟩ := corners_val g m0 m1
    have hl := cornersOf_length g m1
    obtain ⟨r, hr, ⟨K5, f5⟩, ⟨K6, f6⟩⟩ := box_val (C := cornersOf s m) hl.1 (by omega)
    refine ⟨r, true, ⟨K1 + K3 + K5, fun k hk => ?_⟩, ⟨K2 + K4 + K6, fun k hk => ?_⟩, by omega⟩
    · have e := e1 k (by omega)
      have f := f3 k (by omega)
      have h := f5 k (by omega)
      dsimp only at e f h ⊢
      rw [spec_BoxAfter.f, e, Option.bind_some, if_pos rfl, f, Option.bind_some, h, Option.bind_some]
    · have e := e2 k (by omega)
      have f := f4 k (by omega)
      have h := f6 k (by omega)
      dsimp only at e f h ⊢
      rw [impl_BoxAfter.f, e, Option.bind_some, if_pos rfl, f, Option.bind_some, h, Option.bind_some]
theorem FnExactBoxAfter (a0 : ByteArray) (a1 : Int) (h0 : a0.size ≤ maxLen) (h1 : (Lit.int .i64 a1).wf = true) : ∃ k, laws_FnExactBoxAfter.f k a0 a1 = some true := by
  by_cases hs : (a0.size : Int) ≤ 1048576
  · obtain ⟨l, b, ⟨K1, e1⟩, ⟨K2, e2⟩, hl⟩ := boxAfter_both a0 a1 (by omega)
    obtain ⟨K5, e5⟩ := eqIntS_self (l := l) (by omega)
    obtain ⟨l', ⟨K6, e6⟩, ⟨K7, e7⟩, hl'⟩ := mark_held (a := 1) (l := l) (by omega) (by omega) (by omega)
    obtain ⟨K, hK⟩ : ∃ K, K = K1 + K2 + K5 + K6 + K7 := ⟨_, rfl⟩
    refine ⟨K + 2, ?_⟩
    have f3 : spec_BoxAfter.f (K + 2) a0 a1 = some (l, b) := e1 (K + 2) (by omega)
    have f4 : impl_BoxAfter.f (K + 2) a0 a1 = some (l, b) := e2 (K + 2) (by omega)
    have f5 : laws_eqIntS.f (K + 2) l l = some true := e5 (K + 2) (by omega)
    have g4 : impl_BoxAfter.f (K + 1) a0 a1 = some (l, b) := e2 (K + 1) (by omega)
    have g5 : laws_eqIntS.f (K + 1) l l = some true := e5 (K + 1) (by omega)
    have g6 : laws_markIntS.f (K + 1) l 1 = some (1 + (l.length : Int), l') := e6 (K + 1) (by omega)
    have g7 : laws_heldIntS.f (K + 1) l' 1 = some (1 + (l.length : Int)) := e7 (K + 1) (by omega)
    have i7 : laws_heldIntS.f K l' 1 = some (1 + (l.length : Int)) := e7 K (by omega)
    rw [laws_FnExactBoxAfter.f, if_neg (by omega), f3, Option.bind_some, f4, Option.bind_some]
    simp only []
    rw [f5, Option.bind_some, if_pos rfl, bne_self_eq_false, laws_FnExactBoxAfter.j0, if_neg (by simp), g6, Option.bind_some]
    simp only []
    rw [g7, Option.bind_some, if_neg (by omega), if_pos rfl, g4, Option.bind_some]
    simp only []
    rw [g5, Option.bind_some, if_pos rfl, bne_self_eq_false, laws_FnExactBoxAfter.j1, if_neg (by simp), i7, Option.bind_some, if_neg (by omega), if_pos rfl]
  · refine ⟨0, ?_⟩
    rw [laws_FnExactBoxAfter.f, if_pos (by omega)]

end Go.Proofs.Ythngapcocbclgaa.Pure
