/- The plain law of StepsBetween: for every two worlds the program's search answers as the reference's loop. No condition. -/
import Derived.Test.YtdjegdgankoofaaDoorPBx3
import Derived.Test.YtdjegdgankoofaaDoorPBx5
import Derived.Test.YtdjegdgankoofaaDoorPBx6
import Derived.Test.YtdjegdgankoofaaDoorPBx7
import Derived.Test.YtdjegdgankoofaaDoorPBx8
import Derived.Test.YtdjegdgankoofaaDoorBPuWorld
namespace Go.Proofs.YtdjegdgankoofaaDoor.Pure
open Go.RowKit Go.Proofs.YtdjegdgankoofaaDoor Go.Proofs.YtdjegdgankoofaaDoor.PB Go.Proofs.YtdjegdgankoofaaDoorW.PrintWords Go.Proofs.YtdjegdgankoofaaDoorW.PrintLast
set_option linter.unusedVariables false
set_option linter.unusedSimpArgs false

def eqW (s o : Wd) : Bool := (s.ru.toList == o.ru.toList && (s.w == o.w && (s.h == o.h && (s.c.toList == o.c.toList && (s.x == o.x && (s.y == o.y && (s.v == o.v)))))))
theorem between_l0 (o : Wd) (n : Nat) : ∀ (i : Int) (s : Wd), GoodWd s → (4001 - i).toNat = n → 0 ≤ i → i ≤ 4001 → ∃ r, Ev (fun k => spec_StepsBetween.l0 k i s.ru s.w s.h s.c s.x s.y s.v o.ru o.w o.h o.c o.x o.y o.v) r ∧ Ev (fun k => impl_search.l0 (impl_StepsBetween.acc o.ru o.w o.h o.c o.x o.y o.v) k 0 i s.ru s.w s.h s.c s.x s.y s.v) r := by
  induction n with
  | zero =>
    intro i s g hn h0 h1
    refine ⟨(0, false), Pl.ev_unf ⟨0, fun k _ => ?_⟩, Pl.ev_unf ⟨0, fun k _ => ?_⟩⟩
    · rw [spec_StepsBetween.l0, if_neg (by omega)]
    · rw [impl_search.l0, if_neg (by omega)]
  | succ n ih =>
    intro i s g hn h0 h1
    have w1 : wrap64 (i + 1) = i + 1 := Pl.w64 (by omega) (by omega)
    have ea : impl_StepsBetween.acc o.ru o.w o.h o.c o.x o.y o.v s.ru s.w s.h s.c s.x s.y s.v = eqW s o := rfl
    have es : (s.ru.toList == o.ru.toList && (s.w == o.w && (s.h == o.h && (s.c.toList == o.c.toList && (s.x == o.x && (s.y == o.y && (s.v == o.v))))))) = eqW s o := rfl
    cases hq : eqW s o with
    | true =>
      refine ⟨(i, true), Pl.ev_unf ⟨0, fun k hk => ?_⟩, Pl.ev_unf ⟨0, fun k _ => ?_⟩⟩
      · rw [spec_StepsBetween.l0, if_pos (by omega), es, hq, if_pos rfl]
      · rw [impl_search.l0, if_pos (by omega), if_pos (by omega), ea, hq, Option.bind_some, if_pos rfl]
    | false =>
      obtain ⟨r, ⟨K1, f1⟩, ⟨K2, f2⟩⟩ := ih (i + 1) s.nx (good_nx g) (by omega) (by omega) (by omega)
      refine ⟨r, Pl.ev_unf ⟨K1 + 1, fun k hk => ?_⟩, Pl.ev_unf ⟨K2, fun k hk => ?_⟩⟩
      · obtain ⟨q, rfl⟩ : ∃ q, k = q + 1 := ⟨k - 1, by omega⟩
        rw [spec_StepsBetween.l0, if_pos (by omega), es, hq, if_neg (by simp), step_spec g, Option.bind_some, w1]
        exact f1 (q + 1) (by omega)
      · rw [impl_search.l0, if_pos (by omega), if_pos (by omega), ea, hq, Option.bind_some, if_neg (by simp), step_impl g, Option.bind_some, w1]
        exact f2 k hk
theorem between_both (s o : Wd) (hs : s.c.size ≤ 9223372036854775807) (ho : o.c.size ≤ 9223372036854775807) : ∃ r, Ev (fun k => spec_StepsBetween.f k s.ru s.w s.h s.c s.x s.y s.v o.ru o.w o.h o.c o.x o.y o.v) r ∧ Ev (fun k => impl_StepsBetween.f k s.ru s.w s.h s.c s.x s.y s.v o.ru o.w o.h o.c o.x o.y o.v) r := by
  obtain ⟨b, ⟨K1, e1⟩, ⟨K2, e2⟩, hb⟩ := goodW_both s hs
  obtain ⟨d, ⟨K3, e3⟩, ⟨K4, e4⟩, hd⟩ := goodW_both o ho
  cases d with
  | false =>
    refine ⟨(0, false), ⟨K1 + K3 + 1, fun k hk => ?_⟩, ⟨K4, fun k hk => ?_⟩⟩
    · have f1 : spec_woGood.f k s.ru s.w s.h s.c s.x s.y s.v = some b := e1 k (by omega)
      have f3 : spec_woGood.f k o.ru o.w o.h o.c o.x o.y o.v = some false := e3 k (by omega)
      obtain ⟨q, rfl⟩ : ∃ q, k = q + 1 := ⟨k - 1, by omega⟩
      dsimp only
      rw [spec_StepsBetween.f, f1, Option.bind_some]
      cases b with
      | true => rw [if_pos rfl, f3, Option.bind_some, spec_StepsBetween.j0, if_pos (by rfl)]
      | false => rw [if_neg (by simp), spec_StepsBetween.j0, if_pos rfl]
    · have f4 : impl_IsWorld.f k o.ru o.w o.h o.c o.x o.y o.v = some false := e4 k hk
      dsimp only
      rw [impl_StepsBetween.f, f4, Option.bind_some, if_neg (by simp)]
  | true =>
    cases b with
    | false =>
      refine ⟨(0, false), ⟨K1 + 1, fun k hk => ?_⟩, ⟨K4 + K2, fun k hk => ?_⟩⟩
      · have f1 : spec_woGood.f k s.ru s.w s.h s.c s.x s.y s.v = some false := e1 k (by omega)
        obtain ⟨q, rfl⟩ : ∃ q, k = q + 1 := ⟨k - 1, by omega⟩
        dsimp only
        rw [spec_StepsBetween.f, f1, Option.bind_some, if_neg (by simp), spec_StepsBetween.j0, if_pos rfl]
      · have f4 : impl_IsWorld.f k o.ru o.w o.h o.c o.x o.y o.v = some true := e4 k (by omega)
        have f2 : impl_IsWorld.f k s.ru s.w s.h s.c s.x s.y s.v = some false := e2 k (by omega)
        dsimp only
        rw [impl_StepsBetween.f, f4, Option.bind_some, if_pos rfl, impl_search.f, f2, Option.bind_some, if_neg (by simp)]
    | true =>
      obtain ⟨r, ⟨K5, f5⟩, ⟨K6, f6⟩⟩ := between_l0 o _ 0 s (hb.1 rfl) rfl (by omega) (by omega)
      refine ⟨r, ⟨K1 + K3 + K5 + 1, fun k hk => ?_⟩, ⟨K4 + K2 + K6, fun k hk => ?_⟩⟩
      · have f1 : spec_woGood.f k s.ru s.w s.h s.c s.x s.y s.v = some true := e1 k (by omega)
        have f3 : spec_woGood.f k o.ru o.w o.h o.c o.x o.y o.v = some true := e3 k (by omega)
        obtain ⟨q, rfl⟩ : ∃ q, k = q + 1 := ⟨k - 1, by omega⟩
        dsimp only
        rw [spec_StepsBetween.f, f1, Option.bind_some, if_pos rfl, f3, Option.bind_some, spec_StepsBetween.j0, if_neg (by simp)]
        exact f5 q (by omega)
      · have f4 : impl_IsWorld.f k o.ru o.w o.h o.c o.x o.y o.v = some true := e4 k (by omega)
        have f2 : impl_IsWorld.f k s.ru s.w s.h s.c s.x s.y s.v = some true := e2 k (by omega)
        dsimp only
        rw [impl_StepsBetween.f, f4, Option.bind_some, if_pos rfl, impl_search.f, f2, Option.bind_some, if_pos rfl]
        exact f6 k (by omega)
theorem szW2 {ru : ByteArray} {w h : Int} {c : ByteArray} {x y v L : Int} (hL : 0 ≤ L) (hL1 : L ≤ 1048576) (hr : ru.size ≤ 9223372036854775807) (hd : c.size ≤ 9223372036854775807) : ∃ r, laws_szWorld.f ru w h c x y v L = some r := by
  have e1 : wrap64 (L - (ru.size : Int)) = L - ru.size := Pl.w64 (by omega) (by omega)
  by_cases c1 : L - (ru.size : Int) < 0
  · exact ⟨_, by rw [laws_szWorld.f, e1, if_pos c1]⟩
  · have e2 : wrap64 (L - (ru.size : Int) - (c.size : Int)) = L - ru.size - c.size := Pl.w64 (by omega) (by omega)
    by_cases c2 : L - (ru.size : Int) - (c.size : Int) < 0
    · exact ⟨_, by rw [laws_szWorld.f, e1, if_neg c1, e2, if_pos c2]⟩
    · exact ⟨_, by rw [laws_szWorld.f, e1, if_neg c1, e2, if_neg c2]⟩
theorem FnExactStepsBetween (a0_0 : ByteArray) (a0_1 : Int) (a0_2 : Int) (a0_3 : ByteArray) (a0_4 : Int) (a0_5 : Int) (a0_6 : Int) (a1_0 : ByteArray) (a1_1 : Int) (a1_2 : Int) (a1_3 : ByteArray) (a1_4 : Int) (a1_5 : Int) (a1_6 : Int) (h0 : (a0_0.size ≤ maxLen) ∧ ((Lit.int .i64 a0_1).wf = true) ∧ ((Lit.int .i64 a0_2).wf = true) ∧ (a0_3.size ≤ maxLen) ∧ ((Lit.int .i64 a0_4).wf = true) ∧ ((Lit.int .i64 a0_5).wf = true) ∧ ((Lit.int .i64 a0_6).wf = true)) (h1 : (a1_0.size ≤ maxLen) ∧ ((Lit.int .i64 a1_1).wf = true) ∧ ((Lit.int .i64 a1_2).wf = true) ∧ (a1_3.size ≤ maxLen) ∧ ((Lit.int .i64 a1_4).wf = true) ∧ ((Lit.int .i64 a1_5).wf = true) ∧ ((Lit.int .i64 a1_6).wf = true)) : ∃ k, laws_FnExactStepsBetween.f k a0_0 a0_1 a0_2 a0_3 a0_4 a0_5 a0_6 a1_0 a1_1 a1_2 a1_3 a1_4 a1_5 a1_6 = some true := by
  obtain ⟨hr, _, _, hd, _⟩ := h0
  have hr := Pl.le_max hr
  have hd := Pl.le_max hd
  obtain ⟨hr1, _, _, hd1, _⟩ := h1
  have hr1 := Pl.le_max hr1
  have hd1 := Pl.le_max hd1
  by_cases hs : (a0_0.size : Int) + a0_3.size ≤ 1048576
  · obtain ⟨z, hz⟩ := szW2 (ru := a1_0) (w := a1_1) (h := a1_2) (c := a1_3) (x := a1_4) (y := a1_5) (v := a1_6) (L := 1048576 - (a0_0.size : Int) - (a0_3.size : Int)) (by omega) (by omega) hr1 hd1
    by_cases cz : z < 0
    · refine ⟨0, ?_⟩
      rw [laws_FnExactStepsBetween.f, szW_small hs, Option.bind_some, if_neg (by omega), hz, Option.bind_some, if_pos cz]
    · obtain ⟨r, ⟨K1, e1⟩, ⟨K2, e2⟩⟩ := between_both ⟨a0_0, a0_1, a0_2, a0_3, a0_4, a0_5, a0_6⟩ ⟨a1_0, a1_1, a1_2, a1_3, a1_4, a1_5, a1_6⟩ hd hd1
      refine ⟨K1 + K2, ?_⟩
      have e1 : spec_StepsBetween.f (K1 + K2) a0_0 a0_1 a0_2 a0_3 a0_4 a0_5 a0_6 a1_0 a1_1 a1_2 a1_3 a1_4 a1_5 a1_6 = some r := e1 (K1 + K2) (by omega)
      have e2 : impl_StepsBetween.f (K1 + K2) a0_0 a0_1 a0_2 a0_3 a0_4 a0_5 a0_6 a1_0 a1_1 a1_2 a1_3 a1_4 a1_5 a1_6 = some r := e2 (K1 + K2) (by omega)
      rw [laws_FnExactStepsBetween.f, szW_small hs, Option.bind_some, if_neg (by omega), hz, Option.bind_some, if_neg cz]
      simp only [laws_toWorld.f, Option.bind_some]
      rw [e1, e2]
      simp only [Option.bind_some, if_true, bne_self_eq_false, Bool.false_eq_true, if_false]
  · refine ⟨0, ?_⟩
    rw [laws_FnExactStepsBetween.f, szW_big hr hd (by omega), Option.bind_some, if_pos (by omega)]

end Go.Proofs.YtdjegdgankoofaaDoor.Pure
