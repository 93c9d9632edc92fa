/- The plain law of PeriodOf: for every world the program's search answers as the reference's loop. No condition. -/
import Derived.Test.YtdjegdgankoofaaDoorPPx4
import Derived.Test.YtdjegdgankoofaaDoorPPx5
import Derived.Test.YtdjegdgankoofaaDoorPPx6
import Derived.Test.YtdjegdgankoofaaDoorPPuWorld
namespace Go.Proofs.YtdjegdgankoofaaDoor.Pure
open Go.RowKit Go.Proofs.YtdjegdgankoofaaDoor Go.Proofs.YtdjegdgankoofaaDoor.PP Go.Proofs.YtdjegdgankoofaaDoorW.PrintWords Go.Proofs.YtdjegdgankoofaaDoorW.PrintLast
set_option linter.unusedVariables false
set_option linter.unusedSimpArgs false

def eqB (s o : Wd) : Bool := (s.ru.toList == o.ru.toList && (s.w == o.w && (s.h == o.h && (s.c.toList == o.c.toList && (s.x == o.x && (s.y == o.y && (s.v == o.v)))))))
theorem period_l0 (o : Wd) (n : Nat) : ∀ (i : Int) (s : Wd), GoodWd s → (4001 - i).toNat = n → 1 ≤ i → i ≤ 4001 → ∃ r, Ev (fun k => spec_loPeriod.l0 k i o.ru o.w o.h o.c o.x o.y o.v s.ru s.w s.h s.c s.x s.y s.v) r ∧ Ev (fun k => impl_search.l0 (impl_PeriodOf.acc o.ru o.w o.h o.c o.x o.y o.v) k 1 i s.nx.ru s.nx.w s.nx.h s.nx.c s.nx.x s.nx.y s.nx.v) (r, decide (r > 0)) := by
  induction n with
  | zero =>
    intro i s g hn h0 h1
    refine ⟨0, Pl.ev_unf ⟨0, fun k _ => ?_⟩, Pl.ev_unf ⟨0, fun k _ => ?_⟩⟩
    · rw [spec_loPeriod.l0, if_neg (by omega)]
    · rw [impl_search.l0, if_neg (by omega)]
      rfl
  | succ n ih =>
    intro i s g hn h0 h1
    have gn := good_nx g
    have w1 : wrap64 (i + 1) = i + 1 := Pl.w64 (by omega) (by omega)
    have ea : impl_PeriodOf.acc o.ru o.w o.h o.c o.x o.y o.v s.nx.ru s.nx.w s.nx.h s.nx.c s.nx.x s.nx.y s.nx.v = eqB s.nx o := rfl
    have es : (s.nx.ru.toList == o.ru.toList && (s.nx.w == o.w && (s.nx.h == o.h && (s.nx.c.toList == o.c.toList && (s.nx.x == o.x && (s.nx.y == o.y && (s.nx.v == o.v))))))) = eqB s.nx o := rfl
    cases hq : eqB s.nx o with
    | true =>
      refine ⟨i, Pl.ev_unf ⟨1, fun k hk => ?_⟩, Pl.ev_unf ⟨0, fun k _ => ?_⟩⟩
      · obtain ⟨q, rfl⟩ : ∃ q, k = q + 1 := ⟨k - 1, by omega⟩
        rw [spec_loPeriod.l0, if_pos (by omega), step_spec g, Option.bind_some]
        dsimp only
        rw [es, hq, if_pos rfl]
      · rw [impl_search.l0, if_pos (by omega), if_pos (by omega), ea, hq, Option.bind_some, if_pos rfl, decide_eq_true (show i > 0 by omega)]
    | false =>
      obtain ⟨r, ⟨K1, f1⟩, ⟨K2, f2⟩⟩ := ih (i + 1) s.nx gn (by omega) (by omega) (by omega)
      refine ⟨r, Pl.ev_unf ⟨K1 + 1, fun k hk => ?_⟩, Pl.ev_unf ⟨K2, fun k hk => ?_⟩⟩
      · obtain ⟨q, rfl⟩ : ∃ q, k = q + 1 := ⟨k - 1, by omega⟩
        rw [spec_loPeriod.l0, if_pos (by omega), step_spec g, Option.bind_some]
        dsimp only
        rw [es, hq, if_neg (by simp), w1]
        exact f1 (q + 1) (by omega)
      · rw [impl_search.l0, if_pos (by omega), if_pos (by omega), ea, hq, Option.bind_some, if_neg (by simp), step_impl gn, Option.bind_some, w1]
        exact f2 k hk
theorem period_both (s : Wd) (hs : s.c.size ≤ 9223372036854775807) : ∃ r, Ev (fun k => spec_PeriodOf.f k s.ru s.w s.h s.c s.x s.y s.v) r ∧ Ev (fun k => impl_PeriodOf.f k s.ru s.w s.h s.c s.x s.y s.v) r := by
  obtain ⟨b, ⟨K1, e1⟩, ⟨K2, e2⟩, hb⟩ := goodW_both s hs
  cases b with
  | false =>
    refine ⟨(0, false), ⟨K1, fun k hk => ?_⟩, ⟨K2, fun k hk => ?_⟩⟩
    · have e : spec_woGood.f k s.ru s.w s.h s.c s.x s.y s.v = some false := e1 k hk
      dsimp only
      rw [spec_PeriodOf.f, e, Option.bind_some, if_neg (by simp)]
    · have e : impl_IsWorld.f k s.ru s.w s.h s.c s.x s.y s.v = some false := e2 k hk
      dsimp only
      rw [impl_PeriodOf.f, impl_search.f, e, Option.bind_some, if_neg (by simp)]
  | true =>
    have g := hb.1 rfl
    obtain ⟨r, ⟨K3, f3⟩, ⟨K4, f4⟩⟩ := period_l0 s _ 1 s g rfl (by omega) (by omega)
    refine ⟨(r, decide (r > 0)), ⟨K1 + K3, fun k hk => ?_⟩, ⟨K2 + K4 + 1, fun k hk => ?_⟩⟩
    · have e : spec_woGood.f k s.ru s.w s.h s.c s.x s.y s.v = some true := e1 k (by omega)
      have f : spec_loPeriod.l0 k 1 s.ru s.w s.h s.c s.x s.y s.v s.ru s.w s.h s.c s.x s.y s.v = some r := f3 k (by omega)
      dsimp only
      rw [spec_PeriodOf.f, e, Option.bind_some, if_pos rfl, spec_loPeriod.f, f, Option.bind_some]
    · have e : impl_IsWorld.f k s.ru s.w s.h s.c s.x s.y s.v = some true := e2 k (by omega)
      obtain ⟨q, rfl⟩ : ∃ q, k = q + 1 := ⟨k - 1, by omega⟩
      dsimp only
      rw [impl_PeriodOf.f, impl_search.f, e, Option.bind_some, if_pos rfl, impl_search.l0, if_pos (by omega), if_neg (by omega), step_impl g, Option.bind_some, show wrap64 (0 + 1) = 1 from Pl.w64 (by omega) (by omega)]
      exact f4 q (by omega)
theorem FnExactPeriodOf (a0_0 : ByteArray) (a0_1 : Int) (a0_2 : Int) (a0_3 : ByteArray) (a0_4 : Int) (a0_5 : Int) (a0_6 : Int) (h0 : (a0_0.size ≤ maxLen) ∧ ((Lit.int .i64 a0_1).wf = true) ∧ ((Lit.int .i64 a0_2).wf = true) ∧ (a0_3.size ≤ maxLen) ∧ ((Lit.int .i64 a0_4).wf = true) ∧ ((Lit.int .i64 a0_5).wf = true) ∧ ((Lit.int .i64 a0_6).wf = true)) : ∃ k, laws_FnExactPeriodOf.f k a0_0 a0_1 a0_2 a0_3 a0_4 a0_5 a0_6 = some true := by
  obtain ⟨hr, _, _, hd, _⟩ := h0
  have hr := Pl.le_max hr
  have hd := Pl.le_max hd
  by_cases hs : (a0_0.size : Int) + a0_3.size ≤ 1048576
  · obtain ⟨r, ⟨K1, e1⟩, ⟨K2, e2⟩⟩ := period_both ⟨a0_0, a0_1, a0_2, a0_3, a0_4, a0_5, a0_6⟩ hd
    refine ⟨K1 + K2, ?_⟩
    have e1 : spec_PeriodOf.f (K1 + K2) a0_0 a0_1 a0_2 a0_3 a0_4 a0_5 a0_6 = some r := e1 (K1 + K2) (by omega)
    have e2 : impl_PeriodOf.f (K1 + K2) a0_0 a0_1 a0_2 a0_3 a0_4 a0_5 a0_6 = some r := e2 (K1 + K2) (by omega)
    rw [laws_FnExactPeriodOf.f, szW_small hs, Option.bind_some, if_neg (by omega)]
    simp only [laws_toWorld.f, Option.bind_some]
    rw [e1, e2]
    simp only [Option.bind_some, if_true, bne_self_eq_false, Bool.false_eq_true, if_false]
  · refine ⟨0, ?_⟩
    rw [laws_FnExactPeriodOf.f, szW_big hr hd (by omega), Option.bind_some, if_pos (by omega)]

end Go.Proofs.YtdjegdgankoofaaDoor.Pure
