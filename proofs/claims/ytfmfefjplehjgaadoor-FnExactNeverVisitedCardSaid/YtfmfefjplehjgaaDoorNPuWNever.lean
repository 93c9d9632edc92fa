/- The plain law of NeverVisited: for every world the program's list is the reference's. No condition. -/
import Derived.Test.YtfmfefjplehjgaaDoorPNx5
import Derived.Test.YtfmfefjplehjgaaDoorPNx6
import Derived.Test.YtfmfefjplehjgaaDoorPNx8
import Derived.Test.YtfmfefjplehjgaaDoorPNx9
import Derived.Test.YtfmfefjplehjgaaDoorPNx10
import Derived.Test.YtfmfefjplehjgaaDoorNPuWVisits
namespace Go.Proofs.YtfmfefjplehjgaaDoor.Pure
open Go.RowKit Go.Proofs.YtfmfefjplehjgaaDoor Go.Proofs.YtfmfefjplehjgaaDoor.PN Go.Proofs.YtfmfefjplehjgaaDoorW.PrintWords Go.Proofs.YtfmfefjplehjgaaDoorW.PrintLast
set_option linter.unusedVariables false
set_option linter.unusedSimpArgs false

def eqN (s o : Wd) : Bool := (s.ru.toList == o.ru.toList && (s.w == o.w && (s.h == o.h && (s.c.toList == o.c.toList && (s.x == o.x && (s.y == o.y && (s.v == o.v)))))))
theorem per_l0 (o : Wd) (n : Nat) : ∀ (i : Int) (s : Wd), GoodWd s → (4001 - i).toNat = n → 1 ≤ i → i ≤ 4001 → ∃ r, Ev (fun k => spec_loPeriod.l0 k i o.ru o.w o.h o.c o.x o.y o.v s.ru s.w s.h s.c s.x s.y s.v) r ∧ Ev (fun k => impl_search.l0 (impl_PeriodOf.acc o.ru o.w o.h o.c o.x o.y o.v) k 1 i s.nx.ru s.nx.w s.nx.h s.nx.c s.nx.x s.nx.y s.nx.v) (r, decide (r > 0)) ∧ 0 ≤ r ∧ r ≤ 4000 := by
  induction n with
  | zero =>
    intro i s g hn h0 h1
    refine ⟨0, Pl.ev_unf ⟨0, fun k _ => ?_⟩, Pl.ev_unf ⟨0, fun k _ => ?_⟩, by omega, by omega⟩
    · rw [spec_loPeriod.l0, if_neg (by omega)]
    · rw [impl_search.l0, if_neg (by omega)]
      rfl
  | succ n ih =>
    intro i s g hn h0 h1
    have gn := good_nx g
    have w1 : wrap64 (i + 1) = i + 1 := Pl.w64 (by omega) (by omega)
    have ea : impl_PeriodOf.acc o.ru o.w o.h o.c o.x o.y o.v s.nx.ru s.nx.w s.nx.h s.nx.c s.nx.x s.nx.y s.nx.v = eqN s.nx o := rfl
    have es : (s.nx.ru.toList == o.ru.toList && (s.nx.w == o.w && (s.nx.h == o.h && (s.nx.c.toList == o.c.toList && (s.nx.x == o.x && (s.nx.y == o.y && (s.nx.v == o.v))))))) = eqN s.nx o := rfl
    cases hq : eqN s.nx o with
    | true =>
      refine ⟨i, Pl.ev_unf ⟨1, fun k hk => ?_⟩, Pl.ev_unf ⟨0, fun k _ => ?_⟩, by omega, by omega⟩
      · obtain ⟨q, rfl⟩ : ∃ q, k = q + 1 := ⟨k - 1, by omega⟩
        rw [spec_loPeriod.l0, if_pos (by omega), step_spec g, Option.bind_some]
        dsimp only
        rw [es, hq, if_pos rfl]
      · rw [impl_search.l0, if_pos (by omega), if_pos (by omega), ea, hq, Option.bind_some, if_pos rfl, decide_eq_true (show i > 0 by omega)]
    | false =>
      obtain ⟨r, ⟨K1, f1⟩, ⟨K2, f2⟩, r0, r1⟩ := ih (i + 1) s.nx gn (by omega) (by omega) (by omega)
      refine ⟨r, Pl.ev_unf ⟨K1 + 1, fun k hk => ?_⟩, Pl.ev_unf ⟨K2, fun k hk => ?_⟩, r0, r1⟩
      · obtain ⟨q, rfl⟩ : ∃ q, k = q + 1 := ⟨k - 1, by omega⟩
        rw [spec_loPeriod.l0, if_pos (by omega), step_spec g, Option.bind_some]
        dsimp only
        rw [es, hq, if_neg (by simp), w1]
        exact f1 (q + 1) (by omega)
      · rw [impl_search.l0, if_pos (by omega), if_pos (by omega), ea, hq, Option.bind_some, if_neg (by simp), step_impl gn, Option.bind_some, w1]
        exact f2 k hk
theorem nev_l0 {T : List Int} (hT : T.length ≤ 1000) (n : Nat) : ∀ (i : Int) (acc : List Int), ((T.length : Int) - i).toNat = n → 0 ≤ i → i ≤ T.length → acc.length + n ≤ 100000 → ∃ r, Ev (fun k => spec_NeverVisited.l0 k acc T T.length i) (r, true) ∧ Ev (fun k => impl_unvisited.l0 k acc T T.length i) r ∧ r.length ≤ 100000 := by
  induction n with
  | zero =>
    intro i acc hn h0 h1 ha
    refine ⟨acc, Pl.ev_unf ⟨0, fun k _ => ?_⟩, Pl.ev_unf ⟨0, fun k _ => ?_⟩, by omega⟩
    · rw [spec_NeverVisited.l0, if_neg (by omega)]
    · rw [impl_unvisited.l0, if_neg (by omega)]
  | succ n ih =>
    intro i acc hn h0 h1 ha
    have w1 : wrap64 (i + 1) = i + 1 := Pl.w64 (by omega) (by omega)
    by_cases c : rd T i = 0
    · obtain ⟨r, ⟨K1, f1⟩, ⟨K2, f2⟩, hr⟩ := ih (i + 1) (acc ++ [i]) (by omega) (by omega) (by omega) (by simp <;> omega)
      refine ⟨r, Pl.ev_unf ⟨K1, fun k hk => ?_⟩, Pl.ev_unf ⟨K2, fun k hk => ?_⟩, hr⟩
      · rw [spec_NeverVisited.l0, if_pos (by omega), if_pos h0, if_pos (by omega), if_pos c, if_pos (by omega), w1]
        exact f1 k hk
      · rw [impl_unvisited.l0, if_pos (by omega), if_pos h0, if_pos (by omega), if_pos c, if_pos (by omega), w1]
        exact f2 k hk
    · obtain ⟨r, ⟨K1, f1⟩, ⟨K2, f2⟩, hr⟩ := ih (i + 1) acc (by omega) (by omega) (by omega) (by omega)
      refine ⟨r, Pl.ev_unf ⟨K1, fun k hk => ?_⟩, Pl.ev_unf ⟨K2, fun k hk => ?_⟩, hr⟩
      · rw [spec_NeverVisited.l0, if_pos (by omega), if_pos h0, if_pos (by omega), if_neg c, w1]
        exact f1 k hk
      · rw [impl_unvisited.l0, if_pos (by omega), if_pos h0, if_pos (by omega), if_neg c, w1]
        exact f2 k hk
theorem never_both (s : Wd) (hs : s.c.size ≤ 9223372036854775807) : ∃ l b, Ev (fun k => spec_NeverVisited.f k s.ru s.w s.h s.c s.x s.y s.v) (l, b) ∧ Ev (fun k => impl_NeverVisited.f k s.ru s.w s.h s.c s.x s.y s.v) (l, b) ∧ l.length ≤ 100000 := by
  obtain ⟨b, ⟨K1, e1⟩, ⟨K2, e2⟩, hb⟩ := goodW_both s hs
  cases b with
  | false =>
    refine ⟨[], false, ⟨K1 + 1, fun k hk => ?_⟩, ⟨K2, fun k hk => ?_⟩, by simp⟩
    · have e : spec_woGood.f k s.ru s.w s.h s.c s.x s.y s.v = some false := e1 k (by omega)
      obtain ⟨q, rfl⟩ : ∃ q, k = q + 1 := ⟨k - 1, by omega⟩
      dsimp only
      rw [spec_NeverVisited.f, e, Option.bind_some, if_neg (by simp), spec_NeverVisited.j0, if_pos rfl]
    · have e : impl_IsWorld.f k s.ru s.w s.h s.c s.x s.y s.v = some false := e2 k hk
      dsimp only
      rw [impl_NeverVisited.f, impl_PeriodOf.f, impl_search.f, e, Option.bind_some, if_neg (by simp), Option.bind_some]
      dsimp only
      rw [if_neg (by simp)]
  | true =>
    have g := hb.1 rfl
    obtain ⟨r, ⟨K3, f3⟩, ⟨K4, f4⟩, r0, r1⟩ := per_l0 s _ 1 s g rfl (by omega) (by omega)
    have hper : Ev (fun k => impl_PeriodOf.f k s.ru s.w s.h s.c s.x s.y s.v) (r, decide (r > 0)) := by
      refine ⟨K2 + K4 + 1, fun k hk => ?_⟩
      have e : impl_IsWorld.f k s.ru s.w s.h s.c s.x s.y s.v = some true := e2 k (by omega)
      obtain ⟨q, rfl⟩ : ∃ q, k = q + 1 := ⟨k - 1, by omega⟩
      dsimp only
      rw [impl_PeriodOf.f, impl_search.f, e, Option.bind_some, if_pos rfl, impl_search.l0, if_pos (by omega), if_neg (by omega), step_impl g, Option.bind_some, show wrap64 (0 + 1) = 1 from Pl.w64 (by omega) (by omega)]
      exact f4 q (by omega)
    obtain ⟨K5, f5⟩ := hper
    by_cases c : r = 0
    · subst c
      refine ⟨[], false, ⟨K1 + K3 + 1, fun k hk => ?_⟩, ⟨K5, fun k hk => ?_⟩, by simp⟩
      · have e : spec_woGood.f k s.ru s.w s.h s.c s.x s.y s.v = some true := e1 k (by omega)
        have f : spec_loPeriod.l0 k 1 s.ru s.w s.h s.c s.x s.y s.v s.ru s.w s.h s.c s.x s.y s.v = some 0 := f3 k (by omega)
        obtain ⟨q, rfl⟩ : ∃ q, k = q + 1 := ⟨k - 1, by omega⟩
        dsimp only
        rw [spec_NeverVisited.f, e, Option.bind_some, if_pos rfl, spec_loPeriod.f, f, Option.bind_some, spec_NeverVisited.j0, if_pos (by rfl)]
      · have f5 : impl_PeriodOf.f k s.ru s.w s.h s.c s.x s.y s.v = some (0, decide ((0 : Int) > 0)) := f5 k hk
        dsimp only
        rw [impl_NeverVisited.f, f5, Option.bind_some]
        dsimp only
        rw [if_neg (by decide)]
    · obtain ⟨⟨K6, f6⟩, ⟨K7, f7⟩⟩ := visits_val g r r0 (by omega)
      obtain ⟨q0, q1⟩ := Pl.mul_in (a := s.w) (b := s.h) (A := 9) (B := 9) (by have := g.w1; omega) g.w9 (by have := g.h1; omega) g.h9
      have cs := g.cs
      have hl := vis_length s r.toNat
      generalize s.vis r.toNat = T at f6 f7 hl
      obtain ⟨L, ⟨K8, f8⟩, ⟨K9, f9⟩, hL⟩ := nev_l0 (T := T) (by omega) _ 0 [] rfl (by omega) (by omega) (by simp <;> omega)
      refine ⟨L, true, ⟨K1 + K3 + K6 + K8 + 1, fun k hk => ?_⟩, ⟨K5 + K7 + K9, fun k hk => ?_⟩, hL⟩
      · have e : spec_woGood.f k s.ru s.w s.h s.c s.x s.y s.v = some true := e1 k (by omega)
        have f : spec_loPeriod.l0 k 1 s.ru s.w s.h s.c s.x s.y s.v s.ru s.w s.h s.c s.x s.y s.v = some r := f3 k (by omega)
        obtain ⟨q, rfl⟩ : ∃ q, k = q + 1 := ⟨k - 1, by omega⟩
        have f' : spec_loPeriod.l0 q 1 s.ru s.w s.h s.c s.x s.y s.v s.ru s.w s.h s.c s.x s.y s.v = some r := f3 q (by omega)
        have g6 : spec_loVisits.f q s.ru s.w s.h s.c s.x s.y s.v r = some T := f6 q (by omega)
        dsimp only
        rw [spec_NeverVisited.f, e, Option.bind_some, if_pos rfl, spec_loPeriod.f, f, Option.bind_some, spec_NeverVisited.j0, if_neg (by simpa using c), spec_loPeriod.f, f', Option.bind_some, g6, Option.bind_some]
        exact f8 q (by omega)
      · have g5 : impl_PeriodOf.f k s.ru s.w s.h s.c s.x s.y s.v = some (r, decide (r > 0)) := f5 k (by omega)
        have g7 : impl_visits.f k s.ru s.w s.h s.c s.x s.y s.v r = some T := f7 k (by omega)
        have g9 : impl_unvisited.l0 k ([] : List Int) T T.length 0 = some L := f9 k (by omega)
        dsimp only
        rw [impl_NeverVisited.f, g5, Option.bind_some]
        dsimp only
        rw [if_pos (decide_eq_true (show r > 0 by omega)), impl_unvisited.f, g7, Option.bind_some, g9, Option.bind_some]
theorem FnExactNeverVisited (a0_0 : ByteArray) (a0_1 : Int) (a0_2 : Int) (a0_3 : ByteArray) (a0_4 : Int) (a0_5 : Int) (a0_6 : Int) (h0 : (a0_0.size ≤ maxLen) ∧ ((Lit.int .i64 a0_1).wf = true) ∧ ((Lit.int .i64 a0_2).wf = true) ∧ (a0_3.size ≤ maxLen) ∧ ((Lit.int .i64 a0_4).wf = true) ∧ ((Lit.int .i64 a0_5).wf = true) ∧ ((Lit.int .i64 a0_6).wf = true)) : ∃ k, laws_FnExactNeverVisited.f k a0_0 a0_1 a0_2 a0_3 a0_4 a0_5 a0_6 = some true := by
  obtain ⟨hr, _, _, hd, _⟩ := h0
  have hr := Pl.le_max hr
  have hd := Pl.le_max hd
  by_cases hs : (a0_0.size : Int) + a0_3.size ≤ 1048576
  · obtain ⟨l, b, ⟨K1, e1⟩, ⟨K2, e2⟩, hl⟩ := never_both ⟨a0_0, a0_1, a0_2, a0_3, a0_4, a0_5, a0_6⟩ hd
    obtain ⟨K5, e5⟩ := eqIntS_self (l := l) (by omega)
    obtain ⟨l', ⟨K6, e6⟩, ⟨K7, e7⟩, hl'⟩ := mark_held (a := 1) (l := l) (by omega) (by omega) (by omega)
    obtain ⟨K, hK⟩ : ∃ K, K = K1 + K2 + K5 + K6 + K7 := ⟨_, rfl⟩
    refine ⟨K + 2, ?_⟩
    have f3 : spec_NeverVisited.f (K + 2) a0_0 a0_1 a0_2 a0_3 a0_4 a0_5 a0_6 = some (l, b) := e1 (K + 2) (by omega)
    have f4 : impl_NeverVisited.f (K + 2) a0_0 a0_1 a0_2 a0_3 a0_4 a0_5 a0_6 = some (l, b) := e2 (K + 2) (by omega)
    have f5 : laws_eqIntS.f (K + 2) l l = some true := e5 (K + 2) (by omega)
    have g4 : impl_NeverVisited.f (K + 1) a0_0 a0_1 a0_2 a0_3 a0_4 a0_5 a0_6 = some (l, b) := e2 (K + 1) (by omega)
    have g5 : laws_eqIntS.f (K + 1) l l = some true := e5 (K + 1) (by omega)
    have g6 : laws_markIntS.f (K + 1) l 1 = some (1 + (l.length : Int), l') := e6 (K + 1) (by omega)
    have g7 : laws_heldIntS.f (K + 1) l' 1 = some (1 + (l.length : Int)) := e7 (K + 1) (by omega)
    have i7 : laws_heldIntS.f K l' 1 = some (1 + (l.length : Int)) := e7 K (by omega)
    rw [laws_FnExactNeverVisited.f, szW_small hs, Option.bind_some, if_neg (by omega)]
    simp only [laws_toWorld.f, Option.bind_some]
    rw [f3]
    simp only [Option.bind_some]
    rw [f4]
    simp only [Option.bind_some]
    rw [f5, Option.bind_some, if_pos rfl, bne_self_eq_false, laws_FnExactNeverVisited.j0, if_neg (by simp), g6, Option.bind_some]
    simp only []
    rw [g7, Option.bind_some, if_neg (by omega), if_pos rfl]
    simp only [laws_toWorld.f, Option.bind_some]
    rw [g4]
    simp only [Option.bind_some]
    rw [g5, Option.bind_some, if_pos rfl, bne_self_eq_false, laws_FnExactNeverVisited.j1, if_neg (by simp), i7, Option.bind_some, if_neg (by omega), if_pos rfl]
  · refine ⟨0, ?_⟩
    rw [laws_FnExactNeverVisited.f, szW_big hr hd (by omega), Option.bind_some, if_pos (by omega)]


end Go.Proofs.YtfmfefjplehjgaaDoor.Pure
