/- The plain laws of StepWorld and WorldAfter: for every world and number of steps the program's answer is the reference's. No condition. -/
import Derived.Test.YtdjegdgankoofaaDoorPAx6
import Derived.Test.YtdjegdgankoofaaDoorPuWorld
namespace Go.Proofs.YtdjegdgankoofaaDoor.Pure
open Go.RowKit Go.Proofs.YtdjegdgankoofaaDoor Go.Proofs.YtdjegdgankoofaaDoor.PA Go.Proofs.YtdjegdgankoofaaDoorW.PrintWords Go.Proofs.YtdjegdgankoofaaDoorW.PrintLast
set_option linter.unusedVariables false
set_option linter.unusedSimpArgs false

def Wd.after (s : Wd) : Nat → Wd
  | 0 => s
  | n + 1 => s.nx.after n
def resW (s : Wd) (b : Bool) : ByteArray × Int × Int × ByteArray × Int × Int × Int × Bool := (s.ru, s.w, s.h, s.c, s.x, s.y, s.v, b)
def noW : Wd := ⟨⟨#[]⟩, 0, 0, ⟨#[]⟩, 0, 0, 0⟩
theorem after_spec (n : Nat) : ∀ {s : Wd} (g : GoodWd s) (m : Int), m.toNat = n → 0 ≤ m → m ≤ 100000 → Ev (fun k => spec_WorldAfter.l0 k m s.ru s.w s.h s.c s.x s.y s.v) (resW (s.after n) true) := by
  induction n with
  | zero =>
    intro s g m hm m0 m1
    refine Pl.ev_unf ⟨0, fun k _ => ?_⟩
    rw [spec_WorldAfter.l0, if_neg (by omega)]
    rfl
  | succ n ih =>
    intro s g m hm m0 m1
    obtain ⟨K, f⟩ := ih (good_nx g) (m - 1) (by omega) (by omega) (by omega)
    refine Pl.ev_unf ⟨K + 1, fun k hk => ?_⟩
    obtain ⟨q, rfl⟩ : ∃ q, k = q + 1 := ⟨k - 1, by omega⟩
    have w1 : wrap64 (m - 1) = m - 1 := Pl.w64 (by omega) (by omega)
    rw [spec_WorldAfter.l0, if_pos (by omega), step_spec g, Option.bind_some, w1]
    exact f (q + 1) (by omega)
theorem after_impl (n : Nat) : ∀ {s : Wd} (g : GoodWd s) (t i : Int), (t - i).toNat = n → 0 ≤ i → i ≤ t → t ≤ 100000 → Ev (fun k => impl_WorldAfter.l0 k t i s.ru s.w s.h s.c s.x s.y s.v) (resW (s.after n) true) := by
  induction n with
  | zero =>
    intro s g t i hm m0 m1 m2
    refine Pl.ev_unf ⟨0, fun k _ => ?_⟩
    rw [impl_WorldAfter.l0, if_neg (by omega)]
    rfl
  | succ n ih =>
    intro s g t i hm m0 m1 m2
    obtain ⟨K, f⟩ := ih (good_nx g) t (i + 1) (by omega) (by omega) (by omega) (by omega)
    refine Pl.ev_unf ⟨K, fun k hk => ?_⟩
    have w1 : wrap64 (i + 1) = i + 1 := Pl.w64 (by omega) (by omega)
    rw [impl_WorldAfter.l0, if_pos (by omega), step_impl g, Option.bind_some, w1]
    exact f k (by omega)
theorem worldAfter_both (s : Wd) (m : Int) (hs : s.c.size ≤ 9223372036854775807) :
    ∃ r b, Ev (fun k => spec_WorldAfter.f k s.ru s.w s.h s.c s.x s.y s.v m) (resW r b) ∧ Ev (fun k => impl_WorldAfter.f k s.ru s.w s.h s.c s.x s.y s.v m) (resW r b) := by
  obtain ⟨b, ⟨K1, e1⟩, ⟨K2, e2⟩, hb⟩ := going_both s m hs
  cases b with
  | false =>
    refine ⟨noW, false, ⟨K1, fun k hk => ?_⟩, ⟨K2, fun k hk => ?_⟩⟩
    · have e : spec_woSteps.f k s.ru s.w s.h s.c s.x s.y s.v m = some false := e1 k hk
      dsimp only; rw [spec_WorldAfter.f, e, Option.bind_some, if_neg (by simp)]
      rfl
    · have e : impl_isGoing.f k s.ru s.w s.h s.c s.x s.y s.v m = some false := e2 k hk
      dsimp only; rw [impl_WorldAfter.f, e, Option.bind_some, if_neg (by simp)]
      rfl
  | true =>
    obtain ⟨g, m0, m1⟩ := hb.1 rfl
    obtain ⟨K3, f3⟩ := after_spec _ g m rfl m0 (by omega)
    obtain ⟨K4, f4⟩ := after_impl _ g m 0 rfl (by omega) m0 (by omega)
    rw [Int.sub_zero] at f4
    refine ⟨s.after m.toNat, true, ⟨K1 + K3, fun k hk => ?_⟩, ⟨K2 + K4, fun k hk => ?_⟩⟩
    · have e : spec_woSteps.f k s.ru s.w s.h s.c s.x s.y s.v m = some true := e1 k (by omega)
      dsimp only; rw [spec_WorldAfter.f, e, Option.bind_some, if_pos rfl]
      exact f3 k (by omega)
    · have e : impl_isGoing.f k s.ru s.w s.h s.c s.x s.y s.v m = some true := e2 k (by omega)
      dsimp only; rw [impl_WorldAfter.f, e, Option.bind_some, if_pos rfl]
      exact f4 k (by omega)
theorem stepWorld_both (s : Wd) (hs : s.c.size ≤ 9223372036854775807) :
    ∃ r b, Ev (fun k => spec_StepWorld.f k s.ru s.w s.h s.c s.x s.y s.v) (resW r b) ∧ Ev (fun k => impl_StepWorld.f k s.ru s.w s.h s.c s.x s.y s.v) (resW r b) := by
  obtain ⟨b, ⟨K1, e1⟩, ⟨K2, e2⟩, hb⟩ := goodW_both s hs
  cases b with
  | false =>
    refine ⟨noW, false, ⟨K1, fun k hk => ?_⟩, ⟨K2, fun k hk => ?_⟩⟩
    · have e : spec_woGood.f k s.ru s.w s.h s.c s.x s.y s.v = some false := e1 k hk
      dsimp only; rw [spec_StepWorld.f, e, Option.bind_some, if_neg (by simp)]
      rfl
    · have e : impl_IsWorld.f k s.ru s.w s.h s.c s.x s.y s.v = some false := e2 k hk
      dsimp only; rw [impl_StepWorld.f, impl_WorldAfter.f, impl_isGoing.f, e, Option.bind_some, if_neg (by simp), Option.bind_some, if_neg (by simp), Option.bind_some]
      rfl
  | true =>
    have g := hb.1 rfl
    obtain ⟨K4, f4⟩ := after_impl 1 g 1 0 rfl (by omega) (by omega) (by omega)
    refine ⟨s.nx, true, ⟨K1 + 1, fun k hk => ?_⟩, ⟨K2 + K4, fun k hk => ?_⟩⟩
    · have e : spec_woGood.f k s.ru s.w s.h s.c s.x s.y s.v = some true := e1 k (by omega)
      obtain ⟨q, rfl⟩ : ∃ q, k = q + 1 := ⟨k - 1, by omega⟩
      dsimp only; rw [spec_StepWorld.f, e, Option.bind_some, if_pos rfl, step_spec g, Option.bind_some]
      try rfl
    · have e : impl_IsWorld.f k s.ru s.w s.h s.c s.x s.y s.v = some true := e2 k (by omega)
      have f : impl_WorldAfter.l0 k 1 0 s.ru s.w s.h s.c s.x s.y s.v = some (resW s.nx true) := f4 k (by omega)
      dsimp only; rw [impl_StepWorld.f, impl_WorldAfter.f, impl_isGoing.f, e, Option.bind_some, if_pos rfl, within_t (by omega) (by omega), Option.bind_some, Option.bind_some, if_pos rfl, f, Option.bind_some]
      try rfl

theorem FnExactStepWorld (a0_0 : ByteArray) (a0_1 : Int) (a0_2 : Int) (a0_3 : ByteArray) (a0_4 : Int) (a0_5 : Int) (a0_6 : Int) (h0 : (a0_0.size ≤ maxLen) ∧ ((Lit.int .i64 a0_1).wf = true) ∧ ((Lit.int .i64 a0_2).wf = true) ∧ (a0_3.size ≤ maxLen) ∧ ((Lit.int .i64 a0_4).wf = true) ∧ ((Lit.int .i64 a0_5).wf = true) ∧ ((Lit.int .i64 a0_6).wf = true)) : ∃ k, laws_FnExactStepWorld.f k a0_0 a0_1 a0_2 a0_3 a0_4 a0_5 a0_6 = some true := by
  obtain ⟨hr, _, _, hd, _⟩ := h0
  have hr := Pl.le_max hr
  have hd := Pl.le_max hd
  by_cases hs : (a0_0.size : Int) + a0_3.size ≤ 1048576
  · obtain ⟨r, b, ⟨K1, e1⟩, ⟨K2, e2⟩⟩ := stepWorld_both ⟨a0_0, a0_1, a0_2, a0_3, a0_4, a0_5, a0_6⟩ hd
    refine ⟨K1 + K2, ?_⟩
    have e1 : spec_StepWorld.f (K1 + K2) a0_0 a0_1 a0_2 a0_3 a0_4 a0_5 a0_6 = some (resW r b) := e1 (K1 + K2) (by omega)
    have e2 : impl_StepWorld.f (K1 + K2) a0_0 a0_1 a0_2 a0_3 a0_4 a0_5 a0_6 = some (resW r b) := e2 (K1 + K2) (by omega)
    rw [laws_FnExactStepWorld.f, szW_small hs, Option.bind_some, if_neg (by omega)]
    simp only [laws_toWorld.f, Option.bind_some]
    rw [e1, e2]
    simp only [Option.bind_some, resW, eqWorld_self, if_true, bne_self_eq_false, Bool.false_eq_true, if_false]
  · refine ⟨0, ?_⟩
    rw [laws_FnExactStepWorld.f, szW_big hr hd (by omega), Option.bind_some, if_pos (by omega)]

theorem FnExactWorldAfter (a0_0 : ByteArray) (a0_1 : Int) (a0_2 : Int) (a0_3 : ByteArray) (a0_4 : Int) (a0_5 : Int) (a0_6 : Int) (a1 : Int) (h0 : (a0_0.size ≤ maxLen) ∧ ((Lit.int .i64 a0_1).wf = true) ∧ ((Lit.int .i64 a0_2).wf = true) ∧ (a0_3.size ≤ maxLen) ∧ ((Lit.int .i64 a0_4).wf = true) ∧ ((Lit.int .i64 a0_5).wf = true) ∧ ((Lit.int .i64 a0_6).wf = true)) (h1 : (Lit.int .i64 a1).wf = true) : ∃ k, laws_FnExactWorldAfter.f k a0_0 a0_1 a0_2 a0_3 a0_4 a0_5 a0_6 a1 = some true := by
  obtain ⟨hr, _, _, hd, _⟩ := h0
  have hr := Pl.le_max hr
  have hd := Pl.le_max hd
  by_cases hs : (a0_0.size : Int) + a0_3.size ≤ 1048576
  · obtain ⟨r, b, ⟨K1, e1⟩, ⟨K2, e2⟩⟩ := worldAfter_both ⟨a0_0, a0_1, a0_2, a0_3, a0_4, a0_5, a0_6⟩ a1 hd
    refine ⟨K1 + K2, ?_⟩
    have e1 : spec_WorldAfter.f (K1 + K2) a0_0 a0_1 a0_2 a0_3 a0_4 a0_5 a0_6 a1 = some (resW r b) := e1 (K1 + K2) (by omega)
    have e2 : impl_WorldAfter.f (K1 + K2) a0_0 a0_1 a0_2 a0_3 a0_4 a0_5 a0_6 a1 = some (resW r b) := e2 (K1 + K2) (by omega)
    rw [laws_FnExactWorldAfter.f, szW_small hs, Option.bind_some, if_neg (by omega)]
    simp only [laws_toWorld.f, Option.bind_some]
    rw [e1, e2]
    simp only [Option.bind_some, resW, eqWorld_self, if_true, bne_self_eq_false, Bool.false_eq_true, if_false]
  · refine ⟨0, ?_⟩
    rw [laws_FnExactWorldAfter.f, szW_big hr hd (by omega), Option.bind_some, if_pos (by omega)]

end Go.Proofs.YtdjegdgankoofaaDoor.Pure
