/- The plain laws of TurnsAfter, TrackAfter, VisitsAfter, CellsVisited: for every world and number of steps the program's answer is the reference's. No condition. -/
import Derived.Test.YtdjegdgankoofaaDoorPTx5
import Derived.Test.YtdjegdgankoofaaDoorTPuWorld
import Derived.Test.YtdjegdgankoofaaDoorTPuInts
import Derived.Test.YtdjegdgankoofaaDoorPuStr
namespace Go.Proofs.YtdjegdgankoofaaDoor.Pure
open Go.RowKit Go.Proofs.YtdjegdgankoofaaDoor Go.Proofs.YtdjegdgankoofaaDoor.PT Go.Proofs.YtdjegdgankoofaaDoorW.PrintWords Go.Proofs.YtdjegdgankoofaaDoorW.PrintLast
set_option linter.unusedVariables false
set_option linter.unusedSimpArgs false

def Wd.tur (s : Wd) : Nat → List Int
  | 0 => []
  | n + 1 => bt s.ru s.col :: s.nx.tur n
def Wd.trk (s : Wd) : Nat → List Int
  | 0 => []
  | n + 1 => s.ac :: s.nx.trk n
theorem trk_length (n : Nat) : ∀ s : Wd, (s.trk n).length = n := by
  induction n with
  | zero => intro s; rfl
  | succ n ih => intro s; simp [Wd.trk, ih]
theorem trk_in (n : Nat) : ∀ {s : Wd} (g : GoodWd s), ∀ a ∈ s.trk n, 0 ≤ a ∧ a < s.w * s.h := by
  induction n with
  | zero => intro s g a h; cases h
  | succ n ih =>
    intro s g a h
    simp only [Wd.trk, List.mem_cons] at h
    rcases h with rfl | h
    · have q := atW g
      have := g.cs
      have := q.a1
      exact ⟨q.a0, by omega⟩
    · exact ih (good_nx g) a h

theorem turns_spec (n : Nat) : ∀ {s : Wd} (g : GoodWd s) (m : Int) (acc : List Int), m.toNat = n → 0 ≤ m → m ≤ 3000 → acc.length + n ≤ 100000 → Ev (fun k => spec_TurnsAfter.l0 k m (strOfNums acc) s.ru s.w s.h s.c s.x s.y s.v) (strOfNums (acc ++ s.tur n), true) := by
  induction n with
  | zero =>
    intro s g m acc hm m0 m1 ha
    refine Pl.ev_unf ⟨0, fun k _ => ?_⟩
    rw [spec_TurnsAfter.l0, if_neg (by omega)]
    simp [Wd.tur]
  | succ n ih =>
    intro s g m acc hm m0 m1 ha
    have a := atW g
    have c0 := a.c0
    have c1 := a.c1
    have r6 := g.r6
    obtain ⟨K, f⟩ := ih (good_nx g) (m - 1) (acc ++ [bt s.ru s.col]) (by omega) (by omega) (by omega) (by simp <;> omega)
    rw [List.append_assoc] at f
    refine Pl.ev_unf ⟨K + 1, fun k hk => ?_⟩
    obtain ⟨q, rfl⟩ : ∃ q, k = q + 1 := ⟨k - 1, by omega⟩
    have w1 : wrap64 (m - 1) = m - 1 := Pl.w64 (by omega) (by omega)
    have w2 : wrap64 (s.col + 1) = s.col + 1 := Pl.w64 (by omega) (by omega)
    have hz : (strOfNums acc).size + (strOfNums [bt s.ru s.col]).size ≤ 9223372036854775807 := by
      rw [sSize, sSize]
      show acc.length + 1 ≤ _
      omega
    rw [spec_TurnsAfter.l0, if_pos (by omega), colour_spec g, Option.bind_some, if_pos c0, w2, if_pos (by omega), if_pos (by omega), sPiece c0 c1, if_pos hz, step_spec g, Option.bind_some, w1, sApp]
    exact f (q + 1) (by omega)
theorem turns_impl (n : Nat) : ∀ {s : Wd} (g : GoodWd s) (t i : Int) (acc : List Int), (t - i).toNat = n → 0 ≤ i → i ≤ t → t ≤ 3000 → acc.length + n ≤ 100000 → Ev (fun k => impl_TurnsAfter.l0 k acc t i s.ru s.w s.h s.c s.x s.y s.v) (strOfNums (acc ++ s.tur n), true) := by
  induction n with
  | zero =>
    intro s g t i acc hm m0 m1 m2 ha
    refine Pl.ev_unf ⟨0, fun k _ => ?_⟩
    rw [impl_TurnsAfter.l0, if_neg (by omega)]
    simp [Wd.tur]
  | succ n ih =>
    intro s g t i acc hm m0 m1 m2 ha
    have a := atW g
    have c0 := a.c0
    have c1 := a.c1
    obtain ⟨K, f⟩ := ih (good_nx g) t (i + 1) (acc ++ [bt s.ru s.col]) (by omega) (by omega) (by omega) (by omega) (by simp <;> omega)
    rw [List.append_assoc] at f
    refine Pl.ev_unf ⟨K, fun k hk => ?_⟩
    have w1 : wrap64 (i + 1) = i + 1 := Pl.w64 (by omega) (by omega)
    rw [impl_TurnsAfter.l0, if_pos (by omega), colour_impl g, Option.bind_some, if_pos c0, if_pos c1, if_pos (by omega), step_impl g, Option.bind_some, w1]
    exact f k (by omega)
theorem turns_both (s : Wd) (m : Int) (hs : s.c.size ≤ 9223372036854775807) : ∃ r, Ev (fun k => spec_TurnsAfter.f k s.ru s.w s.h s.c s.x s.y s.v m) r ∧ Ev (fun k => impl_TurnsAfter.f k s.ru s.w s.h s.c s.x s.y s.v m) r := by
  obtain ⟨b, ⟨K1, e1⟩, ⟨K2, e2⟩, hb⟩ := going_both s m hs
  cases b with
  | false =>
    refine ⟨((⟨#[]⟩ : ByteArray), false), ⟨K1, fun k hk => ?_⟩, ⟨K2, fun k hk => ?_⟩⟩
    · have e : spec_woSteps.f k s.ru s.w s.h s.c s.x s.y s.v m = some false := e1 k hk
      dsimp only; rw [spec_TurnsAfter.f, e, Option.bind_some, if_neg (by simp)]
    · have e : impl_isGoing.f k s.ru s.w s.h s.c s.x s.y s.v m = some false := e2 k hk
      dsimp only; rw [impl_TurnsAfter.f, e, Option.bind_some, if_neg (by simp)]
  | true =>
    obtain ⟨g, m0, m1⟩ := hb.1 rfl
    obtain ⟨K3, f3⟩ := turns_spec _ g m [] rfl m0 (by omega) (by simp <;> omega)
    obtain ⟨K4, f4⟩ := turns_impl _ g m 0 [] rfl (by omega) m0 (by omega) (by simp <;> omega)
    rw [Int.sub_zero] at f4
    refine ⟨(strOfNums ([] ++ s.tur m.toNat), true), ⟨K1 + K3, fun k hk => ?_⟩, ⟨K2 + K4, fun k hk => ?_⟩⟩
    · have e : spec_woSteps.f k s.ru s.w s.h s.c s.x s.y s.v m = some true := e1 k (by omega)
      dsimp only; rw [spec_TurnsAfter.f, e, Option.bind_some, if_pos rfl]
      exact f3 k (by omega)
    · have e : impl_isGoing.f k s.ru s.w s.h s.c s.x s.y s.v m = some true := e2 k (by omega)
      dsimp only; rw [impl_TurnsAfter.f, e, Option.bind_some, if_pos rfl]
      exact f4 k (by omega)
theorem FnExactTurnsAfter (a0_0 : ByteArray) (a0_1 : Int) (a0_2 : Int) (a0_3 : ByteArray) (a0_4 : Int) (a0_5 : Int) (a0_6 : Int) (a1 : Int) (h0 : (a0_0.size ≤ maxLen) ∧ ((Lit.int .i64 a0_1).wf = true) ∧ ((Lit.int .i64 a0_2).wf = true) ∧ (a0_3.size ≤ maxLen) ∧ ((Lit.int .i64 a0_4).wf = true) ∧ ((Lit.int .i64 a0_5).wf = true) ∧ ((Lit.int .i64 a0_6).wf = true)) (h1 : (Lit.int .i64 a1).wf = true) : ∃ k, laws_FnExactTurnsAfter.f k a0_0 a0_1 a0_2 a0_3 a0_4 a0_5 a0_6 a1 = some true := by
  obtain ⟨hr, _, _, hd, _⟩ := h0
  have hr := Pl.le_max hr
  have hd := Pl.le_max hd
  by_cases hs : (a0_0.size : Int) + a0_3.size ≤ 1048576
  · obtain ⟨r, ⟨K1, e1⟩, ⟨K2, e2⟩⟩ := turns_both ⟨a0_0, a0_1, a0_2, a0_3, a0_4, a0_5, a0_6⟩ a1 hd
    refine ⟨K1 + K2, ?_⟩
    have e1 : spec_TurnsAfter.f (K1 + K2) a0_0 a0_1 a0_2 a0_3 a0_4 a0_5 a0_6 a1 = some r := e1 (K1 + K2) (by omega)
    have e2 : impl_TurnsAfter.f (K1 + K2) a0_0 a0_1 a0_2 a0_3 a0_4 a0_5 a0_6 a1 = some r := e2 (K1 + K2) (by omega)
    rw [laws_FnExactTurnsAfter.f, szW_small hs, Option.bind_some, if_neg (by omega)]
    simp only [laws_toWorld.f, Option.bind_some]
    rw [e1, e2]
    simp only [Option.bind_some, if_true, bne_self_eq_false, Bool.false_eq_true, if_false]
  · refine ⟨0, ?_⟩
    rw [laws_FnExactTurnsAfter.f, szW_big hr hd (by omega), Option.bind_some, if_pos (by omega)]

/-! the track -/
theorem ac_wrap {s : Wd} (g : GoodWd s) : wrap64 (wrap64 (s.y * s.w) + s.x) = s.ac := by
  have a := atW g
  have m0 := a.m0
  have m1 := a.m1
  have x0 := g.x0
  have xw := g.xw
  have w9 := g.w9
  rw [Pl.w64 (n := s.y * s.w) (by omega) (by omega), Pl.w64 (by omega) (by omega)]
  rfl
end Go.Proofs.YtdjegdgankoofaaDoor.Pure
