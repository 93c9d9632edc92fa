/- The plain laws of TurnsAfter, TrackAfter, VisitsAfter, CellsVisited: for every world and number of steps the program's answer is the reference's. No condition. -/
import Derived.Test.YtdjegdgankoofaaDoorPKx5
import Derived.Test.YtdjegdgankoofaaDoorPKx7
import Derived.Test.YtdjegdgankoofaaDoorKPuWorld
import Derived.Test.YtdjegdgankoofaaDoorKPuInts
import Derived.Test.YtdjegdgankoofaaDoorPuStr
namespace Go.Proofs.YtdjegdgankoofaaDoor.Pure
open Go.RowKit Go.Proofs.YtdjegdgankoofaaDoor Go.Proofs.YtdjegdgankoofaaDoor.PK Go.Proofs.YtdjegdgankoofaaDoorW.PrintWords Go.Proofs.YtdjegdgankoofaaDoorW.PrintLast
set_option linter.unusedVariables false
set_option linter.unusedSimpArgs false

def Wd.tur (s : Wd) : Nat → List Int
  | 0 => []
  | n + 1 => bt s.ru s.col :: s.nx.tur n
def Wd.trk (s : Wd) : Nat → List Int
  | 0 => []
  | n + 1 => s.ac :: s.nx.trk n
theorem trk_length (n : Nat) : ∀ s : Wd, (s.trk n).length = n := by
  induction n with
  | zero => intro s; rfl
  | succ n ih => intro s; simp [Wd.trk, ih]
theorem trk_in (n : Nat) : ∀ {s : Wd} (g : GoodWd s), ∀ a ∈ s.trk n, 0 ≤ a ∧ a < s.w * s.h := by
  induction n with
  | zero => intro s g a h; cases h
  | succ n ih =>
    intro s g a h
    simp only [Wd.trk, List.mem_cons] at h
    rcases h with rfl | h
    · have q := atW g
      have := g.cs
      have := q.a1
      exact ⟨q.a0, by omega⟩
    · exact ih (good_nx g) a h

theorem ac_wrap {s : Wd} (g : GoodWd s) : wrap64 (wrap64 (s.y * s.w) + s.x) = s.ac := by
  have a := atW g
  have m0 := a.m0
  have m1 := a.m1
  have x0 := g.x0
  have xw := g.xw
  have w9 := g.w9
  rw [Pl.w64 (n := s.y * s.w) (by omega) (by omega), Pl.w64 (by omega) (by omega)]
  rfl
theorem track_spec (n : Nat) : ∀ {s : Wd} (g : GoodWd s) (m : Int) (acc : List Int), m.toNat = n → 0 ≤ m → m ≤ 3000 → acc.length + n ≤ 100000 → Ev (fun k => spec_TrackAfter.l0 k m acc s.ru s.w s.h s.c s.x s.y s.v) (acc ++ s.trk n, true) := by
  induction n with
  | zero =>
    intro s g m acc hm m0 m1 ha
    refine Pl.ev_unf ⟨0, fun k _ => ?_⟩
    rw [spec_TrackAfter.l0, if_neg (by omega)]
    simp [Wd.trk]
  | succ n ih =>
    intro s g m acc hm m0 m1 ha
    obtain ⟨K, f⟩ := ih (good_nx g) (m - 1) (acc ++ [s.ac]) (by omega) (by omega) (by omega) (by simp <;> omega)
    rw [List.append_assoc] at f
    refine Pl.ev_unf ⟨K + 1, fun k hk => ?_⟩
    obtain ⟨q, rfl⟩ : ∃ q, k = q + 1 := ⟨k - 1, by omega⟩
    have w1 : wrap64 (m - 1) = m - 1 := Pl.w64 (by omega) (by omega)
    rw [spec_TrackAfter.l0, if_pos (by omega), if_pos (by omega), step_spec g, Option.bind_some, w1, ac_wrap g]
    exact f (q + 1) (by omega)
theorem track_impl (n : Nat) : ∀ {s : Wd} (g : GoodWd s) (t i : Int) (acc : List Int), (t - i).toNat = n → 0 ≤ i → i ≤ t → t ≤ 100000 → acc.length + n ≤ 200000 → Ev (fun k => impl_track.l0 k acc t i s.ru s.w s.h s.c s.x s.y s.v) (acc ++ s.trk n) := by
  induction n with
  | zero =>
    intro s g t i acc hm m0 m1 m2 ha
    refine Pl.ev_unf ⟨0, fun k _ => ?_⟩
    rw [impl_track.l0, if_neg (by omega)]
    simp [Wd.trk]
  | succ n ih =>
    intro s g t i acc hm m0 m1 m2 ha
    obtain ⟨K, f⟩ := ih (good_nx g) t (i + 1) (acc ++ [s.ac]) (by omega) (by omega) (by omega) (by omega) (by simp <;> omega)
    rw [List.append_assoc] at f
    refine Pl.ev_unf ⟨K, fun k hk => ?_⟩
    have w1 : wrap64 (i + 1) = i + 1 := Pl.w64 (by omega) (by omega)
    rw [impl_track.l0, if_pos (by omega), at_impl g, Option.bind_some, if_pos (by omega), step_impl g, Option.bind_some, w1]
    exact f k (by omega)
theorem track_val {s : Wd} (g : GoodWd s) (m : Int) (m0 : 0 ≤ m) (m1 : m ≤ 100000) : Ev (fun k => impl_track.f k s.ru s.w s.h s.c s.x s.y s.v m) (s.trk m.toNat) := by
  obtain ⟨K, f⟩ := track_impl _ g m 0 [] rfl (by omega) m0 (by omega) (by simp <;> omega)
  rw [Int.sub_zero] at f
  exact ⟨K, fun k hk => f k hk⟩
theorem track_both (s : Wd) (m : Int) (hs : s.c.size ≤ 9223372036854775807) : ∃ l b, Ev (fun k => spec_TrackAfter.f k s.ru s.w s.h s.c s.x s.y s.v m) (l, b) ∧ Ev (fun k => impl_TrackAfter.f k s.ru s.w s.h s.c s.x s.y s.v m) (l, b) ∧ l.length ≤ 100000 := by
  obtain ⟨b, ⟨K1, e1⟩, ⟨K2, e2⟩, hb⟩ := goodW_both s hs
  cases b with
  | false =>
    refine ⟨[], false, ⟨K1 + 1, fun k hk => ?_⟩, ⟨K2, fun k hk => ?_⟩, by simp⟩
    · obtain ⟨q, rfl⟩ : ∃ q, k = q + 1 := ⟨k - 1, by omega⟩
      have e : spec_woGood.f (q + 1) s.ru s.w s.h s.c s.x s.y s.v = some false := e1 (q + 1) (by omega)
      dsimp only; rw [spec_TrackAfter.f, spec_woSteps.f, e, Option.bind_some, if_neg (by simp), Option.bind_some, if_neg (by simp), spec_TrackAfter.j0, if_pos rfl]
    · have e : impl_IsWorld.f k s.ru s.w s.h s.c s.x s.y s.v = some false := e2 k hk
      dsimp only; rw [impl_TrackAfter.f, e, Option.bind_some, if_neg (by simp)]
  | true =>
    have g := hb.1 rfl
    by_cases hm : 0 ≤ m ∧ m ≤ 200
    · obtain ⟨K3, f3⟩ := track_spec _ g m [] rfl hm.1 (by omega) (by simp <;> omega)
      obtain ⟨K4, f4⟩ := track_val g m hm.1 (by omega)
      refine ⟨[] ++ s.trk m.toNat, true, ⟨K1 + K3 + 1, fun k hk => ?_⟩, ⟨K2 + K4, fun k hk => ?_⟩, ?_⟩
      · obtain ⟨q, rfl⟩ : ∃ q, k = q + 1 := ⟨k - 1, by omega⟩
        have e : spec_woGood.f (q + 1) s.ru s.w s.h s.c s.x s.y s.v = some true := e1 (q + 1) (by omega)
        dsimp only; rw [spec_TrackAfter.f, spec_woSteps.f, e, Option.bind_some, if_pos rfl, l1In_t (by omega) (by omega), Option.bind_some, Option.bind_some, if_pos rfl, spec_TrackAfter.j0, if_neg (by simp <;> omega)]
        exact f3 q (by omega)
      · have e : impl_IsWorld.f k s.ru s.w s.h s.c s.x s.y s.v = some true := e2 k (by omega)
        have f : impl_track.f k s.ru s.w s.h s.c s.x s.y s.v m = some (s.trk m.toNat) := f4 k (by omega)
        dsimp only; rw [impl_TrackAfter.f, e, Option.bind_some, if_pos rfl, within_t (by omega) (by omega), Option.bind_some, if_pos rfl, f, Option.bind_some]
        rfl
      · rw [List.nil_append, trk_length]
        omega
    · refine ⟨[], false, ⟨K1 + 1, fun k hk => ?_⟩, ⟨K2, fun k hk => ?_⟩, by simp⟩
      · obtain ⟨q, rfl⟩ : ∃ q, k = q + 1 := ⟨k - 1, by omega⟩
        have e : spec_woGood.f (q + 1) s.ru s.w s.h s.c s.x s.y s.v = some true := e1 (q + 1) (by omega)
        dsimp only; rw [spec_TrackAfter.f, spec_woSteps.f, e, Option.bind_some, if_pos rfl, l1In_val, Option.bind_some, Option.bind_some]
        by_cases h3 : 0 ≤ m ∧ m ≤ 3000
        · rw [if_pos (decide_eq_true h3), spec_TrackAfter.j0, if_pos (decide_eq_true (by omega))]
        · rw [if_neg (by simpa using h3), spec_TrackAfter.j0, if_pos rfl]
      · have e : impl_IsWorld.f k s.ru s.w s.h s.c s.x s.y s.v = some true := e2 k hk
        dsimp only; rw [impl_TrackAfter.f, e, Option.bind_some, if_pos rfl, within_f (by omega), Option.bind_some, if_neg (by simp)]
theorem FnExactTrackAfter (a0_0 : ByteArray) (a0_1 : Int) (a0_2 : Int) (a0_3 : ByteArray) (a0_4 : Int) (a0_5 : Int) (a0_6 : Int) (a1 : Int) (h0 : (a0_0.size ≤ maxLen) ∧ ((Lit.int .i64 a0_1).wf = true) ∧ ((Lit.int .i64 a0_2).wf = true) ∧ (a0_3.size ≤ maxLen) ∧ ((Lit.int .i64 a0_4).wf = true) ∧ ((Lit.int .i64 a0_5).wf = true) ∧ ((Lit.int .i64 a0_6).wf = true)) (h1 : (Lit.int .i64 a1).wf = true) : ∃ k, laws_FnExactTrackAfter.f k a0_0 a0_1 a0_2 a0_3 a0_4 a0_5 a0_6 a1 = some true := by
  obtain ⟨hr, _, _, hd, _⟩ := h0
  have hr := Pl.le_max hr
  have hd := Pl.le_max hd
  by_cases hs : (a0_0.size : Int) + a0_3.size ≤ 1048576
  · obtain ⟨l, b, ⟨K1, e1⟩, ⟨K2, e2⟩, hl⟩ := track_both ⟨a0_0, a0_1, a0_2, a0_3, a0_4, a0_5, a0_6⟩ a1 hd
    obtain ⟨K5, e5⟩ := eqIntS_self (l := l) (by omega)
    obtain ⟨l', ⟨K6, e6⟩, ⟨K7, e7⟩, hl'⟩ := mark_held (a := 1) (l := l) (by omega) (by omega) (by omega)
    obtain ⟨K, hK⟩ : ∃ K, K = K1 + K2 + K5 + K6 + K7 := ⟨_, rfl⟩
    refine ⟨K + 2, ?_⟩
    have f3 : spec_TrackAfter.f (K + 2) a0_0 a0_1 a0_2 a0_3 a0_4 a0_5 a0_6 a1 = some (l, b) := e1 (K + 2) (by omega)
    have f4 : impl_TrackAfter.f (K + 2) a0_0 a0_1 a0_2 a0_3 a0_4 a0_5 a0_6 a1 = some (l, b) := e2 (K + 2) (by omega)
    have f5 : laws_eqIntS.f (K + 2) l l = some true := e5 (K + 2) (by omega)
    have g4 : impl_TrackAfter.f (K + 1) a0_0 a0_1 a0_2 a0_3 a0_4 a0_5 a0_6 a1 = some (l, b) := e2 (K + 1) (by omega)
    have g5 : laws_eqIntS.f (K + 1) l l = some true := e5 (K + 1) (by omega)
    have g6 : laws_markIntS.f (K + 1) l 1 = some (1 + (l.length : Int), l') := e6 (K + 1) (by omega)
    have g7 : laws_heldIntS.f (K + 1) l' 1 = some (1 + (l.length : Int)) := e7 (K + 1) (by omega)
    have i7 : laws_heldIntS.f K l' 1 = some (1 + (l.length : Int)) := e7 K (by omega)
    rw [laws_FnExactTrackAfter.f, szW_small hs, Option.bind_some, if_neg (by omega)]
    simp only [laws_toWorld.f, Option.bind_some]
    rw [f3]
    simp only [Option.bind_some]
    rw [f4]
    simp only [Option.bind_some]
    rw [f5, Option.bind_some, if_pos rfl, bne_self_eq_false, laws_FnExactTrackAfter.j0, if_neg (by simp), g6, Option.bind_some]
    simp only []
    rw [g7, Option.bind_some, if_neg (by omega), if_pos rfl]
    simp only [laws_toWorld.f, Option.bind_some]
    rw [g4]
    simp only [Option.bind_some]
    rw [g5, Option.bind_some, if_pos rfl, bne_self_eq_false, laws_FnExactTrackAfter.j1, if_neg (by simp), i7, Option.bind_some, if_neg (by omega), if_pos rfl]
  · refine ⟨0, ?_⟩
    rw [laws_FnExactTrackAfter.f, szW_big hr hd (by omega), Option.bind_some, if_pos (by omega)]

end Go.Proofs.YtdjegdgankoofaaDoor.Pure
