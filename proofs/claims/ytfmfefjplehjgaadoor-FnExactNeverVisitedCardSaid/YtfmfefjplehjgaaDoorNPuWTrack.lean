/- The plain laws of TurnsAfter, TrackAfter, VisitsAfter, CellsVisited: for every world and number of steps the program's answer is the reference's. No condition. -/
import Derived.Test.YtfmfefjplehjgaaDoorPNx5
import Derived.Test.YtfmfefjplehjgaaDoorPNx8
import Derived.Test.YtfmfefjplehjgaaDoorPNx9
import Derived.Test.YtfmfefjplehjgaaDoorNPuWorld
import Derived.Test.YtfmfefjplehjgaaDoorNPuInts
import Derived.Test.YtfmfefjplehjgaaDoorPuStr
namespace Go.Proofs.YtfmfefjplehjgaaDoor.Pure
open Go.RowKit Go.Proofs.YtfmfefjplehjgaaDoor Go.Proofs.YtfmfefjplehjgaaDoor.PN Go.Proofs.YtfmfefjplehjgaaDoorW.PrintWords Go.Proofs.YtfmfefjplehjgaaDoorW.PrintLast
set_option linter.unusedVariables false
set_option linter.unusedSimpArgs false

def Wd.tur (s : Wd) : Nat → List Int
  | 0 => []
  | n + 1 => bt s.ru s.col :: s.nx.tur n
def Wd.trk (s : Wd) : Nat → List Int
  | 0 => []
  | n + 1 => s.ac :: s.nx.trk n
theorem trk_length (n : Nat) : ∀ s : Wd, (s.trk n).length = n := by
  induction n with
  | zero => intro s; rfl
  | succ n ih => intro s; simp [Wd.trk, ih]
theorem trk_in (n : Nat) : ∀ {s : Wd} (g : GoodWd s), ∀ a ∈ s.trk n, 0 ≤ a ∧ a < s.w * s.h := by
  induction n with
  | zero => intro s g a h; cases h
  | succ n ih =>
    intro s g a h
    simp only [Wd.trk, List.mem_cons] at h
    rcases h with rfl | h
    · have q := atW g
      have := g.cs
      have := q.a1
      exact ⟨q.a0, by omega⟩
    · exact ih (good_nx g) a h

theorem ac_wrap {s : Wd} (g : GoodWd s) : wrap64 (wrap64 (s.y * s.w) + s.x) = s.ac := by
  have a := atW g
  have m0 := a.m0
  have m1 := a.m1
  have x0 := g.x0
  have xw := g.xw
  have w9 := g.w9
  rw [Pl.w64 (n := s.y * s.w) (by omega) (by omega), Pl.w64 (by omega) (by omega)]
  rfl
theorem track_impl (n : Nat) : ∀ {s : Wd} (g : GoodWd s) (t i : Int) (acc : List Int), (t - i).toNat = n → 0 ≤ i → i ≤ t → t ≤ 100000 → acc.length + n ≤ 200000 → Ev (fun k => impl_track.l0 k acc t i s.ru s.w s.h s.c s.x s.y s.v) (acc ++ s.trk n) := by
  induction n with
  | zero =>
    intro s g t i acc hm m0 m1 m2 ha
    refine Pl.ev_unf ⟨0, fun k _ => ?_⟩
    rw [impl_track.l0, if_neg (by omega)]
    simp [Wd.trk]
  | succ n ih =>
    intro s g t i acc hm m0 m1 m2 ha
    obtain ⟨K, f⟩ := ih (good_nx g) t (i + 1) (acc ++ [s.ac]) (by omega) (by omega) (by omega) (by omega) (by simp <;> omega)
    rw [List.append_assoc] at f
    refine Pl.ev_unf ⟨K, fun k hk => ?_⟩
    have w1 : wrap64 (i + 1) = i + 1 := Pl.w64 (by omega) (by omega)
    rw [impl_track.l0, if_pos (by omega), at_impl g, Option.bind_some, if_pos (by omega), step_impl g, Option.bind_some, w1]
    exact f k (by omega)
theorem track_val {s : Wd} (g : GoodWd s) (m : Int) (m0 : 0 ≤ m) (m1 : m ≤ 100000) : Ev (fun k => impl_track.f k s.ru s.w s.h s.c s.x s.y s.v m) (s.trk m.toNat) := by
  obtain ⟨K, f⟩ := track_impl _ g m 0 [] rfl (by omega) m0 (by omega) (by simp <;> omega)
  rw [Int.sub_zero] at f
  exact ⟨K, fun k hk => f k hk⟩
end Go.Proofs.YtfmfefjplehjgaaDoor.Pure
