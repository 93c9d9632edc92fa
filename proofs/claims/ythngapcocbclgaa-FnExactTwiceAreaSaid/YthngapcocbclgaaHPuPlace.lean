/- The plain laws of PlaceAfter and ClosesAfter: for every program and number of repeats the program's turtle is where the reference's is. No condition. -/
import Derived.Test.YthngapcocbclgaaPHx4
import Derived.Test.YthngapcocbclgaaPHx7
import Derived.Test.YthngapcocbclgaaHPuTurt
namespace Go.Proofs.Ythngapcocbclgaa.Pure
open Go.RowKit Go.Proofs.Ythngapcocbclgaa Go.Proofs.Ythngapcocbclgaa.PH Go.Proofs.YthngapcocbclgaaW.PrintWords Go.Proofs.YthngapcocbclgaaW.PrintLast
set_option linter.unusedVariables false
set_option linter.unusedSimpArgs false

def home (t : Tu) : Bool := t.x == 0 && (t.y == 0 && t.v == 0)
def clos (l : PL) : Nat → Int → Int
  | 0, _ => 0
  | n + 1, m => if home (advN l m.toNat ⟨0, 0, 0⟩) = true then m else clos l n (m + 1)
theorem clos_in (l : PL) (n : Nat) : ∀ m : Int, 1 ≤ m → clos l n m = 0 ∨ (m ≤ clos l n m ∧ clos l n m < m + n) := by
  induction n with
  | zero => intro m _; exact Or.inl rfl
  | succ n ih =>
    intro m h
    rw [clos]
    split
    · exact Or.inr ⟨by omega, by omega⟩
    · rcases ih (m + 1) (by omega) with h2 | h2
      · exact Or.inl h2
      · exact Or.inr ⟨by omega, by omega⟩
theorem tuCloses_l0 {s : ByteArray} (g : GoodP s) (n : Nat) : ∀ m : Int, (5 - m).toNat = n → 1 ≤ m → m ≤ 5 → Ev (fun k => spec_tuCloses.l0 k s m) (clos (pl s (s.size / 2) 0) n m) := by
  induction n with
  | zero =>
    intro m hn h1 h2
    refine Pl.ev_unf ⟨0, fun k _ => ?_⟩
    rw [spec_tuCloses.l0, if_neg (by omega)]
    rfl
  | succ n ih =>
    intro m hn h1 h2
    obtain ⟨K1, f1⟩ := tuAfter_val g (m := m) (by omega) (by omega)
    obtain ⟨K2, f2⟩ := ih (m + 1) (by omega) (by omega) (by omega)
    have w1 : wrap64 (m + 1) = m + 1 := Pl.w64 (by omega) (by omega)
    refine Pl.ev_unf ⟨K1 + K2, fun k hk => ?_⟩
    have f1 := f1 k (by omega)
    have f2 := f2 k (by omega)
    dsimp only at f1 f2
    rw [spec_tuCloses.l0, if_pos (by omega), f1, Option.bind_some, w1, f2, clos]
    dsimp only
    by_cases hh : home (advN (pl s (s.size / 2) 0) m.toNat ⟨0, 0, 0⟩) = true
    · have hh2 := hh
      unfold home at hh2
      rw [if_pos hh, hh2, if_pos rfl]
    · have hh2 := hh
      unfold home at hh2
      rw [if_neg hh, if_neg hh2]
theorem tuCloses_val {s : ByteArray} (g : GoodP s) : Ev (fun k => spec_tuCloses.f k s) (clos (pl s (s.size / 2) 0) 4 1) := tuCloses_l0 g 4 1 (by omega) (by omega) (by omega)
theorem closes_l0 {s : ByteArray} (g : GoodP s) (n : Nat) : ∀ m : Int, (5 - m).toNat = n → 1 ≤ m → m ≤ 5 → Ev (fun k => impl_ClosesAfter.l0 k s m) (clos (pl s (s.size / 2) 0) n m, decide (clos (pl s (s.size / 2) 0) n m > 0)) := by
  induction n with
  | zero =>
    intro m hn h1 h2
    refine Pl.ev_unf ⟨0, fun k _ => ?_⟩
    rw [impl_ClosesAfter.l0, if_neg (by omega)]
    rfl
  | succ n ih =>
    intro m hn h1 h2
    obtain ⟨K1, f1⟩ := walk0_val g (m := m) (by omega) (by omega)
    obtain ⟨K2, f2⟩ := ih (m + 1) (by omega) (by omega) (by omega)
    have w1 : wrap64 (m + 1) = m + 1 := Pl.w64 (by omega) (by omega)
    refine Pl.ev_unf ⟨K1 + K2, fun k hk => ?_⟩
    have f1 := f1 k (by omega)
    have f2 := f2 k (by omega)
    dsimp only at f1 f2
    rw [impl_ClosesAfter.l0, if_pos (by omega), f1, Option.bind_some, w1, f2, clos]
    dsimp only
    rw [Bool.and_assoc]
    by_cases hh : home (advN (pl s (s.size / 2) 0) m.toNat ⟨0, 0, 0⟩) = true
    · have hh2 := hh
      unfold home at hh2
      rw [if_pos hh, hh2, if_pos rfl, decide_eq_true (show m > 0 by omega)]
    · have hh2 := hh
      unfold home at hh2
      rw [if_neg hh, if_neg hh2]
theorem closes_val {s : ByteArray} (g : GoodP s) : Ev (fun k => impl_ClosesAfter.l0 k s 1) (clos (pl s (s.size / 2) 0) 4 1, decide (clos (pl s (s.size / 2) 0) 4 1 > 0)) := closes_l0 g 4 1 (by omega) (by omega) (by omega)
end Go.Proofs.Ythngapcocbclgaa.Pure
