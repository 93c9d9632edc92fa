/- The plain law of WindingOf: for every program the program's answer is the reference's. No condition. -/
import Derived.Test.YthngapcocbclgaaPWx4
import Derived.Test.YthngapcocbclgaaPWx6
import Derived.Test.YthngapcocbclgaaPWx7
import Derived.Test.YthngapcocbclgaaWPuPlace
namespace Go.Proofs.Ythngapcocbclgaa.Pure
open Go.RowKit Go.Proofs.Ythngapcocbclgaa Go.Proofs.Ythngapcocbclgaa.PW Go.Proofs.YthngapcocbclgaaW.PrintWords Go.Proofs.YthngapcocbclgaaW.PrintLast
set_option linter.unusedVariables false
set_option linter.unusedSimpArgs false

theorem index_mem (c : UInt8) : ∀ l : List UInt8, (0 ≤ Lib.indexByte l c ↔ (c.toNat : Int) ∈ l.map (fun b => (b.toNat : Int)))
  | [] => by simp [Lib.indexByte]
  | b :: l => by
    have ih := index_mem c l
    have hg := Lib.indexByte_ge l c
    rw [List.map_cons, List.mem_cons]
    by_cases h : b = c
    · subst h
      have e : Lib.indexByte (b :: l) b = 0 := by simp [Lib.indexByte]
      rw [e]
      exact ⟨fun _ => Or.inl rfl, fun _ => Int.le_refl 0⟩
    · have h1 : (b == c) = false := by simpa using h
      have h2 : ¬ ((c.toNat : Int) = (b.toNat : Int)) := fun e => h (UInt8.toNat_inj.1 (by omega))
      by_cases hm : Lib.indexByte l c = -1
      · have e : Lib.indexByte (b :: l) c = -1 := by simp [Lib.indexByte, h1, hm]
        rw [e]
        rw [hm] at ih
        exact ⟨fun h => absurd h (by omega), fun h => h.elim (fun h => absurd h h2) (fun h => absurd (ih.2 h) (by omega))⟩
      · have e : Lib.indexByte (b :: l) c = Lib.indexByte l c + 1 := by simp [Lib.indexByte, h1, hm]
        rw [e]
        exact ⟨fun h => Or.inr (ih.1 (by omega)), fun h => h.elim (fun h => absurd h h2) (fun h => by have := ih.2 h; omega)⟩
theorem contains_mem (s : ByteArray) (c : UInt8) : strings_Contains.f s (⟨#[c]⟩ : ByteArray) = some (decide ((c.toNat : Int) ∈ bytesOf s)) := by
  unfold strings_Contains.f
  rw [if_pos (show (⟨#[c]⟩ : ByteArray).size = 1 from rfl)]
  congr 1
  rw [decide_eq_decide]
  exact index_mem c s.data.toList
theorem wind_l0 {s : ByteArray} (g : GoodP s) (n : Nat) : ∀ i : Int, ((s.size : Int) + 1 - i).toNat = 2 * n → 1 ≤ i → i ≤ s.size + 1 → i % 2 = 1 →
    Ev (fun k => spec_WindingOf.l0 k s i) (if (85 : Int) ∈ (bytesOf s).drop (i - 1).toNat then (0, false) else (wrap64 (Int.tdiv (wrap64 (qv (bytesOf s) * clos (pl s (s.size / 2) 0) 4 1)) 4), true)) := by
  have hi := g.hi
  have hev := g.ev
  induction n with
  | zero =>
    intro i hn h0 h1 h2
    have e : (bytesOf s).drop (i - 1).toNat = [] := List.drop_eq_nil_of_le (by rw [bytesOf_length]; omega)
    rw [e, if_neg (by simp)]
    obtain ⟨K1, f1⟩ := tuQuarters_val g
    obtain ⟨K2, f2⟩ := tuCloses_val g
    refine Pl.ev_unf ⟨K1 + K2, fun k hk => ?_⟩
    have f1 := f1 k (by omega)
    have f2 := f2 k (by omega)
    dsimp only at f1 f2
    rw [spec_WindingOf.l0, if_neg (by omega), f1, Option.bind_some, f2, Option.bind_some]
  | succ n ih =>
    intro i hn h0 h1 h2
    have hd := (g.al (i - 1) (by omega) (by omega)).1 (by omega)
    have e1 := drop_bt (s := s) (i := i - 1) (by omega) (by omega)
    rw [show i - 1 + 1 = i by omega] at e1
    have e2 := drop_bt (s := s) (i := i) (by omega) (by omega)
    have w2 : wrap64 (i + 2) = i + 2 := Pl.w64 (by omega) (by omega)
    have hne : ¬ ((85 : Int) = bt s (i - 1)) := by omega
    by_cases c : bt s i = 85
    · refine Pl.ev_unf ⟨0, fun k _ => ?_⟩
      rw [spec_WindingOf.l0, if_pos (by omega), if_pos (by omega), if_pos c, if_pos]
      rw [e1, e2, c]
      simp
    · obtain ⟨K, f⟩ := ih (i + 2) (by omega) (by omega) (by omega) (by omega)
      refine Pl.ev_unf ⟨K, fun k hk => ?_⟩
      have f := f k hk
      dsimp only at f
      rw [spec_WindingOf.l0, if_pos (by omega), if_pos (by omega), if_neg c, w2, f]
      have em : ((85 : Int) ∈ (bytesOf s).drop (i - 1).toNat) ↔ ((85 : Int) ∈ (bytesOf s).drop (i + 2 - 1).toNat) := by
        rw [e1, e2, show i + 2 - 1 = i + 1 by omega, List.mem_cons, List.mem_cons]
        exact ⟨fun h => h.elim (fun h => absurd h hne) (fun h => h.elim (fun h => absurd h.symm c) id), fun h => Or.inr (Or.inr h)⟩
      simp only [em]
theorem wind_both (s : ByteArray) (hs : s.size ≤ 9223372036854775000) : ∃ r, Ev (fun k => spec_WindingOf.f k s) r ∧ Ev (fun k => impl_WindingOf.f k s) r := by
  obtain ⟨b, ⟨K1, e1⟩, ⟨K2, e2⟩, hb⟩ := goodP_both s hs
  cases b with
  | false =>
    refine ⟨(0, false), ⟨K1 + 1, fun k hk => ?_⟩, ⟨K2, fun k hk => ?_⟩⟩
    · have e := e1 k (by omega)
      obtain ⟨q, rfl⟩ : ∃ q, k = q + 1 := ⟨k - 1, by omega⟩
      dsimp only at e ⊢
      rw [spec_WindingOf.f, e, Option.bind_some, if_neg (by simp), spec_WindingOf.j0, if_pos rfl]
    · have e := e2 k hk
      dsimp only at e ⊢
      rw [impl_WindingOf.f, impl_ClosesAfter.f, e, Option.bind_some, if_neg (by simp), Option.bind_some, if_neg (by simp)]
  | true =>
    have g := hb.1 rfl
    obtain ⟨K3, f3⟩ := tuCloses_val g
    obtain ⟨K4, f4⟩ := closes_val g
    have hc := clos_in (pl s (s.size / 2) 0) 4 1 (by omega)
    by_cases h0 : clos (pl s (s.size / 2) 0) 4 1 = 0
    · refine ⟨(0, false), ⟨K1 + K3 + 1, fun k hk => ?_⟩, ⟨K2 + K4, fun k hk => ?_⟩⟩
      · have e := e1 k (by omega)
        have f := f3 k (by omega)
        obtain ⟨q, rfl⟩ : ∃ q, k = q + 1 := ⟨k - 1, by omega⟩
        dsimp only at e f ⊢
        rw [spec_WindingOf.f, e, Option.bind_some, if_pos rfl, f, Option.bind_some, h0, spec_WindingOf.j0, if_pos (show ((0 : Int) == 0) = true from rfl)]
      · have e := e2 k (by omega)
        have f := f4 k (by omega)
        dsimp only at e f ⊢
        rw [impl_WindingOf.f, impl_ClosesAfter.f, e, Option.bind_some, if_pos rfl, f, Option.bind_some, h0, if_neg (by simp)]
    · obtain ⟨K5, f5⟩ := wind_l0 g (s.size / 2) 1 (by have := g.ev; omega) (by omega) (by have := g.hi; omega) (by omega)
      rw [show ((1 : Int) - 1).toNat = 0 from rfl, List.drop_zero] at f5
      obtain ⟨K6, f6⟩ := quartersOf_val g K2 (fun k hk => e2 k hk)
      have hcm := contains_mem s 85
      refine ⟨(if (85 : Int) ∈ bytesOf s then (0, false) else (wrap64 (Int.tdiv (wrap64 (qv (bytesOf s) * clos (pl s (s.size / 2) 0) 4 1)) 4), true)), ⟨K1 + K3 + K5 + 1, fun k hk => ?_⟩, ⟨K2 + K4 + K6, fun k hk => ?_⟩⟩
      · have e := e1 k (by omega)
        have f := f3 k (by omega)
        obtain ⟨q, rfl⟩ : ∃ q, k = q + 1 := ⟨k - 1, by omega⟩
        have f5 := f5 q (by omega)
        dsimp only at e f f5 ⊢
        rw [spec_WindingOf.f, e, Option.bind_some, if_pos rfl, f, Option.bind_some, spec_WindingOf.j0, if_neg (by simpa using h0)]
        exact f5
      · have e := e2 k (by omega)
        have f := f4 k (by omega)
        have f6 := f6 k (by omega)
        dsimp only at e f f6 ⊢
        rw [impl_WindingOf.f, impl_ClosesAfter.f, e, Option.bind_some, if_pos rfl, f, Option.bind_some]
        dsimp only
        rw [decide_eq_true (show clos (pl s (s.size / 2) 0) 4 1 > 0 by omega), if_pos rfl, hcm, Option.bind_some]
        by_cases hm : (85 : Int) ∈ bytesOf s
        · rw [if_pos (by simpa using hm), if_pos hm]
        · rw [if_neg (by simpa using hm), if_neg hm, f6, Option.bind_some]
theorem FnExactWindingOf (a0 : ByteArray) (h0 : a0.size ≤ maxLen) : ∃ k, laws_FnExactWindingOf.f k a0 = some true := by
  by_cases hs : (a0.size : Int) ≤ 1048576
  · obtain ⟨r, ⟨K1, e1⟩, ⟨K2, e2⟩⟩ := wind_both a0 (by omega)
    refine ⟨K1 + K2, ?_⟩
    have e1 := e1 (K1 + K2) (by omega)
    have e2 := e2 (K1 + K2) (by omega)
    dsimp only at e1 e2
    rw [laws_FnExactWindingOf.f, if_neg (by omega), e1, e2]
    simp only [Option.bind_some, if_true, bne_self_eq_false, Bool.false_eq_true, if_false]
  · refine ⟨0, ?_⟩
    rw [laws_FnExactWindingOf.f, if_pos (by omega)]

end Go.Proofs.Ythngapcocbclgaa.Pure
