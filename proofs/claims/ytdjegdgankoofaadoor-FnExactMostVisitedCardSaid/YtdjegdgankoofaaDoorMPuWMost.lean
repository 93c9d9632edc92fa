/- The plain law of MostVisited: for every world and number of steps the program's answer (the first place of the greatest) is the reference's. No condition. -/
import Derived.Test.YtdjegdgankoofaaDoorPMx3
import Derived.Test.YtdjegdgankoofaaDoorPMx6
import Derived.Test.YtdjegdgankoofaaDoorMPuWVisits
namespace Go.Proofs.YtdjegdgankoofaaDoor.Pure
open Go.RowKit Go.Proofs.YtdjegdgankoofaaDoor Go.Proofs.YtdjegdgankoofaaDoor.PM Go.Proofs.YtdjegdgankoofaaDoorW.PrintWords Go.Proofs.YtdjegdgankoofaaDoorW.PrintLast
set_option linter.unusedVariables false
set_option linter.unusedSimpArgs false

/-- b is the first place of the greatest among the first i -/
def Fst (T : List Int) (i b : Int) : Prop := 0 ≤ b ∧ b < i ∧ (∀ j : Int, 0 ≤ j → j < i → rd T j ≤ rd T b) ∧ (∀ j : Int, 0 ≤ j → j < b → rd T j < rd T b)
theorem most_spec {T : List Int} (hT : T.length ≤ 1000) (n : Nat) : ∀ (i b : Int), ((T.length : Int) - i).toNat = n → 1 ≤ i → i ≤ T.length → Fst T i b → ∃ r, Ev (fun k => spec_MostVisited.l0 k b T T T.length i) (r, true) ∧ Fst T T.length r := by
  induction n with
  | zero =>
    intro i b hn h0 h1 hb
    have : i = T.length := by omega
    subst this
    refine ⟨b, Pl.ev_unf ⟨0, fun k _ => ?_⟩, hb⟩
    rw [spec_MostVisited.l0, if_neg (by omega)]
  | succ n ih =>
    intro i b hn h0 h1 hb
    obtain ⟨b0, b1, hm, hs⟩ := hb
    have w1 : wrap64 (i + 1) = i + 1 := Pl.w64 (by omega) (by omega)
    by_cases c : rd T i > rd T b
    · obtain ⟨r, ⟨K, f⟩, hr⟩ := ih (i + 1) i (by omega) (by omega) (by omega) ⟨by omega, by omega, fun j j0 j1 => by
        by_cases e : j = i
        · subst e; omega
        · have := hm j j0 (by omega)
          omega, fun j j0 j1 => by
        have := hm j j0 (by omega)
        omega⟩
      refine ⟨r, Pl.ev_unf ⟨K, fun k hk => ?_⟩, hr⟩
      rw [spec_MostVisited.l0, if_pos (by omega), if_pos (by omega), if_pos (by omega), if_pos (by omega), if_pos (by omega), if_pos c, w1]
      exact f k hk
    · obtain ⟨r, ⟨K, f⟩, hr⟩ := ih (i + 1) b (by omega) (by omega) (by omega) ⟨by omega, by omega, fun j j0 j1 => by
        by_cases e : j = i
        · subst e; omega
        · exact hm j j0 (by omega), hs⟩
      refine ⟨r, Pl.ev_unf ⟨K, fun k hk => ?_⟩, hr⟩
      rw [spec_MostVisited.l0, if_pos (by omega), if_pos (by omega), if_pos (by omega), if_pos (by omega), if_pos (by omega), if_neg c, w1]
      exact f k hk
theorem index_val {T : List Int} (hT : T.length ≤ 1000) {b : Int} (hb : Fst T T.length b) (n : Nat) : ∀ i : Int, (b - i).toNat = n → 0 ≤ i → i ≤ b → Ev (fun k => slices_Index_int_int.l0 k T (rd T b) T.length i) b := by
  obtain ⟨b0, b1, hm, hs⟩ := hb
  induction n with
  | zero =>
    intro i hn h0 h1
    have : i = b := by omega
    subst this
    refine Pl.ev_unf ⟨0, fun k _ => ?_⟩
    rw [slices_Index_int_int.l0, if_pos (by omega), if_pos (by omega), if_pos (by omega), if_pos rfl]
  | succ n ih =>
    intro i hn h0 h1
    obtain ⟨K, f⟩ := ih (i + 1) (by omega) (by omega) (by omega)
    have w1 : wrap64 (i + 1) = i + 1 := Pl.w64 (by omega) (by omega)
    have := hs i h0 (by omega)
    refine Pl.ev_unf ⟨K, fun k hk => ?_⟩
    rw [slices_Index_int_int.l0, if_pos (by omega), if_pos (by omega), if_pos (by omega), if_neg (by omega), w1]
    exact f k hk
theorem getD_rd {T : List Int} {j : Nat} (h : j < T.length) : T.getD j 0 = rd T j := by
  rw [Pl.rd_get (i := (j : Int)) (by omega), List.getD_eq_getElem?_getD, List.getElem?_eq_getElem h]
  rfl
theorem maxOf_take {T : List Int} (n : Nat) : n < T.length → (∀ j : Nat, j ≤ n → rd T j ≤ Lib.maxOf (T.take (n + 1))) ∧ ∃ j : Nat, j ≤ n ∧ Lib.maxOf (T.take (n + 1)) = rd T j := by
  induction n with
  | zero =>
    intro h
    rw [Lib.maxOf_one, getD_rd h]
    refine ⟨fun j hj => ?_, 0, Nat.le_refl _, rfl⟩
    have : j = 0 := by omega
    subst this
    exact Int.le_refl _
  | succ n ih =>
    intro h
    obtain ⟨h1, j, hj, e⟩ := ih (by omega)
    rw [Lib.maxOf_step T (n + 1) (by omega) h, getD_rd h]
    refine ⟨fun j hj => ?_, ?_⟩
    · by_cases c : j = n + 1
      · subst c
        omega
      · have := h1 j (by omega)
        omega
    · by_cases c : Lib.maxOf (T.take (n + 1)) ≤ rd T ((n + 1 : Nat) : Int)
      · exact ⟨n + 1, Nat.le_refl _, by omega⟩
      · exact ⟨j, by omega, by rw [← e]; omega⟩
theorem maxOf_val {T : List Int} {b : Int} (hb : Fst T T.length b) : Lib.maxOf T = rd T b := by
  obtain ⟨b0, b1, hm, hs⟩ := hb
  obtain ⟨h1, j, hj, e⟩ := maxOf_take (T := T) (T.length - 1) (by omega)
  rw [show T.length - 1 + 1 = T.length by omega, List.take_length] at h1 e
  have h2 := h1 b.toNat (by omega)
  rw [show ((b.toNat : Nat) : Int) = b by omega] at h2
  have h3 := hm (j : Int) (by omega) (by omega)
  omega
theorem most_both (s : Wd) (m : Int) (hs : s.c.size ≤ 9223372036854775807) : ∃ r, Ev (fun k => spec_MostVisited.f k s.ru s.w s.h s.c s.x s.y s.v m) r ∧ Ev (fun k => impl_MostVisited.f k s.ru s.w s.h s.c s.x s.y s.v m) r := by
  obtain ⟨b, ⟨K1, e1⟩, ⟨K2, e2⟩, hb⟩ := going_both s m hs
  cases b with
  | false =>
    refine ⟨(0, false), ⟨K1 + 1, fun k hk => ?_⟩, ⟨K2 + 1, fun k hk => ?_⟩⟩
    · have e : spec_woSteps.f k s.ru s.w s.h s.c s.x s.y s.v m = some false := e1 k (by omega)
      obtain ⟨q, rfl⟩ : ∃ q, k = q + 1 := ⟨k - 1, by omega⟩
      dsimp only
      rw [spec_MostVisited.f, e, Option.bind_some, if_neg (by simp), spec_MostVisited.j0, if_pos rfl]
    · have e : impl_isGoing.f k s.ru s.w s.h s.c s.x s.y s.v m = some false := e2 k (by omega)
      obtain ⟨q, rfl⟩ : ∃ q, k = q + 1 := ⟨k - 1, by omega⟩
      dsimp only
      rw [impl_MostVisited.f, e, Option.bind_some, if_neg (by simp), impl_MostVisited.j0, if_pos rfl]
  | true =>
    obtain ⟨g, m0, m1⟩ := hb.1 rfl
    by_cases c : m = 0
    · subst c
      refine ⟨(0, false), ⟨K1 + 1, fun k hk => ?_⟩, ⟨K2 + 1, fun k hk => ?_⟩⟩
      · have e : spec_woSteps.f k s.ru s.w s.h s.c s.x s.y s.v 0 = some true := e1 k (by omega)
        obtain ⟨q, rfl⟩ : ∃ q, k = q + 1 := ⟨k - 1, by omega⟩
        dsimp only
        rw [spec_MostVisited.f, e, Option.bind_some, if_pos rfl, spec_MostVisited.j0, if_pos (by decide)]
      · have e : impl_isGoing.f k s.ru s.w s.h s.c s.x s.y s.v 0 = some true := e2 k (by omega)
        obtain ⟨q, rfl⟩ : ∃ q, k = q + 1 := ⟨k - 1, by omega⟩
        dsimp only
        rw [impl_MostVisited.f, e, Option.bind_some, if_pos rfl, impl_MostVisited.j0, if_pos (by decide)]
    · obtain ⟨⟨K3, f3⟩, ⟨K4, f4⟩⟩ := visits_val g m m0 (by omega)
      obtain ⟨q0, q1⟩ := Pl.mul_in (a := s.w) (b := s.h) (A := 9) (B := 9) (by have := g.w1; omega) g.w9 (by have := g.h1; omega) g.h9
      have qp := Int.mul_pos (a := s.w) (b := s.h) (by have := g.w1; omega) (by have := g.h1; omega)
      have cs := g.cs
      have hl := vis_length s m.toNat
      generalize s.vis m.toNat = T at f3 f4 hl
      obtain ⟨r, ⟨K5, f5⟩, hr⟩ := most_spec (T := T) (by omega) ((T.length : Int) - 1).toNat 1 0 rfl (by omega) (by omega) ⟨by omega, by omega, fun j j0 j1 => by
        have : j = 0 := by omega
        subst this
        exact Int.le_refl _, fun j j0 j1 => by omega⟩
      -- from the first place on
      have f5' : Ev (fun k => spec_MostVisited.l0 k 0 T T T.length 0) (r, true) := by
        refine Pl.ev_unf ⟨K5, fun k hk => ?_⟩
        rw [spec_MostVisited.l0, if_pos (by omega), if_pos (by omega), if_pos (by omega), if_pos (by omega), if_pos (by omega), if_neg (by omega), show wrap64 (0 + 1) = 1 from Pl.w64 (by omega) (by omega)]
        exact f5 k hk
      obtain ⟨K6, f6⟩ := f5'
      obtain ⟨K7, f7⟩ := index_val (T := T) (by omega) hr r.toNat 0 (by omega) (by omega) hr.1
      have hx := maxOf_val hr
      refine ⟨(r, true), ⟨K1 + K3 + K6 + 1, fun k hk => ?_⟩, ⟨K2 + K4 + K7 + 1, fun k hk => ?_⟩⟩
      · have e : spec_woSteps.f k s.ru s.w s.h s.c s.x s.y s.v m = some true := e1 k (by omega)
        obtain ⟨q, rfl⟩ : ∃ q, k = q + 1 := ⟨k - 1, by omega⟩
        have f : spec_loVisits.f q s.ru s.w s.h s.c s.x s.y s.v m = some T := f3 q (by omega)
        dsimp only
        rw [spec_MostVisited.f, e, Option.bind_some, if_pos rfl, spec_MostVisited.j0, if_neg (by simp <;> omega), f, Option.bind_some]
        exact f6 q (by omega)
      · have e : impl_isGoing.f k s.ru s.w s.h s.c s.x s.y s.v m = some true := e2 k (by omega)
        obtain ⟨q, rfl⟩ : ∃ q, k = q + 1 := ⟨k - 1, by omega⟩
        have f : impl_visits.f q s.ru s.w s.h s.c s.x s.y s.v m = some T := f4 q (by omega)
        have f' : slices_Index_int_int.l0 q T (rd T r) T.length 0 = some r := f7 q (by omega)
        dsimp only
        rw [impl_MostVisited.f, e, Option.bind_some, if_pos rfl, impl_MostVisited.j0, if_neg (by simp <;> omega), f, Option.bind_some, slices_Max_int_int.f, if_pos (by omega), Option.bind_some, hx, slices_Index_int_int.f, f', Option.bind_some]
theorem FnExactMostVisited (a0_0 : ByteArray) (a0_1 : Int) (a0_2 : Int) (a0_3 : ByteArray) (a0_4 : Int) (a0_5 : Int) (a0_6 : Int) (a1 : Int) (h0 : (a0_0.size ≤ maxLen) ∧ ((Lit.int .i64 a0_1).wf = true) ∧ ((Lit.int .i64 a0_2).wf = true) ∧ (a0_3.size ≤ maxLen) ∧ ((Lit.int .i64 a0_4).wf = true) ∧ ((Lit.int .i64 a0_5).wf = true) ∧ ((Lit.int .i64 a0_6).wf = true)) (h1 : (Lit.int .i64 a1).wf = true) : ∃ k, laws_FnExactMostVisited.f k a0_0 a0_1 a0_2 a0_3 a0_4 a0_5 a0_6 a1 = some true := by
  obtain ⟨hr, _, _, hd, _⟩ := h0
  have hr := Pl.le_max hr
  have hd := Pl.le_max hd
  by_cases hs : (a0_0.size : Int) + a0_3.size ≤ 1048576
  · obtain ⟨r, ⟨K1, e1⟩, ⟨K2, e2⟩⟩ := most_both ⟨a0_0, a0_1, a0_2, a0_3, a0_4, a0_5, a0_6⟩ a1 hd
    refine ⟨K1 + K2, ?_⟩
    have e1 : spec_MostVisited.f (K1 + K2) a0_0 a0_1 a0_2 a0_3 a0_4 a0_5 a0_6 a1 = some r := e1 (K1 + K2) (by omega)
    have e2 : impl_MostVisited.f (K1 + K2) a0_0 a0_1 a0_2 a0_3 a0_4 a0_5 a0_6 a1 = some r := e2 (K1 + K2) (by omega)
    rw [laws_FnExactMostVisited.f, szW_small hs, Option.bind_some, if_neg (by omega)]
    simp only [laws_toWorld.f, Option.bind_some]
    rw [e1, e2]
    simp only [Option.bind_some, if_true, bne_self_eq_false, Bool.false_eq_true, if_false]
  · refine ⟨0, ?_⟩
    rw [laws_FnExactMostVisited.f, szW_big hr hd (by omega), Option.bind_some, if_pos (by omega)]

end Go.Proofs.YtdjegdgankoofaaDoor.Pure
