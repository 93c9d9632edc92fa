/- The plain law of CoverSteps: for every world the program's count of steps is the reference's. No condition. -/
import Derived.Test.YtfmfefjplehjgaaDoorPOx1
import Derived.Test.YtfmfefjplehjgaaDoorPOx3
import Derived.Test.YtfmfefjplehjgaaDoorPOx4
import Derived.Test.YtfmfefjplehjgaaDoorPOx5
import Derived.Test.YtfmfefjplehjgaaDoorOPuWorld
namespace Go.Proofs.YtfmfefjplehjgaaDoor.Pure
open Go.RowKit Go.Proofs.YtfmfefjplehjgaaDoor Go.Proofs.YtfmfefjplehjgaaDoor.PO Go.Proofs.YtfmfefjplehjgaaDoorW.PrintWords Go.Proofs.YtfmfefjplehjgaaDoorW.PrintLast
set_option linter.unusedVariables false
set_option linter.unusedSimpArgs false

theorem ac_wrap {s : Wd} (g : GoodWd s) : wrap64 (wrap64 (s.y * s.w) + s.x) = s.ac := by
  have h := atW g
  have m0 := h.m0
  have m1 := h.m1
  have a0 := h.a0
  have a2 := h.a2
  have e1 : wrap64 (s.y * s.w) = s.y * s.w := Pl.w64 (by omega) (by omega)
  rw [e1]
  exact Pl.w64 (show _ ≤ s.ac by omega) (show s.ac ≤ _ by omega)
theorem wat_val {s : Wd} (g : GoodWd s) : impl_World_at.f s.ru s.w s.h s.c s.x s.y s.v = some s.ac := by
  rw [impl_World_at.f, ac_wrap g]
/-! how many different cells a track has -/
def cnt (L : List Int) : Nat := Maps.size (impl_CoverSteps.D L)
theorem cnt_nil : cnt [] = 0 := rfl
theorem key_lit (L : List Int) : ∀ x ∈ L.map (Lit.int .i64), WideAt.IsKeyLit x := by
  intro x hx
  obtain ⟨a, _, rfl⟩ := List.mem_map.1 hx
  trivial
theorem has_cnt (L : List Int) (a : Int) : Maps.has (impl_CoverSteps.D L) (.int .i64 a) = decide (a ∈ L) := by
  unfold impl_CoverSteps.D
  rw [Maps.has_setOf _ _ _ (key_lit L), Bool.eq_iff_iff, List.any_eq_true]
  constructor
  · rintro ⟨x, hx, hs⟩
    have := WideAt.sameKey_eq hs
    subst this
    obtain ⟨b, hb, e⟩ := List.mem_map.1 hx
    cases e
    exact decide_eq_true hb
  · intro h
    exact ⟨_, List.mem_map.2 ⟨a, of_decide_eq_true h, rfl⟩, WideAt.sameKey_self trivial⟩
theorem cnt_snoc (L : List Int) (a : Int) : cnt (L ++ [a]) = if a ∈ L then cnt L else cnt L + 1 := by
  unfold cnt
  rw [impl_CoverSteps.D_snoc, Maps.size_put (show Maps.Tidy (impl_CoverSteps.D L) from Maps.tidy_setOf _ _ (key_lit L)), has_cnt]
  by_cases h : a ∈ L <;> simp [h]
theorem rdOf_set {bs : List Bool} {a j : Int} (ha0 : 0 ≤ a) (ha : a < bs.length) (hj : 0 ≤ j) : rdOf false (bs.set a.toNat true) j = (decide (j = a) || rdOf false bs j) := by
  unfold rdOf
  rw [List.getD_eq_getElem?_getD, List.getD_eq_getElem?_getD, List.getElem?_set]
  by_cases e : j = a
  · subst e
    rw [if_pos rfl, if_pos (by omega)]
    simp
  · rw [if_neg (by omega)]
    simp [e]
theorem cover_l0 (n : Nat) : ∀ (i left : Int) (bs : List Bool) (L : List Int) (s : Wd), GoodWd s → (4001 - i).toNat = n → 1 ≤ i → i ≤ 4001 → (bs.length : Int) = s.c.size → - i ≤ left → left + cnt L = s.c.size → (∀ j : Int, 0 ≤ j → j < s.c.size → (rdOf false bs j = true ↔ j ∈ L)) →
    ∃ r, Ev (fun k => spec_CoverSteps.l0 k bs left i s.ru s.w s.h s.c s.x s.y s.v) r ∧ Ev (fun k => impl_CoverSteps.l0 k i L s.ru s.w s.h s.c s.x s.y s.v) r := by
  induction n with
  | zero =>
    intro i left bs L s g hn h0 h1 hb hl hc hm
    refine ⟨(0, false), Pl.ev_unf ⟨0, fun k _ => ?_⟩, Pl.ev_unf ⟨0, fun k _ => ?_⟩⟩
    · rw [spec_CoverSteps.l0, if_neg (by omega)]
    · rw [impl_CoverSteps.l0, if_neg (by omega)]
  | succ n ih =>
    intro i left bs L s g hn h0 h1 hb hl hc hm
    have a := atW g
    have a0 := a.a0
    have a1 := a.a1
    have gn := good_nx g
    have hz : (s.nx.c.size : Int) = s.c.size := gn.cs.trans g.cs.symm
    have hz9 : (s.c.size : Int) ≤ 81 := by
      have := Pl.mul_in (a := s.w) (b := s.h) (A := 9) (B := 9) (by have := g.w1; omega) g.w9 (by have := g.h1; omega) g.h9
      have := g.cs
      omega
    have w1 : wrap64 (i + 1) = i + 1 := Pl.w64 (by omega) (by omega)
    have w2 : wrap64 (left - 1) = left - 1 := Pl.w64 (by omega) (by omega)
    have hm0 := hm s.ac a0 a1
    have hs := cnt_snoc L s.ac
    have hu : ∀ (x : Int), (Maps.size (impl_CoverSteps.D (L ++ [s.ac])) : Int) = x ↔ (cnt (L ++ [s.ac]) : Int) = x := fun x => Iff.rfl
    by_cases hq : s.ac ∈ L
    · rw [if_pos hq] at hs
      by_cases hd : left = 0
      · refine ⟨(i, true), Pl.ev_unf ⟨0, fun k _ => ?_⟩, Pl.ev_unf ⟨0, fun k _ => ?_⟩⟩
        · rw [spec_CoverSteps.l0, if_pos (by omega), ac_wrap g, if_pos a0, if_pos (by omega), if_pos (hm0.2 hq), if_pos hd]
        · rw [impl_CoverSteps.l0, if_pos (by omega), wat_val g, Option.bind_some, if_pos ((hu _).2 (by omega))]
      · obtain ⟨r, ⟨K1, f1⟩, ⟨K2, f2⟩⟩ := ih (i + 1) left bs (L ++ [s.ac]) s.nx gn (by omega) (by omega) (by omega) (hb.trans hz.symm) (by omega) (by rw [hz]; omega) (fun j hj0 hj1 => by
          rw [hm j hj0 (by omega), List.mem_append, List.mem_singleton]
          exact ⟨Or.inl, fun h => h.elim id (fun e => e ▸ hq)⟩)
        refine ⟨r, Pl.ev_unf ⟨K1 + 1, fun k hk => ?_⟩, Pl.ev_unf ⟨K2, fun k hk => ?_⟩⟩
        · obtain ⟨q, rfl⟩ : ∃ q, k = q + 1 := ⟨k - 1, by omega⟩
          rw [spec_CoverSteps.l0, if_pos (by omega), ac_wrap g, if_pos a0, if_pos (by omega), if_pos (hm0.2 hq), if_neg hd, step_spec g, Option.bind_some, w1]
          exact f1 (q + 1) (by omega)
        · rw [impl_CoverSteps.l0, if_pos (by omega), wat_val g, Option.bind_some, if_neg (fun e => by have := (hu _).1 e; omega), step_impl g, Option.bind_some, w1]
          exact f2 k hk
    · rw [if_neg hq] at hs
      have hf : ¬ (rdOf false bs s.ac = true) := fun e => hq (hm0.1 e)
      by_cases hd : left - 1 = 0
      · refine ⟨(i, true), Pl.ev_unf ⟨0, fun k _ => ?_⟩, Pl.ev_unf ⟨0, fun k _ => ?_⟩⟩
        · rw [spec_CoverSteps.l0, if_pos (by omega), ac_wrap g, if_pos a0, if_pos (by omega), if_neg hf, w2, if_pos hd]
        · rw [impl_CoverSteps.l0, if_pos (by omega), wat_val g, Option.bind_some, if_pos ((hu _).2 (by omega))]
      · obtain ⟨r, ⟨K1, f1⟩, ⟨K2, f2⟩⟩ := ih (i + 1) (left - 1) (bs.set s.ac.toNat true) (L ++ [s.ac]) s.nx gn (by omega) (by omega) (by omega) (by rw [List.length_set]; exact hb.trans hz.symm) (by omega) (by rw [hz]; omega) (fun j hj0 hj1 => by
          rw [rdOf_set a0 (by omega) hj0, Bool.or_eq_true, decide_eq_true_eq, hm j hj0 (by omega), List.mem_append, List.mem_singleton]
          exact ⟨fun h => h.symm, fun h => h.symm⟩)
        refine ⟨r, Pl.ev_unf ⟨K1 + 1, fun k hk => ?_⟩, Pl.ev_unf ⟨K2, fun k hk => ?_⟩⟩
        · obtain ⟨q, rfl⟩ : ∃ q, k = q + 1 := ⟨k - 1, by omega⟩
          rw [spec_CoverSteps.l0, if_pos (by omega), ac_wrap g, if_pos a0, if_pos (by omega), if_neg hf, w2, if_neg hd, step_spec g, Option.bind_some, w1]
          exact f1 (q + 1) (by omega)
        · rw [impl_CoverSteps.l0, if_pos (by omega), wat_val g, Option.bind_some, if_neg (fun e => by have := (hu _).1 e; omega), step_impl g, Option.bind_some, w1]
          exact f2 k hk
theorem coverSteps_both (s : Wd) (hs : s.c.size ≤ 9223372036854775807) : ∃ r, Ev (fun k => spec_CoverSteps.f k s.ru s.w s.h s.c s.x s.y s.v) r ∧ Ev (fun k => impl_CoverSteps.f k s.ru s.w s.h s.c s.x s.y s.v) r := by
  obtain ⟨b, ⟨K1, e1⟩, ⟨K2, e2⟩, hb⟩ := goodW_both s hs
  cases b with
  | false =>
    refine ⟨(0, false), ⟨K1, fun k hk => ?_⟩, ⟨K2, fun k hk => ?_⟩⟩
    · have e : spec_woGood.f k s.ru s.w s.h s.c s.x s.y s.v = some false := e1 k hk
      dsimp only
      rw [spec_CoverSteps.f, e, Option.bind_some, if_neg (by simp)]
    · have e : impl_IsWorld.f k s.ru s.w s.h s.c s.x s.y s.v = some false := e2 k hk
      dsimp only
      rw [impl_CoverSteps.f, e, Option.bind_some, if_neg (by simp)]
  | true =>
    have g := hb.1 rfl
    have hz9 : s.w * s.h ≤ 81 := (Pl.mul_in (a := s.w) (b := s.h) (A := 9) (B := 9) (by have := g.w1; omega) g.w9 (by have := g.h1; omega) g.h9).2
    have cs := g.cs
    have wm : wrap64 (s.w * s.h) = s.w * s.h := Pl.w64 (by omega) (by omega)
    obtain ⟨r, ⟨K3, f3⟩, ⟨K4, f4⟩⟩ := cover_l0 _ 1 (s.w * s.h) (List.replicate (s.w * s.h).toNat false) [] s g rfl (by omega) (by omega) (by rw [List.length_replicate]; omega) (by omega) (by rw [cnt_nil]; omega) (fun j h0 h1 => by simp [rdOf, List.getD_eq_getElem?_getD, List.getElem?_replicate]; split <;> simp)
    refine ⟨r, ⟨K1 + K3, fun k hk => ?_⟩, ⟨K2 + K4, fun k hk => ?_⟩⟩
    · have e : spec_woGood.f k s.ru s.w s.h s.c s.x s.y s.v = some true := e1 k (by omega)
      dsimp only
      rw [spec_CoverSteps.f, e, Option.bind_some, if_pos rfl, wm, if_pos (by omega), if_pos (by omega), Option.bind_some, List.length_replicate, show ((s.w * s.h).toNat : Int) = s.w * s.h by omega]
      exact f3 k (by omega)
    · have e : impl_IsWorld.f k s.ru s.w s.h s.c s.x s.y s.v = some true := e2 k (by omega)
      dsimp only
      rw [impl_CoverSteps.f, e, Option.bind_some, if_pos rfl]
      exact f4 k (by omega)
theorem FnExactCoverSteps (a0_0 : ByteArray) (a0_1 : Int) (a0_2 : Int) (a0_3 : ByteArray) (a0_4 : Int) (a0_5 : Int) (a0_6 : Int) (h0 : (a0_0.size ≤ maxLen) ∧ ((Lit.int .i64 a0_1).wf = true) ∧ ((Lit.int .i64 a0_2).wf = true) ∧ (a0_3.size ≤ maxLen) ∧ ((Lit.int .i64 a0_4).wf = true) ∧ ((Lit.int .i64 a0_5).wf = true) ∧ ((Lit.int .i64 a0_6).wf = true)) : ∃ k, laws_FnExactCoverSteps.f k a0_0 a0_1 a0_2 a0_3 a0_4 a0_5 a0_6 = some true := by
  obtain ⟨hr, _, _, hd, _⟩ := h0
  have hr := Pl.le_max hr
  have hd := Pl.le_max hd
  by_cases hs : (a0_0.size : Int) + a0_3.size ≤ 1048576
  · obtain ⟨r, ⟨K1, e1⟩, ⟨K2, e2⟩⟩ := coverSteps_both ⟨a0_0, a0_1, a0_2, a0_3, a0_4, a0_5, a0_6⟩ hd
    refine ⟨K1 + K2, ?_⟩
    have e1 : spec_CoverSteps.f (K1 + K2) a0_0 a0_1 a0_2 a0_3 a0_4 a0_5 a0_6 = some r := e1 (K1 + K2) (by omega)
    have e2 : impl_CoverSteps.f (K1 + K2) a0_0 a0_1 a0_2 a0_3 a0_4 a0_5 a0_6 = some r := e2 (K1 + K2) (by omega)
    rw [laws_FnExactCoverSteps.f, szW_small hs, Option.bind_some, if_neg (by omega)]
    simp only [laws_toWorld.f, Option.bind_some]
    rw [e1, e2]
    simp only [Option.bind_some, if_true, bne_self_eq_false, Bool.false_eq_true, if_false]
  · refine ⟨0, ?_⟩
    rw [laws_FnExactCoverSteps.f, szW_big hr hd (by omega), Option.bind_some, if_pos (by omega)]

end Go.Proofs.YtfmfefjplehjgaaDoor.Pure
