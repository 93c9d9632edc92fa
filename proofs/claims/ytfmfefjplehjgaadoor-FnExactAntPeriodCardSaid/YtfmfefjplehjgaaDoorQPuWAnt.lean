/- The plain law of AntPeriod: for every world the program's search answers as the reference's loop. No condition. -/
import Derived.Test.YtfmfefjplehjgaaDoorPQx1
import Derived.Test.YtfmfefjplehjgaaDoorPQx3
import Derived.Test.YtfmfefjplehjgaaDoorPQx4
import Derived.Test.YtfmfefjplehjgaaDoorPQx5
import Derived.Test.YtfmfefjplehjgaaDoorPQx6
import Derived.Test.YtfmfefjplehjgaaDoorQPuWorld
namespace Go.Proofs.YtfmfefjplehjgaaDoor.Pure
open Go.RowKit Go.Proofs.YtfmfefjplehjgaaDoor Go.Proofs.YtfmfefjplehjgaaDoor.PQ Go.Proofs.YtfmfefjplehjgaaDoorW.PrintWords Go.Proofs.YtfmfefjplehjgaaDoorW.PrintLast
set_option linter.unusedVariables false
set_option linter.unusedSimpArgs false

theorem wat_val {s : Wd} (g : GoodWd s) : impl_World_at.f s.ru s.w s.h s.c s.x s.y s.v = some s.ac := by
  have h := atW g
  have m0 := h.m0
  have m1 := h.m1
  have a0 := h.a0
  have a2 := h.a2
  have e1 : wrap64 (s.y * s.w) = s.y * s.w := Pl.w64 (by omega) (by omega)
  have e2 : wrap64 (s.y * s.w + s.x) = s.ac := Pl.w64 (show _ ≤ s.ac by omega) (show s.ac ≤ _ by omega)
  rw [impl_World_at.f, e1, e2]
theorem ac_inj {s o : Wd} (g : GoodWd s) (h : GoodWd o) (hw : s.w = o.w) : s.ac = o.ac ↔ s.x = o.x ∧ s.y = o.y := by
  constructor
  · intro e
    have e : s.y * s.w + s.x = o.y * s.w + o.x := by rw [show o.y * s.w = o.y * o.w by rw [hw]]; exact e
    have x1 : (s.y * s.w + s.x) % s.w = s.x := Pl.node_mod g.x0 g.xw
    have x2 : (o.y * s.w + o.x) % s.w = o.x := Pl.node_mod h.x0 (by rw [hw]; exact h.xw)
    have y1 : (s.y * s.w + s.x) / s.w = s.y := Pl.node_div g.x0 g.xw
    have y2 : (o.y * s.w + o.x) / s.w = o.y := Pl.node_div h.x0 (by rw [hw]; exact h.xw)
    rw [e] at x1 y1
    exact ⟨x1.symm.trans x2, y1.symm.trans y2⟩
  · rintro ⟨e1, e2⟩
    unfold Wd.ac
    rw [e1, e2, hw]
theorem acc_val {s o : Wd} (g : GoodWd s) (h : GoodWd o) (hw : s.w = o.w) : impl_AntPeriod.acc o.ru o.w o.h o.c o.x o.y o.v s.ru s.w s.h s.c s.x s.y s.v = decide (s.x = o.x ∧ s.y = o.y ∧ s.v = o.v) := by
  unfold impl_AntPeriod.acc impl_AntPeriod_1.f
  rw [wat_val g, wat_val h]
  simp only [Option.bind_some, Option.getD_some]
  have := ac_inj g h hw
  by_cases e : s.ac = o.ac
  · rw [if_pos e]
    have h2 := this.1 e
    simp only [h2.1, h2.2, true_and]
    rw [Bool.eq_iff_iff]
    simp
  · rw [if_neg e]
    have h2 : ¬(s.x = o.x ∧ s.y = o.y) := fun h => e (this.2 h)
    simp only [Option.getD_some]
    exact (decide_eq_false (fun h => h2 ⟨h.1, h.2.1⟩)).symm
theorem antPeriod_l0 (o : Wd) (go : GoodWd o) (n : Nat) : ∀ (i : Int) (s : Wd), GoodWd s → s.w = o.w → (4001 - i).toNat = n → 1 ≤ i → i ≤ 4001 → ∃ r, Ev (fun k => spec_AntPeriod.l0 k i o.ru o.w o.h o.c o.x o.y o.v s.ru s.w s.h s.c s.x s.y s.v) r ∧ Ev (fun k => impl_search.l0 (impl_AntPeriod.acc o.ru o.w o.h o.c o.x o.y o.v) k 1 i s.nx.ru s.nx.w s.nx.h s.nx.c s.nx.x s.nx.y s.nx.v) r := by
  induction n with
  | zero =>
    intro i s g hw hn h0 h1
    refine ⟨(0, false), Pl.ev_unf ⟨0, fun k _ => ?_⟩, Pl.ev_unf ⟨0, fun k _ => ?_⟩⟩
    · rw [spec_AntPeriod.l0, if_neg (by omega)]
    · rw [impl_search.l0, if_neg (by omega)]
  | succ n ih =>
    intro i s g hw hn h0 h1
    have gn := good_nx g
    have w1 : wrap64 (i + 1) = i + 1 := Pl.w64 (by omega) (by omega)
    have ea := acc_val gn go (show s.nx.w = o.w from hw)
    by_cases hq : s.nx.x = o.x ∧ s.nx.y = o.y ∧ s.nx.v = o.v
    · refine ⟨(i, true), Pl.ev_unf ⟨1, fun k hk => ?_⟩, Pl.ev_unf ⟨0, fun k _ => ?_⟩⟩
      · obtain ⟨q, rfl⟩ : ∃ q, k = q + 1 := ⟨k - 1, by omega⟩
        rw [spec_AntPeriod.l0, if_pos (by omega), step_spec g, Option.bind_some]
        dsimp only
        rw [if_pos hq.1, if_pos hq.2.1, if_pos hq.2.2]
      · rw [impl_search.l0, if_pos (by omega), if_pos (by omega), ea, decide_eq_true hq, Option.bind_some, if_pos rfl]
    · obtain ⟨r, ⟨K1, f1⟩, ⟨K2, f2⟩⟩ := ih (i + 1) s.nx gn hw (by omega) (by omega) (by omega)
      refine ⟨r, Pl.ev_unf ⟨K1 + 1, fun k hk => ?_⟩, Pl.ev_unf ⟨K2, fun k hk => ?_⟩⟩
      · obtain ⟨q, rfl⟩ : ∃ q, k = q + 1 := ⟨k - 1, by omega⟩
        rw [spec_AntPeriod.l0, if_pos (by omega), step_spec g, Option.bind_some]
        dsimp only
        rw [w1]
        have f1 := f1 (q + 1) (by omega)
        dsimp only at f1
        rw [f1]
        by_cases h1 : s.nx.x = o.x
        · rw [if_pos h1]
          by_cases h2 : s.nx.y = o.y
          · rw [if_pos h2, if_neg (fun h3 => hq ⟨h1, h2, h3⟩)]
          · rw [if_neg h2]
        · rw [if_neg h1]
      · rw [impl_search.l0, if_pos (by omega), if_pos (by omega), ea, decide_eq_false hq, Option.bind_some, if_neg (by simp), step_impl gn, Option.bind_some, w1]
        exact f2 k hk
theorem antPeriod_both (s : Wd) (hs : s.c.size ≤ 9223372036854775807) : ∃ r, Ev (fun k => spec_AntPeriod.f k s.ru s.w s.h s.c s.x s.y s.v) r ∧ Ev (fun k => impl_AntPeriod.f k s.ru s.w s.h s.c s.x s.y s.v) r := by
  obtain ⟨b, ⟨K1, e1⟩, ⟨K2, e2⟩, hb⟩ := goodW_both s hs
  cases b with
  | false =>
    refine ⟨(0, false), ⟨K1, fun k hk => ?_⟩, ⟨K2, fun k hk => ?_⟩⟩
    · have e : spec_woGood.f k s.ru s.w s.h s.c s.x s.y s.v = some false := e1 k hk
      dsimp only
      rw [spec_AntPeriod.f, e, Option.bind_some, if_neg (by simp)]
    · have e : impl_IsWorld.f k s.ru s.w s.h s.c s.x s.y s.v = some false := e2 k hk
      dsimp only
      rw [impl_AntPeriod.f, impl_search.f, e, Option.bind_some, if_neg (by simp)]
  | true =>
    have g := hb.1 rfl
    obtain ⟨r, ⟨K3, f3⟩, ⟨K4, f4⟩⟩ := antPeriod_l0 s g _ 1 s g rfl rfl (by omega) (by omega)
    refine ⟨r, ⟨K1 + K3, fun k hk => ?_⟩, ⟨K2 + K4 + 1, fun k hk => ?_⟩⟩
    · have e : spec_woGood.f k s.ru s.w s.h s.c s.x s.y s.v = some true := e1 k (by omega)
      dsimp only
      rw [spec_AntPeriod.f, e, Option.bind_some, if_pos rfl]
      exact f3 k (by omega)
    · have e : impl_IsWorld.f k s.ru s.w s.h s.c s.x s.y s.v = some true := e2 k (by omega)
      obtain ⟨q, rfl⟩ : ∃ q, k = q + 1 := ⟨k - 1, by omega⟩
      dsimp only
      rw [impl_AntPeriod.f, impl_search.f, e, Option.bind_some, if_pos rfl, impl_search.l0, if_pos (by omega), if_neg (by omega), step_impl g, Option.bind_some, show wrap64 (0 + 1) = 1 from Pl.w64 (by omega) (by omega)]
      exact f4 q (by omega)
theorem FnExactAntPeriod (a0_0 : ByteArray) (a0_1 : Int) (a0_2 : Int) (a0_3 : ByteArray) (a0_4 : Int) (a0_5 : Int) (a0_6 : Int) (h0 : (a0_0.size ≤ maxLen) ∧ ((Lit.int .i64 a0_1).wf = true) ∧ ((Lit.int .i64 a0_2).wf = true) ∧ (a0_3.size ≤ maxLen) ∧ ((Lit.int .i64 a0_4).wf = true) ∧ ((Lit.int .i64 a0_5).wf = true) ∧ ((Lit.int .i64 a0_6).wf = true)) : ∃ k, laws_FnExactAntPeriod.f k a0_0 a0_1 a0_2 a0_3 a0_4 a0_5 a0_6 = some true := by
  obtain ⟨hr, _, _, hd, _⟩ := h0
  have hr := Pl.le_max hr
  have hd := Pl.le_max hd
  by_cases hs : (a0_0.size : Int) + a0_3.size ≤ 1048576
  · obtain ⟨r, ⟨K1, e1⟩, ⟨K2, e2⟩⟩ := antPeriod_both ⟨a0_0, a0_1, a0_2, a0_3, a0_4, a0_5, a0_6⟩ hd
    refine ⟨K1 + K2, ?_⟩
    have e1 : spec_AntPeriod.f (K1 + K2) a0_0 a0_1 a0_2 a0_3 a0_4 a0_5 a0_6 = some r := e1 (K1 + K2) (by omega)
    have e2 : impl_AntPeriod.f (K1 + K2) a0_0 a0_1 a0_2 a0_3 a0_4 a0_5 a0_6 = some r := e2 (K1 + K2) (by omega)
    rw [laws_FnExactAntPeriod.f, szW_small hs, Option.bind_some, if_neg (by omega)]
    simp only [laws_toWorld.f, Option.bind_some]
    rw [e1, e2]
    simp only [Option.bind_some, if_true, bne_self_eq_false, Bool.false_eq_true, if_false]
  · refine ⟨0, ?_⟩
    rw [laws_FnExactAntPeriod.f, szW_big hr hd (by omega), Option.bind_some, if_pos (by omega)]

end Go.Proofs.YtfmfefjplehjgaaDoor.Pure
