-- Printed for this claim by gprint.py, a program of this session round the kit's printer. Lean checks it.
import Derived.Test.YtgaplnhjddlieaaDoorPNx0
import Derived.Test.YtgaplnhjddlieaaDoorPNx2
namespace Go.Proofs.YtgaplnhjddlieaaDoor.PN
open Go.RowKit Go.Proofs.YtgaplnhjddlieaaDoorW.PrintWords Go.Proofs.YtgaplnhjddlieaaDoorW.PrintLast Go.Proofs.YtgaplnhjddlieaaDoorW.PrintMore
attribute [local go_sem] max2_int min2_int max_two min_two max_three min_three max_four min_four   -- for this text's walks alone
set_option linter.unusedVariables false
set_option linter.unusedSimpArgs false

/-! ### spec_woGo: function 35 -/
def spec_woGo.f (s0_0 : ByteArray) (s0_1 : Int) (s0_2 : Int) (s0_3 : ByteArray) (s0_4 : Int) (s0_5 : Int) (s0_6 : Int) (a1 : Int) : Option (ByteArray × Int × Int × ByteArray × Int × Int × Int) := if s0_6 = 0 then ((spec_l1Mod.f (wrap64 (s0_5 - a1)) s0_2).bind fun t => some (s0_0, s0_1, s0_2, s0_3, s0_4, t, s0_6)) else (if s0_6 = 1 then ((spec_l1Mod.f (wrap64 (s0_4 + a1)) s0_1).bind fun t => some (s0_0, s0_1, s0_2, s0_3, t, s0_5, s0_6)) else (if s0_6 = 2 then ((spec_l1Mod.f (wrap64 (s0_5 + a1)) s0_2).bind fun t => some (s0_0, s0_1, s0_2, s0_3, s0_4, t, s0_6)) else ((spec_l1Mod.f (wrap64 (s0_4 - a1)) s0_1).bind fun t => some (s0_0, s0_1, s0_2, s0_3, t, s0_5, s0_6))))
theorem spec_woGo.l1Mod_still (a b : Int) (w : World) (hb : b ≠ 0) : Calls Tryd.prog 46 #[.int .i64 a, .int .i64 b] w fun e w' => e = .returned (.int .i64 (Int.tmod (wrap64 (Int.tmod a b + b)) b)) ∧ w' = w := by
  have hb1 : (b == 0) = false := beq_eq_false_iff_ne.mpr hb
  go_enter Tryd.func46, Tryd.ntmps46
  go_wp2
  go_ret
  exact ⟨rfl, rfl⟩
set_option maxHeartbeats 4000000 in
set_option maxRecDepth 100000 in
theorem spec_woGo.way0 (g : Nat) (s0_0 : ByteArray) (s0_1 : Int) (s0_2 : Int) (s0_3 : ByteArray) (s0_4 : Int) (s0_5 : Int) (s0_6 : Int) (a1 : Int) (w : World) (hb : w.heap[g]? = some (.cells #[.string s0_0, .int .i64 s0_1, .int .i64 s0_2, .string s0_3, .int .i64 s0_4, .int .i64 s0_5, .int .i64 s0_6] 41 (0, 0))) (hm : s0_2 ≠ 0) (hv : s0_6 = 0) :
    Calls Tryd.prog 35 #[.pointer (some ⟨g, 0, none⟩), .int .i64 a1] w fun e w' => e = .returned (.tuple #[]) ∧ w' = (w.setCell ⟨g, 5, none⟩ (.int .i64 (Int.tmod (wrap64 (Int.tmod (wrap64 (s0_5 - a1)) s0_2 + s0_2)) s0_2))).drew := by
  have c2 : w.cell? ⟨g, 2, none⟩ = some (.int .i64 s0_2) := (blk_cell hb 2).trans rfl
  have c5 : w.cell? ⟨g, 5, none⟩ = some (.int .i64 s0_5) := (blk_cell hb 5).trans rfl
  have c6 : w.cell? ⟨g, 6, none⟩ = some (.int .i64 s0_6) := (blk_cell hb 6).trans rfl
  have z5 := blk_frozen hb 5
  subst hv
  clear hb
  go_enter Tryd.func35, Tryd.ntmps35
  go_wp2_with fail
  refine wp_region_still_tail 14 (by kernel_rfl) (by kernel_rfl) ?_
  simp only [List.take_succ_cons, List.take_zero, List.drop_succ_cons, List.drop_zero]
  change wpStill _ _ w.drew _ _ _
  repeat still_step
  still_call (spec_woGo.l1Mod_still _ _ _ hm)
  repeat still_step
  refine wpStill_nil ?_
  change wpList _ _ _ _ _ w.drew
  go_wp2
  go_end0
  exact ⟨rfl, rfl⟩
set_option maxHeartbeats 4000000 in
set_option maxRecDepth 100000 in
theorem spec_woGo.way1 (g : Nat) (s0_0 : ByteArray) (s0_1 : Int) (s0_2 : Int) (s0_3 : ByteArray) (s0_4 : Int) (s0_5 : Int) (s0_6 : Int) (a1 : Int) (w : World) (hb : w.heap[g]? = some (.cells #[.string s0_0, .int .i64 s0_1, .int .i64 s0_2, .string s0_3, .int .i64 s0_4, .int .i64 s0_5, .int .i64 s0_6] 41 (0, 0))) (hm : s0_1 ≠ 0) (hv : s0_6 = 1) :
    Calls Tryd.prog 35 #[.pointer (some ⟨g, 0, none⟩), .int .i64 a1] w fun e w' => e = .returned (.tuple #[]) ∧ w' = (w.setCell ⟨g, 4, none⟩ (.int .i64 (Int.tmod (wrap64 (Int.tmod (wrap64 (s0_4 + a1)) s0_1 + s0_1)) s0_1))).drew := by
  have c1 : w.cell? ⟨g, 1, none⟩ = some (.int .i64 s0_1) := (blk_cell hb 1).trans rfl
  have c4 : w.cell? ⟨g, 4, none⟩ = some (.int .i64 s0_4) := (blk_cell hb 4).trans rfl
  have c6 : w.cell? ⟨g, 6, none⟩ = some (.int .i64 s0_6) := (blk_cell hb 6).trans rfl
  have z4 := blk_frozen hb 4
  subst hv
  clear hb
  go_enter Tryd.func35, Tryd.ntmps35
  go_wp2_with fail
  refine wp_region_still_tail 14 (by kernel_rfl) (by kernel_rfl) ?_
  simp only [List.take_succ_cons, List.take_zero, List.drop_succ_cons, List.drop_zero]
  change wpStill _ _ w.drew _ _ _
  repeat still_step
  still_call (spec_woGo.l1Mod_still _ _ _ hm)
  repeat still_step
  refine wpStill_nil ?_
  change wpList _ _ _ _ _ w.drew
  go_wp2
  go_end0
  exact ⟨rfl, rfl⟩
set_option maxHeartbeats 4000000 in
set_option maxRecDepth 100000 in
theorem spec_woGo.way2 (g : Nat) (s0_0 : ByteArray) (s0_1 : Int) (s0_2 : Int) (s0_3 : ByteArray) (s0_4 : Int) (s0_5 : Int) (s0_6 : Int) (a1 : Int) (w : World) (hb : w.heap[g]? = some (.cells #[.string s0_0, .int .i64 s0_1, .int .i64 s0_2, .string s0_3, .int .i64 s0_4, .int .i64 s0_5, .int .i64 s0_6] 41 (0, 0))) (hm : s0_2 ≠ 0) (hv : s0_6 = 2) :
    Calls Tryd.prog 35 #[.pointer (some ⟨g, 0, none⟩), .int .i64 a1] w fun e w' => e = .returned (.tuple #[]) ∧ w' = (w.setCell ⟨g, 5, none⟩ (.int .i64 (Int.tmod (wrap64 (Int.tmod (wrap64 (s0_5 + a1)) s0_2 + s0_2)) s0_2))).drew := by
  have c2 : w.cell? ⟨g, 2, none⟩ = some (.int .i64 s0_2) := (blk_cell hb 2).trans rfl
  have c5 : w.cell? ⟨g, 5, none⟩ = some (.int .i64 s0_5) := (blk_cell hb 5).trans rfl
  have c6 : w.cell? ⟨g, 6, none⟩ = some (.int .i64 s0_6) := (blk_cell hb 6).trans rfl
  have z5 := blk_frozen hb 5
  subst hv
  clear hb
  go_enter Tryd.func35, Tryd.ntmps35
  go_wp2_with fail
  refine wp_region_still_tail 14 (by kernel_rfl) (by kernel_rfl) ?_
  simp only [List.take_succ_cons, List.take_zero, List.drop_succ_cons, List.drop_zero]
  change wpStill _ _ w.drew _ _ _
  repeat still_step
  still_call (spec_woGo.l1Mod_still _ _ _ hm)
  repeat still_step
  refine wpStill_nil ?_
  change wpList _ _ _ _ _ w.drew
  go_wp2
  go_end0
  exact ⟨rfl, rfl⟩
set_option maxHeartbeats 4000000 in
set_option maxRecDepth 100000 in
theorem spec_woGo.way3 (g : Nat) (s0_0 : ByteArray) (s0_1 : Int) (s0_2 : Int) (s0_3 : ByteArray) (s0_4 : Int) (s0_5 : Int) (s0_6 : Int) (a1 : Int) (w : World) (hb : w.heap[g]? = some (.cells #[.string s0_0, .int .i64 s0_1, .int .i64 s0_2, .string s0_3, .int .i64 s0_4, .int .i64 s0_5, .int .i64 s0_6] 41 (0, 0))) (hm : s0_1 ≠ 0) (hv0 : s0_6 ≠ 0) (hv1 : s0_6 ≠ 1) (hv2 : s0_6 ≠ 2) :
    Calls Tryd.prog 35 #[.pointer (some ⟨g, 0, none⟩), .int .i64 a1] w fun e w' => e = .returned (.tuple #[]) ∧ w' = (w.setCell ⟨g, 4, none⟩ (.int .i64 (Int.tmod (wrap64 (Int.tmod (wrap64 (s0_4 - a1)) s0_1 + s0_1)) s0_1))).drew := by
  have c1 : w.cell? ⟨g, 1, none⟩ = some (.int .i64 s0_1) := (blk_cell hb 1).trans rfl
  have c4 : w.cell? ⟨g, 4, none⟩ = some (.int .i64 s0_4) := (blk_cell hb 4).trans rfl
  have c6 : w.cell? ⟨g, 6, none⟩ = some (.int .i64 s0_6) := (blk_cell hb 6).trans rfl
  have z4 := blk_frozen hb 4
  have e0 : (s0_6 == 0) = false := beq_eq_false_iff_ne.mpr hv0
  have e1 : (s0_6 == 1) = false := beq_eq_false_iff_ne.mpr hv1
  have e2 : (s0_6 == 2) = false := beq_eq_false_iff_ne.mpr hv2
  clear hv0 hv1 hv2
  clear hb
  go_enter Tryd.func35, Tryd.ntmps35
  go_wp2_with fail
  refine wp_region_still_tail 14 (by kernel_rfl) (by kernel_rfl) ?_
  simp only [List.take_succ_cons, List.take_zero, List.drop_succ_cons, List.drop_zero]
  change wpStill _ _ w.drew _ _ _
  repeat still_step
  still_call (spec_woGo.l1Mod_still _ _ _ hm)
  repeat still_step
  refine wpStill_nil ?_
  change wpList _ _ _ _ _ w.drew
  go_wp2
  go_end0
  exact ⟨rfl, rfl⟩
theorem spec_woGo.calls (g : Nat) (s0_0 : ByteArray) (s0_1 : Int) (s0_2 : Int) (s0_3 : ByteArray) (s0_4 : Int) (s0_5 : Int) (s0_6 : Int) (a1 : Int) (r1 : ByteArray) (r2 : Int) (r3 : Int) (r4 : ByteArray) (r5 : Int) (r6 : Int) (r7 : Int) (w0 w : World) (hI : IsS41 w0 w g s0_0 s0_1 s0_2 s0_3 s0_4 s0_5 s0_6) (hB : Below w0.heap.size w0 w) (h : spec_woGo.f s0_0 s0_1 s0_2 s0_3 s0_4 s0_5 s0_6 a1 = some (r1, r2, r3, r4, r5, r6, r7)) :
    Calls Tryd.prog 35 #[.pointer (some ⟨g, 0, none⟩), .int .i64 a1] w fun e w' => e = .returned (.tuple #[]) ∧ IsS41 w0 w' g r1 r2 r3 r4 r5 r6 r7 ∧ Below w0.heap.size w0 w' ∧ KeepBut w w' g none := by
  have hb := hI.1
  have hg := hI.2
  unfold spec_woGo.f spec_l1Mod.f at h
  by_cases hv0 : s0_6 = 0
  · rw [if_pos hv0] at h
    by_cases hm : s0_2 = 0
    · rw [if_pos hm] at h; cases h
    · rw [if_neg hm] at h
      simp only [Option.bind_some, Option.some.injEq, Prod.mk.injEq] at h
      obtain ⟨rfl, rfl, rfl, rfl, rfl, rfl, rfl⟩ := h
      refine (spec_woGo.way0 g s0_0 s0_1 s0_2 s0_3 s0_4 s0_5 s0_6 a1 w hb hm hv0).mono ?_
      rintro e w' ⟨rfl, rfl⟩
      exact ⟨rfl, (hI.set_5 _).drew, below_drew1 (hB.setCell hg _), keep_drew ((KeepBut.refl w g none).set_ 5 _)⟩
  · rw [if_neg hv0] at h
    by_cases hv1 : s0_6 = 1
    · rw [if_pos hv1] at h
      by_cases hm : s0_1 = 0
      · rw [if_pos hm] at h; cases h
      · rw [if_neg hm] at h
        simp only [Option.bind_some, Option.some.injEq, Prod.mk.injEq] at h
        obtain ⟨rfl, rfl, rfl, rfl, rfl, rfl, rfl⟩ := h
        refine (spec_woGo.way1 g s0_0 s0_1 s0_2 s0_3 s0_4 s0_5 s0_6 a1 w hb hm hv1).mono ?_
        rintro e w' ⟨rfl, rfl⟩
        exact ⟨rfl, (hI.set_4 _).drew, below_drew1 (hB.setCell hg _), keep_drew ((KeepBut.refl w g none).set_ 4 _)⟩
    · rw [if_neg hv1] at h
      by_cases hv2 : s0_6 = 2
      · rw [if_pos hv2] at h
        by_cases hm : s0_2 = 0
        · rw [if_pos hm] at h; cases h
        · rw [if_neg hm] at h
          simp only [Option.bind_some, Option.some.injEq, Prod.mk.injEq] at h
          obtain ⟨rfl, rfl, rfl, rfl, rfl, rfl, rfl⟩ := h
          refine (spec_woGo.way2 g s0_0 s0_1 s0_2 s0_3 s0_4 s0_5 s0_6 a1 w hb hm hv2).mono ?_
          rintro e w' ⟨rfl, rfl⟩
          exact ⟨rfl, (hI.set_5 _).drew, below_drew1 (hB.setCell hg _), keep_drew ((KeepBut.refl w g none).set_ 5 _)⟩
      · rw [if_neg hv2] at h
        by_cases hm : s0_1 = 0
        · rw [if_pos hm] at h; cases h
        · rw [if_neg hm] at h
          simp only [Option.bind_some, Option.some.injEq, Prod.mk.injEq] at h
          obtain ⟨rfl, rfl, rfl, rfl, rfl, rfl, rfl⟩ := h
          refine (spec_woGo.way3 g s0_0 s0_1 s0_2 s0_3 s0_4 s0_5 s0_6 a1 w hb hm hv0 hv1 hv2).mono ?_
          rintro e w' ⟨rfl, rfl⟩
          exact ⟨rfl, (hI.set_4 _).drew, below_drew1 (hB.setCell hg _), keep_drew ((KeepBut.refl w g none).set_ 4 _)⟩

/-! ### spec_woStep: function 26 -/
def spec_woStep.f (k : Nat) (a0_0 : ByteArray) (a0_1 : Int) (a0_2 : Int) (a0_3 : ByteArray) (a0_4 : Int) (a0_5 : Int) (a0_6 : Int) : Option (ByteArray × Int × Int × ByteArray × Int × Int × Int) := (spec_woColour.f a0_0 a0_1 a0_2 a0_3 a0_4 a0_5 a0_6 a0_4 a0_5).bind fun c => if 0 ≤ c then (if c < (a0_0.size : Int) then ((spec_woTurn.f (bt a0_0 c)).bind fun q => (spec_woPaint.f k a0_0 a0_1 a0_2 a0_3 a0_4 a0_5 (Int.tmod (wrap64 (a0_6 + q)) 4) a0_4 a0_5 (Int.tmod (wrap64 (c + 1)) (a0_0.size : Int))).bind fun p => spec_woGo.f p.1 p.2.1 p.2.2.1 p.2.2.2.1 p.2.2.2.2.1 p.2.2.2.2.2.1 p.2.2.2.2.2.2 1) else none) else none
theorem spec_woStep.mono : ∀ a0 a1 a2 a3 a4 a5 a6 k, LeO (spec_woStep.f k a0 a1 a2 a3 a4 a5 a6) (spec_woStep.f (k + 1) a0 a1 a2 a3 a4 a5 a6) := fun a0 a1 a2 a3 a4 a5 a6 k => LeO.bind (LeO.refl _) (fun c => LeO.ite (LeO.ite (LeO.bind (LeO.refl _) (fun q => LeO.bind (spec_woPaint.mono _ _ _ _ _ _ _ _ _ _ k) (fun _ => LeO.refl _))) (LeO.refl _)) (LeO.refl _))
set_option maxHeartbeats 8000000 in
set_option maxRecDepth 100000 in
theorem spec_woStep.calls (k : Nat) (a0_0 : ByteArray) (a0_1 : Int) (a0_2 : Int) (a0_3 : ByteArray) (a0_4 : Int) (a0_5 : Int) (a0_6 : Int) (r1 : ByteArray) (r2 : Int) (r3 : Int) (r4 : ByteArray) (r5 : Int) (r6 : Int) (r7 : Int) (w : World) (h : spec_woStep.f k a0_0 a0_1 a0_2 a0_3 a0_4 a0_5 a0_6 = some (r1, r2, r3, r4, r5, r6, r7)) :
    Calls Tryd.prog 26 #[.agg #[.string a0_0, .int .i64 a0_1, .int .i64 a0_2, .string a0_3, .int .i64 a0_4, .int .i64 a0_5, .int .i64 a0_6]] w fun e w' => e = .returned (.agg #[.string r1, .int .i64 r2, .int .i64 r3, .string r4, .int .i64 r5, .int .i64 r6, .int .i64 r7]) ∧ Below w.heap.size w w' := by
  have hu := Tryd.underlying41
  unfold spec_woStep.f at h
  obtain ⟨c, hc, h⟩ := Option.bind_eq_some_iff.mp h
  by_cases c0 : 0 ≤ c
  case neg => rw [if_neg c0] at h; cases h
  by_cases c1 : c < (a0_0.size : Int)
  case neg => rw [if_pos c0, if_neg c1] at h; cases h
  rw [if_pos c0, if_pos c1] at h
  obtain ⟨q, hq, h⟩ := Option.bind_eq_some_iff.mp h
  obtain ⟨⟨p1, p2, p3, p4, p5, p6, p7⟩, hp, hy⟩ := Option.bind_eq_some_iff.mp h
  clear h
  have HC := Aside0.mk hc
  have HQ := Aside0.mk hq
  have HP := Aside0.mk hp
  have HY := Aside0.mk hy
  have hx := bt_at a0_0 c
  have pc := eq_true c0
  have qc := eq_true c1
  have nz : ((a0_0.size : Int) == 0) = false := beq_eq_false_iff_ne.mpr (by omega)
  have ne0 : (a0_0 = ByteArray.empty) = False := eq_false (fun h => by rw [h] at c1; exact absurd c1 (by show ¬ (c < ((0 : Nat) : Int)); omega))
  clear hc hq hp hy c0 c1
  go_enter Tryd.func26, Tryd.ntmps26
  go_wp2_with (first | ((with_reducible refine gate_dst (N := 1) rfl ?_); refine box_event ?hg (N := 1) ?hd (cs := #[.string a0_0, .int .i64 a0_1, .int .i64 a0_2, .string a0_3, .int .i64 a0_4, .int .i64 a0_5, .int .i64 a0_6]) (t := 41) ?hr ?_; (case hd => rfl); (case hg => rfl); (case hr => first | (go_simp; done) | (go_simp; rfl)); intro gb hg w1 hbox hb; have HB1 := Aside0.mk (show Below w.heap.size w w1 from below_step (Below.refl _ _) hb); have IB1 := Aside0.mk (show IsS41 w w1 gb a0_0 a0_1 a0_2 a0_3 a0_4 a0_5 a0_6 from ⟨hbox, by rw [hg]; exact Nat.le_refl _⟩); have GB := Aside0.mk (show w.heap.size ≤ gb by rw [hg]; exact Nat.le_refl _); clear hb hbox hg) | ((with_reducible refine gate_dst (N := 2) rfl ?_); refine box_event ?hg (N := 2) ?hd (cs := #[.string (⟨#[]⟩ : ByteArray), .int .i64 0, .int .i64 0, .string (⟨#[]⟩ : ByteArray), .int .i64 0, .int .i64 0, .int .i64 0]) (t := 41) ?hr ?_; (case hd => rfl); (case hg => rfl); (case hr => first | (go_simp; done) | (go_simp; rfl)); intro gr hg w2 hbox hb; have IB2 := Aside0.mk (show IsS41 w w2 gb a0_0 a0_1 a0_2 a0_3 a0_4 a0_5 a0_6 from ⟨blk_below IB1.out.1 hb, GB.out⟩); have HB2 := Aside0.mk (show Below w.heap.size w w2 from below_step HB1.out hb); have GR := Aside0.mk (show w.heap.size ≤ gr by rw [hg]; exact below_size HB1.out); have IR2 := Aside0.mk (show IsS41 w w2 gr (⟨#[]⟩ : ByteArray) 0 0 (⟨#[]⟩ : ByteArray) 0 0 0 from ⟨hbox, GR.out⟩); have hne : gr ≠ gb := (by rw [hg]; exact Nat.ne_of_gt (blk_lt IB1.out.1)); have hne2 : gb ≠ gr := Ne.symm hne; have e0 : w2.cell? ⟨gb, 0, none⟩ = some (.string a0_0) := (blk_cell IB2.out.1 0).trans rfl; have e1 : w2.cell? ⟨gb, 1, none⟩ = some (.int .i64 a0_1) := (blk_cell IB2.out.1 1).trans rfl; have e2 : w2.cell? ⟨gb, 2, none⟩ = some (.int .i64 a0_2) := (blk_cell IB2.out.1 2).trans rfl; have e3 : w2.cell? ⟨gb, 3, none⟩ = some (.string a0_3) := (blk_cell IB2.out.1 3).trans rfl; have e4 : w2.cell? ⟨gb, 4, none⟩ = some (.int .i64 a0_4) := (blk_cell IB2.out.1 4).trans rfl; have e5 : w2.cell? ⟨gb, 5, none⟩ = some (.int .i64 a0_5) := (blk_cell IB2.out.1 5).trans rfl; have e6 : w2.cell? ⟨gb, 6, none⟩ = some (.int .i64 a0_6) := (blk_cell IB2.out.1 6).trans rfl; clear IB1 HB1; clear hb hbox hg) | ((with_reducible refine gate_callee (f := 32) rfl ?_); refine goesL_ (some 9) rfl rfl Tryd.func32 (by kernel_rfl) rfl #[.agg #[.string a0_0, .int .i64 a0_1, .int .i64 a0_2, .string a0_3, .int .i64 a0_4, .int .i64 a0_5, .int .i64 a0_6], .int .i64 a0_4, .int .i64 a0_5] rfl (by (try simp only [List.map_toArray, List.map_cons, List.map_nil]); first | done | rfl) ?_; (with_reducible refine (spec_woColour.calls a0_0 a0_1 a0_2 a0_3 a0_4 a0_5 a0_6 a0_4 a0_5 c _ HC.out).mono ?_); rintro e w5 ⟨rfl, hb⟩; refine ⟨_, rfl, ?_⟩; have IB := Aside0.mk (show IsS41 w w5 gb a0_0 a0_1 a0_2 a0_3 a0_4 a0_5 a0_6 from IB2.out.below hb); have IR := Aside0.mk (show IsS41 w w5 gr (⟨#[]⟩ : ByteArray) 0 0 (⟨#[]⟩ : ByteArray) 0 0 0 from IR2.out.below hb); have HB := Aside0.mk (show Below w.heap.size w w5 from below_step HB2.out hb); clear IB2 IR2 HB2 hb e0 e1 e2 e3 e4 e5 e6))
  refine start_ (n := 11) (S := fun w' => w'.cell? ⟨gb, 0, none⟩ = some (.string a0_0) ∧ w'.cell? ⟨gb, 6, none⟩ = some (.int .i64 a0_6) ∧ IsS41 w w' gb a0_0 a0_1 a0_2 a0_3 a0_4 a0_5 a0_6 ∧ IsS41 w w' gr (⟨#[]⟩ : ByteArray) 0 0 (⟨#[]⟩ : ByteArray) 0 0 0 ∧ Below w.heap.size w w') (ds := [10]) #[false, false, false, false, false, false, false, false, false, false, false] (by kernel_rfl) rfl rfl ⟨(blk_cell IB.out.drew.1 0).trans rfl, (blk_cell IB.out.drew.1 6).trans rfl, IB.out.drew, IR.out.drew, (below_drew1 HB.out)⟩ (fun hHeld => ?_)
  refine pure_ (i := 0) (N := some 10) (v := ?_) (a' := ?_) #[true, false, false, false, false, false, false, false, false, false, false] rfl rfl (by kernel_rfl) (fun _ _ _ h => h) (Or.inl ⟨by rfl, ?_⟩) ?_ ?_
  rotate_left
  · intro w'
    go_simp
    with_reducible rfl
  rotate_left
  · simp only [Act.put, List.setIfInBounds_toArray, List.set_cons_zero, List.set_cons_succ, i64_w, i32_w]
    rfl
  refine pure_ (i := 2) (N := some 12) (v := ?_) (a' := ?_) #[true, false, true, false, false, false, false, false, false, false, false] rfl rfl (by kernel_rfl) (fun _ _ _ h => h) (Or.inl ⟨by rfl, ?_⟩) ?_ ?_
  rotate_left
  · intro w'
    go_simp
    with_reducible rfl
  rotate_left
  · simp only [Act.put, List.setIfInBounds_toArray, List.set_cons_zero, List.set_cons_succ, i64_w, i32_w]
    rfl
  refine pure_ (i := 4) (N := some 14) (v := ?_) (a' := ?_) #[true, false, true, false, true, false, false, false, false, false, false] rfl rfl (by kernel_rfl) (fun _ _ _ h => h) (Or.inl ⟨by rfl, ?_⟩) ?_ ?_
  rotate_left
  · intro w'
    go_simp
    with_reducible rfl
  rotate_left
  · simp only [Act.put, List.setIfInBounds_toArray, List.set_cons_zero, List.set_cons_succ, i64_w, i32_w]
    rfl
  refine take_ (i := 1) (N := some 11) (v := ?_) (a' := ?_) #[true, true, true, false, true, false, false, false, false, false, false] rfl rfl (by kernel_rfl) (fun _ _ _ h => h) (Or.inl ⟨by rfl, ?_⟩) hHeld ?_ ?_
  rotate_left
  · rintro w' ⟨s0, s1, s2, s3, s4⟩
    go_simp
    with_reducible rfl
  rotate_left
  · simp only [Act.put, List.setIfInBounds_toArray, List.set_cons_zero, List.set_cons_succ, i64_w, i32_w]
    rfl
  refine take_ (i := 3) (N := some 13) (v := ?_) (a' := ?_) #[true, true, true, true, true, false, false, false, false, false, false] rfl rfl (by kernel_rfl) (fun _ _ _ h => h) (Or.inl ⟨by rfl, ?_⟩) hHeld ?_ ?_
  rotate_left
  · rintro w' ⟨s0, s1, s2, s3, s4⟩
    go_simp
    with_reducible rfl
  rotate_left
  · simp only [Act.put, List.setIfInBounds_toArray, List.set_cons_zero, List.set_cons_succ, i64_w, i32_w]
    rfl
  refine take_ (i := 5) (N := some 15) (v := ?_) (a' := ?_) #[true, true, true, true, true, true, false, false, false, false, false] rfl rfl (by kernel_rfl) (fun _ _ _ h => h) (Or.inl ⟨by rfl, ?_⟩) hHeld ?_ ?_
  rotate_left
  · rintro w' ⟨s0, s1, s2, s3, s4⟩
    go_simp
    with_reducible rfl
  rotate_left
  · simp only [Act.put, List.setIfInBounds_toArray, List.set_cons_zero, List.set_cons_succ, i64_w, i32_w]
    rfl
  refine one_ (i := 6) (N := some 16) #[true, true, true, true, true, true, true, false, false, false, false] rfl rfl (by kernel_rfl) (by decide) (fun K hK => ?_)
  refine goes_ Tryd.func33 (by kernel_rfl) rfl #[.int .u8 (bt a0_0 c)] (by rfl) rfl rfl (by simp only [List.map_toArray, List.map_cons, List.map_nil]; rfl) ?_
  with_reducible refine (spec_woTurn.calls (bt a0_0 c) q _ HQ.out).mono ?_
  rintro e w3 ⟨rfl, hd⟩
  refine ⟨_, rfl, ?_⟩
  obtain ⟨_, _, s2, s3, s4⟩ := hHeld
  have t2 : IsS41 w w3 gb a0_0 a0_1 a0_2 a0_3 a0_4 a0_5 a0_6 := by obtain ⟨nd, rfl⟩ := hd; exact s2.drewN nd
  have t3 : IsS41 w w3 gr (⟨#[]⟩ : ByteArray) 0 0 (⟨#[]⟩ : ByteArray) 0 0 0 := by obtain ⟨nd, rfl⟩ := hd; exact s3.drewN nd
  have t4 : Below w.heap.size w w3 := by obtain ⟨nd, rfl⟩ := hd; exact pw_below_drewN s4 nd
  refine hK.out _ _ ⟨(blk_cell t2.1 0).trans rfl, (blk_cell t2.1 6).trans rfl, t2, t3, t4⟩ (fun hHeld => ?_)
  clear hK K
  refine norm_ (a' := ?_) ?_ ?_
  rotate_left
  · show Act.put _ (some 16) _ = _
    simp only [Act.put, List.setIfInBounds_toArray, List.set_cons_zero, List.set_cons_succ, i64_w, i32_w]
    rfl
  refine pure_ (i := 7) (N := some 17) (v := ?_) (a' := ?_) #[true, true, true, true, true, true, true, true, false, false, false] rfl rfl (by kernel_rfl) (fun _ _ _ h => h) (Or.inl ⟨by rfl, ?_⟩) ?_ ?_
  rotate_left
  · intro w'
    go_simp
    with_reducible rfl
  rotate_left
  · simp only [Act.put, List.setIfInBounds_toArray, List.set_cons_zero, List.set_cons_succ, i64_w, i32_w]
    rfl
  refine pure_ (i := 8) (N := some 18) (v := ?_) (a' := ?_) #[true, true, true, true, true, true, true, true, true, false, false] rfl rfl (by kernel_rfl) (fun _ _ _ h => h) (Or.inl ⟨by rfl, ?_⟩) ?_ ?_
  rotate_left
  · intro w'
    go_simp
    with_reducible rfl
  rotate_left
  · simp only [Act.put, List.setIfInBounds_toArray, List.set_cons_zero, List.set_cons_succ, i64_w, i32_w]
    rfl
  refine pure_ (i := 9) (N := some 19) (v := ?_) (a' := ?_) #[true, true, true, true, true, true, true, true, true, true, false] rfl rfl (by kernel_rfl) (fun _ _ _ h => h) (Or.inl ⟨by rfl, ?_⟩) ?_ ?_
  rotate_left
  · intro w'
    go_simp
    with_reducible rfl
  rotate_left
  · simp only [Act.put, List.setIfInBounds_toArray, List.set_cons_zero, List.set_cons_succ, i64_w, i32_w]
    rfl
  refine last_ (i := 10) (N := none) #[true, true, true, true, true, true, true, true, true, true, true] rfl rfl (by kernel_rfl) (by decide) (fun K hK => ?_)
  have z6 := blk_frozen hHeld.2.2.1.1 6
  have c6 := hHeld.2.1
  refine skip_ (w1 := ?_) (by rfl) rfl ?_ ?_
  rotate_left
  · go_simp
    rfl
  have JB := Aside0.mk (show IsS41 w (w3.setCell ⟨gb, 6, none⟩ (.int .i64 (Int.tmod (wrap64 (a0_6 + q)) 4))) gb a0_0 a0_1 a0_2 a0_3 a0_4 a0_5 (Int.tmod (wrap64 (a0_6 + q)) 4) from hHeld.2.2.1.set_6 _)
  have JR := Aside0.mk (show IsS41 w (w3.setCell ⟨gb, 6, none⟩ (.int .i64 (Int.tmod (wrap64 (a0_6 + q)) 4))) gr (⟨#[]⟩ : ByteArray) 0 0 (⟨#[]⟩ : ByteArray) 0 0 0 from hHeld.2.2.2.1.far hne _)
  have JL := Aside0.mk (show Below w.heap.size w (w3.setCell ⟨gb, 6, none⟩ (.int .i64 (Int.tmod (wrap64 (a0_6 + q)) 4))) from below_set hHeld.2.2.2.2 GB.out)
  refine hK.out _ _ ?_
  clear hK K hHeld c6 z6 IB IR HB
  generalize (w3.setCell ⟨gb, 6, none⟩ (.int .i64 (Int.tmod (wrap64 (a0_6 + q)) 4))) = w6 at JB JR JL ⊢
  refine done_ (by kernel_rfl) ?_
  go_wp2_with fail
  refine start_ (n := 11) (S := fun w' => w'.cell? ⟨gb, 0, none⟩ = some (.string a0_0) ∧ w'.cell? ⟨gb, 4, none⟩ = some (.int .i64 a0_4) ∧ w'.cell? ⟨gb, 5, none⟩ = some (.int .i64 a0_5) ∧ IsS41 w w' gb a0_0 a0_1 a0_2 a0_3 a0_4 a0_5 (Int.tmod (wrap64 (a0_6 + q)) 4) ∧ IsS41 w w' gr (⟨#[]⟩ : ByteArray) 0 0 (⟨#[]⟩ : ByteArray) 0 0 0 ∧ Below w.heap.size w w') (ds := [10]) #[false, false, false, false, false, false, false, false, false, false, false] (by kernel_rfl) rfl rfl ⟨(blk_cell JB.out.1 0).trans rfl, (blk_cell JB.out.1 4).trans rfl, (blk_cell JB.out.1 5).trans rfl, JB.out.drew, JR.out.drew, (below_drew1 JL.out)⟩ (fun hHeld => ?_)
  refine pure_ (i := 0) (N := some 20) (v := ?_) (a' := ?_) #[true, false, false, false, false, false, false, false, false, false, false] rfl rfl (by kernel_rfl) (fun _ _ _ h => h) (Or.inl ⟨by rfl, ?_⟩) ?_ ?_
  rotate_left
  · intro w'
    go_simp
    with_reducible rfl
  rotate_left
  · simp only [Act.put, List.setIfInBounds_toArray, List.set_cons_zero, List.set_cons_succ, i64_w, i32_w]
    rfl
  refine pure_ (i := 2) (N := some 22) (v := ?_) (a' := ?_) #[true, false, true, false, false, false, false, false, false, false, false] rfl rfl (by kernel_rfl) (fun _ _ _ h => h) (Or.inl ⟨by rfl, ?_⟩) ?_ ?_
  rotate_left
  · intro w'
    go_simp
    with_reducible rfl
  rotate_left
  · simp only [Act.put, List.setIfInBounds_toArray, List.set_cons_zero, List.set_cons_succ, i64_w, i32_w]
    rfl
  refine pure_ (i := 4) (N := some 24) (v := ?_) (a' := ?_) #[true, false, true, false, true, false, false, false, false, false, false] rfl rfl (by kernel_rfl) (fun _ _ _ h => h) (Or.inl ⟨by rfl, ?_⟩) ?_ ?_
  rotate_left
  · intro w'
    go_simp
    with_reducible rfl
  rotate_left
  · simp only [Act.put, List.setIfInBounds_toArray, List.set_cons_zero, List.set_cons_succ, i64_w, i32_w]
    rfl
  refine pure_ (i := 5) (N := some 25) (v := ?_) (a' := ?_) #[true, false, true, false, true, true, false, false, false, false, false] rfl rfl (by kernel_rfl) (fun _ _ _ h => h) (Or.inl ⟨by rfl, ?_⟩) ?_ ?_
  rotate_left
  · intro w'
    go_simp
    with_reducible rfl
  rotate_left
  · simp only [Act.put, List.setIfInBounds_toArray, List.set_cons_zero, List.set_cons_succ, i64_w, i32_w]
    rfl
  refine pure_ (i := 6) (N := some 26) (v := ?_) (a' := ?_) #[true, false, true, false, true, true, true, false, false, false, false] rfl rfl (by kernel_rfl) (fun _ _ _ h => h) (Or.inl ⟨by rfl, ?_⟩) ?_ ?_
  rotate_left
  · intro w'
    go_simp
    with_reducible rfl
  rotate_left
  · simp only [Act.put, List.setIfInBounds_toArray, List.set_cons_zero, List.set_cons_succ, i64_w, i32_w]
    rfl
  refine take_ (i := 1) (N := some 21) (v := ?_) (a' := ?_) #[true, true, true, false, true, true, true, false, false, false, false] rfl rfl (by kernel_rfl) (fun _ _ _ h => h) (Or.inl ⟨by rfl, ?_⟩) hHeld ?_ ?_
  rotate_left
  · rintro w' ⟨s0, s1, s2, s3, s4, s5⟩
    go_simp
    with_reducible rfl
  rotate_left
  · simp only [Act.put, List.setIfInBounds_toArray, List.set_cons_zero, List.set_cons_succ, i64_w, i32_w]
    rfl
  refine take_ (i := 3) (N := some 23) (v := ?_) (a' := ?_) #[true, true, true, true, true, true, true, false, false, false, false] rfl rfl (by kernel_rfl) (fun _ _ _ h => h) (Or.inl ⟨by rfl, ?_⟩) hHeld ?_ ?_
  rotate_left
  · rintro w' ⟨s0, s1, s2, s3, s4, s5⟩
    go_simp
    with_reducible rfl
  rotate_left
  · simp only [Act.put, List.setIfInBounds_toArray, List.set_cons_zero, List.set_cons_succ, i64_w, i32_w]
    rfl
  refine take_ (i := 7) (N := some 27) (v := ?_) (a' := ?_) #[true, true, true, true, true, true, true, true, false, false, false] rfl rfl (by kernel_rfl) (fun _ _ _ h => h) (Or.inl ⟨by rfl, ?_⟩) hHeld ?_ ?_
  rotate_left
  · rintro w' ⟨s0, s1, s2, s3, s4, s5⟩
    go_simp
    with_reducible rfl
  rotate_left
  · simp only [Act.put, List.setIfInBounds_toArray, List.set_cons_zero, List.set_cons_succ, i64_w, i32_w]
    rfl
  refine pure_ (i := 8) (N := some 28) (v := ?_) (a' := ?_) #[true, true, true, true, true, true, true, true, true, false, false] rfl rfl (by kernel_rfl) (fun _ _ _ h => h) (Or.inl ⟨by rfl, ?_⟩) ?_ ?_
  rotate_left
  · intro w'
    go_simp
    with_reducible rfl
  rotate_left
  · simp only [Act.put, List.setIfInBounds_toArray, List.set_cons_zero, List.set_cons_succ, i64_w, i32_w]
    rfl
  refine pure_ (i := 9) (N := some 29) (v := ?_) (a' := ?_) #[true, true, true, true, true, true, true, true, true, true, false] rfl rfl (by kernel_rfl) (fun _ _ _ h => h) (Or.inl ⟨by rfl, ?_⟩) ?_ ?_
  rotate_left
  · intro w'
    go_simp
    with_reducible rfl
  rotate_left
  · simp only [Act.put, List.setIfInBounds_toArray, List.set_cons_zero, List.set_cons_succ, i64_w, i32_w]
    rfl
  refine last_ (i := 10) (N := some 30) #[true, true, true, true, true, true, true, true, true, true, true] rfl rfl (by kernel_rfl) (by decide) (fun K hK => ?_)
  refine goes_ Tryd.func34 (by kernel_rfl) rfl #[.pointer (some ⟨gb, 0, none⟩), .int .i64 a0_4, .int .i64 a0_5, .int .i64 (Int.tmod (wrap64 (c + 1)) (a0_0.size : Int))] (by rfl) rfl rfl (by simp only [List.map_toArray, List.map_cons, List.map_nil]; rfl) ?_
  with_reducible refine (spec_woPaint.calls k gb a0_0 a0_1 a0_2 a0_3 a0_4 a0_5 (Int.tmod (wrap64 (a0_6 + q)) 4) a0_4 a0_5 (Int.tmod (wrap64 (c + 1)) (a0_0.size : Int)) p1 p2 p3 p4 p5 p6 p7 w _ hHeld.2.2.2.1 hHeld.2.2.2.2.2 HP.out).mono ?_
  rintro e w7 ⟨rfl, hI, hL, hk⟩
  refine ⟨_, rfl, ?_⟩
  have LB := Aside0.mk hI
  have LL := Aside0.mk hL
  have LR := Aside0.mk (show IsS41 w w7 gr (⟨#[]⟩ : ByteArray) 0 0 (⟨#[]⟩ : ByteArray) 0 0 0 from ⟨hk.blk hHeld.2.2.2.2.1.1 hne (by simp), GR.out⟩)
  refine hK.out _ _ ?_
  clear hK K
  refine norm_ (a' := ?_) ?_ ?_
  rotate_left
  · show Act.put _ (some 30) _ = _
    simp only [Act.put, List.setIfInBounds_toArray, List.set_cons_zero, List.set_cons_succ, i64_w, i32_w]
    rfl
  refine done_ (by kernel_rfl) ?_
  go_wp2_with (first | (go_at_call 35; refine (spec_woGo.calls gb p1 p2 p3 p4 p5 p6 p7 1 r1 r2 r3 r4 r5 r6 r7 w _ LB.out LL.out HY.out).mono ?_; rintro e w8 ⟨rfl, hI, hL, hk⟩; have MB := Aside0.mk hI; have ML := Aside0.mk hL; have MR := Aside0.mk (show IsS41 w w8 gr (⟨#[]⟩ : ByteArray) 0 0 (⟨#[]⟩ : ByteArray) 0 0 0 from ⟨hk.blk LR.out.1 hne (by simp), GR.out⟩); have e0 : w8.cell? ⟨gb, 0, none⟩ = some (.string r1) := (blk_cell MB.out.1 0).trans rfl; have e1 : w8.cell? ⟨gb, 1, none⟩ = some (.int .i64 r2) := (blk_cell MB.out.1 1).trans rfl; have e2 : w8.cell? ⟨gb, 2, none⟩ = some (.int .i64 r3) := (blk_cell MB.out.1 2).trans rfl; have e3 : w8.cell? ⟨gb, 3, none⟩ = some (.string r4) := (blk_cell MB.out.1 3).trans rfl; have e4 : w8.cell? ⟨gb, 4, none⟩ = some (.int .i64 r5) := (blk_cell MB.out.1 4).trans rfl; have e5 : w8.cell? ⟨gb, 5, none⟩ = some (.int .i64 r6) := (blk_cell MB.out.1 5).trans rfl; have e6 : w8.cell? ⟨gb, 6, none⟩ = some (.int .i64 r7) := (blk_cell MB.out.1 6).trans rfl; have d0 : w8.cell? ⟨gr, 0, none⟩ = some (.string (⟨#[]⟩ : ByteArray)) := (blk_cell MR.out.1 0).trans rfl; have d1 : w8.cell? ⟨gr, 1, none⟩ = some (.int .i64 0) := (blk_cell MR.out.1 1).trans rfl; have d2 : w8.cell? ⟨gr, 2, none⟩ = some (.int .i64 0) := (blk_cell MR.out.1 2).trans rfl; have d3 : w8.cell? ⟨gr, 3, none⟩ = some (.string (⟨#[]⟩ : ByteArray)) := (blk_cell MR.out.1 3).trans rfl; have d4 : w8.cell? ⟨gr, 4, none⟩ = some (.int .i64 0) := (blk_cell MR.out.1 4).trans rfl; have d5 : w8.cell? ⟨gr, 5, none⟩ = some (.int .i64 0) := (blk_cell MR.out.1 5).trans rfl; have d6 : w8.cell? ⟨gr, 6, none⟩ = some (.int .i64 0) := (blk_cell MR.out.1 6).trans rfl; have f0 := blk_frozen MR.out.1 0; have f1 := blk_frozen MR.out.1 1; have f2 := blk_frozen MR.out.1 2; have f3 := blk_frozen MR.out.1 3; have f4 := blk_frozen MR.out.1 4; have f5 := blk_frozen MR.out.1 5; have f6 := blk_frozen MR.out.1 6; clear hI hL hk))
  refine bodyPost_ret (results_cell_row rfl _ _ gr 41 #[.string r1, .int .i64 r2, .int .i64 r3, .string r4, .int .i64 r5, .int .i64 r6, .int .i64 r7] (0, 0) _ rfl (by (with_reducible repeat (first | refine blk_drewN ?_ _ | refine blk_drew ?_ | refine blk_alloc ?_ _)); refine blk_put (cs := #[.string r1, .int .i64 r2, .int .i64 r3, .string r4, .int .i64 r5, .int .i64 r6, .int .i64 0]) ?_ 6 _ rfl; refine blk_put (cs := #[.string r1, .int .i64 r2, .int .i64 r3, .string r4, .int .i64 r5, .int .i64 0, .int .i64 0]) ?_ 5 _ rfl; refine blk_put (cs := #[.string r1, .int .i64 r2, .int .i64 r3, .string r4, .int .i64 0, .int .i64 0, .int .i64 0]) ?_ 4 _ rfl; refine blk_put (cs := #[.string r1, .int .i64 r2, .int .i64 r3, .string (⟨#[]⟩ : ByteArray), .int .i64 0, .int .i64 0, .int .i64 0]) ?_ 3 _ rfl; refine blk_put (cs := #[.string r1, .int .i64 r2, .int .i64 0, .string (⟨#[]⟩ : ByteArray), .int .i64 0, .int .i64 0, .int .i64 0]) ?_ 2 _ rfl; refine blk_put (cs := #[.string r1, .int .i64 0, .int .i64 0, .string (⟨#[]⟩ : ByteArray), .int .i64 0, .int .i64 0, .int .i64 0]) ?_ 1 _ rfl; refine blk_put (cs := #[.string (⟨#[]⟩ : ByteArray), .int .i64 0, .int .i64 0, .string (⟨#[]⟩ : ByteArray), .int .i64 0, .int .i64 0, .int .i64 0]) ?_ 0 _ rfl; exact MR.out.1) Tryd.underlying41 rfl (by kernel_rfl)) rfl ?_
  exact ⟨rfl, by repeat (first | (with_reducible first | exact ML.out | refine below_set ?_ GR.out) | exact ML.out)⟩

end Go.Proofs.YtgaplnhjddlieaaDoor.PN
