-- Printed for this claim by gprint.py, a program of this session round the kit's printer. Lean checks it.
import Derived.Test.YtdjegdgankoofaaDoorPBx0
import Derived.Test.YtdjegdgankoofaaDoorPBx2
namespace Go.Proofs.YtdjegdgankoofaaDoor.PB
open Go.RowKit Go.Proofs.YtdjegdgankoofaaDoorW.PrintWords Go.Proofs.YtdjegdgankoofaaDoorW.PrintLast Go.Proofs.YtdjegdgankoofaaDoorW.PrintMore
attribute [local go_sem] max2_int min2_int max_two min_two max_three min_three max_four min_four   -- for this text's walks alone
set_option linter.unusedVariables false
set_option linter.unusedSimpArgs false

/-! ### spec_woGo: function 73 -/
def spec_woGo.f (s0_0 : ByteArray) (s0_1 : Int) (s0_2 : Int) (s0_3 : ByteArray) (s0_4 : Int) (s0_5 : Int) (s0_6 : Int) (a1 : Int) : Option (ByteArray × Int × Int × ByteArray × Int × Int × Int) := if s0_6 = 0 then ((spec_l1Mod.f (wrap64 (s0_5 - a1)) s0_2).bind fun t => some (s0_0, s0_1, s0_2, s0_3, s0_4, t, s0_6)) else (if s0_6 = 1 then ((spec_l1Mod.f (wrap64 (s0_4 + a1)) s0_1).bind fun t => some (s0_0, s0_1, s0_2, s0_3, t, s0_5, s0_6)) else (if s0_6 = 2 then ((spec_l1Mod.f (wrap64 (s0_5 + a1)) s0_2).bind fun t => some (s0_0, s0_1, s0_2, s0_3, s0_4, t, s0_6)) else ((spec_l1Mod.f (wrap64 (s0_4 - a1)) s0_1).bind fun t => some (s0_0, s0_1, s0_2, s0_3, t, s0_5, s0_6))))
theorem spec_woGo.l1Mod_still (a b : Int) (w : World) (hb : b ≠ 0) : Calls Tryd.prog 83 #[.int .i64 a, .int .i64 b] w fun e w' => e = .returned (.int .i64 (Int.tmod (wrap64 (Int.tmod a b + b)) b)) ∧ w' = w := by
  have hb1 : (b == 0) = false := beq_eq_false_iff_ne.mpr hb
  go_enter Tryd.func83, Tryd.ntmps83
  go_wp2
  go_ret
  exact ⟨rfl, rfl⟩
set_option maxHeartbeats 4000000 in
set_option maxRecDepth 100000 in
theorem spec_woGo.way0 (g : Nat) (s0_0 : ByteArray) (s0_1 : Int) (s0_2 : Int) (s0_3 : ByteArray) (s0_4 : Int) (s0_5 : Int) (s0_6 : Int) (a1 : Int) (w : World) (hb : w.heap[g]? = some (.cells #[.string s0_0, .int .i64 s0_1, .int .i64 s0_2, .string s0_3, .int .i64 s0_4, .int .i64 s0_5, .int .i64 s0_6] 27 (0, 0))) (hm : s0_2 ≠ 0) (hv : s0_6 = 0) :
    Calls Tryd.prog 73 #[.pointer (some ⟨g, 0, none⟩), .int .i64 a1] w fun e w' => e = .returned (.tuple #[]) ∧ w' = (w.setCell ⟨g, 5, none⟩ (.int .i64 (Int.tmod (wrap64 (Int.tmod (wrap64 (s0_5 - a1)) s0_2 + s0_2)) s0_2))).drew := by
  have c2 : w.cell? ⟨g, 2, none⟩ = some (.int .i64 s0_2) := (blk_cell hb 2).trans rfl
  have c5 : w.cell? ⟨g, 5, none⟩ = some (.int .i64 s0_5) := (blk_cell hb 5).trans rfl
  have c6 : w.cell? ⟨g, 6, none⟩ = some (.int .i64 s0_6) := (blk_cell hb 6).trans rfl
  have z5 := blk_frozen hb 5
  subst hv
  clear hb
  go_enter Tryd.func73, Tryd.ntmps73
  go_wp2_with fail
  refine wp_region_still_tail 14 (by kernel_rfl) (by kernel_rfl) ?_
  simp only [List.take_succ_cons, List.take_zero, List.drop_succ_cons, List.drop_zero]
  change wpStill _ _ w.drew _ _ _
  repeat still_step
  still_call (spec_woGo.l1Mod_still _ _ _ hm)
  repeat still_step
  refine wpStill_nil ?_
  change wpList _ _ _ _ _ w.drew
  go_wp2
  go_end0
  exact ⟨rfl, rfl⟩
set_option maxHeartbeats 4000000 in
set_option maxRecDepth 100000 in
theorem spec_woGo.way1 (g : Nat) (s0_0 : ByteArray) (s0_1 : Int) (s0_2 : Int) (s0_3 : ByteArray) (s0_4 : Int) (s0_5 : Int) (s0_6 : Int) (a1 : Int) (w : World) (hb : w.heap[g]? = some (.cells #[.string s0_0, .int .i64 s0_1, .int .i64 s0_2, .string s0_3, .int .i64 s0_4, .int .i64 s0_5, .int .i64 s0_6] 27 (0, 0))) (hm : s0_1 ≠ 0) (hv : s0_6 = 1) :
    Calls Tryd.prog 73 #[.pointer (some ⟨g, 0, none⟩), .int .i64 a1] w fun e w' => e = .returned (.tuple #[]) ∧ w' = (w.setCell ⟨g, 4, none⟩ (.int .i64 (Int.tmod (wrap64 (Int.tmod (wrap64 (s0_4 + a1)) s0_1 + s0_1)) s0_1))).drew := by
  have c1 : w.cell? ⟨g, 1, none⟩ = some (.int .i64 s0_1) := (blk_cell hb 1).trans rfl
  have c4 : w.cell? ⟨g, 4, none⟩ = some (.int .i64 s0_4) := (blk_cell hb 4).trans rfl
  have c6 : w.cell? ⟨g, 6, none⟩ = some (.int .i64 s0_6) := (blk_cell hb 6).trans rfl
  have z4 := blk_frozen hb 4
  subst hv
  clear hb
  go_enter Tryd.func73, Tryd.ntmps73
  go_wp2_with fail
  refine wp_region_still_tail 14 (by kernel_rfl) (by kernel_rfl) ?_
  simp only [List.take_succ_cons, List.take_zero, List.drop_succ_cons, List.drop_zero]
  change wpStill _ _ w.drew _ _ _
  repeat still_step
  still_call (spec_woGo.l1Mod_still _ _ _ hm)
  repeat still_step
  refine wpStill_nil ?_
  change wpList _ _ _ _ _ w.drew
  go_wp2
  go_end0
  exact ⟨rfl, rfl⟩
set_option maxHeartbeats 4000000 in
set_option maxRecDepth 100000 in
theorem spec_woGo.way2 (g : Nat) (s0_0 : ByteArray) (s0_1 : Int) (s0_2 : Int) (s0_3 : ByteArray) (s0_4 : Int) (s0_5 : Int) (s0_6 : Int) (a1 : Int) (w : World) (hb : w.heap[g]? = some (.cells #[.string s0_0, .int .i64 s0_1, .int .i64 s0_2, .string s0_3, .int .i64 s0_4, .int .i64 s0_5, .int .i64 s0_6] 27 (0, 0))) (hm : s0_2 ≠ 0) (hv : s0_6 = 2) :
    Calls Tryd.prog 73 #[.pointer (some ⟨g, 0, none⟩), .int .i64 a1] w fun e w' => e = .returned (.tuple #[]) ∧ w' = (w.setCell ⟨g, 5, none⟩ (.int .i64 (Int.tmod (wrap64 (Int.tmod (wrap64 (s0_5 + a1)) s0_2 + s0_2)) s0_2))).drew := by
  have c2 : w.cell? ⟨g, 2, none⟩ = some (.int .i64 s0_2) := (blk_cell hb 2).trans rfl
  have c5 : w.cell? ⟨g, 5, none⟩ = some (.int .i64 s0_5) := (blk_cell hb 5).trans rfl
  have c6 : w.cell? ⟨g, 6, none⟩ = some (.int .i64 s0_6) := (blk_cell hb 6).trans rfl
  have z5 := blk_frozen hb 5
  subst hv
  clear hb
  go_enter Tryd.func73, Tryd.ntmps73
  go_wp2_with fail
  refine wp_region_still_tail 14 (by kernel_rfl) (by kernel_rfl) ?_
  simp only [List.take_succ_cons, List.take_zero, List.drop_succ_cons, List.drop_zero]
  change wpStill _ _ w.drew _ _ _
  repeat still_step
  still_call (spec_woGo.l1Mod_still _ _ _ hm)
  repeat still_step
  refine wpStill_nil ?_
  change wpList _ _ _ _ _ w.drew
  go_wp2
  go_end0
  exact ⟨rfl, rfl⟩
set_option maxHeartbeats 4000000 in
set_option maxRecDepth 100000 in
theorem spec_woGo.way3 (g : Nat) (s0_0 : ByteArray) (s0_1 : Int) (s0_2 : Int) (s0_3 : ByteArray) (s0_4 : Int) (s0_5 : Int) (s0_6 : Int) (a1 : Int) (w : World) (hb : w.heap[g]? = some (.cells #[.string s0_0, .int .i64 s0_1, .int .i64 s0_2, .string s0_3, .int .i64 s0_4, .int .i64 s0_5, .int .i64 s0_6] 27 (0, 0))) (hm : s0_1 ≠ 0) (hv0 : s0_6 ≠ 0) (hv1 : s0_6 ≠ 1) (hv2 : s0_6 ≠ 2) :
    Calls Tryd.prog 73 #[.pointer (some ⟨g, 0, none⟩), .int .i64 a1] w fun e w' => e = .returned (.tuple #[]) ∧ w' = (w.setCell ⟨g, 4, none⟩ (.int .i64 (Int.tmod (wrap64 (Int.tmod (wrap64 (s0_4 - a1)) s0_1 + s0_1)) s0_1))).drew := by
  have c1 : w.cell? ⟨g, 1, none⟩ = some (.int .i64 s0_1) := (blk_cell hb 1).trans rfl
  have c4 : w.cell? ⟨g, 4, none⟩ = some (.int .i64 s0_4) := (blk_cell hb 4).trans rfl
  have c6 : w.cell? ⟨g, 6, none⟩ = some (.int .i64 s0_6) := (blk_cell hb 6).trans rfl
  have z4 := blk_frozen hb 4
  have e0 : (s0_6 == 0) = false := beq_eq_false_iff_ne.mpr hv0
  have e1 : (s0_6 == 1) = false := beq_eq_false_iff_ne.mpr hv1
  have e2 : (s0_6 == 2) = false := beq_eq_false_iff_ne.mpr hv2
  clear hv0 hv1 hv2
  clear hb
  go_enter Tryd.func73, Tryd.ntmps73
  go_wp2_with fail
  refine wp_region_still_tail 14 (by kernel_rfl) (by kernel_rfl) ?_
  simp only [List.take_succ_cons, List.take_zero, List.drop_succ_cons, List.drop_zero]
  change wpStill _ _ w.drew _ _ _
  repeat still_step
  still_call (spec_woGo.l1Mod_still _ _ _ hm)
  repeat still_step
  refine wpStill_nil ?_
  change wpList _ _ _ _ _ w.drew
  go_wp2
  go_end0
  exact ⟨rfl, rfl⟩
theorem spec_woGo.calls (g : Nat) (s0_0 : ByteArray) (s0_1 : Int) (s0_2 : Int) (s0_3 : ByteArray) (s0_4 : Int) (s0_5 : Int) (s0_6 : Int) (a1 : Int) (r1 : ByteArray) (r2 : Int) (r3 : Int) (r4 : ByteArray) (r5 : Int) (r6 : Int) (r7 : Int) (w0 w : World) (hI : IsS27 w0 w g s0_0 s0_1 s0_2 s0_3 s0_4 s0_5 s0_6) (hB : Below w0.heap.size w0 w) (h : spec_woGo.f s0_0 s0_1 s0_2 s0_3 s0_4 s0_5 s0_6 a1 = some (r1, r2, r3, r4, r5, r6, r7)) :
    Calls Tryd.prog 73 #[.pointer (some ⟨g, 0, none⟩), .int .i64 a1] w fun e w' => e = .returned (.tuple #[]) ∧ IsS27 w0 w' g r1 r2 r3 r4 r5 r6 r7 ∧ Below w0.heap.size w0 w' ∧ KeepBut w w' g none := by
  have hb := hI.1
  have hg := hI.2
  unfold spec_woGo.f spec_l1Mod.f at h
  by_cases hv0 : s0_6 = 0
  · rw [if_pos hv0] at h
    by_cases hm : s0_2 = 0
    · rw [if_pos hm] at h; cases h
    · rw [if_neg hm] at h
      simp only [Option.bind_some, Option.some.injEq, Prod.mk.injEq] at h
      obtain ⟨rfl, rfl, rfl, rfl, rfl, rfl, rfl⟩ := h
      refine (spec_woGo.way0 g s0_0 s0_1 s0_2 s0_3 s0_4 s0_5 s0_6 a1 w hb hm hv0).mono ?_
      rintro e w' ⟨rfl, rfl⟩
      exact ⟨rfl, (hI.set_5 _).drew, below_drew1 (hB.setCell hg _), keep_drew ((KeepBut.refl w g none).set_ 5 _)⟩
  · rw [if_neg hv0] at h
    by_cases hv1 : s0_6 = 1
    · rw [if_pos hv1] at h
      by_cases hm : s0_1 = 0
      · rw [if_pos hm] at h; cases h
      · rw [if_neg hm] at h
        simp only [Option.bind_some, Option.some.injEq, Prod.mk.injEq] at h
        obtain ⟨rfl, rfl, rfl, rfl, rfl, rfl, rfl⟩ := h
        refine (spec_woGo.way1 g s0_0 s0_1 s0_2 s0_3 s0_4 s0_5 s0_6 a1 w hb hm hv1).mono ?_
        rintro e w' ⟨rfl, rfl⟩
        exact ⟨rfl, (hI.set_4 _).drew, below_drew1 (hB.setCell hg _), keep_drew ((KeepBut.refl w g none).set_ 4 _)⟩
    · rw [if_neg hv1] at h
      by_cases hv2 : s0_6 = 2
      · rw [if_pos hv2] at h
        by_cases hm : s0_2 = 0
        · rw [if_pos hm] at h; cases h
        · rw [if_neg hm] at h
          simp only [Option.bind_some, Option.some.injEq, Prod.mk.injEq] at h
          obtain ⟨rfl, rfl, rfl, rfl, rfl, rfl, rfl⟩ := h
          refine (spec_woGo.way2 g s0_0 s0_1 s0_2 s0_3 s0_4 s0_5 s0_6 a1 w hb hm hv2).mono ?_
          rintro e w' ⟨rfl, rfl⟩
          exact ⟨rfl, (hI.set_5 _).drew, below_drew1 (hB.setCell hg _), keep_drew ((KeepBut.refl w g none).set_ 5 _)⟩
      · rw [if_neg hv2] at h
        by_cases hm : s0_1 = 0
        · rw [if_pos hm] at h; cases h
        · rw [if_neg hm] at h
          simp only [Option.bind_some, Option.some.injEq, Prod.mk.injEq] at h
          obtain ⟨rfl, rfl, rfl, rfl, rfl, rfl, rfl⟩ := h
          refine (spec_woGo.way3 g s0_0 s0_1 s0_2 s0_3 s0_4 s0_5 s0_6 a1 w hb hm hv0 hv1 hv2).mono ?_
          rintro e w' ⟨rfl, rfl⟩
          exact ⟨rfl, (hI.set_4 _).drew, below_drew1 (hB.setCell hg _), keep_drew ((KeepBut.refl w g none).set_ 4 _)⟩

/-! ### spec_woStep: function 50 -/
def spec_woStep.f (k : Nat) (a0_0 : ByteArray) (a0_1 : Int) (a0_2 : Int) (a0_3 : ByteArray) (a0_4 : Int) (a0_5 : Int) (a0_6 : Int) : Option (ByteArray × Int × Int × ByteArray × Int × Int × Int) := (spec_woColour.f a0_0 a0_1 a0_2 a0_3 a0_4 a0_5 a0_6 a0_4 a0_5).bind fun c => if 0 ≤ c then (if c < (a0_0.size : Int) then ((spec_woTurn.f (bt a0_0 c)).bind fun q => (spec_woPaint.f k a0_0 a0_1 a0_2 a0_3 a0_4 a0_5 (Int.tmod (wrap64 (a0_6 + q)) 4) a0_4 a0_5 (Int.tmod (wrap64 (c + 1)) (a0_0.size : Int))).bind fun p => spec_woGo.f p.1 p.2.1 p.2.2.1 p.2.2.2.1 p.2.2.2.2.1 p.2.2.2.2.2.1 p.2.2.2.2.2.2 1) else none) else none
theorem spec_woStep.mono : ∀ a0 a1 a2 a3 a4 a5 a6 k, LeO (spec_woStep.f k a0 a1 a2 a3 a4 a5 a6) (spec_woStep.f (k + 1) a0 a1 a2 a3 a4 a5 a6) := fun a0 a1 a2 a3 a4 a5 a6 k => LeO.bind (LeO.refl _) (fun c => LeO.ite (LeO.ite (LeO.bind (LeO.refl _) (fun q => LeO.bind (spec_woPaint.mono _ _ _ _ _ _ _ _ _ _ k) (fun _ => LeO.refl _))) (LeO.refl _)) (LeO.refl _))
set_option maxHeartbeats 8000000 in
set_option maxRecDepth 100000 in
theorem spec_woStep.calls (k : Nat) (a0_0 : ByteArray) (a0_1 : Int) (a0_2 : Int) (a0_3 : ByteArray) (a0_4 : Int) (a0_5 : Int) (a0_6 : Int) (r1 : ByteArray) (r2 : Int) (r3 : Int) (r4 : ByteArray) (r5 : Int) (r6 : Int) (r7 : Int) (w : World) (h : spec_woStep.f k a0_0 a0_1 a0_2 a0_3 a0_4 a0_5 a0_6 = some (r1, r2, r3, r4, r5, r6, r7)) :
    Calls Tryd.prog 50 #[.agg #[.string a0_0, .int .i64 a0_1, .int .i64 a0_2, .string a0_3, .int .i64 a0_4, .int .i64 a0_5, .int .i64 a0_6]] w fun e w' => e = .returned (.agg #[.string r1, .int .i64 r2, .int .i64 r3, .string r4, .int .i64 r5, .int .i64 r6, .int .i64 r7]) ∧ Below w.heap.size w w' := by
  have hu := Tryd.underlying27
  unfold spec_woStep.f at h
  obtain ⟨c, hc, h⟩ := Option.bind_eq_some_iff.mp h
  by_cases c0 : 0 ≤ c
  case neg => rw [if_neg c0] at h; cases h
  by_cases c1 : c < (a0_0.size : Int)
  case neg => rw [if_pos c0, if_neg c1] at h; cases h
  rw [if_pos c0, if_pos c1] at h
  obtain ⟨q, hq, h⟩ := Option.bind_eq_some_iff.mp h
  obtain ⟨⟨p1, p2, p3, p4, p5, p6, p7⟩, hp, hy⟩ := Option.bind_eq_some_iff.mp h
  clear h
  have HC := Aside0.mk hc
  have HQ := Aside0.mk hq
  have HP := Aside0.mk hp
  have HY := Aside0.mk hy
  have hx := bt_at a0_0 c
  have pc := eq_true c0
  have qc := eq_true c1
  have nz : ((a0_0.size : Int) == 0) = false := beq_eq_false_iff_ne.mpr (by omega)
  have ne0 : (a0_0 = ByteArray.empty) = False := eq_false (fun h => by rw [h] at c1; exact absurd c1 (by show ¬ (c < ((0 : Nat) : Int)); omega))
  clear hc hq hp hy c0 c1
  go_enter Tryd.func50, Tryd.ntmps50
  go_wp2_with (first | ((with_reducible refine gate_dst (N := 1) rfl ?_); refine box_event ?hg (N := 1) ?hd (cs := #[.string a0_0, .int .i64 a0_1, .int .i64 a0_2, .string a0_3, .int .i64 a0_4, .int .i64 a0_5, .int .i64 a0_6]) (t := 27) ?hr ?_; (case hd => rfl); (case hg => rfl); (case hr => first | (go_simp; done) | (go_simp; rfl)); intro gb hg w1 hbox hb; have HB1 := Aside0.mk (show Below w.heap.size w w1 from below_step (Below.refl _ _) hb); have IB1 := Aside0.mk (show IsS27 w w1 gb a0_0 a0_1 a0_2 a0_3 a0_4 a0_5 a0_6 from ⟨hbox, by rw [hg]; exact Nat.le_refl _⟩); have GB := Aside0.mk (show w.heap.size ≤ gb by rw [hg]; exact Nat.le_refl _); clear hb hbox hg) | ((with_reducible refine gate_dst (N := 2) rfl ?_); refine box_event ?hg (N := 2) ?hd (cs := #[.string (⟨#[]⟩ : ByteArray), .int .i64 0, .int .i64 0, .string (⟨#[]⟩ : ByteArray), .int .i64 0, .int .i64 0, .int .i64 0]) (t := 27) ?hr ?_; (case hd => rfl); (case hg => rfl); (case hr => first | (go_simp; done) | (go_simp; rfl)); intro gr hg w2 hbox hb; have IB2 := Aside0.mk (show IsS27 w w2 gb a0_0 a0_1 a0_2 a0_3 a0_4 a0_5 a0_6 from ⟨blk_below IB1.out.1 hb, GB.out⟩); have HB2 := Aside0.mk (show Below w.heap.size w w2 from below_step HB1.out hb); have GR := Aside0.mk (show w.heap.size ≤ gr by rw [hg]; exact below_size HB1.out); have IR2 := Aside0.mk (show IsS27 w w2 gr (⟨#[]⟩ : ByteArray) 0 0 (⟨#[]⟩ : ByteArray) 0 0 0 from ⟨hbox, GR.out⟩); have hne : gr ≠ gb := (by rw [hg]; exact Nat.ne_of_gt (blk_lt IB1.out.1)); have hne2 : gb ≠ gr := Ne.symm hne; have e0 : w2.cell? ⟨gb, 0, none⟩ = some (.string a0_0) := (blk_cell IB2.out.1 0).trans rfl; have e1 : w2.cell? ⟨gb, 1, none⟩ = some (.int .i64 a0_1) := (blk_cell IB2.out.1 1).trans rfl; have e2 : w2.cell? ⟨gb, 2, none⟩ = some (.int .i64 a0_2) := (blk_cell IB2.out.1 2).trans rfl; have e3 : w2.cell? ⟨gb, 3, none⟩ = some (.string a0_3) := (blk_cell IB2.out.1 3).trans rfl; have e4 : w2.cell? ⟨gb, 4, none⟩ = some (.int .i64 a0_4) := (blk_cell IB2.out.1 4).trans rfl; have e5 : w2.cell? ⟨gb, 5, none⟩ = some (.int .i64 a0_5) := (blk_cell IB2.out.1 5).trans rfl; have e6 : w2.cell? ⟨gb, 6, none⟩ = some (.int .i64 a0_6) := (blk_cell IB2.out.1 6).trans rfl; clear IB1 HB1; clear hb hbox hg) | ((with_reducible refine gate_callee (f := 49) rfl ?_); refine goesL_ (some 9) rfl rfl Tryd.func49 (by kernel_rfl) rfl #[.agg #[.string a0_0, .int .i64 a0_1, .int .i64 a0_2, .string a0_3, .int .i64 a0_4, .int .i64 a0_5, .int .i64 a0_6], .int .i64 a0_4, .int .i64 a0_5] rfl (by (try simp only [List.map_toArray, List.map_cons, List.map_nil]); first | done | rfl) ?_; (with_reducible refine (spec_woColour.calls a0_0 a0_1 a0_2 a0_3 a0_4 a0_5 a0_6 a0_4 a0_5 c _ HC.out).mono ?_); rintro e w5 ⟨rfl, hb⟩; refine ⟨_, rfl, ?_⟩; have IB := Aside0.mk (show IsS27 w w5 gb a0_0 a0_1 a0_2 a0_3 a0_4 a0_5 a0_6 from IB2.out.below hb); have IR := Aside0.mk (show IsS27 w w5 gr (⟨#[]⟩ : ByteArray) 0 0 (⟨#[]⟩ : ByteArray) 0 0 0 from IR2.out.below hb); have HB := Aside0.mk (show Below w.heap.size w w5 from below_step HB2.out hb); clear IB2 IR2 HB2 hb e0 e1 e2 e3 e4 e5 e6))
  refine start_ (n := 11) (S := fun w' => w'.cell? ⟨gb, 0, none⟩ = some (.string a0_0) ∧ w'.cell? ⟨gb, 6, none⟩ = some (.int .i64 a0_6) ∧ IsS27 w w' gb a0_0 a0_1 a0_2 a0_3 a0_4 a0_5 a0_6 ∧ IsS27 w w' gr (⟨#[]⟩ : ByteArray) 0 0 (⟨#[]⟩ : ByteArray) 0 0 0 ∧ Below w.heap.size w w') (ds := [10]) #[false, false, false, false, false, false, false, false, false, false, false] (by kernel_rfl) rfl rfl ⟨(blk_cell IB.out.drew.1 0).trans rfl, (blk_cell IB.out.drew.1 6).trans rfl, IB.out.drew, IR.out.drew, (below_drew1 HB.out)⟩ (fun hHeld => ?_)
  refine pure_ (i := 0) (N := some 10) (v := ?_) (a' := ?_) #[true, false, false, false, false, false, false, false, false, false, false] rfl rfl (by kernel_rfl) (fun _ _ _ h => h) (Or.inl ⟨by rfl, ?_⟩) ?_ ?_
  rotate_left
  · intro w'
    go_simp
    with_reducible rfl
  rotate_left
  · simp only [Act.put, List.setIfInBounds_toArray, List.set_cons_zero, List.set_cons_succ, i64_w, i32_w]
    rfl
  refine pure_ (i := 2) (N := some 12) (v := ?_) (a' := ?_) #[true, false, true, false, false, false, false, false, false, false, false] rfl rfl (by kernel_rfl) (fun _ _ _ h => h) (Or.inl ⟨by rfl, ?_⟩) ?_ ?_
  rotate_left
  · intro w'
    go_simp
    with_reducible rfl
  rotate_left
  · simp only [Act.put, List.setIfInBounds_toArray, List.set_cons_zero, List.set_cons_succ, i64_w, i32_w]
    rfl
  refine pure_ (i := 4) (N := some 14) (v := ?_) (a' := ?_) #[true, false, true, false, true, false, false, false, false, false, false] rfl rfl (by kernel_rfl) (fun _ _ _ h => h) (Or.inl ⟨by rfl, ?_⟩) ?_ ?_
  rotate_left
  · intro w'
    go_simp
    with_reducible rfl
  rotate_left
  · simp only [Act.put, List.setIfInBounds_toArray, List.set_cons_zero, List.set_cons_succ, i64_w, i32_w]
    rfl
  refine take_ (i := 1) (N := some 11) (v := ?_) (a' := ?_) #[true, true, true, false, true, false, false, false, false, false, false] rfl rfl (by kernel_rfl) (fun _ _ _ h => h) (Or.inl ⟨by rfl, ?_⟩) hHeld ?_ ?_
  rotate_left
  · rintro w' ⟨s0, s1, s2, s3, s4⟩
    go_simp
    with_reducible rfl
  rotate_left
  · simp only [Act.put, List.setIfInBounds_toArray, List.set_cons_zero, List.set_cons_succ, i64_w, i32_w]
    rfl
  refine take_ (i := 3) (N := some 13) (v := ?_) (a' := ?_) #[true, true, true, true, true, false, false, false, false, false, false] rfl rfl (by kernel_rfl) (fun _ _ _ h => h) (Or.inl ⟨by rfl, ?_⟩) hHeld ?_ ?_
  rotate_left
  · rintro w' ⟨s0, s1, s2, s3, s4⟩
    go_simp
    with_reducible rfl
  rotate_left
  · simp only [Act.put, List.setIfInBounds_toArray, List.set_cons_zero, List.set_cons_succ, i64_w, i32_w]
    rfl
  refine take_ (i := 5) (N := some 15) (v := ?_) (a' := ?_) #[true, true, true, true, true, true, false, false, false, false, false] rfl rfl (by kernel_rfl) (fun _ _ _ h => h) (Or.inl ⟨by rfl, ?_⟩) hHeld ?_ ?_
  rotate_left
  · rintro w' ⟨s0, s1, s2, s3, s4⟩
    go_simp
    with_reducible rfl
  rotate_left
  · simp only [Act.put, List.setIfInBounds_toArray, List.set_cons_zero, List.set_cons_succ, i64_w, i32_w]
    rfl
  refine one_ (i := 6) (N := some 16) #[true, true, true, true, true, true, true, false, false, false, false] rfl rfl (by kernel_rfl) (by decide) (fun K hK => ?_)
  refine goes_ Tryd.func71 (by kernel_rfl) rfl #[.int .u8 (bt a0_0 c)] (by rfl) rfl rfl (by simp only [List.map_toArray, List.map_cons, List.map_nil]; rfl) ?_
  with_reducible refine (spec_woTurn.calls (bt a0_0 c) q _ HQ.out).mono ?_
  rintro e w3 ⟨rfl, hd⟩
  refine ⟨_, rfl, ?_⟩
  obtain ⟨_, _, s2, s3, s4⟩ := hHeld
  have t2 : IsS27 w w3 gb a0_0 a0_1 a0_2 a0_3 a0_4 a0_5 a0_6 := by obtain ⟨nd, rfl⟩ := hd; exact s2.drewN nd
  have t3 : IsS27 w w3 gr (⟨#[]⟩ : ByteArray) 0 0 (⟨#[]⟩ : ByteArray) 0 0 0 := by obtain ⟨nd, rfl⟩ := hd; exact s3.drewN nd
  have t4 : Below w.heap.size w w3 := by obtain ⟨nd, rfl⟩ := hd; exact pw_below_drewN s4 nd
  refine hK.out _ _ ⟨(blk_cell t2.1 0).trans rfl, (blk_cell t2.1 6).trans rfl, t2, t3, t4⟩ (fun hHeld => ?_)
  clear hK K
  refine norm_ (a' := ?_) ?_ ?_
  rotate_left
  · show Act.put _ (some 16) _ = _
    simp only [Act.put, List.setIfInBounds_toArray, List.set_cons_zero, List.set_cons_succ, i64_w, i32_w]
    rfl
  refine pure_ (i := 7) (N := some 17) (v := ?_) (a' := ?_) #[true, true, true, true, true, true, true, true, false, false, false] rfl rfl (by kernel_rfl) (fun _ _ _ h => h) (Or.inl ⟨by rfl, ?_⟩) ?_ ?_
  rotate_left
  · intro w'
    go_simp
    with_reducible rfl
  rotate_left
  · simp only [Act.put, List.setIfInBounds_toArray, List.set_cons_zero, List.set_cons_succ, i64_w, i32_w]
    rfl
  refine pure_ (i := 8) (N := some 18) (v := ?_) (a' := ?_) #[true, true, true, true, true, true, true, true, true, false, false] rfl rfl (by kernel_rfl) (fun _ _ _ h => h) (Or.inl ⟨by rfl, ?_⟩) ?_ ?_
  rotate_left
  · intro w'
    go_simp
    with_reducible rfl
  rotate_left
  · simp only [Act.put, List.setIfInBounds_toArray, List.set_cons_zero, List.set_cons_succ, i64_w, i32_w]
    rfl
  refine pure_ (i := 9) (N := some 19) (v := ?_) (a' := ?_) #[true, true, true, true, true, true, true, true, true, true, false] rfl rfl (by kernel_rfl) (fun _ _ _ h => h) (Or.inl ⟨by rfl, ?_⟩) ?_ ?_
  rotate_left
  · intro w'
    go_simp
    with_reducible rfl
  rotate_left
  · simp only [Act.put, List.setIfInBounds_toArray, List.set_cons_zero, List.set_cons_succ, i64_w, i32_w]
    rfl
  refine last_ (i := 10) (N := none) #[true, true, true, true, true, true, true, true, true, true, true] rfl rfl (by kernel_rfl) (by decide) (fun K hK => ?_)
  have z6 := blk_frozen hHeld.2.2.1.1 6
  have c6 := hHeld.2.1
  refine skip_ (w1 := ?_) (by rfl) rfl ?_ ?_
  rotate_left
  · go_simp
    rfl
  have JB := Aside0.mk (show IsS27 w (w3.setCell ⟨gb, 6, none⟩ (.int .i64 (Int.tmod (wrap64 (a0_6 + q)) 4))) gb a0_0 a0_1 a0_2 a0_3 a0_4 a0_5 (Int.tmod (wrap64 (a0_6 + q)) 4) from hHeld.2.2.1.set_6 _)
  have JR := Aside0.mk (show IsS27 w (w3.setCell ⟨gb, 6, none⟩ (.int .i64 (Int.tmod (wrap64 (a0_6 + q)) 4))) gr (⟨#[]⟩ : ByteArray) 0 0 (⟨#[]⟩ : ByteArray) 0 0 0 from hHeld.2.2.2.1.far hne _)
  have JL := Aside0.mk (show Below w.heap.size w (w3.setCell ⟨gb, 6, none⟩ (.int .i64 (Int.tmod (wrap64 (a0_6 + q)) 4))) from below_set hHeld.2.2.2.2 GB.out)
  refine hK.out _ _ ?_
  clear hK K hHeld c6 z6 IB IR HB
  generalize (w3.setCell ⟨gb, 6, none⟩ (.int .i64 (Int.tmod (wrap64 (a0_6 + q)) 4))) = w6 at JB JR JL ⊢
  refine done_ (by kernel_rfl) ?_
  go_wp2_with fail
  refine start_ (n := 11) (S := fun w' => w'.cell? ⟨gb, 0, none⟩ = some (.string a0_0) ∧ w'.cell? ⟨gb, 4, none⟩ = some (.int .i64 a0_4) ∧ w'.cell? ⟨gb, 5, none⟩ = some (.int .i64 a0_5) ∧ IsS27 w w' gb a0_0 a0_1 a0_2 a0_3 a0_4 a0_5 (Int.tmod (wrap64 (a0_6 + q)) 4) ∧ IsS27 w w' gr (⟨#[]⟩ : ByteArray) 0 0 (⟨#[]⟩ : ByteArray) 0 0 0 ∧ Below w.heap.size w w') (ds := [10]) #[false, false, false, false, false, false, false, false, false, false, false] (by kernel_rfl) rfl rfl ⟨(blk_cell JB.out.1 0).trans rfl, (blk_cell JB.out.1 4).trans rfl, (blk_cell JB.out.1 5).trans rfl, JB.out.drew, JR.out.drew, (below_drew1 JL.out)⟩ (fun hHeld => ?_)
  refine pure_ (i := 0) (N := some 20) (v := ?_) (a' := ?_) #[true, false, false, false, false, false, false, false, false, false, false] rfl rfl (by kernel_rfl) (fun _ _ _ h => h) (Or.inl ⟨by rfl, ?_⟩) ?_ ?_
  rotate_left
  · intro w'
    go_simp
    with_reducible rfl
  rotate_left
  · simp only [Act.put, List.setIfInBounds_toArray, List.set_cons_zero, List.set_cons_succ, i64_w, i32_w]
    rfl
  refine pure_ (i := 2) (N := some 22) (v := ?_) (a' := ?_) #[true, false, true, false, false, false, false, false, false, false, false] rfl rfl (by kernel_rfl) (fun _ _ _ h => h) (Or.inl ⟨by rfl, ?_⟩) ?_ ?_
  rotate_left
  · intro w'
    go_simp
    with_reducible rfl
  rotate_left
  · simp only [Act.put, List.setIfInBounds_toArray, List.set_cons_zero, List.set_cons_succ, i64_w, i32_w]
    rfl
  refine pure_ (i := 4) (N := some 24) (v := ?_) (a' := ?_) #[true, false, true, false, true, false, false, false, false, false, false] rfl rfl (by kernel_rfl) (fun _ _ _ h => h) (Or.inl ⟨by rfl, ?_⟩) ?_ ?_
  rotate_left
  · intro w'
    go_simp
    with_reducible rfl
  rotate_left
  · simp only [Act.put, List.setIfInBounds_toArray, List.set_cons_zero, List.set_cons_succ, i64_w, i32_w]
    rfl
  refine pure_ (i := 5) (N := some 25) (v := ?_) (a' := ?_) #[true, false, true, false, true, true, false, false, false, false, false] rfl rfl (by kernel_rfl) (fun _ _ _ h => h) (Or.inl ⟨by rfl, ?_⟩) ?_ ?_
  rotate_left
  · intro w'
    go_simp
    with_reducible rfl
  rotate_left
  · simp only [Act.put, List.setIfInBounds_toArray, List.set_cons_zero, List.set_cons_succ, i64_w, i32_w]
    rfl
  refine pure_ (i := 6) (N := some 26) (v := ?_) (a' := ?_) #[true, false, true, false, true, true, true, false, false, false, false] rfl rfl (by kernel_rfl) (fun _ _ _ h => h) (Or.inl ⟨by rfl, ?_⟩) ?_ ?_
  rotate_left
  · intro w'
    go_simp
    with_reducible rfl
  rotate_left
  · simp only [Act.put, List.setIfInBounds_toArray, List.set_cons_zero, List.set_cons_succ, i64_w, i32_w]
    rfl
  refine take_ (i := 1) (N := some 21) (v := ?_) (a' := ?_) #[true, true, true, false, true, true, true, false, false, false, false] rfl rfl (by kernel_rfl) (fun _ _ _ h => h) (Or.inl ⟨by rfl, ?_⟩) hHeld ?_ ?_
  rotate_left
  · rintro w' ⟨s0, s1, s2, s3, s4, s5⟩
    go_simp
    with_reducible rfl
  rotate_left
  · simp only [Act.put, List.setIfInBounds_toArray, List.set_cons_zero, List.set_cons_succ, i64_w, i32_w]
    rfl
  refine take_ (i := 3) (N := some 23) (v := ?_) (a' := ?_) #[true, true, true, true, true, true, true, false, false, false, false] rfl rfl (by kernel_rfl) (fun _ _ _ h => h) (Or.inl ⟨by rfl, ?_⟩) hHeld ?_ ?_
  rotate_left
  · rintro w' ⟨s0, s1, s2, s3, s4, s5⟩
    go_simp
    with_reducible rfl
  rotate_left
  · simp only [Act.put, List.setIfInBounds_toArray, List.set_cons_zero, List.set_cons_succ, i64_w, i32_w]
    rfl
  refine take_ (i := 7) (N := some 27) (v := ?_) (a' := ?_) #[true, true, true, true, true, true, true, true, false, false, false] rfl rfl (by kernel_rfl) (fun _ _ _ h => h) (Or.inl ⟨by rfl, ?_⟩) hHeld ?_ ?_
  rotate_left
  · rintro w' ⟨s0, s1, s2, s3, s4, s5⟩
    go_simp
    with_reducible rfl
  rotate_left
  · simp only [Act.put, List.setIfInBounds_toArray, List.set_cons_zero, List.set_cons_succ, i64_w, i32_w]
    rfl
  refine pure_ (i := 8) (N := some 28) (v := ?_) (a' := ?_) #[true, true, true, true, true, true, true, true, true, false, false] rfl rfl (by kernel_rfl) (fun _ _ _ h => h) (Or.inl ⟨by rfl, ?_⟩) ?_ ?_
  rotate_left
  · intro w'
    go_simp
    with_reducible rfl
  rotate_left
  · simp only [Act.put, List.setIfInBounds_toArray, List.set_cons_zero, List.set_cons_succ, i64_w, i32_w]
    rfl
  refine pure_ (i := 9) (N := some 29) (v := ?_) (a' := ?_) #[true, true, true, true, true, true, true, true, true, true, false] rfl rfl (by kernel_rfl) (fun _ _ _ h => h) (Or.inl ⟨by rfl, ?_⟩) ?_ ?_
  rotate_left
  · intro w'
    go_simp
    with_reducible rfl
  rotate_left
  · simp only [Act.put, List.setIfInBounds_toArray, List.set_cons_zero, List.set_cons_succ, i64_w, i32_w]
    rfl
  refine last_ (i := 10) (N := some 30) #[true, true, true, true, true, true, true, true, true, true, true] rfl rfl (by kernel_rfl) (by decide) (fun K hK => ?_)
  refine goes_ Tryd.func72 (by kernel_rfl) rfl #[.pointer (some ⟨gb, 0, none⟩), .int .i64 a0_4, .int .i64 a0_5, .int .i64 (Int.tmod (wrap64 (c + 1)) (a0_0.size : Int))] (by rfl) rfl rfl (by simp only [List.map_toArray, List.map_cons, List.map_nil]; rfl) ?_
  with_reducible refine (spec_woPaint.calls k gb a0_0 a0_1 a0_2 a0_3 a0_4 a0_5 (Int.tmod (wrap64 (a0_6 + q)) 4) a0_4 a0_5 (Int.tmod (wrap64 (c + 1)) (a0_0.size : Int)) p1 p2 p3 p4 p5 p6 p7 w _ hHeld.2.2.2.1 hHeld.2.2.2.2.2 HP.out).mono ?_
  rintro e w7 ⟨rfl, hI, hL, hk⟩
  refine ⟨_, rfl, ?_⟩
  have LB := Aside0.mk hI
  have LL := Aside0.mk hL
  have LR := Aside0.mk (show IsS27 w w7 gr (⟨#[]⟩ : ByteArray) 0 0 (⟨#[]⟩ : ByteArray) 0 0 0 from ⟨hk.blk hHeld.2.2.2.2.1.1 hne (by simp), GR.out⟩)
  refine hK.out _ _ ?_
  clear hK K
  refine norm_ (a' := ?_) ?_ ?_
  rotate_left
  · show Act.put _ (some 30) _ = _
    simp only [Act.put, List.setIfInBounds_toArray, List.set_cons_zero, List.set_cons_succ, i64_w, i32_w]
    rfl
  refine done_ (by kernel_rfl) ?_
  go_wp2_with (first | (go_at_call 73; refine (spec_woGo.calls gb p1 p2 p3 p4 p5 p6 p7 1 r1 r2 r3 r4 r5 r6 r7 w _ LB.out LL.out HY.out).mono ?_; rintro e w8 ⟨rfl, hI, hL, hk⟩; have MB := Aside0.mk hI; have ML := Aside0.mk hL; have MR := Aside0.mk (show IsS27 w w8 gr (⟨#[]⟩ : ByteArray) 0 0 (⟨#[]⟩ : ByteArray) 0 0 0 from ⟨hk.blk LR.out.1 hne (by simp), GR.out⟩); have e0 : w8.cell? ⟨gb, 0, none⟩ = some (.string r1) := (blk_cell MB.out.1 0).trans rfl; have e1 : w8.cell? ⟨gb, 1, none⟩ = some (.int .i64 r2) := (blk_cell MB.out.1 1).trans rfl; have e2 : w8.cell? ⟨gb, 2, none⟩ = some (.int .i64 r3) := (blk_cell MB.out.1 2).trans rfl; have e3 : w8.cell? ⟨gb, 3, none⟩ = some (.string r4) := (blk_cell MB.out.1 3).trans rfl; have e4 : w8.cell? ⟨gb, 4, none⟩ = some (.int .i64 r5) := (blk_cell MB.out.1 4).trans rfl; have e5 : w8.cell? ⟨gb, 5, none⟩ = some (.int .i64 r6) := (blk_cell MB.out.1 5).trans rfl; have e6 : w8.cell? ⟨gb, 6, none⟩ = some (.int .i64 r7) := (blk_cell MB.out.1 6).trans rfl; have d0 : w8.cell? ⟨gr, 0, none⟩ = some (.string (⟨#[]⟩ : ByteArray)) := (blk_cell MR.out.1 0).trans rfl; have d1 : w8.cell? ⟨gr, 1, none⟩ = some (.int .i64 0) := (blk_cell MR.out.1 1).trans rfl; have d2 : w8.cell? ⟨gr, 2, none⟩ = some (.int .i64 0) := (blk_cell MR.out.1 2).trans rfl; have d3 : w8.cell? ⟨gr, 3, none⟩ = some (.string (⟨#[]⟩ : ByteArray)) := (blk_cell MR.out.1 3).trans rfl; have d4 : w8.cell? ⟨gr, 4, none⟩ = some (.int .i64 0) := (blk_cell MR.out.1 4).trans rfl; have d5 : w8.cell? ⟨gr, 5, none⟩ = some (.int .i64 0) := (blk_cell MR.out.1 5).trans rfl; have d6 : w8.cell? ⟨gr, 6, none⟩ = some (.int .i64 0) := (blk_cell MR.out.1 6).trans rfl; have f0 := blk_frozen MR.out.1 0; have f1 := blk_frozen MR.out.1 1; have f2 := blk_frozen MR.out.1 2; have f3 := blk_frozen MR.out.1 3; have f4 := blk_frozen MR.out.1 4; have f5 := blk_frozen MR.out.1 5; have f6 := blk_frozen MR.out.1 6; clear hI hL hk))
  refine bodyPost_ret (results_cell_row rfl _ _ gr 27 #[.string r1, .int .i64 r2, .int .i64 r3, .string r4, .int .i64 r5, .int .i64 r6, .int .i64 r7] (0, 0) _ rfl (by (with_reducible repeat (first | refine blk_drewN ?_ _ | refine blk_drew ?_ | refine blk_alloc ?_ _)); refine blk_put (cs := #[.string r1, .int .i64 r2, .int .i64 r3, .string r4, .int .i64 r5, .int .i64 r6, .int .i64 0]) ?_ 6 _ rfl; refine blk_put (cs := #[.string r1, .int .i64 r2, .int .i64 r3, .string r4, .int .i64 r5, .int .i64 0, .int .i64 0]) ?_ 5 _ rfl; refine blk_put (cs := #[.string r1, .int .i64 r2, .int .i64 r3, .string r4, .int .i64 0, .int .i64 0, .int .i64 0]) ?_ 4 _ rfl; refine blk_put (cs := #[.string r1, .int .i64 r2, .int .i64 r3, .string (⟨#[]⟩ : ByteArray), .int .i64 0, .int .i64 0, .int .i64 0]) ?_ 3 _ rfl; refine blk_put (cs := #[.string r1, .int .i64 r2, .int .i64 0, .string (⟨#[]⟩ : ByteArray), .int .i64 0, .int .i64 0, .int .i64 0]) ?_ 2 _ rfl; refine blk_put (cs := #[.string r1, .int .i64 0, .int .i64 0, .string (⟨#[]⟩ : ByteArray), .int .i64 0, .int .i64 0, .int .i64 0]) ?_ 1 _ rfl; refine blk_put (cs := #[.string (⟨#[]⟩ : ByteArray), .int .i64 0, .int .i64 0, .string (⟨#[]⟩ : ByteArray), .int .i64 0, .int .i64 0, .int .i64 0]) ?_ 0 _ rfl; exact MR.out.1) Tryd.underlying27 rfl (by kernel_rfl)) rfl ?_
  exact ⟨rfl, by repeat (first | (with_reducible first | exact ML.out | refine below_set ?_ GR.out) | exact ML.out)⟩

/-! ### spec_l1In: function 70 -/
def spec_l1In.f (a0 : Int) (a1 : Int) (a2 : Int) : Option (Bool) := if a0 ≥ a1 then (some (decide (a0 ≤ a2))) else (some false)
set_option maxHeartbeats 8000000 in
set_option maxRecDepth 100000 in
theorem spec_l1In.calls (a0 : Int) (a1 : Int) (a2 : Int) (r : Bool) (w : World) (h : spec_l1In.f a0 a1 a2 = some r) :
    Calls Tryd.prog 70 #[.int .i64 a0, .int .i64 a1, .int .i64 a2] w fun e w' => e = .returned (.bool r) ∧ Drawn0 w w' := by
  have H : (if a0 ≥ a1 then (some (decide (a0 ≤ a2))) else (some false)) = some r := h
  clear h
  by_cases c4 : a0 ≥ a1
  · rw [if_pos c4] at H
    have c4b0 : decide (a1 ≤ a0) = true := decide_eq_true c4
    clear c4
    obtain rfl := Option.some.inj H
    go_enter Tryd.func70, Tryd.ntmps70
    go_wp2
    go_ret
    exact ⟨by first | rfl | (simp; done) | (simp [*]; done), by repeat (first | exact Drawn0.refl _ | apply Drawn0.step)⟩
  · rw [if_neg c4] at H
    have c4b0 : decide (a1 ≤ a0) = false := decide_eq_false c4
    clear c4
    obtain rfl := Option.some.inj H
    go_enter Tryd.func70, Tryd.ntmps70
    go_wp2
    go_ret
    exact ⟨by first | rfl | (simp; done) | (simp [*]; done), by repeat (first | exact Drawn0.refl _ | apply Drawn0.step)⟩

/-! ### spec_woRule: function 77 -/
def spec_woRule.l0 : Nat → ByteArray → Int → Option (Bool)
  | 0, _, _ => none
  | k + 1, x0, x3 => if x3 < (x0.size : Int) then (if 0 ≤ x3 then (if (bt x0 x3) = 76 then (spec_woRule.l0 k x0 (wrap64 (x3 + 1))) else (if (bt x0 x3) = 82 then (spec_woRule.l0 k x0 (wrap64 (x3 + 1))) else (if (bt x0 x3) = 78 then (spec_woRule.l0 k x0 (wrap64 (x3 + 1))) else (if (bt x0 x3) = 85 then (spec_woRule.l0 k x0 (wrap64 (x3 + 1))) else (some false))))) else (none)) else (some true)
def spec_woRule.f (k : Nat) (a0 : ByteArray) : Option (Bool) := (spec_l1In.f (a0.size : Int) 1 6).bind fun t113 => (if t113 = true then (spec_woRule.l0 k a0 0) else (some false))
theorem spec_woRule.mono_l : ∀ k, (∀ y0 y1, LeO (spec_woRule.l0 k y0 y1) (spec_woRule.l0 (k + 1) y0 y1))
  | 0 => fun _ _ r h => by simp [spec_woRule.l0] at h
  | k + 1 => by
    have ih0 := spec_woRule.mono_l k
    · intro y0 y1
      unfold spec_woRule.l0
      repeat' first
      | (with_reducible exact ih0 _ _)
      | (with_reducible exact LeO.refl _)
      | (with_reducible exact LeO.none _)
      | (with_reducible refine LeO.ite ?_ ?_)
      | (with_reducible refine LeO.bind ?_ (fun _ => ?_))
      | exact ih0 _ _
      | exact LeO.none _
      | refine LeO.ite ?_ ?_
      | refine LeO.bind ?_ (fun _ => ?_)
theorem spec_woRule.mono : ∀ a0 k, LeO (spec_woRule.f k a0) (spec_woRule.f (k + 1) a0) := by
  intro a0 k
  have ih0 := spec_woRule.mono_l k
  unfold spec_woRule.f
  repeat' first
      | (with_reducible exact ih0 _ _)
      | (with_reducible exact LeO.refl _)
      | (with_reducible exact LeO.none _)
      | (with_reducible refine LeO.ite ?_ ?_)
      | (with_reducible refine LeO.bind ?_ (fun _ => ?_))
      | exact ih0 _ _
      | exact LeO.none _
      | refine LeO.ite ?_ ?_
      | refine LeO.bind ?_ (fun _ => ?_)
set_option maxHeartbeats 8000000 in
set_option maxRecDepth 100000 in
theorem spec_woRule.calls (k : Nat) (a0 : ByteArray) (r : Bool) (w : World) (h : spec_woRule.f k a0 = some r) :
    Calls Tryd.prog 77 #[.string a0] w fun e w' => e = .returned (.bool r) ∧ Drawn0 w w' := by
  have H : ((spec_l1In.f (a0.size : Int) 1 6).bind fun t113 => (if t113 = true then (spec_woRule.l0 k a0 0) else (some false))) = some r := h
  clear h
  replace H := Option.bind_eq_some_iff.mp H
  obtain ⟨t113, A20, H⟩ := H
  replace H : (if t113 = true then (spec_woRule.l0 k a0 0) else (some false)) = some r := H
  have A2 := Aside0.mk A20
  clear A20
  by_cases c3 : t113 = true
  · subst c3
    have H1 : (spec_woRule.l0 k a0 0) = some r := by rw [if_pos rfl] at H; exact H
    clear H
    have H := H1
    clear H1
    have H' := Aside0.mk H
    clear H
    go_enter Tryd.func77, Tryd.ntmps77
    go_wp2_with (first | ((with_reducible refine gate_callee (f := 70) rfl ?_); refine goesL_ (some 6) rfl rfl Tryd.func70 (by kernel_rfl) rfl #[.int .i64 (a0.size : Int), .int .i64 1, .int .i64 6] rfl (by (try simp only [List.map_toArray, List.map_cons, List.map_nil]); first | done | rfl | (simp only [List.length_drop, List.length_take]; rfl)) ?_; (with_reducible refine (spec_l1In.calls (a0.size : Int) 1 6 true _ A2.out).mono ?_); rintro e w' ⟨rfl, ⟨nd, rfl⟩⟩; refine ⟨_, rfl, ?_⟩))
    go_loopg [3] k (fun kq v3 w' => ∃ (x3_1 : Int), v3 = .int .i64 x3_1 ∧ Aside0 (spec_woRule.l0 kq a0 x3_1 = some r) ∧ Aside0 (kq ≤ k) ∧ Drawn0 w w')
    case atStart => exact ⟨(0), (by first | rfl | (simp; done) | (simp [*]; done)), H', ⟨Nat.le_refl _⟩, by repeat (first | exact Drawn0.refl _ | apply Drawn0.step)⟩
    case round =>
      clear H'
      try clear p2
      try clear c3
      obtain ⟨x3_1, rfl, HA, HK1, ⟨m1, rfl⟩⟩ := hrel
      cases gk with
      | zero => exact absurd HA.out (by simp [spec_woRule.l0])
      | succ k1 =>
        have H := HA.out
        clear HA
        simp only [spec_woRule.l0] at H
        by_cases c4 : x3_1 < (a0.size : Int)
        · rw [if_pos c4] at H
          have c4b0 : decide (x3_1 < (a0.size : Int)) = true := decide_eq_true c4
          clear c4
          by_cases c5 : 0 ≤ x3_1
          · rw [if_pos c5] at H
            have c5b0 : decide (0 ≤ x3_1) = true := decide_eq_true c5
            clear c5
            by_cases c7 : (bt a0 x3_1) = 76
            · rw [if_pos c7] at H
              have c7b0 : ((bt a0 x3_1) == 76) = true := beq_iff_eq.mpr c7
              have c7b1 : ((bt a0 x3_1) != 76) = false := bne_eq_false_iff_eq.mpr c7
              clear c7
              have H' := Aside0.mk H
              clear H
              have p6 : 0 ≤ (x3_1 : Int) := of_decide_eq_true (by first | (with_reducible assumption) | assumption)
              have q6 : x3_1 < (a0.size : Int) := of_decide_eq_true (by first | (with_reducible assumption) | assumption)
              have hx6 := bt_at a0 x3_1
              replace p6 := eq_true p6
              replace q6 := eq_true q6
              go_wp2
              go_roundg k1
              case measure => have := HK1.out; omega
              case rel => exact ⟨(wrap64 (x3_1 + 1)), (by first | rfl | (simp; done) | (simp [*]; done)), H', ⟨by have := HK1.out; omega⟩, by repeat (first | exact Drawn0.refl _ | apply Drawn0.step)⟩
            · rw [if_neg c7] at H
              have c7b0 : ((bt a0 x3_1) == 76) = false := beq_eq_false_iff_ne.mpr c7
              have c7b1 : ((bt a0 x3_1) != 76) = true := bne_iff_ne.mpr c7
              by_cases c8 : (bt a0 x3_1) = 82
              · rw [if_pos c8] at H
                have c8b0 : ((bt a0 x3_1) == 82) = true := beq_iff_eq.mpr c8
                have c8b1 : ((bt a0 x3_1) != 82) = false := bne_eq_false_iff_eq.mpr c8
                clear c8
                have H' := Aside0.mk H
                clear H
                have p6 : 0 ≤ (x3_1 : Int) := of_decide_eq_true (by first | (with_reducible assumption) | assumption)
                have q6 : x3_1 < (a0.size : Int) := of_decide_eq_true (by first | (with_reducible assumption) | assumption)
                have hx6 := bt_at a0 x3_1
                replace p6 := eq_true p6
                replace q6 := eq_true q6
                go_wp2
                go_roundg k1
                case measure => have := HK1.out; omega
                case rel => exact ⟨(wrap64 (x3_1 + 1)), (by first | rfl | (simp; done) | (simp [*]; done)), H', ⟨by have := HK1.out; omega⟩, by repeat (first | exact Drawn0.refl _ | apply Drawn0.step)⟩
              · rw [if_neg c8] at H
                have c8b0 : ((bt a0 x3_1) == 82) = false := beq_eq_false_iff_ne.mpr c8
                have c8b1 : ((bt a0 x3_1) != 82) = true := bne_iff_ne.mpr c8
                by_cases c9 : (bt a0 x3_1) = 78
                · rw [if_pos c9] at H
                  have c9b0 : ((bt a0 x3_1) == 78) = true := beq_iff_eq.mpr c9
                  have c9b1 : ((bt a0 x3_1) != 78) = false := bne_eq_false_iff_eq.mpr c9
                  clear c9
                  have H' := Aside0.mk H
                  clear H
                  have p6 : 0 ≤ (x3_1 : Int) := of_decide_eq_true (by first | (with_reducible assumption) | assumption)
                  have q6 : x3_1 < (a0.size : Int) := of_decide_eq_true (by first | (with_reducible assumption) | assumption)
                  have hx6 := bt_at a0 x3_1
                  replace p6 := eq_true p6
                  replace q6 := eq_true q6
                  go_wp2
                  go_roundg k1
                  case measure => have := HK1.out; omega
                  case rel => exact ⟨(wrap64 (x3_1 + 1)), (by first | rfl | (simp; done) | (simp [*]; done)), H', ⟨by have := HK1.out; omega⟩, by repeat (first | exact Drawn0.refl _ | apply Drawn0.step)⟩
                · rw [if_neg c9] at H
                  have c9b0 : ((bt a0 x3_1) == 78) = false := beq_eq_false_iff_ne.mpr c9
                  have c9b1 : ((bt a0 x3_1) != 78) = true := bne_iff_ne.mpr c9
                  by_cases c10 : (bt a0 x3_1) = 85
                  · rw [if_pos c10] at H
                    have c10b0 : ((bt a0 x3_1) == 85) = true := beq_iff_eq.mpr c10
                    have c10b1 : ((bt a0 x3_1) != 85) = false := bne_eq_false_iff_eq.mpr c10
                    clear c10
                    have H' := Aside0.mk H
                    clear H
                    have p6 : 0 ≤ (x3_1 : Int) := of_decide_eq_true (by first | (with_reducible assumption) | assumption)
                    have q6 : x3_1 < (a0.size : Int) := of_decide_eq_true (by first | (with_reducible assumption) | assumption)
                    have hx6 := bt_at a0 x3_1
                    replace p6 := eq_true p6
                    replace q6 := eq_true q6
                    go_wp2
                    go_roundg k1
                    case measure => have := HK1.out; omega
                    case rel => exact ⟨(wrap64 (x3_1 + 1)), (by first | rfl | (simp; done) | (simp [*]; done)), H', ⟨by have := HK1.out; omega⟩, by repeat (first | exact Drawn0.refl _ | apply Drawn0.step)⟩
                  · rw [if_neg c10] at H
                    have c10b0 : ((bt a0 x3_1) == 85) = false := beq_eq_false_iff_ne.mpr c10
                    have c10b1 : ((bt a0 x3_1) != 85) = true := bne_iff_ne.mpr c10
                    obtain rfl := Option.some.inj H
                    have p6 : 0 ≤ (x3_1 : Int) := of_decide_eq_true (by first | (with_reducible assumption) | assumption)
                    have q6 : x3_1 < (a0.size : Int) := of_decide_eq_true (by first | (with_reducible assumption) | assumption)
                    have hx6 := bt_at a0 x3_1
                    replace p6 := eq_true p6
                    replace q6 := eq_true q6
                    go_wp2
                    go_ret
                    exact ⟨by first | rfl | (simp; done) | (simp [*]; done), by repeat (first | exact Drawn0.refl _ | apply Drawn0.step)⟩
          · rw [if_neg c5] at H
            exact absurd H (by simp)
        · rw [if_neg c4] at H
          have c4b0 : decide (x3_1 < (a0.size : Int)) = false := decide_eq_false c4
          clear c4
          obtain rfl := Option.some.inj H
          go_wp2
          go_ret
          exact ⟨by first | rfl | (simp; done) | (simp [*]; done), by repeat (first | exact Drawn0.refl _ | apply Drawn0.step)⟩
  · replace c3 := Bool.eq_false_iff.mpr c3
    subst c3
    have H1 : (some false) = some r := by rw [if_neg (show ¬ (false = true) by decide)] at H; exact H
    clear H
    have H := H1
    clear H1
    obtain rfl := Option.some.inj H
    go_enter Tryd.func77, Tryd.ntmps77
    go_wp2_with (first | ((with_reducible refine gate_callee (f := 70) rfl ?_); refine goesL_ (some 6) rfl rfl Tryd.func70 (by kernel_rfl) rfl #[.int .i64 (a0.size : Int), .int .i64 1, .int .i64 6] rfl (by (try simp only [List.map_toArray, List.map_cons, List.map_nil]); first | done | rfl | (simp only [List.length_drop, List.length_take]; rfl)) ?_; (with_reducible refine (spec_l1In.calls (a0.size : Int) 1 6 false _ A2.out).mono ?_); rintro e w' ⟨rfl, ⟨nd, rfl⟩⟩; refine ⟨_, rfl, ?_⟩))
    go_ret
    exact ⟨by first | rfl | (simp; done) | (simp [*]; done), by repeat (first | exact Drawn0.refl _ | apply Drawn0.step)⟩

end Go.Proofs.YtdjegdgankoofaaDoor.PB
