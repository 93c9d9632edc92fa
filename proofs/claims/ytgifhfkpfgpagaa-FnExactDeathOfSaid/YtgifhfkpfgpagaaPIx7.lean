-- Printed for this claim by gprint.py, a program of this session round the kit's printer. Lean checks it.
import Derived.Test.YtgifhfkpfgpagaaPIx0
import Derived.Test.YtgifhfkpfgpagaaPIx3
import Derived.Test.YtgifhfkpfgpagaaPIx4
import Derived.Test.YtgifhfkpfgpagaaPIx6
namespace Go.Proofs.Ytgifhfkpfgpagaa.PI
open Go.RowKit Go.Proofs.YtgifhfkpfgpagaaW.PrintWords Go.Proofs.YtgifhfkpfgpagaaW.PrintLast Go.Proofs.YtgifhfkpfgpagaaW.PrintMore
attribute [local go_sem] max2_int min2_int max_two min_two max_three min_three max_four min_four   -- for this text's walks alone
set_option linter.unusedVariables false
set_option linter.unusedSimpArgs false

/-! ### impl_Worm_life: function 79 -/
-- it calls 77 and 67
def impl_Worm_life.l0 : Nat → ByteArray → List Int → List Int → Int → Int → ByteArray → ByteArray → Int → Int → Int → Option (Int × Int × ByteArray × ByteArray × Int × Int × Int × List Int × ByteArray)
  | 0, _, _, _, _, _, _, _, _, _, _ => none
  | k + 1, x1, x7, x8, x227000, x227001, x227002, x227003, x227004, x227005, x227006 => (impl_Worm_eat.f x227000 x227001 x227002 x227003 x227004 x227005 x227006 x1).bind fun bt235 => (if bt235.2.2.2.2.2.2.2.2 = true then ((impl_Worm_node.f bt235.1 bt235.2.1 bt235.2.2.1 bt235.2.2.2.1 bt235.2.2.2.2.1 bt235.2.2.2.2.2.1 bt235.2.2.2.2.2.2.1).bind fun t245 => ((some (([t245] : List Int) : List Int)).bind fun y246 => (if x7.length + y246.length < 17592186044416 then ((some (([bt235.2.2.2.2.2.2.2.1] : List Int) : List Int)).bind fun y252 => (if x8.length + y252.length < 140737488355328 then (impl_Worm_life.l0 k x1 (x7 ++ y246) (x8 ++ y252) bt235.1 bt235.2.1 bt235.2.2.1 bt235.2.2.2.1 bt235.2.2.2.2.1 bt235.2.2.2.2.2.1 bt235.2.2.2.2.2.2.1) else (none))) else (none)))) else (some (x227000, x227001, x227002, x227003, x227004, x227005, x227006, x7, strOfNums x8)))
def impl_Worm_life.f (k : Nat) (a0_0 : Int) (a0_1 : Int) (a0_2 : ByteArray) (a0_3 : ByteArray) (a0_4 : Int) (a0_5 : Int) (a0_6 : Int) (a1 : ByteArray) : Option (Int × Int × ByteArray × ByteArray × Int × Int × Int × List Int × ByteArray) := (impl_Worm_node.f a0_0 a0_1 a0_2 a0_3 a0_4 a0_5 a0_6).bind fun t228 => (impl_Worm_life.l0 k a1 (([t228] : List Int)) (([] : List Int)) a0_0 a0_1 a0_2 a0_3 a0_4 a0_5 a0_6)
theorem impl_Worm_life.mono_l : ∀ k, (∀ y0 y1 y2 y3 y4 y5 y6 y7 y8 y9, LeO (impl_Worm_life.l0 k y0 y1 y2 y3 y4 y5 y6 y7 y8 y9) (impl_Worm_life.l0 (k + 1) y0 y1 y2 y3 y4 y5 y6 y7 y8 y9))
  | 0 => fun _ _ _ _ _ _ _ _ _ _ r h => by simp [impl_Worm_life.l0] at h
  | k + 1 => by
    have ih0 := impl_Worm_life.mono_l k
    · intro y0 y1 y2 y3 y4 y5 y6 y7 y8 y9
      unfold impl_Worm_life.l0
      repeat' first
      | (with_reducible exact ih0 _ _ _ _ _ _ _ _ _ _)
      | (with_reducible exact LeO.refl _)
      | (with_reducible exact LeO.none _)
      | (with_reducible refine LeO.ite ?_ ?_)
      | (with_reducible refine LeO.bind ?_ (fun _ => ?_))
      | exact ih0 _ _ _ _ _ _ _ _ _ _
      | exact LeO.none _
      | refine LeO.ite ?_ ?_
      | refine LeO.bind ?_ (fun _ => ?_)
theorem impl_Worm_life.mono : ∀ a0 a1 a2 a3 a4 a5 a6 a7 k, LeO (impl_Worm_life.f k a0 a1 a2 a3 a4 a5 a6 a7) (impl_Worm_life.f (k + 1) a0 a1 a2 a3 a4 a5 a6 a7) := by
  intro a0 a1 a2 a3 a4 a5 a6 a7 k
  have ih0 := impl_Worm_life.mono_l k
  unfold impl_Worm_life.f
  repeat' first
      | (with_reducible exact ih0 _ _ _ _ _ _ _ _ _ _)
      | (with_reducible exact LeO.refl _)
      | (with_reducible exact LeO.none _)
      | (with_reducible refine LeO.ite ?_ ?_)
      | (with_reducible refine LeO.bind ?_ (fun _ => ?_))
      | exact ih0 _ _ _ _ _ _ _ _ _ _
      | exact LeO.none _
      | refine LeO.ite ?_ ?_
      | refine LeO.bind ?_ (fun _ => ?_)
def impl_Worm_life.T5 : Bool × List (List Nat × List Nat) := (true, [([], []), ([], []), ([], []), ([2], [2]), ([3], [3]), ([1, 4, 3], [1, 4]), ([], []), ([], []), ([7], [7]), ([6, 8, 5], [6, 8]), ([0, 9, 0], [0]), ([5, 10, 0, 1, 2, 3, 4, 5, 10], [1, 5]), ([9, 11, 0, 1, 2, 3, 4, 5, 6, 7, 8, 9, 10, 11], [6, 9])])
def impl_Worm_life.B5 : List Nat := [0, 0, 0, 4, 12, 30, 0, 0, 128, 510, 1023, 2047, 4095]
theorem impl_Worm_life.tab5 : rtab .any (opsOf Try.f79 5) = impl_Worm_life.T5 := by kernel_rfl
theorem impl_Worm_life.bits5 : waitsOk impl_Worm_life.T5.2 impl_Worm_life.B5 = true := by kernel_rfl
set_option maxHeartbeats 8000000 in
set_option maxRecDepth 100000 in
theorem impl_Worm_life.calls (k : Nat) (a0_0 : Int) (a0_1 : Int) (a0_2 : ByteArray) (a0_3 : ByteArray) (a0_4 : Int) (a0_5 : Int) (a0_6 : Int) (a1 : ByteArray) (r1 : Int) (r2 : Int) (r3 : ByteArray) (r4 : ByteArray) (r5 : Int) (r6 : Int) (r7 : Int) (r8 : List Int) (r9 : ByteArray) (w : World) (h : impl_Worm_life.f k a0_0 a0_1 a0_2 a0_3 a0_4 a0_5 a0_6 a1 = some (r1, r2, r3, r4, r5, r6, r7, r8, r9)) :
    Calls Try.prog 79 #[.agg #[.int .i64 a0_0, .int .i64 a0_1, .string a0_2, .string a0_3, .int .i64 a0_4, .int .i64 a0_5, .int .i64 a0_6], .string a1] w fun e w' => ∃ v7_ : Value, e = .returned (.tuple #[.agg #[.int .i64 r1, .int .i64 r2, .string r3, .string r4, .int .i64 r5, .int .i64 r6, .int .i64 r7], v7_, .string r9]) ∧ Kd.R (Kd.int .i64) 3 w' w.heap.size (fun _ => True) v7_ r8 ∧ Below w.heap.size w w' := by
  have hu27 := Try.underlying27
  have HB := Aside0.mk (Below.refl w.heap.size w)
  have H : ((impl_Worm_node.f a0_0 a0_1 a0_2 a0_3 a0_4 a0_5 a0_6).bind fun t228 => (impl_Worm_life.l0 k a1 (([t228] : List Int)) (([] : List Int)) a0_0 a0_1 a0_2 a0_3 a0_4 a0_5 a0_6)) = some (r1, r2, r3, r4, r5, r6, r7, r8, r9) := h
  clear h
  replace H := Option.bind_eq_some_iff.mp H
  obtain ⟨t228, A30, H⟩ := H
  replace H : (impl_Worm_life.l0 k a1 (([t228] : List Int)) (([] : List Int)) a0_0 a0_1 a0_2 a0_3 a0_4 a0_5 a0_6) = some (r1, r2, r3, r4, r5, r6, r7, r8, r9) := H
  have A3 := Aside0.mk A30
  clear A30
  obtain ⟨y229, hy229⟩ : ∃ y_ : List Int, y_ = (([t228] : List Int)) := ⟨_, rfl⟩
  replace H : (impl_Worm_life.l0 k a1 y229 (([] : List Int)) a0_0 a0_1 a0_2 a0_3 a0_4 a0_5 a0_6) = some (r1, r2, r3, r4, r5, r6, r7, r8, r9) := by first | (rw [hy229]; with_reducible exact H) | (have H2_ := (Option.bind_some _ _).symm.trans H; rw [hy229]; with_reducible exact H2_) | (have H2_ := (Option.bind_some _ _).symm.trans H; with_reducible exact H2_) | with_reducible exact H | (rw [hy229]; exact H) | exact H
  have Ny229 := Aside0.mk hy229
  clear hy229
  obtain ⟨y232, hy232⟩ : ∃ y_ : List Int, y_ = (([] : List Int)) := ⟨_, rfl⟩
  replace H : (impl_Worm_life.l0 k a1 y229 y232 a0_0 a0_1 a0_2 a0_3 a0_4 a0_5 a0_6) = some (r1, r2, r3, r4, r5, r6, r7, r8, r9) := by first | (rw [hy232]; with_reducible exact H) | (have H2_ := (Option.bind_some _ _).symm.trans H; rw [hy232]; with_reducible exact H2_) | (have H2_ := (Option.bind_some _ _).symm.trans H; with_reducible exact H2_) | with_reducible exact H | (rw [hy232]; exact H) | exact H
  have Ny232 := Aside0.mk hy232
  clear hy232
  have H' := Aside0.mk H
  clear H
  go_enter Try.func79, Try.ntmps79
  go_wp2_with (first | ((with_reducible refine gate_dst (N := 2) rfl ?_); refine box_event ?hg (N := 2) ?hd (cs := #[.int .i64 a0_0, .int .i64 a0_1, .string a0_2, .string a0_3, .int .i64 a0_4, .int .i64 a0_5, .int .i64 a0_6]) (t := 27) ?hr ?_; (case hd => rfl); (case hg => rfl); (case hr => first | (go_simp; done) | (go_simp; rfl)); intro gb226 hg w4 hbox hb; have n0_ := Aside0.mk (below_step (by repeat (first | (with_reducible first | exact HB.out | apply below_alloc | apply pw_below_drewN | apply below_drew1) | exact HB.out)) hb); have n1_ := Aside0.mk (hbox); have n2_ := Aside0.mk ((by rw [hg]; exact (below_size (by repeat (first | (with_reducible first | exact HB.out | apply below_alloc | apply pw_below_drewN | apply below_drew1) | exact HB.out))) : w.heap.size ≤ gb226)); have n3_ := Aside0.mk ((by rw [hg]; exact (below_size (by repeat (first | (with_reducible first | exact HB.out | apply below_alloc | apply pw_below_drewN | apply below_drew1) | exact HB.out))) : w.heap.size ≤ gb226)); clear HB; have HB := n0_; have BK226 := n1_; have GW226 := n2_; have GE226 := n3_; clear n0_ n1_ n2_ n3_; clear hb hbox hg) | ((with_reducible refine gate_dst (N := 4) rfl ?_); refine box_event ?hg (N := 4) ?hd (cs := #[.int .i64 0, .int .i64 0, .string (⟨#[]⟩ : ByteArray), .string (⟨#[]⟩ : ByteArray), .int .i64 0, .int .i64 0, .int .i64 0]) (t := 27) ?hr ?_; (case hd => rfl); (case hg => rfl); (case hr => first | (go_simp; done) | (go_simp; rfl)); intro gb227 hg w5 hbox hb; have n0_ := Aside0.mk (blk_below (g := gb226) (o := .cells #[.int .i64 a0_0, .int .i64 a0_1, .string a0_2, .string a0_3, .int .i64 a0_4, .int .i64 a0_5, .int .i64 a0_6] 27 (0, 0)) (by exact BK226.out) hb); have n1_ := Aside0.mk (below_step (by repeat (first | (with_reducible first | exact HB.out | apply below_alloc | apply pw_below_drewN | apply below_drew1 | refine below_set ?_ GE226.out) | exact HB.out)) hb); have n2_ := Aside0.mk (hbox); have n3_ := Aside0.mk ((by rw [hg]; exact (below_size (by repeat (first | (with_reducible first | exact HB.out | apply below_alloc | apply pw_below_drewN | apply below_drew1 | refine below_set ?_ GE226.out) | exact HB.out))) : w.heap.size ≤ gb227)); have n4_ := Aside0.mk ((by rw [hg]; exact (below_size (by repeat (first | (with_reducible first | exact HB.out | apply below_alloc | apply pw_below_drewN | apply below_drew1 | refine below_set ?_ GE226.out) | exact HB.out))) : w.heap.size ≤ gb227)); have n5_ := Aside0.mk ((by rw [hg]; exact Nat.ne_of_lt (blk_lt (g := gb226) (o := .cells #[.int .i64 a0_0, .int .i64 a0_1, .string a0_2, .string a0_3, .int .i64 a0_4, .int .i64 a0_5, .int .i64 a0_6] 27 (0, 0)) (by exact BK226.out)) : gb226 ≠ gb227)); have n6_ := Aside0.mk ((by rw [hg]; exact Nat.ne_of_gt (blk_lt (g := gb226) (o := .cells #[.int .i64 a0_0, .int .i64 a0_1, .string a0_2, .string a0_3, .int .i64 a0_4, .int .i64 a0_5, .int .i64 a0_6] 27 (0, 0)) (by exact BK226.out)) : gb227 ≠ gb226)); clear BK226; clear HB; have BK226 := n0_; have HB := n1_; have BK227 := n2_; have GW227 := n3_; have GE227 := n4_; have NB226_227 := n5_; have NB227_226 := n6_; clear n0_ n1_ n2_ n3_ n4_ n5_ n6_; clear hb hbox hg; have hnb6 := NB226_227.out; have hnc6 := NB227_226.out; have hcz7_0 : w5.cell? ⟨gb226, 0, none⟩ = some (.int .i64 a0_0) := (blk_cell BK226.out 0).trans rfl; have hcz7_1 : w5.cell? ⟨gb226, 1, none⟩ = some (.int .i64 a0_1) := (blk_cell BK226.out 1).trans rfl; have hcz7_2 : w5.cell? ⟨gb226, 2, none⟩ = some (.string a0_2) := (blk_cell BK226.out 2).trans rfl; have hcz7_3 : w5.cell? ⟨gb226, 3, none⟩ = some (.string a0_3) := (blk_cell BK226.out 3).trans rfl; have hcz7_4 : w5.cell? ⟨gb226, 4, none⟩ = some (.int .i64 a0_4) := (blk_cell BK226.out 4).trans rfl; have hcz7_5 : w5.cell? ⟨gb226, 5, none⟩ = some (.int .i64 a0_5) := (blk_cell BK226.out 5).trans rfl; have hcz7_6 : w5.cell? ⟨gb226, 6, none⟩ = some (.int .i64 a0_6) := (blk_cell BK226.out 6).trans rfl; have hfz7_0 := blk_frozen BK226.out 0; have hfz7_1 := blk_frozen BK226.out 1; have hfz7_2 := blk_frozen BK226.out 2; have hfz7_3 := blk_frozen BK226.out 3; have hfz7_4 := blk_frozen BK226.out 4; have hfz7_5 := blk_frozen BK226.out 5; have hfz7_6 := blk_frozen BK226.out 6) | ((with_reducible refine gate_callee (f := 67) rfl ?_); refine goesL_ (some 13) rfl rfl Try.func67 (by kernel_rfl) rfl #[.agg #[.int .i64 a0_0, .int .i64 a0_1, .string a0_2, .string a0_3, .int .i64 a0_4, .int .i64 a0_5, .int .i64 a0_6]] rfl (by (try simp only [List.map_toArray, List.map_cons, List.map_nil]); first | done | rfl | (simp only [List.length_drop, List.length_take]; rfl)) ?_; (with_reducible refine (impl_Worm_node.calls a0_0 a0_1 a0_2 a0_3 a0_4 a0_5 a0_6 t228 _ A3.out).mono ?_); rintro e w8 ⟨rfl, hb⟩; refine ⟨_, rfl, ?_⟩; have n0_ := Aside0.mk (blk_below (g := gb226) (o := .cells #[.int .i64 a0_0, .int .i64 a0_1, .string a0_2, .string a0_3, .int .i64 a0_4, .int .i64 a0_5, .int .i64 a0_6] 27 (0, 0)) (by exact BK226.out) hb); have n1_ := Aside0.mk (blk_below (g := gb227) (o := .cells #[.int .i64 0, .int .i64 0, .string (⟨#[]⟩ : ByteArray), .string (⟨#[]⟩ : ByteArray), .int .i64 0, .int .i64 0, .int .i64 0] 27 (0, 0)) (by exact BK227.out) hb); have n2_ := Aside0.mk (below_step (by repeat (first | (with_reducible first | exact HB.out | apply below_alloc | apply pw_below_drewN | apply below_drew1 | refine below_set ?_ GE226.out | refine below_set ?_ GE227.out) | exact HB.out)) hb); clear BK226; clear BK227; clear HB; have BK226 := n0_; have BK227 := n1_; have HB := n2_; clear n0_ n1_ n2_; (try clear hb); (try clear hb2); (try clear hk); (try clear hi)) | ((with_reducible refine gate_dst (N := 14) rfl ?_); refine Kd.R_lit (Kd.int .i64) _ 3 ?hg (N := 14) ?hd (xs := ([t228] : List Int)) (inner := [.int .i64 t228]) (ok := fun _ => True) (okp := fun _ => True) ?hr ?hp (fun _ hk => hk) trivial (Below.refl _ _) (Nat.le_refl _) (by simp) ?_; (case hd => rfl); (case hg => rfl); (case hr => first | (go_simp; done) | (go_simp; rfl)); (case hp => exact (Reps.one (show Kd.M (Kd.int .i64) _ _ _ t228 [.int .i64 t228] from rfl) (Reps.none _ _))); intro v230 w9 ho10 hb hg_ hnew_; clear hg_ hnew_; (first | rw [← Ny229.out] at ho10 | (simp only [Int.reduceToNat] at ho10; rw [← Ny229.out] at ho10)); have n0_ := Aside0.mk (Kd.R_lower ho10 (below_size (by repeat (first | (with_reducible first | exact HB.out | apply below_alloc | apply pw_below_drewN | apply below_drew1 | refine below_set ?_ GE226.out | refine below_set ?_ GE227.out) | exact HB.out)))); have n1_ := Aside0.mk (blk_below (g := gb226) (o := .cells #[.int .i64 a0_0, .int .i64 a0_1, .string a0_2, .string a0_3, .int .i64 a0_4, .int .i64 a0_5, .int .i64 a0_6] 27 (0, 0)) (by exact BK226.out) hb); have n2_ := Aside0.mk (blk_below (g := gb227) (o := .cells #[.int .i64 0, .int .i64 0, .string (⟨#[]⟩ : ByteArray), .string (⟨#[]⟩ : ByteArray), .int .i64 0, .int .i64 0, .int .i64 0] 27 (0, 0)) (by exact BK227.out) hb); have n3_ := Aside0.mk (below_step (by repeat (first | (with_reducible first | exact HB.out | apply below_alloc | apply pw_below_drewN | apply below_drew1 | refine below_set ?_ GE226.out | refine below_set ?_ GE227.out) | exact HB.out)) hb); clear BK226; clear BK227; clear HB; have HO231 := n0_; have BK226 := n1_; have BK227 := n2_; have HB := n3_; clear n0_ n1_ n2_ n3_; clear hb ho10) | ((with_reducible refine gate_dst (N := 15) rfl ?_); refine Kd.R_lit (Kd.int .u8) _ 5 ?hg (N := 15) ?hd (xs := ([] : List Int)) (inner := []) (ok := fun _ => True) (okp := fun _ => True) ?hr ?hp (fun _ hk => hk) trivial (Below.refl _ _) (Nat.le_refl _) (by simp) ?_; (case hd => rfl); (case hg => rfl); (case hr => first | (go_simp; done) | (go_simp; rfl)); (case hp => exact (Reps.none _ _)); intro v233 w11 ho12 hb hg_ hnew_; clear hg_ hnew_; (first | rw [← Ny232.out] at ho12 | (simp only [Int.reduceToNat] at ho12; rw [← Ny232.out] at ho12)); have n0_ := Aside0.mk (Kd.R_below (by exact HO231.out) hb); have n1_ := Aside0.mk (Kd.R_lower ho12 (below_size (by repeat (first | (with_reducible first | exact HB.out | apply below_alloc | apply pw_below_drewN | apply below_drew1 | refine below_set ?_ GE226.out | refine below_set ?_ GE227.out) | exact HB.out)))); have n2_ := Aside0.mk (blk_below (g := gb226) (o := .cells #[.int .i64 a0_0, .int .i64 a0_1, .string a0_2, .string a0_3, .int .i64 a0_4, .int .i64 a0_5, .int .i64 a0_6] 27 (0, 0)) (by exact BK226.out) hb); have n3_ := Aside0.mk (blk_below (g := gb227) (o := .cells #[.int .i64 0, .int .i64 0, .string (⟨#[]⟩ : ByteArray), .string (⟨#[]⟩ : ByteArray), .int .i64 0, .int .i64 0, .int .i64 0] 27 (0, 0)) (by exact BK227.out) hb); have n4_ := Aside0.mk (below_step (by repeat (first | (with_reducible first | exact HB.out | apply below_alloc | apply pw_below_drewN | apply below_drew1 | refine below_set ?_ GE226.out | refine below_set ?_ GE227.out) | exact HB.out)) hb); clear HO231; clear BK226; clear BK227; clear HB; have HO231 := n0_; have HO234 := n1_; have BK226 := n2_; have BK227 := n3_; have HB := n4_; clear n0_ n1_ n2_ n3_ n4_; clear hb ho12))
  go_loopg [7, 8] k (fun kq v7 v8 w' => ∃ (x7_1 : List Int) (x8_1 : List Int) (p0_ : Int) (p1_ : Int) (p2_ : ByteArray) (p3_ : ByteArray) (p4_ : Int) (p5_ : Int) (p6_ : Int) (q0_ : Int) (q1_ : Int) (q2_ : ByteArray) (q3_ : ByteArray) (q4_ : Int) (q5_ : Int) (q6_ : Int), Aside0 (impl_Worm_life.l0 kq a1 x7_1 x8_1 p0_ p1_ p2_ p3_ p4_ p5_ p6_ = some (r1, r2, r3, r4, r5, r6, r7, r8, r9)) ∧ Aside0 (kq ≤ k) ∧ Aside0 (Kd.R (Kd.int .i64) 3 w' w.heap.size (fun _ => True) v7 x7_1) ∧ Aside0 (Kd.R (Kd.int .u8) 5 w' w.heap.size (fun _ => True) v8 x8_1) ∧ Aside0 (w'.heap[gb226]? = some (.cells #[.int .i64 p0_, .int .i64 p1_, .string p2_, .string p3_, .int .i64 p4_, .int .i64 p5_, .int .i64 p6_] 27 (0, 0))) ∧ Aside0 (w'.heap[gb227]? = some (.cells #[.int .i64 q0_, .int .i64 q1_, .string q2_, .string q3_, .int .i64 q4_, .int .i64 q5_, .int .i64 q6_] 27 (0, 0))) ∧ Aside0 (Below w.heap.size w w'))
  case atStart => exact ⟨(y229), (y232), (a0_0), (a0_1), (a0_2), (a0_3), (a0_4), (a0_5), (a0_6), (0), (0), ((⟨#[]⟩ : ByteArray)), ((⟨#[]⟩ : ByteArray)), (0), (0), (0), H', ⟨Nat.le_refl _⟩, ⟨by exact HO231.out⟩, ⟨by exact HO234.out⟩, ⟨by exact BK226.out⟩, ⟨by exact BK227.out⟩, ⟨by repeat (first | (with_reducible first | exact HB.out | apply below_alloc | apply pw_below_drewN | apply below_drew1 | refine below_set ?_ GE226.out | refine below_set ?_ GE227.out) | exact HB.out)⟩⟩
  case round =>
    clear H'
    try clear p2
    try clear c6
    try clear c7
    try clear hcz7_0
    try clear hcz7_1
    try clear hcz7_2
    try clear hcz7_3
    try clear hcz7_4
    try clear hcz7_5
    try clear hcz7_6
    try clear hfz7_0
    try clear hfz7_1
    try clear hfz7_2
    try clear hfz7_3
    try clear hfz7_4
    try clear hfz7_5
    try clear hfz7_6
    obtain ⟨x7_1, x8_1, p0_, p1_, p2_, p3_, p4_, p5_, p6_, q0_, q1_, q2_, q3_, q4_, q5_, q6_, HA, HK1, HO_7, HO_8, BK226, BK227, HB⟩ := hrel
    cases gk with
    | zero => exact absurd HA.out (by simp [impl_Worm_life.l0])
    | succ k1 =>
      have H := HA.out
      clear HA
      simp only [impl_Worm_life.l0] at H
      replace H := Option.bind_eq_some_iff.mp H
      obtain ⟨⟨t235, t236, t237, t238, t239, t240, t241, t242, t243⟩, A130, H⟩ := H
      replace H : (if t243 = true then ((impl_Worm_node.f t235 t236 t237 t238 t239 t240 t241).bind fun t245 => ((some (([t245] : List Int) : List Int)).bind fun y246 => (if x7_1.length + y246.length < 17592186044416 then ((some (([t242] : List Int) : List Int)).bind fun y252 => (if x8_1.length + y252.length < 140737488355328 then (impl_Worm_life.l0 k1 a1 (x7_1 ++ y246) (x8_1 ++ y252) t235 t236 t237 t238 t239 t240 t241) else (none))) else (none)))) else (some (p0_, p1_, p2_, p3_, p4_, p5_, p6_, x7_1, strOfNums x8_1))) = some (r1, r2, r3, r4, r5, r6, r7, r8, r9) := H
      have A13 := Aside0.mk A130
      clear A130
      by_cases c14 : t243 = true
      · subst c14
        have H1 : ((impl_Worm_node.f t235 t236 t237 t238 t239 t240 t241).bind fun t245 => ((some (([t245] : List Int) : List Int)).bind fun y246 => (if x7_1.length + y246.length < 17592186044416 then ((some (([t242] : List Int) : List Int)).bind fun y252 => (if x8_1.length + y252.length < 140737488355328 then (impl_Worm_life.l0 k1 a1 (x7_1 ++ y246) (x8_1 ++ y252) t235 t236 t237 t238 t239 t240 t241) else (none))) else (none)))) = some (r1, r2, r3, r4, r5, r6, r7, r8, r9) := by rw [if_pos rfl] at H; exact H
        clear H
        have H := H1
        clear H1
        replace H := Option.bind_eq_some_iff.mp H
        obtain ⟨t245, A150, H⟩ := H
        replace H : ((some (([t245] : List Int) : List Int)).bind fun y246 => (if x7_1.length + y246.length < 17592186044416 then ((some (([t242] : List Int) : List Int)).bind fun y252 => (if x8_1.length + y252.length < 140737488355328 then (impl_Worm_life.l0 k1 a1 (x7_1 ++ y246) (x8_1 ++ y252) t235 t236 t237 t238 t239 t240 t241) else (none))) else (none))) = some (r1, r2, r3, r4, r5, r6, r7, r8, r9) := H
        have A15 := Aside0.mk A150
        clear A150
        obtain ⟨y246, hy246⟩ : ∃ y_ : List Int, y_ = (([t245] : List Int)) := ⟨_, rfl⟩
        replace H : (if x7_1.length + y246.length < 17592186044416 then ((some (([t242] : List Int) : List Int)).bind fun y252 => (if x8_1.length + y252.length < 140737488355328 then (impl_Worm_life.l0 k1 a1 (x7_1 ++ y246) (x8_1 ++ y252) t235 t236 t237 t238 t239 t240 t241) else (none))) else (none)) = some (r1, r2, r3, r4, r5, r6, r7, r8, r9) := by first | (rw [hy246]; with_reducible exact H) | (have H2_ := (Option.bind_some _ _).symm.trans H; rw [hy246]; with_reducible exact H2_) | (have H2_ := (Option.bind_some _ _).symm.trans H; with_reducible exact H2_) | with_reducible exact H | (rw [hy246]; exact H) | exact H
        have Ny246 := Aside0.mk hy246
        clear hy246
        by_cases c16 : x7_1.length + y246.length < 17592186044416
        · rw [if_pos c16] at H
          have LMc16 := Aside0.mk c16
          clear c16
          obtain ⟨y249, hy249⟩ : ∃ y_ : List Int, y_ = (x7_1 ++ y246) := ⟨_, rfl⟩
          replace H : ((some (([t242] : List Int) : List Int)).bind fun y252 => (if x8_1.length + y252.length < 140737488355328 then (impl_Worm_life.l0 k1 a1 y249 (x8_1 ++ y252) t235 t236 t237 t238 t239 t240 t241) else (none))) = some (r1, r2, r3, r4, r5, r6, r7, r8, r9) := by first | (rw [hy249]; with_reducible exact H) | (have H2_ := (Option.bind_some _ _).symm.trans H; rw [hy249]; with_reducible exact H2_) | (have H2_ := (Option.bind_some _ _).symm.trans H; with_reducible exact H2_) | with_reducible exact H | (rw [hy249]; exact H) | exact H
          have Ny249 := Aside0.mk hy249
          clear hy249
          obtain ⟨y252, hy252⟩ : ∃ y_ : List Int, y_ = (([t242] : List Int)) := ⟨_, rfl⟩
          replace H : (if x8_1.length + y252.length < 140737488355328 then (impl_Worm_life.l0 k1 a1 y249 (x8_1 ++ y252) t235 t236 t237 t238 t239 t240 t241) else (none)) = some (r1, r2, r3, r4, r5, r6, r7, r8, r9) := by first | (rw [hy252]; with_reducible exact H) | (have H2_ := (Option.bind_some _ _).symm.trans H; rw [hy252]; with_reducible exact H2_) | (have H2_ := (Option.bind_some _ _).symm.trans H; with_reducible exact H2_) | with_reducible exact H | (rw [hy252]; exact H) | exact H
          have Ny252 := Aside0.mk hy252
          clear hy252
          by_cases c17 : x8_1.length + y252.length < 140737488355328
          · rw [if_pos c17] at H
            have LMc17 := Aside0.mk c17
            clear c17
            obtain ⟨y255, hy255⟩ : ∃ y_ : List Int, y_ = (x8_1 ++ y252) := ⟨_, rfl⟩
            replace H : (impl_Worm_life.l0 k1 a1 y249 y255 t235 t236 t237 t238 t239 t240 t241) = some (r1, r2, r3, r4, r5, r6, r7, r8, r9) := by first | (rw [hy255]; with_reducible exact H) | (have H2_ := (Option.bind_some _ _).symm.trans H; rw [hy255]; with_reducible exact H2_) | (have H2_ := (Option.bind_some _ _).symm.trans H; with_reducible exact H2_) | with_reducible exact H | (rw [hy255]; exact H) | exact H
            have Ny255 := Aside0.mk hy255
            clear hy255
            have H' := Aside0.mk H
            clear H
            have hnb18 := NB226_227.out
            have hnc18 := NB227_226.out
            have hcz19_0 : wr.cell? ⟨gb226, 0, none⟩ = some (.int .i64 p0_) := (blk_cell BK226.out 0).trans rfl
            have hcz19_1 : wr.cell? ⟨gb226, 1, none⟩ = some (.int .i64 p1_) := (blk_cell BK226.out 1).trans rfl
            have hcz19_2 : wr.cell? ⟨gb226, 2, none⟩ = some (.string p2_) := (blk_cell BK226.out 2).trans rfl
            have hcz19_3 : wr.cell? ⟨gb226, 3, none⟩ = some (.string p3_) := (blk_cell BK226.out 3).trans rfl
            have hcz19_4 : wr.cell? ⟨gb226, 4, none⟩ = some (.int .i64 p4_) := (blk_cell BK226.out 4).trans rfl
            have hcz19_5 : wr.cell? ⟨gb226, 5, none⟩ = some (.int .i64 p5_) := (blk_cell BK226.out 5).trans rfl
            have hcz19_6 : wr.cell? ⟨gb226, 6, none⟩ = some (.int .i64 p6_) := (blk_cell BK226.out 6).trans rfl
            have hfz19_0 := blk_frozen BK226.out 0
            have hfz19_1 := blk_frozen BK226.out 1
            have hfz19_2 := blk_frozen BK226.out 2
            have hfz19_3 := blk_frozen BK226.out 3
            have hfz19_4 := blk_frozen BK226.out 4
            have hfz19_5 := blk_frozen BK226.out 5
            have hfz19_6 := blk_frozen BK226.out 6
            try go_wp2_with (first | ((with_reducible refine gate_callee (f := 77) rfl ?_); refine goesL_ (some 19) rfl rfl Try.func77 (by kernel_rfl) rfl #[.agg #[.int .i64 p0_, .int .i64 p1_, .string p2_, .string p3_, .int .i64 p4_, .int .i64 p5_, .int .i64 p6_], .string a1] rfl (by (try simp only [List.map_toArray, List.map_cons, List.map_nil]); first | done | rfl | (simp only [List.length_drop, List.length_take]; rfl)) ?_; (with_reducible refine (impl_Worm_eat.calls p0_ p1_ p2_ p3_ p4_ p5_ p6_ a1 t235 t236 t237 t238 t239 t240 t241 t242 true _ A13.out).mono ?_); rintro e w20 ⟨rfl, hb⟩; refine ⟨_, rfl, ?_⟩; have n0_ := Aside0.mk (Kd.R_below (by exact HO_7.out) hb); have n1_ := Aside0.mk (Kd.R_below (by exact HO_8.out) hb); have n2_ := Aside0.mk (blk_below (g := gb226) (o := .cells #[.int .i64 p0_, .int .i64 p1_, .string p2_, .string p3_, .int .i64 p4_, .int .i64 p5_, .int .i64 p6_] 27 (0, 0)) (by exact BK226.out) hb); have n3_ := Aside0.mk (blk_below (g := gb227) (o := .cells #[.int .i64 q0_, .int .i64 q1_, .string q2_, .string q3_, .int .i64 q4_, .int .i64 q5_, .int .i64 q6_] 27 (0, 0)) (by exact BK227.out) hb); have n4_ := Aside0.mk (below_step (by repeat (first | (with_reducible first | exact HB.out | apply below_alloc | apply pw_below_drewN | apply below_drew1 | refine below_set ?_ GE226.out | refine below_set ?_ GE227.out) | exact HB.out)) hb); clear HO_7; clear HO_8; clear BK226; clear BK227; clear HB; have HO_7 := n0_; have HO_8 := n1_; have BK226 := n2_; have BK227 := n3_; have HB := n4_; clear n0_ n1_ n2_ n3_ n4_; (try clear hb); (try clear hb2); (try clear hk); (try clear hi)) | ((with_reducible refine gate_dst (N := 9) rfl ?_); refine box_event ?hg (N := 9) ?hd (cs := #[.int .i64 0, .int .i64 0, .string (⟨#[]⟩ : ByteArray), .string (⟨#[]⟩ : ByteArray), .int .i64 0, .int .i64 0, .int .i64 0]) (t := 27) ?hr ?_; (case hd => rfl); (case hg => rfl); (case hr => first | (go_simp; done) | (go_simp; rfl)); intro gb244 hg w21 hbox hb; have n0_ := Aside0.mk (Kd.R_below (by exact HO_7.out) hb); have n1_ := Aside0.mk (Kd.R_below (by exact HO_8.out) hb); have n2_ := Aside0.mk (blk_below (g := gb226) (o := .cells #[.int .i64 p0_, .int .i64 p1_, .string p2_, .string p3_, .int .i64 p4_, .int .i64 p5_, .int .i64 p6_] 27 (0, 0)) (by exact BK226.out) hb); have n3_ := Aside0.mk (blk_below (g := gb227) (o := .cells #[.int .i64 q0_, .int .i64 q1_, .string q2_, .string q3_, .int .i64 q4_, .int .i64 q5_, .int .i64 q6_] 27 (0, 0)) (by exact BK227.out) hb); have n4_ := Aside0.mk (below_step (by repeat (first | (with_reducible first | exact HB.out | apply below_alloc | apply pw_below_drewN | apply below_drew1 | refine below_set ?_ GE226.out | refine below_set ?_ GE227.out) | exact HB.out)) hb); have n5_ := Aside0.mk (hbox); have n6_ := Aside0.mk ((by rw [hg]; exact (below_size (by repeat (first | (with_reducible first | exact HB.out | apply below_alloc | apply pw_below_drewN | apply below_drew1 | refine below_set ?_ GE226.out | refine below_set ?_ GE227.out) | exact HB.out))) : w.heap.size ≤ gb244)); have n7_ := Aside0.mk ((by rw [hg]; exact (below_size (by repeat (first | (with_reducible first | exact HB.out | apply below_alloc | apply pw_below_drewN | apply below_drew1 | refine below_set ?_ GE226.out | refine below_set ?_ GE227.out) | exact HB.out))) : w.heap.size ≤ gb244)); have n8_ := Aside0.mk ((by rw [hg]; exact Nat.ne_of_lt (blk_lt (g := gb226) (o := .cells #[.int .i64 p0_, .int .i64 p1_, .string p2_, .string p3_, .int .i64 p4_, .int .i64 p5_, .int .i64 p6_] 27 (0, 0)) (by exact BK226.out)) : gb226 ≠ gb244)); have n9_ := Aside0.mk ((by rw [hg]; exact Nat.ne_of_gt (blk_lt (g := gb226) (o := .cells #[.int .i64 p0_, .int .i64 p1_, .string p2_, .string p3_, .int .i64 p4_, .int .i64 p5_, .int .i64 p6_] 27 (0, 0)) (by exact BK226.out)) : gb244 ≠ gb226)); have n10_ := Aside0.mk ((by rw [hg]; exact Nat.ne_of_lt (blk_lt (g := gb227) (o := .cells #[.int .i64 q0_, .int .i64 q1_, .string q2_, .string q3_, .int .i64 q4_, .int .i64 q5_, .int .i64 q6_] 27 (0, 0)) (by exact BK227.out)) : gb227 ≠ gb244)); have n11_ := Aside0.mk ((by rw [hg]; exact Nat.ne_of_gt (blk_lt (g := gb227) (o := .cells #[.int .i64 q0_, .int .i64 q1_, .string q2_, .string q3_, .int .i64 q4_, .int .i64 q5_, .int .i64 q6_] 27 (0, 0)) (by exact BK227.out)) : gb244 ≠ gb227)); clear HO_7; clear HO_8; clear BK226; clear BK227; clear HB; have HO_7 := n0_; have HO_8 := n1_; have BK226 := n2_; have BK227 := n3_; have HB := n4_; have BK244 := n5_; have GW244 := n6_; have GE244 := n7_; have NB226_244 := n8_; have NB244_226 := n9_; have NB227_244 := n10_; have NB244_227 := n11_; clear n0_ n1_ n2_ n3_ n4_ n5_ n6_ n7_ n8_ n9_ n10_ n11_; clear hb hbox hg; have hnb22 := NB244_226.out; have hnc22 := NB226_244.out; have hnb23 := NB244_227.out; have hnc23 := NB227_244.out; have hcz24_0 : w21.cell? ⟨gb244, 0, none⟩ = some (.int .i64 0) := (blk_cell BK244.out 0).trans rfl; have hcz24_1 : w21.cell? ⟨gb244, 1, none⟩ = some (.int .i64 0) := (blk_cell BK244.out 1).trans rfl; have hcz24_2 : w21.cell? ⟨gb244, 2, none⟩ = some (.string (⟨#[]⟩ : ByteArray)) := (blk_cell BK244.out 2).trans rfl; have hcz24_3 : w21.cell? ⟨gb244, 3, none⟩ = some (.string (⟨#[]⟩ : ByteArray)) := (blk_cell BK244.out 3).trans rfl; have hcz24_4 : w21.cell? ⟨gb244, 4, none⟩ = some (.int .i64 0) := (blk_cell BK244.out 4).trans rfl; have hcz24_5 : w21.cell? ⟨gb244, 5, none⟩ = some (.int .i64 0) := (blk_cell BK244.out 5).trans rfl; have hcz24_6 : w21.cell? ⟨gb244, 6, none⟩ = some (.int .i64 0) := (blk_cell BK244.out 6).trans rfl; have hfz24_0 := blk_frozen BK244.out 0; have hfz24_1 := blk_frozen BK244.out 1; have hfz24_2 := blk_frozen BK244.out 2; have hfz24_3 := blk_frozen BK244.out 3; have hfz24_4 := blk_frozen BK244.out 4; have hfz24_5 := blk_frozen BK244.out 5; have hfz24_6 := blk_frozen BK244.out 6; obtain ⟨Ao25, co25, eo25⟩ := Kd.R_slice HO_7.out; subst eo25; obtain ⟨Ao26, co26, eo26⟩ := Kd.R_slice HO_8.out; subst eo26))
            have n0_ : Aside0 (Kd.R (Kd.int .i64) 3 (((((((w21.setCell ⟨gb244, 0, none⟩ (.int .i64 t235)).setCell ⟨gb244, 1, none⟩ (.int .i64 t236)).setCell ⟨gb244, 2, none⟩ (.string t237)).setCell ⟨gb244, 3, none⟩ (.string t238)).setCell ⟨gb244, 4, none⟩ (.int .i64 t239)).setCell ⟨gb244, 5, none⟩ (.int .i64 t240)).setCell ⟨gb244, 6, none⟩ (.int .i64 t241)) w.heap.size (fun _ => True) (.slice Ao25 x7_1.length co25) x7_1) := ⟨by exact Kd.R_mono (Kd.R_far (p := ⟨gb244, 6, none⟩) (Kd.R_far (p := ⟨gb244, 5, none⟩) (Kd.R_far (p := ⟨gb244, 4, none⟩) (Kd.R_far (p := ⟨gb244, 3, none⟩) (Kd.R_far (p := ⟨gb244, 2, none⟩) (Kd.R_far (p := ⟨gb244, 1, none⟩) (Kd.R_far (p := ⟨gb244, 0, none⟩) (Kd.R_types HO_7.out BK244.out (by decide)) (fun _ hk => hk.2) (.int .i64 t235)) (fun _ hk => hk.2) (.int .i64 t236)) (fun _ hk => hk.2) (.string t237)) (fun _ hk => hk.2) (.string t238)) (fun _ hk => hk.2) (.int .i64 t239)) (fun _ hk => hk.2) (.int .i64 t240)) (fun _ hk => hk.2) (.int .i64 t241)) (fun _ hk => trivial)⟩
            have n1_ : Aside0 (Kd.R (Kd.int .u8) 5 (((((((w21.setCell ⟨gb244, 0, none⟩ (.int .i64 t235)).setCell ⟨gb244, 1, none⟩ (.int .i64 t236)).setCell ⟨gb244, 2, none⟩ (.string t237)).setCell ⟨gb244, 3, none⟩ (.string t238)).setCell ⟨gb244, 4, none⟩ (.int .i64 t239)).setCell ⟨gb244, 5, none⟩ (.int .i64 t240)).setCell ⟨gb244, 6, none⟩ (.int .i64 t241)) w.heap.size (fun _ => True) (.slice Ao26 x8_1.length co26) x8_1) := ⟨by exact Kd.R_mono (Kd.R_far (p := ⟨gb244, 6, none⟩) (Kd.R_far (p := ⟨gb244, 5, none⟩) (Kd.R_far (p := ⟨gb244, 4, none⟩) (Kd.R_far (p := ⟨gb244, 3, none⟩) (Kd.R_far (p := ⟨gb244, 2, none⟩) (Kd.R_far (p := ⟨gb244, 1, none⟩) (Kd.R_far (p := ⟨gb244, 0, none⟩) (Kd.R_types HO_8.out BK244.out (by decide)) (fun _ hk => hk.2) (.int .i64 t235)) (fun _ hk => hk.2) (.int .i64 t236)) (fun _ hk => hk.2) (.string t237)) (fun _ hk => hk.2) (.string t238)) (fun _ hk => hk.2) (.int .i64 t239)) (fun _ hk => hk.2) (.int .i64 t240)) (fun _ hk => hk.2) (.int .i64 t241)) (fun _ hk => trivial)⟩
            have n2_ : Aside0 ((((((((w21.setCell ⟨gb244, 0, none⟩ (.int .i64 t235)).setCell ⟨gb244, 1, none⟩ (.int .i64 t236)).setCell ⟨gb244, 2, none⟩ (.string t237)).setCell ⟨gb244, 3, none⟩ (.string t238)).setCell ⟨gb244, 4, none⟩ (.int .i64 t239)).setCell ⟨gb244, 5, none⟩ (.int .i64 t240)).setCell ⟨gb244, 6, none⟩ (.int .i64 t241)).heap[gb226]? = some (.cells #[.int .i64 p0_, .int .i64 p1_, .string p2_, .string p3_, .int .i64 p4_, .int .i64 p5_, .int .i64 p6_] 27 (0, 0))) := ⟨by refine blk_far ?_ NB226_244.out _; refine blk_far ?_ NB226_244.out _; refine blk_far ?_ NB226_244.out _; refine blk_far ?_ NB226_244.out _; refine blk_far ?_ NB226_244.out _; refine blk_far ?_ NB226_244.out _; refine blk_far ?_ NB226_244.out _; exact BK226.out⟩
            have n3_ : Aside0 ((((((((w21.setCell ⟨gb244, 0, none⟩ (.int .i64 t235)).setCell ⟨gb244, 1, none⟩ (.int .i64 t236)).setCell ⟨gb244, 2, none⟩ (.string t237)).setCell ⟨gb244, 3, none⟩ (.string t238)).setCell ⟨gb244, 4, none⟩ (.int .i64 t239)).setCell ⟨gb244, 5, none⟩ (.int .i64 t240)).setCell ⟨gb244, 6, none⟩ (.int .i64 t241)).heap[gb227]? = some (.cells #[.int .i64 q0_, .int .i64 q1_, .string q2_, .string q3_, .int .i64 q4_, .int .i64 q5_, .int .i64 q6_] 27 (0, 0))) := ⟨by refine blk_far ?_ NB227_244.out _; refine blk_far ?_ NB227_244.out _; refine blk_far ?_ NB227_244.out _; refine blk_far ?_ NB227_244.out _; refine blk_far ?_ NB227_244.out _; refine blk_far ?_ NB227_244.out _; refine blk_far ?_ NB227_244.out _; exact BK227.out⟩
            have n4_ : Aside0 ((((((((w21.setCell ⟨gb244, 0, none⟩ (.int .i64 t235)).setCell ⟨gb244, 1, none⟩ (.int .i64 t236)).setCell ⟨gb244, 2, none⟩ (.string t237)).setCell ⟨gb244, 3, none⟩ (.string t238)).setCell ⟨gb244, 4, none⟩ (.int .i64 t239)).setCell ⟨gb244, 5, none⟩ (.int .i64 t240)).setCell ⟨gb244, 6, none⟩ (.int .i64 t241)).heap[gb244]? = some (.cells #[.int .i64 t235, .int .i64 t236, .string t237, .string t238, .int .i64 t239, .int .i64 t240, .int .i64 t241] 27 (0, 0))) := ⟨by refine blk_put (cs := #[.int .i64 t235, .int .i64 t236, .string t237, .string t238, .int .i64 t239, .int .i64 t240, .int .i64 0]) ?_ 6 _ rfl; refine blk_put (cs := #[.int .i64 t235, .int .i64 t236, .string t237, .string t238, .int .i64 t239, .int .i64 0, .int .i64 0]) ?_ 5 _ rfl; refine blk_put (cs := #[.int .i64 t235, .int .i64 t236, .string t237, .string t238, .int .i64 0, .int .i64 0, .int .i64 0]) ?_ 4 _ rfl; refine blk_put (cs := #[.int .i64 t235, .int .i64 t236, .string t237, .string (⟨#[]⟩ : ByteArray), .int .i64 0, .int .i64 0, .int .i64 0]) ?_ 3 _ rfl; refine blk_put (cs := #[.int .i64 t235, .int .i64 t236, .string (⟨#[]⟩ : ByteArray), .string (⟨#[]⟩ : ByteArray), .int .i64 0, .int .i64 0, .int .i64 0]) ?_ 2 _ rfl; refine blk_put (cs := #[.int .i64 t235, .int .i64 0, .string (⟨#[]⟩ : ByteArray), .string (⟨#[]⟩ : ByteArray), .int .i64 0, .int .i64 0, .int .i64 0]) ?_ 1 _ rfl; refine blk_put (cs := #[.int .i64 0, .int .i64 0, .string (⟨#[]⟩ : ByteArray), .string (⟨#[]⟩ : ByteArray), .int .i64 0, .int .i64 0, .int .i64 0]) ?_ 0 _ rfl; exact BK244.out⟩
            have n5_ : Aside0 (Below w.heap.size w (((((((w21.setCell ⟨gb244, 0, none⟩ (.int .i64 t235)).setCell ⟨gb244, 1, none⟩ (.int .i64 t236)).setCell ⟨gb244, 2, none⟩ (.string t237)).setCell ⟨gb244, 3, none⟩ (.string t238)).setCell ⟨gb244, 4, none⟩ (.int .i64 t239)).setCell ⟨gb244, 5, none⟩ (.int .i64 t240)).setCell ⟨gb244, 6, none⟩ (.int .i64 t241))) := ⟨by repeat (first | (with_reducible first | exact HB.out | apply below_alloc | apply pw_below_drewN | apply below_drew1 | refine below_set ?_ GE226.out | refine below_set ?_ GE227.out | refine below_set ?_ GE244.out) | exact HB.out)⟩
            (try clear HO_7)
            (try clear HO_8)
            (try clear BK226)
            (try clear BK227)
            (try clear BK244)
            (try clear HB)
            generalize (((((((w21.setCell ⟨gb244, 0, none⟩ (.int .i64 t235)).setCell ⟨gb244, 1, none⟩ (.int .i64 t236)).setCell ⟨gb244, 2, none⟩ (.string t237)).setCell ⟨gb244, 3, none⟩ (.string t238)).setCell ⟨gb244, 4, none⟩ (.int .i64 t239)).setCell ⟨gb244, 5, none⟩ (.int .i64 t240)).setCell ⟨gb244, 6, none⟩ (.int .i64 t241)) = w27 at n0_ n1_ n2_ n3_ n4_ n5_ ⊢
            have HO_7 := n0_
            have HO_8 := n1_
            have BK226 := n2_
            have BK227 := n3_
            have BK244 := n4_
            have HB := n5_
            clear n0_ n1_ n2_ n3_ n4_ n5_
            have n0_ := Aside0.mk (Kd.R_drew HO_7.out)
            have n1_ := Aside0.mk (Kd.R_drew HO_8.out)
            have n2_ := Aside0.mk (blk_drew BK226.out)
            have n3_ := Aside0.mk (blk_drew BK227.out)
            have n4_ := Aside0.mk (blk_drew BK244.out)
            have n5_ := Aside0.mk (below_drew1 HB.out)
            clear HO_7
            clear HO_8
            clear BK226
            clear BK227
            clear BK244
            clear HB
            have HO_7 := n0_
            have HO_8 := n1_
            have BK226 := n2_
            have BK227 := n3_
            have BK244 := n4_
            have HB := n5_
            clear n0_ n1_ n2_ n3_ n4_ n5_
            refine start_ (n := 13) (S := fun w' => w'.cell? ⟨gb244, 0, none⟩ = some (.int .i64 t235) ∧ w'.cell? ⟨gb244, 1, none⟩ = some (.int .i64 t236) ∧ w'.cell? ⟨gb244, 2, none⟩ = some (.string t237) ∧ w'.cell? ⟨gb244, 3, none⟩ = some (.string t238) ∧ w'.cell? ⟨gb244, 4, none⟩ = some (.int .i64 t239) ∧ w'.cell? ⟨gb244, 5, none⟩ = some (.int .i64 t240) ∧ w'.cell? ⟨gb244, 6, none⟩ = some (.int .i64 t241)) (ds := []) #[false, false, false, false, false, false, false, false, false, false, false, false, false] (by kernel_rfl) rfl rfl ⟨(blk_cell BK244.out 0).trans rfl, (blk_cell BK244.out 1).trans rfl, (blk_cell BK244.out 2).trans rfl, (blk_cell BK244.out 3).trans rfl, (blk_cell BK244.out 4).trans rfl, (blk_cell BK244.out 5).trans rfl, (blk_cell BK244.out 6).trans rfl⟩ (fun hHeld => ?_); refine with_tabW impl_Worm_life.tab5 impl_Worm_life.bits5 (fun HT_ HW_ => ?_)
            generalize w27.drew = w28 at HO_7 HO_8 BK226 BK227 BK244 HB hHeld ⊢
            refine pure_ (i := 1) (N := some 30) (v := ?_) (a' := ?_) #[false, true, false, false, false, false, false, false, false, false, false, false, false] rfl rfl (any_of HT_.out (by kernel_rfl)) (fun _ _ _ h => h) (Or.inl ⟨by rfl, ?_⟩) ?_ ?_
            rotate_left
            · intro w'
              go_simp
              with_reducible rfl
            rotate_left
            · simp only [Act.put, List.setIfInBounds_toArray, List.set_cons_zero, List.set_cons_succ, i64_w, i32_w]
              rfl
            refine pure_ (i := 6) (N := some 35) (v := ?_) (a' := ?_) #[false, true, false, false, false, false, true, false, false, false, false, false, false] rfl rfl (any_of HT_.out (by kernel_rfl)) (fun _ _ _ h => h) (Or.inl ⟨by rfl, ?_⟩) ?_ ?_
            rotate_left
            · intro w'
              go_simp
              with_reducible rfl
            rotate_left
            · simp only [Act.put, List.setIfInBounds_toArray, List.set_cons_zero, List.set_cons_succ, i64_w, i32_w]
              rfl
            refine pure_ (i := 7) (N := some 36) (v := ?_) (a' := ?_) #[false, true, false, false, false, false, true, true, false, false, false, false, false] rfl rfl (any_of HT_.out (by kernel_rfl)) (fun _ _ _ h => h) (Or.inl ⟨by rfl, ?_⟩) ?_ ?_
            rotate_left
            · intro w'
              go_simp
              with_reducible rfl
            rotate_left
            · simp only [Act.put, List.setIfInBounds_toArray, List.set_cons_zero, List.set_cons_succ, i64_w, i32_w]
              rfl
            refine take_ (i := 0) (N := some 29) (v := ?_) (a' := ?_) #[true, true, false, false, false, false, true, true, false, false, false, false, false] rfl rfl (take_ofW HT_.out HW_.out (by kernel_rfl)) (fun _ _ _ h => h) (Or.inl ⟨by rfl, ?_⟩) hHeld ?_ ?_
            rotate_left
            · rintro w' ⟨s0, s1, s2, s3, s4, s5, s6⟩
              go_simp
              with_reducible rfl
            rotate_left
            · simp only [Act.put, List.setIfInBounds_toArray, List.set_cons_zero, List.set_cons_succ, i64_w, i32_w]
              rfl
            refine take_ (i := 2) (N := some 31) (v := ?_) (a' := ?_) #[true, true, true, false, false, false, true, true, false, false, false, false, false] rfl rfl (take_ofW HT_.out HW_.out (by kernel_rfl)) (fun _ _ _ h => h) (Or.inl ⟨by rfl, ?_⟩) hHeld ?_ ?_
            rotate_left
            · rintro w' ⟨s0, s1, s2, s3, s4, s5, s6⟩
              go_simp
              with_reducible rfl
            rotate_left
            · simp only [Act.put, List.setIfInBounds_toArray, List.set_cons_zero, List.set_cons_succ, i64_w, i32_w]
              rfl
            refine join_ (σ := Value × Value × Value) 4 #[true, true, true, true, true, true, true, true, true, false, false, false, false] (fun s_ => [(32, .int .i64 t245), (33, s_.1), (34, s_.2.1), (37, s_.2.2)]) (fun s_ w' => (w'.cell? ⟨gb244, 0, none⟩ = some (.int .i64 t235) ∧ w'.cell? ⟨gb244, 1, none⟩ = some (.int .i64 t236) ∧ w'.cell? ⟨gb244, 2, none⟩ = some (.string t237) ∧ w'.cell? ⟨gb244, 3, none⟩ = some (.string t238) ∧ w'.cell? ⟨gb244, 4, none⟩ = some (.int .i64 t239) ∧ w'.cell? ⟨gb244, 5, none⟩ = some (.int .i64 t240) ∧ w'.cell? ⟨gb244, 6, none⟩ = some (.int .i64 t241)) ∧ (Kd.R (Kd.int .i64) 3 w' w.heap.size (fun k_ => some k_ ≠ (s_.2.1 : Value).ownBlock) s_.1 y246) ∧ (Kd.R (Kd.int .i64) 3 w' w.heap.size (fun k_ => some k_ ≠ (s_.1 : Value).ownBlock) s_.2.1 y249) ∧ (Kd.R (Kd.int .u8) 5 w' w.heap.size (fun k_ => some k_ ≠ (.slice Ao26 x8_1.length co26 : Value).ownBlock) s_.2.2 y252) ∧ (Kd.R (Kd.int .u8) 5 w' w.heap.size (fun k_ => some k_ ≠ (s_.2.2 : Value).ownBlock) (.slice Ao26 x8_1.length co26) x8_1) ∧ (w'.heap[gb226]? = some (.cells #[.int .i64 p0_, .int .i64 p1_, .string p2_, .string p3_, .int .i64 p4_, .int .i64 p5_, .int .i64 p6_] 27 (0, 0))) ∧ (w'.heap[gb227]? = some (.cells #[.int .i64 q0_, .int .i64 q1_, .string q2_, .string q3_, .int .i64 q4_, .int .i64 q5_, .int .i64 q6_] 27 (0, 0))) ∧ (w'.heap[gb244]? = some (.cells #[.int .i64 t235, .int .i64 t236, .string t237, .string t238, .int .i64 t239, .int .i64 t240, .int .i64 t241] 27 (0, 0))) ∧ (Below w.heap.size w w')) ?_ ?_
            rotate_left
            · intro hCont
              refine two_ (i := 3) (j := 8) (Ni := some 32) (Nj := some 37) #[true, true, true, true, false, false, true, true, false, false, false, false, false] #[true, true, true, false, false, false, true, true, true, false, false, false, false] rfl rfl rfl rfl (two_of HT_.out (by kernel_rfl)) (by decide) (by decide) (fun K hK => ?_) (fun K hK => ?_)
              · skip
                refine goes_ Try.func67 (by kernel_rfl) rfl #[.agg #[.int .i64 t235, .int .i64 t236, .string t237, .string t238, .int .i64 t239, .int .i64 t240, .int .i64 t241]] (by rfl) rfl rfl (by (try simp only [List.map_toArray, List.map_cons, List.map_nil]); first | done | rfl | (simp only [List.length_drop, List.length_take]; rfl)) ?_
                with_reducible refine (impl_Worm_node.calls t235 t236 t237 t238 t239 t240 t241 t245 _ A15.out).mono ?_
                rintro e w29 ⟨rfl, hb⟩
                refine ⟨_, rfl, ?_⟩
                have n0_ := Aside0.mk (Kd.R_below (by exact HO_7.out) hb)
                have n1_ := Aside0.mk (Kd.R_below (by exact HO_8.out) hb)
                have n2_ := Aside0.mk (blk_below (g := gb226) (o := .cells #[.int .i64 p0_, .int .i64 p1_, .string p2_, .string p3_, .int .i64 p4_, .int .i64 p5_, .int .i64 p6_] 27 (0, 0)) (by exact BK226.out) hb)
                have n3_ := Aside0.mk (blk_below (g := gb227) (o := .cells #[.int .i64 q0_, .int .i64 q1_, .string q2_, .string q3_, .int .i64 q4_, .int .i64 q5_, .int .i64 q6_] 27 (0, 0)) (by exact BK227.out) hb)
                have n4_ := Aside0.mk (blk_below (g := gb244) (o := .cells #[.int .i64 t235, .int .i64 t236, .string t237, .string t238, .int .i64 t239, .int .i64 t240, .int .i64 t241] 27 (0, 0)) (by exact BK244.out) hb)
                have n5_ := Aside0.mk (below_step (by repeat (first | (with_reducible first | exact HB.out | apply below_alloc | apply pw_below_drewN | apply below_drew1 | refine below_set ?_ GE226.out | refine below_set ?_ GE227.out | refine below_set ?_ GE244.out) | exact HB.out)) hb)
                clear HO_7
                clear HO_8
                clear BK226
                clear BK227
                clear BK244
                clear HB
                have HO_7 := n0_
                have HO_8 := n1_
                have BK226 := n2_
                have BK227 := n3_
                have BK244 := n4_
                have HB := n5_
                clear n0_ n1_ n2_ n3_ n4_ n5_
                (try clear hb)
                (try clear hb2)
                (try clear hk)
                (try clear hi)
                refine hK.out _ _ ⟨(blk_cell BK244.out 0).trans rfl, (blk_cell BK244.out 1).trans rfl, (blk_cell BK244.out 2).trans rfl, (blk_cell BK244.out 3).trans rfl, (blk_cell BK244.out 4).trans rfl, (blk_cell BK244.out 5).trans rfl, (blk_cell BK244.out 6).trans rfl⟩ (fun hHeld => ?_)
                clear hK K
                refine norm_ (a' := ?_) ?_ ?_
                rotate_left
                · show Act.put _ (some 32) _ = _
                  simp only [Act.put, List.setIfInBounds_toArray, List.set_cons_zero, List.set_cons_succ, i64_w, i32_w]
                  rfl
                refine two_ (i := 4) (j := 8) (Ni := some 33) (Nj := some 37) #[true, true, true, true, true, false, true, true, false, false, false, false, false] #[true, true, true, true, false, false, true, true, true, false, false, false, false] rfl rfl rfl rfl (two_of HT_.out (by kernel_rfl)) (by decide) (by decide) (fun K hK => ?_) (fun K hK => ?_)
                · skip
                  refine Kd.R_lit_step (Kd.int .i64) _ 3 ?hg (N := 33) ?hd (xs := ([t245] : List Int)) (inner := [.int .i64 t245]) (ok := fun _ => True) (okp := fun _ => True) ?hr ?hp (fun _ hk => hk) trivial (Below.refl _ _) (Nat.le_refl _) (by simp) ?_; (case hd => rfl); (case hg => rfl); (case hr => first | (go_simp; done) | (go_simp; rfl)); (case hp => exact (Reps.one (show Kd.M (Kd.int .i64) _ _ _ t245 [.int .i64 t245] from rfl) (Reps.none _ _)))
                  intro v247 w30 ho31 hb hg_ hnew_
                  clear hg_ hnew_
                  (first | rw [← Ny246.out] at ho31 | (simp only [Int.reduceToNat] at ho31; rw [← Ny246.out] at ho31))
                  have n0_ := Aside0.mk (Kd.R_elder' (by exact HO_7.out) (Kd.R_base ho31) hb)
                  have n1_ := Aside0.mk (Kd.R_below (by exact HO_8.out) hb)
                  have n2_ := Aside0.mk (Kd.R_lower (Kd.R_new' ho31 (Kd.R_lt (by exact HO_7.out))) (below_size (by repeat (first | (with_reducible first | exact HB.out | apply below_alloc | apply pw_below_drewN | apply below_drew1 | refine below_set ?_ GE226.out | refine below_set ?_ GE227.out | refine below_set ?_ GE244.out) | exact HB.out))))
                  have n3_ := Aside0.mk (blk_below (g := gb226) (o := .cells #[.int .i64 p0_, .int .i64 p1_, .string p2_, .string p3_, .int .i64 p4_, .int .i64 p5_, .int .i64 p6_] 27 (0, 0)) (by exact BK226.out) hb)
                  have n4_ := Aside0.mk (blk_below (g := gb227) (o := .cells #[.int .i64 q0_, .int .i64 q1_, .string q2_, .string q3_, .int .i64 q4_, .int .i64 q5_, .int .i64 q6_] 27 (0, 0)) (by exact BK227.out) hb)
                  have n5_ := Aside0.mk (blk_below (g := gb244) (o := .cells #[.int .i64 t235, .int .i64 t236, .string t237, .string t238, .int .i64 t239, .int .i64 t240, .int .i64 t241] 27 (0, 0)) (by exact BK244.out) hb)
                  have n6_ := Aside0.mk (below_step (by repeat (first | (with_reducible first | exact HB.out | apply below_alloc | apply pw_below_drewN | apply below_drew1 | refine below_set ?_ GE226.out | refine below_set ?_ GE227.out | refine below_set ?_ GE244.out) | exact HB.out)) hb)
                  clear HO_7
                  clear HO_8
                  clear BK226
                  clear BK227
                  clear BK244
                  clear HB
                  have HO_7 := n0_
                  have HO_8 := n1_
                  have HO248 := n2_
                  have BK226 := n3_
                  have BK227 := n4_
                  have BK244 := n5_
                  have HB := n6_
                  clear n0_ n1_ n2_ n3_ n4_ n5_ n6_
                  clear hb ho31
                  obtain ⟨Ao33, co33, eo33⟩ := Kd.R_slice HO248.out
                  (first | subst eo33 | (injection eo33 with f1_ f2_ f3_; have f4_ := f1_.symm; have f5_ := f3_.symm; clear f1_ f2_ f3_; subst f4_; subst f5_))
                  refine hK.out _ _ ⟨(blk_cell BK244.out 0).trans rfl, (blk_cell BK244.out 1).trans rfl, (blk_cell BK244.out 2).trans rfl, (blk_cell BK244.out 3).trans rfl, (blk_cell BK244.out 4).trans rfl, (blk_cell BK244.out 5).trans rfl, (blk_cell BK244.out 6).trans rfl⟩ (fun hHeld => ?_)
                  clear hK K
                  refine norm_ (a' := ?_) ?_ ?_
                  rotate_left
                  · show Act.put _ (some 33) _ = _
                    simp only [Act.put, List.setIfInBounds_toArray, List.set_cons_zero, List.set_cons_succ, i64_w, i32_w]
                    rfl
                  refine two_ (i := 5) (j := 8) (Ni := some 34) (Nj := some 37) #[true, true, true, true, true, true, true, true, false, false, false, false, false] #[true, true, true, true, true, false, true, true, true, false, false, false, false] rfl rfl rfl rfl (two_of HT_.out (by kernel_rfl)) (by decide) (by decide) (fun K hK => ?_) (fun K hK => ?_)
                  · skip
                    refine Kd.R_append_rows_step (Kd.int .i64) (w0 := w) w.heap.size (by rfl) (.tmp 30) (.tmp 33) 34 3 (.int .i64 0) 8 rfl Try.underlying34 info3 rfl (by decide) (by omega) (.slice Ao25 x7_1.length co25) x7_1 y246 _ _ _ (fun k_ => some k_ ≠ (.slice Ao33 y246.length co33 : Value).ownBlock) (fun _ => False) rfl rfl ?aO ?aR (fun _ _ h => h) (fun _ h => h.elim) ?aF ?aB ?aS ?aL ?_
                    (case aR => repeat (first | exact (Kd.R_reads' HO248.out).2.2 | (with_reducible refine Kd.C_alloc ?_ _) | (with_reducible refine Kd.C_drewN ?_ _) | (with_reducible refine Kd.C_drew ?_)))
                    (case aB => exact (by repeat (first | (with_reducible first | exact HB.out | apply below_alloc | apply pw_below_drewN | apply below_drew1 | refine below_set ?_ GE226.out | refine below_set ?_ GE227.out | refine below_set ?_ GE244.out) | exact HB.out)))
                    (case aF => exact (fun k_ hk => Kd.fresh' (Kd.R_lt (by exact HO248.out)) k_ hk))
                    (case aO => exact (by exact Kd.R_mono HO_7.out (fun _ hk => hk.2)))
                    (case aS => exact (below_size (by repeat (first | (with_reducible first | exact HB.out | apply below_alloc | apply pw_below_drewN | apply below_drew1 | refine below_set ?_ GE226.out | refine below_set ?_ GE227.out | refine below_set ?_ GE244.out) | exact HB.out))))
                    (case aL => have := LMc16.out; omega)
                    intro v250 w32 ho hb hg hat
                    rw [← Ny249.out] at ho
                    have n0_ := Aside0.mk (Kd.R_over' (by exact HO_8.out) (Kd.R_typed (by exact HO_7.out)) (by decide) hg)
                    have n1_ := Aside0.mk (blk_grown (g := gb226) (o := .cells #[.int .i64 p0_, .int .i64 p1_, .string p2_, .string p3_, .int .i64 p4_, .int .i64 p5_, .int .i64 p6_] 27 (0, 0)) (by exact BK226.out) hg (Kd.R_ne HO_7.out BK226.out (by decide)))
                    have n2_ := Aside0.mk (blk_grown (g := gb227) (o := .cells #[.int .i64 q0_, .int .i64 q1_, .string q2_, .string q3_, .int .i64 q4_, .int .i64 q5_, .int .i64 q6_] 27 (0, 0)) (by exact BK227.out) hg (Kd.R_ne HO_7.out BK227.out (by decide)))
                    have n3_ := Aside0.mk (blk_grown (g := gb244) (o := .cells #[.int .i64 t235, .int .i64 t236, .string t237, .string t238, .int .i64 t239, .int .i64 t240, .int .i64 t241] 27 (0, 0)) (by exact BK244.out) hg (Kd.R_ne HO_7.out BK244.out (by decide)))
                    have n4_ := Aside0.mk (Kd.R_after (ok := (fun _ => True)) (by exact HO248.out) hg hat)
                    have n5_ := Aside0.mk (hb)
                    have n6_ := Aside0.mk (ho)
                    clear HO_8
                    clear BK226
                    clear BK227
                    clear BK244
                    clear HO248
                    clear HB
                    clear HO_7
                    have HO_8 := n0_
                    have BK226 := n1_
                    have BK227 := n2_
                    have BK244 := n3_
                    have HO248 := n4_
                    have HB := n5_
                    have HO251 := n6_
                    clear n0_ n1_ n2_ n3_ n4_ n5_ n6_
                    clear ho hb hg hat
                    refine hK.out _ _ ⟨(blk_cell BK244.out 0).trans rfl, (blk_cell BK244.out 1).trans rfl, (blk_cell BK244.out 2).trans rfl, (blk_cell BK244.out 3).trans rfl, (blk_cell BK244.out 4).trans rfl, (blk_cell BK244.out 5).trans rfl, (blk_cell BK244.out 6).trans rfl⟩ (fun hHeld => ?_)
                    clear hK K
                    refine norm_ (a' := ?_) ?_ ?_
                    rotate_left
                    · show Act.put _ (some 34) _ = _
                      simp only [Act.put, List.setIfInBounds_toArray, List.set_cons_zero, List.set_cons_succ, i64_w, i32_w]
                      rfl
                    refine one_ (i := 8) (N := some 37) #[true, true, true, true, true, true, true, true, true, false, false, false, false] rfl rfl (one_of HT_.out (by kernel_rfl)) (by decide) (fun K hK => ?_)
                    refine Kd.R_lit_step (Kd.int .u8) _ 5 ?hg (N := 37) ?hd (xs := ([t242] : List Int)) (inner := [.int .u8 t242]) (ok := fun _ => True) (okp := fun _ => True) ?hr ?hp (fun _ hk => hk) trivial (Below.refl _ _) (Nat.le_refl _) (by simp) ?_; (case hd => rfl); (case hg => rfl); (case hr => first | (go_simp; done) | (go_simp; rfl)); (case hp => exact (Reps.one (show Kd.M (Kd.int .u8) _ _ _ t242 [.int .u8 t242] from rfl) (Reps.none _ _)))
                    intro v253 w34 ho35 hb hg_ hnew_
                    clear hg_ hnew_
                    (first | rw [← Ny252.out] at ho35 | (simp only [Int.reduceToNat] at ho35; rw [← Ny252.out] at ho35))
                    have n0_ := Aside0.mk (Kd.R_elder' (by exact HO_8.out) (Kd.R_base ho35) hb)
                    have n1_ := Aside0.mk (Kd.R_below (by exact HO248.out) hb)
                    have n2_ := Aside0.mk (Kd.R_below (by exact HO251.out) hb)
                    have n3_ := Aside0.mk (Kd.R_lower (Kd.R_new' ho35 (Kd.R_lt (by exact HO_8.out))) (below_size (by repeat (first | (with_reducible first | exact HB.out | apply below_alloc | apply pw_below_drewN | apply below_drew1 | refine below_set ?_ GE226.out | refine below_set ?_ GE227.out | refine below_set ?_ GE244.out) | exact HB.out))))
                    have n4_ := Aside0.mk (blk_below (g := gb226) (o := .cells #[.int .i64 p0_, .int .i64 p1_, .string p2_, .string p3_, .int .i64 p4_, .int .i64 p5_, .int .i64 p6_] 27 (0, 0)) (by exact BK226.out) hb)
                    have n5_ := Aside0.mk (blk_below (g := gb227) (o := .cells #[.int .i64 q0_, .int .i64 q1_, .string q2_, .string q3_, .int .i64 q4_, .int .i64 q5_, .int .i64 q6_] 27 (0, 0)) (by exact BK227.out) hb)
                    have n6_ := Aside0.mk (blk_below (g := gb244) (o := .cells #[.int .i64 t235, .int .i64 t236, .string t237, .string t238, .int .i64 t239, .int .i64 t240, .int .i64 t241] 27 (0, 0)) (by exact BK244.out) hb)
                    have n7_ := Aside0.mk (below_step (by repeat (first | (with_reducible first | exact HB.out | apply below_alloc | apply pw_below_drewN | apply below_drew1 | refine below_set ?_ GE226.out | refine below_set ?_ GE227.out | refine below_set ?_ GE244.out) | exact HB.out)) hb)
                    clear HO_8
                    clear HO248
                    clear HO251
                    clear BK226
                    clear BK227
                    clear BK244
                    clear HB
                    have HO_8 := n0_
                    have HO248 := n1_
                    have HO251 := n2_
                    have HO254 := n3_
                    have BK226 := n4_
                    have BK227 := n5_
                    have BK244 := n6_
                    have HB := n7_
                    clear n0_ n1_ n2_ n3_ n4_ n5_ n6_ n7_
                    clear hb ho35
                    refine hK.out _ _ ⟨(blk_cell BK244.out 0).trans rfl, (blk_cell BK244.out 1).trans rfl, (blk_cell BK244.out 2).trans rfl, (blk_cell BK244.out 3).trans rfl, (blk_cell BK244.out 4).trans rfl, (blk_cell BK244.out 5).trans rfl, (blk_cell BK244.out 6).trans rfl⟩ (fun hHeld => ?_)
                    clear hK K
                    refine norm_ (a' := ?_) ?_ ?_
                    rotate_left
                    · show Act.put _ (some 37) _ = _
                      simp only [Act.put, List.setIfInBounds_toArray, List.set_cons_zero, List.set_cons_succ, i64_w, i32_w]
                      rfl
                    exact norm_ (by simp only [putAll, Act.put, List.setIfInBounds_toArray, List.set_cons_zero, List.set_cons_succ]) (hCont (.slice Ao33 y246.length co33, v250, v253) _ ⟨hHeld, (by exact Kd.R_mono HO248.out (fun _ hk => hk.2)), (by exact HO251.out), (by exact Kd.R_mono HO254.out (fun _ hk => hk.2)), (by exact Kd.R_mono HO_8.out (fun _ hk => hk.2)), (by exact BK226.out), (by exact BK227.out), (by exact BK244.out), (by repeat (first | (with_reducible first | exact HB.out | apply below_alloc | apply pw_below_drewN | apply below_drew1 | refine below_set ?_ GE226.out | refine below_set ?_ GE227.out | refine below_set ?_ GE244.out) | exact HB.out))⟩)
                  · skip
                    refine Kd.R_lit_step (Kd.int .u8) _ 5 ?hg (N := 37) ?hd (xs := ([t242] : List Int)) (inner := [.int .u8 t242]) (ok := fun _ => True) (okp := fun _ => True) ?hr ?hp (fun _ hk => hk) trivial (Below.refl _ _) (Nat.le_refl _) (by simp) ?_; (case hd => rfl); (case hg => rfl); (case hr => first | (go_simp; done) | (go_simp; rfl)); (case hp => exact (Reps.one (show Kd.M (Kd.int .u8) _ _ _ t242 [.int .u8 t242] from rfl) (Reps.none _ _)))
                    intro v253 w32 ho33 hb hg_ hnew_
                    clear hg_ hnew_
                    (first | rw [← Ny252.out] at ho33 | (simp only [Int.reduceToNat] at ho33; rw [← Ny252.out] at ho33))
                    have n0_ := Aside0.mk (Kd.R_below (by exact HO_7.out) hb)
                    have n1_ := Aside0.mk (Kd.R_elder' (by exact HO_8.out) (Kd.R_base ho33) hb)
                    have n2_ := Aside0.mk (Kd.R_below (by exact HO248.out) hb)
                    have n3_ := Aside0.mk (Kd.R_lower (Kd.R_new' ho33 (Kd.R_lt (by exact HO_8.out))) (below_size (by repeat (first | (with_reducible first | exact HB.out | apply below_alloc | apply pw_below_drewN | apply below_drew1 | refine below_set ?_ GE226.out | refine below_set ?_ GE227.out | refine below_set ?_ GE244.out) | exact HB.out))))
                    have n4_ := Aside0.mk (blk_below (g := gb226) (o := .cells #[.int .i64 p0_, .int .i64 p1_, .string p2_, .string p3_, .int .i64 p4_, .int .i64 p5_, .int .i64 p6_] 27 (0, 0)) (by exact BK226.out) hb)
                    have n5_ := Aside0.mk (blk_below (g := gb227) (o := .cells #[.int .i64 q0_, .int .i64 q1_, .string q2_, .string q3_, .int .i64 q4_, .int .i64 q5_, .int .i64 q6_] 27 (0, 0)) (by exact BK227.out) hb)
                    have n6_ := Aside0.mk (blk_below (g := gb244) (o := .cells #[.int .i64 t235, .int .i64 t236, .string t237, .string t238, .int .i64 t239, .int .i64 t240, .int .i64 t241] 27 (0, 0)) (by exact BK244.out) hb)
                    have n7_ := Aside0.mk (below_step (by repeat (first | (with_reducible first | exact HB.out | apply below_alloc | apply pw_below_drewN | apply below_drew1 | refine below_set ?_ GE226.out | refine below_set ?_ GE227.out | refine below_set ?_ GE244.out) | exact HB.out)) hb)
                    clear HO_7
                    clear HO_8
                    clear HO248
                    clear BK226
                    clear BK227
                    clear BK244
                    clear HB
                    have HO_7 := n0_
                    have HO_8 := n1_
                    have HO248 := n2_
                    have HO254 := n3_
                    have BK226 := n4_
                    have BK227 := n5_
                    have BK244 := n6_
                    have HB := n7_
                    clear n0_ n1_ n2_ n3_ n4_ n5_ n6_ n7_
                    clear hb ho33
                    obtain ⟨Ao35, co35, eo35⟩ := Kd.R_slice HO248.out
                    (first | subst eo35 | (injection eo35 with f1_ f2_ f3_; have f4_ := f1_.symm; have f5_ := f3_.symm; clear f1_ f2_ f3_; subst f4_; subst f5_))
                    refine hK.out _ _ ⟨(blk_cell BK244.out 0).trans rfl, (blk_cell BK244.out 1).trans rfl, (blk_cell BK244.out 2).trans rfl, (blk_cell BK244.out 3).trans rfl, (blk_cell BK244.out 4).trans rfl, (blk_cell BK244.out 5).trans rfl, (blk_cell BK244.out 6).trans rfl⟩ (fun hHeld => ?_)
                    clear hK K
                    refine norm_ (a' := ?_) ?_ ?_
                    rotate_left
                    · show Act.put _ (some 37) _ = _
                      simp only [Act.put, List.setIfInBounds_toArray, List.set_cons_zero, List.set_cons_succ, i64_w, i32_w]
                      rfl
                    refine one_ (i := 5) (N := some 34) #[true, true, true, true, true, true, true, true, true, false, false, false, false] rfl rfl (one_of HT_.out (by kernel_rfl)) (by decide) (fun K hK => ?_)
                    refine Kd.R_append_rows_step (Kd.int .i64) (w0 := w) w.heap.size (by rfl) (.tmp 30) (.tmp 33) 34 3 (.int .i64 0) 8 rfl Try.underlying34 info3 rfl (by decide) (by omega) (.slice Ao25 x7_1.length co25) x7_1 y246 _ _ _ (fun k_ => some k_ ≠ (.slice Ao35 y246.length co35 : Value).ownBlock) (fun _ => False) rfl rfl ?aO ?aR (fun _ _ h => h) (fun _ h => h.elim) ?aF ?aB ?aS ?aL ?_
                    (case aR => repeat (first | exact (Kd.R_reads' HO248.out).2.2 | (with_reducible refine Kd.C_alloc ?_ _) | (with_reducible refine Kd.C_drewN ?_ _) | (with_reducible refine Kd.C_drew ?_)))
                    (case aB => exact (by repeat (first | (with_reducible first | exact HB.out | apply below_alloc | apply pw_below_drewN | apply below_drew1 | refine below_set ?_ GE226.out | refine below_set ?_ GE227.out | refine below_set ?_ GE244.out) | exact HB.out)))
                    (case aF => exact (fun k_ hk => Kd.fresh' (Kd.R_lt (by exact HO248.out)) k_ hk))
                    (case aO => exact (by exact Kd.R_mono HO_7.out (fun _ hk => hk.2)))
                    (case aS => exact (below_size (by repeat (first | (with_reducible first | exact HB.out | apply below_alloc | apply pw_below_drewN | apply below_drew1 | refine below_set ?_ GE226.out | refine below_set ?_ GE227.out | refine below_set ?_ GE244.out) | exact HB.out))))
                    (case aL => have := LMc16.out; omega)
                    intro v250 w34 ho hb hg hat
                    rw [← Ny249.out] at ho
                    have n0_ := Aside0.mk (Kd.R_over' (by exact HO_8.out) (Kd.R_typed (by exact HO_7.out)) (by decide) hg)
                    have n1_ := Aside0.mk (blk_grown (g := gb226) (o := .cells #[.int .i64 p0_, .int .i64 p1_, .string p2_, .string p3_, .int .i64 p4_, .int .i64 p5_, .int .i64 p6_] 27 (0, 0)) (by exact BK226.out) hg (Kd.R_ne HO_7.out BK226.out (by decide)))
                    have n2_ := Aside0.mk (blk_grown (g := gb227) (o := .cells #[.int .i64 q0_, .int .i64 q1_, .string q2_, .string q3_, .int .i64 q4_, .int .i64 q5_, .int .i64 q6_] 27 (0, 0)) (by exact BK227.out) hg (Kd.R_ne HO_7.out BK227.out (by decide)))
                    have n3_ := Aside0.mk (blk_grown (g := gb244) (o := .cells #[.int .i64 t235, .int .i64 t236, .string t237, .string t238, .int .i64 t239, .int .i64 t240, .int .i64 t241] 27 (0, 0)) (by exact BK244.out) hg (Kd.R_ne HO_7.out BK244.out (by decide)))
                    have n4_ := Aside0.mk (Kd.R_after (ok := (fun _ => True)) (by exact HO248.out) hg hat)
                    have n5_ := Aside0.mk (Kd.R_over' (by exact HO254.out) (Kd.R_typed (by exact HO_7.out)) (by decide) hg)
                    have n6_ := Aside0.mk (hb)
                    have n7_ := Aside0.mk (ho)
                    clear HO_8
                    clear BK226
                    clear BK227
                    clear BK244
                    clear HO248
                    clear HO254
                    clear HB
                    clear HO_7
                    have HO_8 := n0_
                    have BK226 := n1_
                    have BK227 := n2_
                    have BK244 := n3_
                    have HO248 := n4_
                    have HO254 := n5_
                    have HB := n6_
                    have HO251 := n7_
                    clear n0_ n1_ n2_ n3_ n4_ n5_ n6_ n7_
                    clear ho hb hg hat
                    refine hK.out _ _ ⟨(blk_cell BK244.out 0).trans rfl, (blk_cell BK244.out 1).trans rfl, (blk_cell BK244.out 2).trans rfl, (blk_cell BK244.out 3).trans rfl, (blk_cell BK244.out 4).trans rfl, (blk_cell BK244.out 5).trans rfl, (blk_cell BK244.out 6).trans rfl⟩ (fun hHeld => ?_)
                    clear hK K
                    refine norm_ (a' := ?_) ?_ ?_
                    rotate_left
                    · show Act.put _ (some 34) _ = _
                      simp only [Act.put, List.setIfInBounds_toArray, List.set_cons_zero, List.set_cons_succ, i64_w, i32_w]
                      rfl
                    exact norm_ (by simp only [putAll, Act.put, List.setIfInBounds_toArray, List.set_cons_zero, List.set_cons_succ]) (hCont (.slice Ao35 y246.length co35, v250, v253) _ ⟨hHeld, (by exact Kd.R_mono HO248.out (fun _ hk => hk.2)), (by exact HO251.out), (by exact Kd.R_mono HO254.out (fun _ hk => hk.2)), (by exact Kd.R_mono HO_8.out (fun _ hk => hk.2)), (by exact BK226.out), (by exact BK227.out), (by exact BK244.out), (by repeat (first | (with_reducible first | exact HB.out | apply below_alloc | apply pw_below_drewN | apply below_drew1 | refine below_set ?_ GE226.out | refine below_set ?_ GE227.out | refine below_set ?_ GE244.out) | exact HB.out))⟩)
                · skip
                  refine Kd.R_lit_step (Kd.int .u8) _ 5 ?hg (N := 37) ?hd (xs := ([t242] : List Int)) (inner := [.int .u8 t242]) (ok := fun _ => True) (okp := fun _ => True) ?hr ?hp (fun _ hk => hk) trivial (Below.refl _ _) (Nat.le_refl _) (by simp) ?_; (case hd => rfl); (case hg => rfl); (case hr => first | (go_simp; done) | (go_simp; rfl)); (case hp => exact (Reps.one (show Kd.M (Kd.int .u8) _ _ _ t242 [.int .u8 t242] from rfl) (Reps.none _ _)))
                  intro v253 w30 ho31 hb hg_ hnew_
                  clear hg_ hnew_
                  (first | rw [← Ny252.out] at ho31 | (simp only [Int.reduceToNat] at ho31; rw [← Ny252.out] at ho31))
                  have n0_ := Aside0.mk (Kd.R_below (by exact HO_7.out) hb)
                  have n1_ := Aside0.mk (Kd.R_elder' (by exact HO_8.out) (Kd.R_base ho31) hb)
                  have n2_ := Aside0.mk (Kd.R_lower (Kd.R_new' ho31 (Kd.R_lt (by exact HO_8.out))) (below_size (by repeat (first | (with_reducible first | exact HB.out | apply below_alloc | apply pw_below_drewN | apply below_drew1 | refine below_set ?_ GE226.out | refine below_set ?_ GE227.out | refine below_set ?_ GE244.out) | exact HB.out))))
                  have n3_ := Aside0.mk (blk_below (g := gb226) (o := .cells #[.int .i64 p0_, .int .i64 p1_, .string p2_, .string p3_, .int .i64 p4_, .int .i64 p5_, .int .i64 p6_] 27 (0, 0)) (by exact BK226.out) hb)
                  have n4_ := Aside0.mk (blk_below (g := gb227) (o := .cells #[.int .i64 q0_, .int .i64 q1_, .string q2_, .string q3_, .int .i64 q4_, .int .i64 q5_, .int .i64 q6_] 27 (0, 0)) (by exact BK227.out) hb)
                  have n5_ := Aside0.mk (blk_below (g := gb244) (o := .cells #[.int .i64 t235, .int .i64 t236, .string t237, .string t238, .int .i64 t239, .int .i64 t240, .int .i64 t241] 27 (0, 0)) (by exact BK244.out) hb)
                  have n6_ := Aside0.mk (below_step (by repeat (first | (with_reducible first | exact HB.out | apply below_alloc | apply pw_below_drewN | apply below_drew1 | refine below_set ?_ GE226.out | refine below_set ?_ GE227.out | refine below_set ?_ GE244.out) | exact HB.out)) hb)
                  clear HO_7
                  clear HO_8
                  clear BK226
                  clear BK227
                  clear BK244
                  clear HB
                  have HO_7 := n0_
                  have HO_8 := n1_
                  have HO254 := n2_
                  have BK226 := n3_
                  have BK227 := n4_
                  have BK244 := n5_
                  have HB := n6_
                  clear n0_ n1_ n2_ n3_ n4_ n5_ n6_
                  clear hb ho31
                  refine hK.out _ _ ⟨(blk_cell BK244.out 0).trans rfl, (blk_cell BK244.out 1).trans rfl, (blk_cell BK244.out 2).trans rfl, (blk_cell BK244.out 3).trans rfl, (blk_cell BK244.out 4).trans rfl, (blk_cell BK244.out 5).trans rfl, (blk_cell BK244.out 6).trans rfl⟩ (fun hHeld => ?_)
                  clear hK K
                  refine norm_ (a' := ?_) ?_ ?_
                  rotate_left
                  · show Act.put _ (some 37) _ = _
                    simp only [Act.put, List.setIfInBounds_toArray, List.set_cons_zero, List.set_cons_succ, i64_w, i32_w]
                    rfl
                  refine one_ (i := 4) (N := some 33) #[true, true, true, true, true, false, true, true, true, false, false, false, false] rfl rfl (one_of HT_.out (by kernel_rfl)) (by decide) (fun K hK => ?_)
                  refine Kd.R_lit_step (Kd.int .i64) _ 3 ?hg (N := 33) ?hd (xs := ([t245] : List Int)) (inner := [.int .i64 t245]) (ok := fun _ => True) (okp := fun _ => True) ?hr ?hp (fun _ hk => hk) trivial (Below.refl _ _) (Nat.le_refl _) (by simp) ?_; (case hd => rfl); (case hg => rfl); (case hr => first | (go_simp; done) | (go_simp; rfl)); (case hp => exact (Reps.one (show Kd.M (Kd.int .i64) _ _ _ t245 [.int .i64 t245] from rfl) (Reps.none _ _)))
                  intro v247 w32 ho33 hb hg_ hnew_
                  clear hg_ hnew_
                  (first | rw [← Ny246.out] at ho33 | (simp only [Int.reduceToNat] at ho33; rw [← Ny246.out] at ho33))
                  have n0_ := Aside0.mk (Kd.R_elder' (by exact HO_7.out) (Kd.R_base ho33) hb)
                  have n1_ := Aside0.mk (Kd.R_below (by exact HO_8.out) hb)
                  have n2_ := Aside0.mk (Kd.R_below (by exact HO254.out) hb)
                  have n3_ := Aside0.mk (Kd.R_lower (Kd.R_new' ho33 (Kd.R_lt (by exact HO_7.out))) (below_size (by repeat (first | (with_reducible first | exact HB.out | apply below_alloc | apply pw_below_drewN | apply below_drew1 | refine below_set ?_ GE226.out | refine below_set ?_ GE227.out | refine below_set ?_ GE244.out) | exact HB.out))))
                  have n4_ := Aside0.mk (blk_below (g := gb226) (o := .cells #[.int .i64 p0_, .int .i64 p1_, .string p2_, .string p3_, .int .i64 p4_, .int .i64 p5_, .int .i64 p6_] 27 (0, 0)) (by exact BK226.out) hb)
                  have n5_ := Aside0.mk (blk_below (g := gb227) (o := .cells #[.int .i64 q0_, .int .i64 q1_, .string q2_, .string q3_, .int .i64 q4_, .int .i64 q5_, .int .i64 q6_] 27 (0, 0)) (by exact BK227.out) hb)
                  have n6_ := Aside0.mk (blk_below (g := gb244) (o := .cells #[.int .i64 t235, .int .i64 t236, .string t237, .string t238, .int .i64 t239, .int .i64 t240, .int .i64 t241] 27 (0, 0)) (by exact BK244.out) hb)
                  have n7_ := Aside0.mk (below_step (by repeat (first | (with_reducible first | exact HB.out | apply below_alloc | apply pw_below_drewN | apply below_drew1 | refine below_set ?_ GE226.out | refine below_set ?_ GE227.out | refine below_set ?_ GE244.out) | exact HB.out)) hb)
                  clear HO_7
                  clear HO_8
                  clear HO254
                  clear BK226
                  clear BK227
                  clear BK244
                  clear HB
                  have HO_7 := n0_
                  have HO_8 := n1_
                  have HO254 := n2_
                  have HO248 := n3_
                  have BK226 := n4_
                  have BK227 := n5_
                  have BK244 := n6_
                  have HB := n7_
                  clear n0_ n1_ n2_ n3_ n4_ n5_ n6_ n7_
                  clear hb ho33
                  obtain ⟨Ao35, co35, eo35⟩ := Kd.R_slice HO248.out
                  (first | subst eo35 | (injection eo35 with f1_ f2_ f3_; have f4_ := f1_.symm; have f5_ := f3_.symm; clear f1_ f2_ f3_; subst f4_; subst f5_))
                  refine hK.out _ _ ⟨(blk_cell BK244.out 0).trans rfl, (blk_cell BK244.out 1).trans rfl, (blk_cell BK244.out 2).trans rfl, (blk_cell BK244.out 3).trans rfl, (blk_cell BK244.out 4).trans rfl, (blk_cell BK244.out 5).trans rfl, (blk_cell BK244.out 6).trans rfl⟩ (fun hHeld => ?_)
                  clear hK K
                  refine norm_ (a' := ?_) ?_ ?_
                  rotate_left
                  · show Act.put _ (some 33) _ = _
                    simp only [Act.put, List.setIfInBounds_toArray, List.set_cons_zero, List.set_cons_succ, i64_w, i32_w]
                    rfl
                  refine one_ (i := 5) (N := some 34) #[true, true, true, true, true, true, true, true, true, false, false, false, false] rfl rfl (one_of HT_.out (by kernel_rfl)) (by decide) (fun K hK => ?_)
                  refine Kd.R_append_rows_step (Kd.int .i64) (w0 := w) w.heap.size (by rfl) (.tmp 30) (.tmp 33) 34 3 (.int .i64 0) 8 rfl Try.underlying34 info3 rfl (by decide) (by omega) (.slice Ao25 x7_1.length co25) x7_1 y246 _ _ _ (fun k_ => some k_ ≠ (.slice Ao35 y246.length co35 : Value).ownBlock) (fun _ => False) rfl rfl ?aO ?aR (fun _ _ h => h) (fun _ h => h.elim) ?aF ?aB ?aS ?aL ?_
                  (case aR => repeat (first | exact (Kd.R_reads' HO248.out).2.2 | (with_reducible refine Kd.C_alloc ?_ _) | (with_reducible refine Kd.C_drewN ?_ _) | (with_reducible refine Kd.C_drew ?_)))
                  (case aB => exact (by repeat (first | (with_reducible first | exact HB.out | apply below_alloc | apply pw_below_drewN | apply below_drew1 | refine below_set ?_ GE226.out | refine below_set ?_ GE227.out | refine below_set ?_ GE244.out) | exact HB.out)))
                  (case aF => exact (fun k_ hk => Kd.fresh' (Kd.R_lt (by exact HO248.out)) k_ hk))
                  (case aO => exact (by exact Kd.R_mono HO_7.out (fun _ hk => hk.2)))
                  (case aS => exact (below_size (by repeat (first | (with_reducible first | exact HB.out | apply below_alloc | apply pw_below_drewN | apply below_drew1 | refine below_set ?_ GE226.out | refine below_set ?_ GE227.out | refine below_set ?_ GE244.out) | exact HB.out))))
                  (case aL => have := LMc16.out; omega)
                  intro v250 w34 ho hb hg hat
                  rw [← Ny249.out] at ho
                  have n0_ := Aside0.mk (Kd.R_over' (by exact HO_8.out) (Kd.R_typed (by exact HO_7.out)) (by decide) hg)
                  have n1_ := Aside0.mk (blk_grown (g := gb226) (o := .cells #[.int .i64 p0_, .int .i64 p1_, .string p2_, .string p3_, .int .i64 p4_, .int .i64 p5_, .int .i64 p6_] 27 (0, 0)) (by exact BK226.out) hg (Kd.R_ne HO_7.out BK226.out (by decide)))
                  have n2_ := Aside0.mk (blk_grown (g := gb227) (o := .cells #[.int .i64 q0_, .int .i64 q1_, .string q2_, .string q3_, .int .i64 q4_, .int .i64 q5_, .int .i64 q6_] 27 (0, 0)) (by exact BK227.out) hg (Kd.R_ne HO_7.out BK227.out (by decide)))
                  have n3_ := Aside0.mk (blk_grown (g := gb244) (o := .cells #[.int .i64 t235, .int .i64 t236, .string t237, .string t238, .int .i64 t239, .int .i64 t240, .int .i64 t241] 27 (0, 0)) (by exact BK244.out) hg (Kd.R_ne HO_7.out BK244.out (by decide)))
                  have n4_ := Aside0.mk (Kd.R_over' (by exact HO254.out) (Kd.R_typed (by exact HO_7.out)) (by decide) hg)
                  have n5_ := Aside0.mk (Kd.R_after (ok := (fun _ => True)) (by exact HO248.out) hg hat)
                  have n6_ := Aside0.mk (hb)
                  have n7_ := Aside0.mk (ho)
                  clear HO_8
                  clear BK226
                  clear BK227
                  clear BK244
                  clear HO254
                  clear HO248
                  clear HB
                  clear HO_7
                  have HO_8 := n0_
                  have BK226 := n1_
                  have BK227 := n2_
                  have BK244 := n3_
                  have HO254 := n4_
                  have HO248 := n5_
                  have HB := n6_
                  have HO251 := n7_
                  clear n0_ n1_ n2_ n3_ n4_ n5_ n6_ n7_
                  clear ho hb hg hat
                  refine hK.out _ _ ⟨(blk_cell BK244.out 0).trans rfl, (blk_cell BK244.out 1).trans rfl, (blk_cell BK244.out 2).trans rfl, (blk_cell BK244.out 3).trans rfl, (blk_cell BK244.out 4).trans rfl, (blk_cell BK244.out 5).trans rfl, (blk_cell BK244.out 6).trans rfl⟩ (fun hHeld => ?_)
                  clear hK K
                  refine norm_ (a' := ?_) ?_ ?_
                  rotate_left
                  · show Act.put _ (some 34) _ = _
                    simp only [Act.put, List.setIfInBounds_toArray, List.set_cons_zero, List.set_cons_succ, i64_w, i32_w]
                    rfl
                  exact norm_ (by simp only [putAll, Act.put, List.setIfInBounds_toArray, List.set_cons_zero, List.set_cons_succ]) (hCont (.slice Ao35 y246.length co35, v250, v253) _ ⟨hHeld, (by exact Kd.R_mono HO248.out (fun _ hk => hk.2)), (by exact HO251.out), (by exact Kd.R_mono HO254.out (fun _ hk => hk.2)), (by exact Kd.R_mono HO_8.out (fun _ hk => hk.2)), (by exact BK226.out), (by exact BK227.out), (by exact BK244.out), (by repeat (first | (with_reducible first | exact HB.out | apply below_alloc | apply pw_below_drewN | apply below_drew1 | refine below_set ?_ GE226.out | refine below_set ?_ GE227.out | refine below_set ?_ GE244.out) | exact HB.out))⟩)
              · skip
                refine Kd.R_lit_step (Kd.int .u8) _ 5 ?hg (N := 37) ?hd (xs := ([t242] : List Int)) (inner := [.int .u8 t242]) (ok := fun _ => True) (okp := fun _ => True) ?hr ?hp (fun _ hk => hk) trivial (Below.refl _ _) (Nat.le_refl _) (by simp) ?_; (case hd => rfl); (case hg => rfl); (case hr => first | (go_simp; done) | (go_simp; rfl)); (case hp => exact (Reps.one (show Kd.M (Kd.int .u8) _ _ _ t242 [.int .u8 t242] from rfl) (Reps.none _ _)))
                intro v253 w29 ho30 hb hg_ hnew_
                clear hg_ hnew_
                (first | rw [← Ny252.out] at ho30 | (simp only [Int.reduceToNat] at ho30; rw [← Ny252.out] at ho30))
                have n0_ := Aside0.mk (Kd.R_below (by exact HO_7.out) hb)
                have n1_ := Aside0.mk (Kd.R_elder' (by exact HO_8.out) (Kd.R_base ho30) hb)
                have n2_ := Aside0.mk (Kd.R_lower (Kd.R_new' ho30 (Kd.R_lt (by exact HO_8.out))) (below_size (by repeat (first | (with_reducible first | exact HB.out | apply below_alloc | apply pw_below_drewN | apply below_drew1 | refine below_set ?_ GE226.out | refine below_set ?_ GE227.out | refine below_set ?_ GE244.out) | exact HB.out))))
                have n3_ := Aside0.mk (blk_below (g := gb226) (o := .cells #[.int .i64 p0_, .int .i64 p1_, .string p2_, .string p3_, .int .i64 p4_, .int .i64 p5_, .int .i64 p6_] 27 (0, 0)) (by exact BK226.out) hb)
                have n4_ := Aside0.mk (blk_below (g := gb227) (o := .cells #[.int .i64 q0_, .int .i64 q1_, .string q2_, .string q3_, .int .i64 q4_, .int .i64 q5_, .int .i64 q6_] 27 (0, 0)) (by exact BK227.out) hb)
                have n5_ := Aside0.mk (blk_below (g := gb244) (o := .cells #[.int .i64 t235, .int .i64 t236, .string t237, .string t238, .int .i64 t239, .int .i64 t240, .int .i64 t241] 27 (0, 0)) (by exact BK244.out) hb)
                have n6_ := Aside0.mk (below_step (by repeat (first | (with_reducible first | exact HB.out | apply below_alloc | apply pw_below_drewN | apply below_drew1 | refine below_set ?_ GE226.out | refine below_set ?_ GE227.out | refine below_set ?_ GE244.out) | exact HB.out)) hb)
                clear HO_7
                clear HO_8
                clear BK226
                clear BK227
                clear BK244
                clear HB
                have HO_7 := n0_
                have HO_8 := n1_
                have HO254 := n2_
                have BK226 := n3_
                have BK227 := n4_
                have BK244 := n5_
                have HB := n6_
                clear n0_ n1_ n2_ n3_ n4_ n5_ n6_
                clear hb ho30
                refine hK.out _ _ ⟨(blk_cell BK244.out 0).trans rfl, (blk_cell BK244.out 1).trans rfl, (blk_cell BK244.out 2).trans rfl, (blk_cell BK244.out 3).trans rfl, (blk_cell BK244.out 4).trans rfl, (blk_cell BK244.out 5).trans rfl, (blk_cell BK244.out 6).trans rfl⟩ (fun hHeld => ?_)
                clear hK K
                refine norm_ (a' := ?_) ?_ ?_
                rotate_left
                · show Act.put _ (some 37) _ = _
                  simp only [Act.put, List.setIfInBounds_toArray, List.set_cons_zero, List.set_cons_succ, i64_w, i32_w]
                  rfl
                refine one_ (i := 3) (N := some 32) #[true, true, true, true, false, false, true, true, true, false, false, false, false] rfl rfl (one_of HT_.out (by kernel_rfl)) (by decide) (fun K hK => ?_)
                refine goes_ Try.func67 (by kernel_rfl) rfl #[.agg #[.int .i64 t235, .int .i64 t236, .string t237, .string t238, .int .i64 t239, .int .i64 t240, .int .i64 t241]] (by rfl) rfl rfl (by (try simp only [List.map_toArray, List.map_cons, List.map_nil]); first | done | rfl | (simp only [List.length_drop, List.length_take]; rfl)) ?_
                with_reducible refine (impl_Worm_node.calls t235 t236 t237 t238 t239 t240 t241 t245 _ A15.out).mono ?_
                rintro e w31 ⟨rfl, hb⟩
                refine ⟨_, rfl, ?_⟩
                have n0_ := Aside0.mk (Kd.R_below (by exact HO_7.out) hb)
                have n1_ := Aside0.mk (Kd.R_below (by exact HO_8.out) hb)
                have n2_ := Aside0.mk (Kd.R_below (by exact HO254.out) hb)
                have n3_ := Aside0.mk (blk_below (g := gb226) (o := .cells #[.int .i64 p0_, .int .i64 p1_, .string p2_, .string p3_, .int .i64 p4_, .int .i64 p5_, .int .i64 p6_] 27 (0, 0)) (by exact BK226.out) hb)
                have n4_ := Aside0.mk (blk_below (g := gb227) (o := .cells #[.int .i64 q0_, .int .i64 q1_, .string q2_, .string q3_, .int .i64 q4_, .int .i64 q5_, .int .i64 q6_] 27 (0, 0)) (by exact BK227.out) hb)
                have n5_ := Aside0.mk (blk_below (g := gb244) (o := .cells #[.int .i64 t235, .int .i64 t236, .string t237, .string t238, .int .i64 t239, .int .i64 t240, .int .i64 t241] 27 (0, 0)) (by exact BK244.out) hb)
                have n6_ := Aside0.mk (below_step (by repeat (first | (with_reducible first | exact HB.out | apply below_alloc | apply pw_below_drewN | apply below_drew1 | refine below_set ?_ GE226.out | refine below_set ?_ GE227.out | refine below_set ?_ GE244.out) | exact HB.out)) hb)
                clear HO_7
                clear HO_8
                clear HO254
                clear BK226
                clear BK227
                clear BK244
                clear HB
                have HO_7 := n0_
                have HO_8 := n1_
                have HO254 := n2_
                have BK226 := n3_
                have BK227 := n4_
                have BK244 := n5_
                have HB := n6_
                clear n0_ n1_ n2_ n3_ n4_ n5_ n6_
                (try clear hb)
                (try clear hb2)
                (try clear hk)
                (try clear hi)
                refine hK.out _ _ ⟨(blk_cell BK244.out 0).trans rfl, (blk_cell BK244.out 1).trans rfl, (blk_cell BK244.out 2).trans rfl, (blk_cell BK244.out 3).trans rfl, (blk_cell BK244.out 4).trans rfl, (blk_cell BK244.out 5).trans rfl, (blk_cell BK244.out 6).trans rfl⟩ (fun hHeld => ?_)
                clear hK K
                refine norm_ (a' := ?_) ?_ ?_
                rotate_left
                · show Act.put _ (some 32) _ = _
                  simp only [Act.put, List.setIfInBounds_toArray, List.set_cons_zero, List.set_cons_succ, i64_w, i32_w]
                  rfl
                refine one_ (i := 4) (N := some 33) #[true, true, true, true, true, false, true, true, true, false, false, false, false] rfl rfl (one_of HT_.out (by kernel_rfl)) (by decide) (fun K hK => ?_)
                refine Kd.R_lit_step (Kd.int .i64) _ 3 ?hg (N := 33) ?hd (xs := ([t245] : List Int)) (inner := [.int .i64 t245]) (ok := fun _ => True) (okp := fun _ => True) ?hr ?hp (fun _ hk => hk) trivial (Below.refl _ _) (Nat.le_refl _) (by simp) ?_; (case hd => rfl); (case hg => rfl); (case hr => first | (go_simp; done) | (go_simp; rfl)); (case hp => exact (Reps.one (show Kd.M (Kd.int .i64) _ _ _ t245 [.int .i64 t245] from rfl) (Reps.none _ _)))
                intro v247 w32 ho33 hb hg_ hnew_
                clear hg_ hnew_
                (first | rw [← Ny246.out] at ho33 | (simp only [Int.reduceToNat] at ho33; rw [← Ny246.out] at ho33))
                have n0_ := Aside0.mk (Kd.R_elder' (by exact HO_7.out) (Kd.R_base ho33) hb)
                have n1_ := Aside0.mk (Kd.R_below (by exact HO_8.out) hb)
                have n2_ := Aside0.mk (Kd.R_below (by exact HO254.out) hb)
                have n3_ := Aside0.mk (Kd.R_lower (Kd.R_new' ho33 (Kd.R_lt (by exact HO_7.out))) (below_size (by repeat (first | (with_reducible first | exact HB.out | apply below_alloc | apply pw_below_drewN | apply below_drew1 | refine below_set ?_ GE226.out | refine below_set ?_ GE227.out | refine below_set ?_ GE244.out) | exact HB.out))))
                have n4_ := Aside0.mk (blk_below (g := gb226) (o := .cells #[.int .i64 p0_, .int .i64 p1_, .string p2_, .string p3_, .int .i64 p4_, .int .i64 p5_, .int .i64 p6_] 27 (0, 0)) (by exact BK226.out) hb)
                have n5_ := Aside0.mk (blk_below (g := gb227) (o := .cells #[.int .i64 q0_, .int .i64 q1_, .string q2_, .string q3_, .int .i64 q4_, .int .i64 q5_, .int .i64 q6_] 27 (0, 0)) (by exact BK227.out) hb)
                have n6_ := Aside0.mk (blk_below (g := gb244) (o := .cells #[.int .i64 t235, .int .i64 t236, .string t237, .string t238, .int .i64 t239, .int .i64 t240, .int .i64 t241] 27 (0, 0)) (by exact BK244.out) hb)
                have n7_ := Aside0.mk (below_step (by repeat (first | (with_reducible first | exact HB.out | apply below_alloc | apply pw_below_drewN | apply below_drew1 | refine below_set ?_ GE226.out | refine below_set ?_ GE227.out | refine below_set ?_ GE244.out) | exact HB.out)) hb)
                clear HO_7
                clear HO_8
                clear HO254
                clear BK226
                clear BK227
                clear BK244
                clear HB
                have HO_7 := n0_
                have HO_8 := n1_
                have HO254 := n2_
                have HO248 := n3_
                have BK226 := n4_
                have BK227 := n5_
                have BK244 := n6_
                have HB := n7_
                clear n0_ n1_ n2_ n3_ n4_ n5_ n6_ n7_
                clear hb ho33
                obtain ⟨Ao35, co35, eo35⟩ := Kd.R_slice HO248.out
                (first | subst eo35 | (injection eo35 with f1_ f2_ f3_; have f4_ := f1_.symm; have f5_ := f3_.symm; clear f1_ f2_ f3_; subst f4_; subst f5_))
                refine hK.out _ _ ⟨(blk_cell BK244.out 0).trans rfl, (blk_cell BK244.out 1).trans rfl, (blk_cell BK244.out 2).trans rfl, (blk_cell BK244.out 3).trans rfl, (blk_cell BK244.out 4).trans rfl, (blk_cell BK244.out 5).trans rfl, (blk_cell BK244.out 6).trans rfl⟩ (fun hHeld => ?_)
                clear hK K
                refine norm_ (a' := ?_) ?_ ?_
                rotate_left
                · show Act.put _ (some 33) _ = _
                  simp only [Act.put, List.setIfInBounds_toArray, List.set_cons_zero, List.set_cons_succ, i64_w, i32_w]
                  rfl
                refine one_ (i := 5) (N := some 34) #[true, true, true, true, true, true, true, true, true, false, false, false, false] rfl rfl (one_of HT_.out (by kernel_rfl)) (by decide) (fun K hK => ?_)
                refine Kd.R_append_rows_step (Kd.int .i64) (w0 := w) w.heap.size (by rfl) (.tmp 30) (.tmp 33) 34 3 (.int .i64 0) 8 rfl Try.underlying34 info3 rfl (by decide) (by omega) (.slice Ao25 x7_1.length co25) x7_1 y246 _ _ _ (fun k_ => some k_ ≠ (.slice Ao35 y246.length co35 : Value).ownBlock) (fun _ => False) rfl rfl ?aO ?aR (fun _ _ h => h) (fun _ h => h.elim) ?aF ?aB ?aS ?aL ?_
                (case aR => repeat (first | exact (Kd.R_reads' HO248.out).2.2 | (with_reducible refine Kd.C_alloc ?_ _) | (with_reducible refine Kd.C_drewN ?_ _) | (with_reducible refine Kd.C_drew ?_)))
                (case aB => exact (by repeat (first | (with_reducible first | exact HB.out | apply below_alloc | apply pw_below_drewN | apply below_drew1 | refine below_set ?_ GE226.out | refine below_set ?_ GE227.out | refine below_set ?_ GE244.out) | exact HB.out)))
                (case aF => exact (fun k_ hk => Kd.fresh' (Kd.R_lt (by exact HO248.out)) k_ hk))
                (case aO => exact (by exact Kd.R_mono HO_7.out (fun _ hk => hk.2)))
                (case aS => exact (below_size (by repeat (first | (with_reducible first | exact HB.out | apply below_alloc | apply pw_below_drewN | apply below_drew1 | refine below_set ?_ GE226.out | refine below_set ?_ GE227.out | refine below_set ?_ GE244.out) | exact HB.out))))
                (case aL => have := LMc16.out; omega)
                intro v250 w34 ho hb hg hat
                rw [← Ny249.out] at ho
                have n0_ := Aside0.mk (Kd.R_over' (by exact HO_8.out) (Kd.R_typed (by exact HO_7.out)) (by decide) hg)
                have n1_ := Aside0.mk (blk_grown (g := gb226) (o := .cells #[.int .i64 p0_, .int .i64 p1_, .string p2_, .string p3_, .int .i64 p4_, .int .i64 p5_, .int .i64 p6_] 27 (0, 0)) (by exact BK226.out) hg (Kd.R_ne HO_7.out BK226.out (by decide)))
                have n2_ := Aside0.mk (blk_grown (g := gb227) (o := .cells #[.int .i64 q0_, .int .i64 q1_, .string q2_, .string q3_, .int .i64 q4_, .int .i64 q5_, .int .i64 q6_] 27 (0, 0)) (by exact BK227.out) hg (Kd.R_ne HO_7.out BK227.out (by decide)))
                have n3_ := Aside0.mk (blk_grown (g := gb244) (o := .cells #[.int .i64 t235, .int .i64 t236, .string t237, .string t238, .int .i64 t239, .int .i64 t240, .int .i64 t241] 27 (0, 0)) (by exact BK244.out) hg (Kd.R_ne HO_7.out BK244.out (by decide)))
                have n4_ := Aside0.mk (Kd.R_over' (by exact HO254.out) (Kd.R_typed (by exact HO_7.out)) (by decide) hg)
                have n5_ := Aside0.mk (Kd.R_after (ok := (fun _ => True)) (by exact HO248.out) hg hat)
                have n6_ := Aside0.mk (hb)
                have n7_ := Aside0.mk (ho)
                clear HO_8
                clear BK226
                clear BK227
                clear BK244
                clear HO254
                clear HO248
                clear HB
                clear HO_7
                have HO_8 := n0_
                have BK226 := n1_
                have BK227 := n2_
                have BK244 := n3_
                have HO254 := n4_
                have HO248 := n5_
                have HB := n6_
                have HO251 := n7_
                clear n0_ n1_ n2_ n3_ n4_ n5_ n6_ n7_
                clear ho hb hg hat
                refine hK.out _ _ ⟨(blk_cell BK244.out 0).trans rfl, (blk_cell BK244.out 1).trans rfl, (blk_cell BK244.out 2).trans rfl, (blk_cell BK244.out 3).trans rfl, (blk_cell BK244.out 4).trans rfl, (blk_cell BK244.out 5).trans rfl, (blk_cell BK244.out 6).trans rfl⟩ (fun hHeld => ?_)
                clear hK K
                refine norm_ (a' := ?_) ?_ ?_
                rotate_left
                · show Act.put _ (some 34) _ = _
                  simp only [Act.put, List.setIfInBounds_toArray, List.set_cons_zero, List.set_cons_succ, i64_w, i32_w]
                  rfl
                exact norm_ (by simp only [putAll, Act.put, List.setIfInBounds_toArray, List.set_cons_zero, List.set_cons_succ]) (hCont (.slice Ao35 y246.length co35, v250, v253) _ ⟨hHeld, (by exact Kd.R_mono HO248.out (fun _ hk => hk.2)), (by exact HO251.out), (by exact Kd.R_mono HO254.out (fun _ hk => hk.2)), (by exact Kd.R_mono HO_8.out (fun _ hk => hk.2)), (by exact BK226.out), (by exact BK227.out), (by exact BK244.out), (by repeat (first | (with_reducible first | exact HB.out | apply below_alloc | apply pw_below_drewN | apply below_drew1 | refine below_set ?_ GE226.out | refine below_set ?_ GE227.out | refine below_set ?_ GE244.out) | exact HB.out))⟩)
            rintro ⟨v247, v250, v253⟩ w36 ⟨hS_, h0_, h1_, h2_, h3_, h4_, h5_, h6_, h7_⟩
            have n0_ : Aside0 (Kd.R (Kd.int .i64) 3 w36 w.heap.size (fun k_ => some k_ ≠ (v250 : Value).ownBlock) v247 y246) := ⟨h0_⟩
            have n1_ : Aside0 (Kd.R (Kd.int .i64) 3 w36 w.heap.size (fun k_ => some k_ ≠ (v247 : Value).ownBlock) v250 y249) := ⟨h1_⟩
            have n2_ : Aside0 (Kd.R (Kd.int .u8) 5 w36 w.heap.size (fun k_ => some k_ ≠ (.slice Ao26 x8_1.length co26 : Value).ownBlock) v253 y252) := ⟨h2_⟩
            have n3_ : Aside0 (Kd.R (Kd.int .u8) 5 w36 w.heap.size (fun k_ => some k_ ≠ (v253 : Value).ownBlock) (.slice Ao26 x8_1.length co26) x8_1) := ⟨h3_⟩
            have n4_ : Aside0 (w36.heap[gb226]? = some (.cells #[.int .i64 p0_, .int .i64 p1_, .string p2_, .string p3_, .int .i64 p4_, .int .i64 p5_, .int .i64 p6_] 27 (0, 0))) := ⟨h4_⟩
            have n5_ : Aside0 (w36.heap[gb227]? = some (.cells #[.int .i64 q0_, .int .i64 q1_, .string q2_, .string q3_, .int .i64 q4_, .int .i64 q5_, .int .i64 q6_] 27 (0, 0))) := ⟨h5_⟩
            have n6_ : Aside0 (w36.heap[gb244]? = some (.cells #[.int .i64 t235, .int .i64 t236, .string t237, .string t238, .int .i64 t239, .int .i64 t240, .int .i64 t241] 27 (0, 0))) := ⟨h6_⟩
            have n7_ : Aside0 (Below w.heap.size w w36) := ⟨h7_⟩
            clear HO_7
            clear HO_8
            clear BK226
            clear BK227
            clear BK244
            clear HB
            clear h0_ h1_ h2_ h3_ h4_ h5_ h6_ h7_
            have HO248 := n0_
            have HO251 := n1_
            have HO254 := n2_
            have HO_8 := n3_
            have BK226 := n4_
            have BK227 := n5_
            have BK244 := n6_
            have HB := n7_
            clear n0_ n1_ n2_ n3_ n4_ n5_ n6_ n7_
            have hHeld : w36.cell? ⟨gb244, 0, none⟩ = some (.int .i64 t235) ∧ w36.cell? ⟨gb244, 1, none⟩ = some (.int .i64 t236) ∧ w36.cell? ⟨gb244, 2, none⟩ = some (.string t237) ∧ w36.cell? ⟨gb244, 3, none⟩ = some (.string t238) ∧ w36.cell? ⟨gb244, 4, none⟩ = some (.int .i64 t239) ∧ w36.cell? ⟨gb244, 5, none⟩ = some (.int .i64 t240) ∧ w36.cell? ⟨gb244, 6, none⟩ = some (.int .i64 t241) := hS_
            obtain ⟨Ao38, co38, eo38⟩ := Kd.R_slice HO254.out
            (first | subst eo38 | (injection eo38 with f1_ f2_ f3_; have f4_ := f1_.symm; have f5_ := f3_.symm; clear f1_ f2_ f3_; subst f4_; subst f5_))
            refine norm_ (a' := ?_) ?_ ?_
            rotate_left
            · simp only [putAll, Act.put, List.setIfInBounds_toArray, List.set_cons_zero, List.set_cons_succ]
              rfl
            refine one_ (i := 9) (N := some 38) #[true, true, true, true, true, true, true, true, true, true, false, false, false] rfl rfl (one_of HT_.out (by kernel_rfl)) (by decide) (fun K hK => ?_)
            refine Kd.R_append_rows_step (Kd.int .u8) (w0 := w) w.heap.size (by rfl) (.tmp 35) (.tmp 37) 100 5 (.int .u8 0) 1 rfl Try.underlying100 info5 rfl (by decide) (by omega) (.slice Ao26 x8_1.length co26) x8_1 y252 _ _ _ (fun k_ => some k_ ≠ (.slice Ao38 y252.length co38 : Value).ownBlock) (fun _ => False) rfl rfl ?aO ?aR (fun _ _ h => h) (fun _ h => h.elim) ?aF ?aB ?aS ?aL ?_
            (case aR => repeat (first | exact (Kd.R_reads' HO254.out).2.2 | (with_reducible refine Kd.C_alloc ?_ _) | (with_reducible refine Kd.C_drewN ?_ _) | (with_reducible refine Kd.C_drew ?_)))
            (case aB => exact (by repeat (first | (with_reducible first | exact HB.out | apply below_alloc | apply pw_below_drewN | apply below_drew1 | refine below_set ?_ GE226.out | refine below_set ?_ GE227.out | refine below_set ?_ GE244.out) | exact HB.out)))
            (case aF => exact (fun k_ hk => Kd.fresh' (Kd.R_lt (by exact HO254.out)) k_ hk))
            (case aO => exact (by exact HO_8.out))
            (case aS => exact (below_size (by repeat (first | (with_reducible first | exact HB.out | apply below_alloc | apply pw_below_drewN | apply below_drew1 | refine below_set ?_ GE226.out | refine below_set ?_ GE227.out | refine below_set ?_ GE244.out) | exact HB.out))))
            (case aL => have := LMc17.out; omega)
            intro v256 w37 ho hb hg hat
            rw [← Ny255.out] at ho
            have n0_ := Aside0.mk (blk_grown (g := gb226) (o := .cells #[.int .i64 p0_, .int .i64 p1_, .string p2_, .string p3_, .int .i64 p4_, .int .i64 p5_, .int .i64 p6_] 27 (0, 0)) (by exact BK226.out) hg (Kd.R_ne HO_8.out BK226.out (by decide)))
            have n1_ := Aside0.mk (blk_grown (g := gb227) (o := .cells #[.int .i64 q0_, .int .i64 q1_, .string q2_, .string q3_, .int .i64 q4_, .int .i64 q5_, .int .i64 q6_] 27 (0, 0)) (by exact BK227.out) hg (Kd.R_ne HO_8.out BK227.out (by decide)))
            have n2_ := Aside0.mk (blk_grown (g := gb244) (o := .cells #[.int .i64 t235, .int .i64 t236, .string t237, .string t238, .int .i64 t239, .int .i64 t240, .int .i64 t241] 27 (0, 0)) (by exact BK244.out) hg (Kd.R_ne HO_8.out BK244.out (by decide)))
            have n3_ := Aside0.mk (Kd.R_over' (by exact HO248.out) (Kd.R_typed (by exact HO_8.out)) (by decide) hg)
            have n4_ := Aside0.mk (Kd.R_over' (by exact HO251.out) (Kd.R_typed (by exact HO_8.out)) (by decide) hg)
            have n5_ := Aside0.mk (Kd.R_after (ok := (fun _ => True)) (by exact Kd.R_mono HO254.out (fun _ hk => ⟨trivial, hk⟩)) hg hat)
            have n6_ := Aside0.mk (hb)
            have n7_ := Aside0.mk (ho)
            clear BK226
            clear BK227
            clear BK244
            clear HO248
            clear HO251
            clear HO254
            clear HB
            clear HO_8
            have BK226 := n0_
            have BK227 := n1_
            have BK244 := n2_
            have HO248 := n3_
            have HO251 := n4_
            have HO254 := n5_
            have HB := n6_
            have HO257 := n7_
            clear n0_ n1_ n2_ n3_ n4_ n5_ n6_ n7_
            clear ho hb hg hat
            refine hK.out _ _ ⟨(blk_cell BK244.out 0).trans rfl, (blk_cell BK244.out 1).trans rfl, (blk_cell BK244.out 2).trans rfl, (blk_cell BK244.out 3).trans rfl, (blk_cell BK244.out 4).trans rfl, (blk_cell BK244.out 5).trans rfl, (blk_cell BK244.out 6).trans rfl⟩ (fun hHeld => ?_)
            clear hK K
            refine norm_ (a' := ?_) ?_ ?_
            rotate_left
            · show Act.put _ (some 38) _ = _
              simp only [Act.put, List.setIfInBounds_toArray, List.set_cons_zero, List.set_cons_succ, i64_w, i32_w]
              rfl
            refine one_ (i := 10) (N := none) #[true, true, true, true, true, true, true, true, true, true, true, false, false] rfl rfl (one_of HT_.out (by kernel_rfl)) (by decide) (fun K hK => ?_)
            have hs39 : w37.cell? ⟨gb226, 0, none⟩ = some (.int .i64 p0_) := (blk_cell BK226.out 0).trans rfl
            have hfs39 := blk_frozen BK226.out 0
            have hns39_1 := NB227_226.out
            have hns39_2 := NB244_226.out
            have hms39_1 := NB226_227.out
            have hms39_2 := NB226_244.out
            have hs40 : w37.cell? ⟨gb226, 1, none⟩ = some (.int .i64 p1_) := (blk_cell BK226.out 1).trans rfl
            have hfs40 := blk_frozen BK226.out 1
            have hns40_1 := NB227_226.out
            have hns40_2 := NB244_226.out
            have hms40_1 := NB226_227.out
            have hms40_2 := NB226_244.out
            have hs41 : w37.cell? ⟨gb226, 2, none⟩ = some (.string p2_) := (blk_cell BK226.out 2).trans rfl
            have hfs41 := blk_frozen BK226.out 2
            have hns41_1 := NB227_226.out
            have hns41_2 := NB244_226.out
            have hms41_1 := NB226_227.out
            have hms41_2 := NB226_244.out
            have hs42 : w37.cell? ⟨gb226, 3, none⟩ = some (.string p3_) := (blk_cell BK226.out 3).trans rfl
            have hfs42 := blk_frozen BK226.out 3
            have hns42_1 := NB227_226.out
            have hns42_2 := NB244_226.out
            have hms42_1 := NB226_227.out
            have hms42_2 := NB226_244.out
            have hs43 : w37.cell? ⟨gb226, 4, none⟩ = some (.int .i64 p4_) := (blk_cell BK226.out 4).trans rfl
            have hfs43 := blk_frozen BK226.out 4
            have hns43_1 := NB227_226.out
            have hns43_2 := NB244_226.out
            have hms43_1 := NB226_227.out
            have hms43_2 := NB226_244.out
            have hs44 : w37.cell? ⟨gb226, 5, none⟩ = some (.int .i64 p5_) := (blk_cell BK226.out 5).trans rfl
            have hfs44 := blk_frozen BK226.out 5
            have hns44_1 := NB227_226.out
            have hns44_2 := NB244_226.out
            have hms44_1 := NB226_227.out
            have hms44_2 := NB226_244.out
            have hs45 : w37.cell? ⟨gb226, 6, none⟩ = some (.int .i64 p6_) := (blk_cell BK226.out 6).trans rfl
            have hfs45 := blk_frozen BK226.out 6
            have hns45_1 := NB227_226.out
            have hns45_2 := NB244_226.out
            have hms45_1 := NB226_227.out
            have hms45_2 := NB226_244.out
            refine skip_ (w1 := ?_) (by rfl) rfl ?_ ?_
            rotate_left
            · go_simp
              rfl
            refine hK.out _ _ ⟨((cell_far (p := ⟨gb226, _, none⟩) NB244_226.out _).trans (((cell_far (p := ⟨gb226, _, none⟩) NB244_226.out _).trans (((cell_far (p := ⟨gb226, _, none⟩) NB244_226.out _).trans (((cell_far (p := ⟨gb226, _, none⟩) NB244_226.out _).trans (((cell_far (p := ⟨gb226, _, none⟩) NB244_226.out _).trans (((cell_far (p := ⟨gb226, _, none⟩) NB244_226.out _).trans (((cell_far (p := ⟨gb226, _, none⟩) NB244_226.out _).trans (hHeld.1)))))))))))))), ((cell_far (p := ⟨gb226, _, none⟩) NB244_226.out _).trans (((cell_far (p := ⟨gb226, _, none⟩) NB244_226.out _).trans (((cell_far (p := ⟨gb226, _, none⟩) NB244_226.out _).trans (((cell_far (p := ⟨gb226, _, none⟩) NB244_226.out _).trans (((cell_far (p := ⟨gb226, _, none⟩) NB244_226.out _).trans (((cell_far (p := ⟨gb226, _, none⟩) NB244_226.out _).trans (((cell_far (p := ⟨gb226, _, none⟩) NB244_226.out _).trans (hHeld.2.1)))))))))))))), ((cell_far (p := ⟨gb226, _, none⟩) NB244_226.out _).trans (((cell_far (p := ⟨gb226, _, none⟩) NB244_226.out _).trans (((cell_far (p := ⟨gb226, _, none⟩) NB244_226.out _).trans (((cell_far (p := ⟨gb226, _, none⟩) NB244_226.out _).trans (((cell_far (p := ⟨gb226, _, none⟩) NB244_226.out _).trans (((cell_far (p := ⟨gb226, _, none⟩) NB244_226.out _).trans (((cell_far (p := ⟨gb226, _, none⟩) NB244_226.out _).trans (hHeld.2.2.1)))))))))))))), ((cell_far (p := ⟨gb226, _, none⟩) NB244_226.out _).trans (((cell_far (p := ⟨gb226, _, none⟩) NB244_226.out _).trans (((cell_far (p := ⟨gb226, _, none⟩) NB244_226.out _).trans (((cell_far (p := ⟨gb226, _, none⟩) NB244_226.out _).trans (((cell_far (p := ⟨gb226, _, none⟩) NB244_226.out _).trans (((cell_far (p := ⟨gb226, _, none⟩) NB244_226.out _).trans (((cell_far (p := ⟨gb226, _, none⟩) NB244_226.out _).trans (hHeld.2.2.2.1)))))))))))))), ((cell_far (p := ⟨gb226, _, none⟩) NB244_226.out _).trans (((cell_far (p := ⟨gb226, _, none⟩) NB244_226.out _).trans (((cell_far (p := ⟨gb226, _, none⟩) NB244_226.out _).trans (((cell_far (p := ⟨gb226, _, none⟩) NB244_226.out _).trans (((cell_far (p := ⟨gb226, _, none⟩) NB244_226.out _).trans (((cell_far (p := ⟨gb226, _, none⟩) NB244_226.out _).trans (((cell_far (p := ⟨gb226, _, none⟩) NB244_226.out _).trans (hHeld.2.2.2.2.1)))))))))))))), ((cell_far (p := ⟨gb226, _, none⟩) NB244_226.out _).trans (((cell_far (p := ⟨gb226, _, none⟩) NB244_226.out _).trans (((cell_far (p := ⟨gb226, _, none⟩) NB244_226.out _).trans (((cell_far (p := ⟨gb226, _, none⟩) NB244_226.out _).trans (((cell_far (p := ⟨gb226, _, none⟩) NB244_226.out _).trans (((cell_far (p := ⟨gb226, _, none⟩) NB244_226.out _).trans (((cell_far (p := ⟨gb226, _, none⟩) NB244_226.out _).trans (hHeld.2.2.2.2.2.1)))))))))))))), ((cell_far (p := ⟨gb226, _, none⟩) NB244_226.out _).trans (((cell_far (p := ⟨gb226, _, none⟩) NB244_226.out _).trans (((cell_far (p := ⟨gb226, _, none⟩) NB244_226.out _).trans (((cell_far (p := ⟨gb226, _, none⟩) NB244_226.out _).trans (((cell_far (p := ⟨gb226, _, none⟩) NB244_226.out _).trans (((cell_far (p := ⟨gb226, _, none⟩) NB244_226.out _).trans (((cell_far (p := ⟨gb226, _, none⟩) NB244_226.out _).trans (hHeld.2.2.2.2.2.2))))))))))))))⟩ (fun hHeld => ?_)
            clear hK K
            refine pure_ (i := 11) (N := some 7) (v := ?_) (a' := ?_) #[true, true, true, true, true, true, true, true, true, true, true, true, false] rfl rfl (any_of HT_.out (by kernel_rfl)) (fun _ _ _ h => h) (Or.inl ⟨by rfl, ?_⟩) ?_ ?_
            rotate_left
            · intro w'
              go_simp
              with_reducible rfl
            rotate_left
            · simp only [Act.put, List.setIfInBounds_toArray, List.set_cons_zero, List.set_cons_succ, i64_w, i32_w]
              rfl
            refine pure_ (i := 12) (N := some 8) (v := ?_) (a' := ?_) #[true, true, true, true, true, true, true, true, true, true, true, true, true] rfl rfl (any_of HT_.out (by kernel_rfl)) (fun _ _ _ h => h) (Or.inl ⟨by rfl, ?_⟩) ?_ ?_
            rotate_left
            · intro w'
              go_simp
              with_reducible rfl
            rotate_left
            · simp only [Act.put, List.setIfInBounds_toArray, List.set_cons_zero, List.set_cons_succ, i64_w, i32_w]
              rfl
            refine done_ (done_of HT_.out (by kernel_rfl)) ?_
            try go_wp2
            go_roundg k1
            case measure => have := HK1.out; omega
            case rel => exact ⟨(y249), (y255), (t235), (t236), (t237), (t238), (t239), (t240), (t241), (q0_), (q1_), (q2_), (q3_), (q4_), (q5_), (q6_), H', ⟨by have := HK1.out; omega⟩, ⟨by exact Kd.R_mono (Kd.R_far (p := ⟨gb226, 6, none⟩) (Kd.R_far (p := ⟨gb226, 5, none⟩) (Kd.R_far (p := ⟨gb226, 4, none⟩) (Kd.R_far (p := ⟨gb226, 3, none⟩) (Kd.R_far (p := ⟨gb226, 2, none⟩) (Kd.R_far (p := ⟨gb226, 1, none⟩) (Kd.R_far (p := ⟨gb226, 0, none⟩) (Kd.R_types HO251.out BK226.out (by decide)) (fun _ hk => hk.2) (.int .i64 t235)) (fun _ hk => hk.2) (.int .i64 t236)) (fun _ hk => hk.2) (.string t237)) (fun _ hk => hk.2) (.string t238)) (fun _ hk => hk.2) (.int .i64 t239)) (fun _ hk => hk.2) (.int .i64 t240)) (fun _ hk => hk.2) (.int .i64 t241)) (fun _ hk => trivial)⟩, ⟨by exact Kd.R_mono (Kd.R_far (p := ⟨gb226, 6, none⟩) (Kd.R_far (p := ⟨gb226, 5, none⟩) (Kd.R_far (p := ⟨gb226, 4, none⟩) (Kd.R_far (p := ⟨gb226, 3, none⟩) (Kd.R_far (p := ⟨gb226, 2, none⟩) (Kd.R_far (p := ⟨gb226, 1, none⟩) (Kd.R_far (p := ⟨gb226, 0, none⟩) (Kd.R_types HO257.out BK226.out (by decide)) (fun _ hk => hk.2) (.int .i64 t235)) (fun _ hk => hk.2) (.int .i64 t236)) (fun _ hk => hk.2) (.string t237)) (fun _ hk => hk.2) (.string t238)) (fun _ hk => hk.2) (.int .i64 t239)) (fun _ hk => hk.2) (.int .i64 t240)) (fun _ hk => hk.2) (.int .i64 t241)) (fun _ hk => trivial)⟩, ⟨by refine blk_put (cs := #[.int .i64 t235, .int .i64 t236, .string t237, .string t238, .int .i64 t239, .int .i64 t240, .int .i64 p6_]) ?_ 6 _ rfl; refine blk_put (cs := #[.int .i64 t235, .int .i64 t236, .string t237, .string t238, .int .i64 t239, .int .i64 p5_, .int .i64 p6_]) ?_ 5 _ rfl; refine blk_put (cs := #[.int .i64 t235, .int .i64 t236, .string t237, .string t238, .int .i64 p4_, .int .i64 p5_, .int .i64 p6_]) ?_ 4 _ rfl; refine blk_put (cs := #[.int .i64 t235, .int .i64 t236, .string t237, .string p3_, .int .i64 p4_, .int .i64 p5_, .int .i64 p6_]) ?_ 3 _ rfl; refine blk_put (cs := #[.int .i64 t235, .int .i64 t236, .string p2_, .string p3_, .int .i64 p4_, .int .i64 p5_, .int .i64 p6_]) ?_ 2 _ rfl; refine blk_put (cs := #[.int .i64 t235, .int .i64 p1_, .string p2_, .string p3_, .int .i64 p4_, .int .i64 p5_, .int .i64 p6_]) ?_ 1 _ rfl; refine blk_put (cs := #[.int .i64 p0_, .int .i64 p1_, .string p2_, .string p3_, .int .i64 p4_, .int .i64 p5_, .int .i64 p6_]) ?_ 0 _ rfl; exact BK226.out⟩, ⟨by refine blk_far ?_ NB227_226.out _; refine blk_far ?_ NB227_226.out _; refine blk_far ?_ NB227_226.out _; refine blk_far ?_ NB227_226.out _; refine blk_far ?_ NB227_226.out _; refine blk_far ?_ NB227_226.out _; refine blk_far ?_ NB227_226.out _; exact BK227.out⟩, ⟨by repeat (first | (with_reducible first | exact HB.out | apply below_alloc | apply pw_below_drewN | apply below_drew1 | refine below_set ?_ GE226.out | refine below_set ?_ GE227.out | refine below_set ?_ GE244.out) | exact HB.out)⟩⟩
          · rw [if_neg c17] at H
            exact absurd H (by simp)
        · rw [if_neg c16] at H
          exact absurd H (by simp)
      · replace c14 := Bool.eq_false_iff.mpr c14
        subst c14
        have H1 : (some (p0_, p1_, p2_, p3_, p4_, p5_, p6_, x7_1, strOfNums x8_1)) = some (r1, r2, r3, r4, r5, r6, r7, r8, r9) := by rw [if_neg (show ¬ (false = true) by decide)] at H; exact H
        clear H
        have H := H1
        clear H1
        simp only [Option.some.injEq, Prod.mk.injEq] at H
        obtain ⟨rfl, rfl, rfl, rfl, rfl, rfl, rfl, rfl, rfl⟩ := H
        have hnb46 := NB226_227.out
        have hnc46 := NB227_226.out
        have hcz47_0 : wr.cell? ⟨gb226, 0, none⟩ = some (.int .i64 p0_) := (blk_cell BK226.out 0).trans rfl
        have hcz47_1 : wr.cell? ⟨gb226, 1, none⟩ = some (.int .i64 p1_) := (blk_cell BK226.out 1).trans rfl
        have hcz47_2 : wr.cell? ⟨gb226, 2, none⟩ = some (.string p2_) := (blk_cell BK226.out 2).trans rfl
        have hcz47_3 : wr.cell? ⟨gb226, 3, none⟩ = some (.string p3_) := (blk_cell BK226.out 3).trans rfl
        have hcz47_4 : wr.cell? ⟨gb226, 4, none⟩ = some (.int .i64 p4_) := (blk_cell BK226.out 4).trans rfl
        have hcz47_5 : wr.cell? ⟨gb226, 5, none⟩ = some (.int .i64 p5_) := (blk_cell BK226.out 5).trans rfl
        have hcz47_6 : wr.cell? ⟨gb226, 6, none⟩ = some (.int .i64 p6_) := (blk_cell BK226.out 6).trans rfl
        have hfz47_0 := blk_frozen BK226.out 0
        have hfz47_1 := blk_frozen BK226.out 1
        have hfz47_2 := blk_frozen BK226.out 2
        have hfz47_3 := blk_frozen BK226.out 3
        have hfz47_4 := blk_frozen BK226.out 4
        have hfz47_5 := blk_frozen BK226.out 5
        have hfz47_6 := blk_frozen BK226.out 6
        try go_wp2_with (first | ((with_reducible refine gate_callee (f := 77) rfl ?_); refine goesL_ (some 19) rfl rfl Try.func77 (by kernel_rfl) rfl #[.agg #[.int .i64 p0_, .int .i64 p1_, .string p2_, .string p3_, .int .i64 p4_, .int .i64 p5_, .int .i64 p6_], .string a1] rfl (by (try simp only [List.map_toArray, List.map_cons, List.map_nil]); first | done | rfl | (simp only [List.length_drop, List.length_take]; rfl)) ?_; (with_reducible refine (impl_Worm_eat.calls p0_ p1_ p2_ p3_ p4_ p5_ p6_ a1 t235 t236 t237 t238 t239 t240 t241 t242 false _ A13.out).mono ?_); rintro e w48 ⟨rfl, hb⟩; refine ⟨_, rfl, ?_⟩; have n0_ := Aside0.mk (Kd.R_below (by exact HO_7.out) hb); have n1_ := Aside0.mk (Kd.R_below (by exact HO_8.out) hb); have n2_ := Aside0.mk (blk_below (g := gb226) (o := .cells #[.int .i64 p0_, .int .i64 p1_, .string p2_, .string p3_, .int .i64 p4_, .int .i64 p5_, .int .i64 p6_] 27 (0, 0)) (by exact BK226.out) hb); have n3_ := Aside0.mk (blk_below (g := gb227) (o := .cells #[.int .i64 q0_, .int .i64 q1_, .string q2_, .string q3_, .int .i64 q4_, .int .i64 q5_, .int .i64 q6_] 27 (0, 0)) (by exact BK227.out) hb); have n4_ := Aside0.mk (below_step (by repeat (first | (with_reducible first | exact HB.out | apply below_alloc | apply pw_below_drewN | apply below_drew1 | refine below_set ?_ GE226.out | refine below_set ?_ GE227.out) | exact HB.out)) hb); clear HO_7; clear HO_8; clear BK226; clear BK227; clear HB; have HO_7 := n0_; have HO_8 := n1_; have BK226 := n2_; have BK227 := n3_; have HB := n4_; clear n0_ n1_ n2_ n3_ n4_; (try clear hb); (try clear hb2); (try clear hk); (try clear hi)) | ((with_reducible refine gate_dst (N := 9) rfl ?_); refine box_event ?hg (N := 9) ?hd (cs := #[.int .i64 0, .int .i64 0, .string (⟨#[]⟩ : ByteArray), .string (⟨#[]⟩ : ByteArray), .int .i64 0, .int .i64 0, .int .i64 0]) (t := 27) ?hr ?_; (case hd => rfl); (case hg => rfl); (case hr => first | (go_simp; done) | (go_simp; rfl)); intro gb244 hg w49 hbox hb; have n0_ := Aside0.mk (Kd.R_below (by exact HO_7.out) hb); have n1_ := Aside0.mk (Kd.R_below (by exact HO_8.out) hb); have n2_ := Aside0.mk (blk_below (g := gb226) (o := .cells #[.int .i64 p0_, .int .i64 p1_, .string p2_, .string p3_, .int .i64 p4_, .int .i64 p5_, .int .i64 p6_] 27 (0, 0)) (by exact BK226.out) hb); have n3_ := Aside0.mk (blk_below (g := gb227) (o := .cells #[.int .i64 q0_, .int .i64 q1_, .string q2_, .string q3_, .int .i64 q4_, .int .i64 q5_, .int .i64 q6_] 27 (0, 0)) (by exact BK227.out) hb); have n4_ := Aside0.mk (below_step (by repeat (first | (with_reducible first | exact HB.out | apply below_alloc | apply pw_below_drewN | apply below_drew1 | refine below_set ?_ GE226.out | refine below_set ?_ GE227.out) | exact HB.out)) hb); have n5_ := Aside0.mk (hbox); have n6_ := Aside0.mk ((by rw [hg]; exact (below_size (by repeat (first | (with_reducible first | exact HB.out | apply below_alloc | apply pw_below_drewN | apply below_drew1 | refine below_set ?_ GE226.out | refine below_set ?_ GE227.out) | exact HB.out))) : w.heap.size ≤ gb244)); have n7_ := Aside0.mk ((by rw [hg]; exact (below_size (by repeat (first | (with_reducible first | exact HB.out | apply below_alloc | apply pw_below_drewN | apply below_drew1 | refine below_set ?_ GE226.out | refine below_set ?_ GE227.out) | exact HB.out))) : w.heap.size ≤ gb244)); have n8_ := Aside0.mk ((by rw [hg]; exact Nat.ne_of_lt (blk_lt (g := gb226) (o := .cells #[.int .i64 p0_, .int .i64 p1_, .string p2_, .string p3_, .int .i64 p4_, .int .i64 p5_, .int .i64 p6_] 27 (0, 0)) (by exact BK226.out)) : gb226 ≠ gb244)); have n9_ := Aside0.mk ((by rw [hg]; exact Nat.ne_of_gt (blk_lt (g := gb226) (o := .cells #[.int .i64 p0_, .int .i64 p1_, .string p2_, .string p3_, .int .i64 p4_, .int .i64 p5_, .int .i64 p6_] 27 (0, 0)) (by exact BK226.out)) : gb244 ≠ gb226)); have n10_ := Aside0.mk ((by rw [hg]; exact Nat.ne_of_lt (blk_lt (g := gb227) (o := .cells #[.int .i64 q0_, .int .i64 q1_, .string q2_, .string q3_, .int .i64 q4_, .int .i64 q5_, .int .i64 q6_] 27 (0, 0)) (by exact BK227.out)) : gb227 ≠ gb244)); have n11_ := Aside0.mk ((by rw [hg]; exact Nat.ne_of_gt (blk_lt (g := gb227) (o := .cells #[.int .i64 q0_, .int .i64 q1_, .string q2_, .string q3_, .int .i64 q4_, .int .i64 q5_, .int .i64 q6_] 27 (0, 0)) (by exact BK227.out)) : gb244 ≠ gb227)); clear HO_7; clear HO_8; clear BK226; clear BK227; clear HB; have HO_7 := n0_; have HO_8 := n1_; have BK226 := n2_; have BK227 := n3_; have HB := n4_; have BK244 := n5_; have GW244 := n6_; have GE244 := n7_; have NB226_244 := n8_; have NB244_226 := n9_; have NB227_244 := n10_; have NB244_227 := n11_; clear n0_ n1_ n2_ n3_ n4_ n5_ n6_ n7_ n8_ n9_ n10_ n11_; clear hb hbox hg; have hnb50 := NB244_226.out; have hnc50 := NB226_244.out; have hnb51 := NB244_227.out; have hnc51 := NB227_244.out; have hcz52_0 : w49.cell? ⟨gb244, 0, none⟩ = some (.int .i64 0) := (blk_cell BK244.out 0).trans rfl; have hcz52_1 : w49.cell? ⟨gb244, 1, none⟩ = some (.int .i64 0) := (blk_cell BK244.out 1).trans rfl; have hcz52_2 : w49.cell? ⟨gb244, 2, none⟩ = some (.string (⟨#[]⟩ : ByteArray)) := (blk_cell BK244.out 2).trans rfl; have hcz52_3 : w49.cell? ⟨gb244, 3, none⟩ = some (.string (⟨#[]⟩ : ByteArray)) := (blk_cell BK244.out 3).trans rfl; have hcz52_4 : w49.cell? ⟨gb244, 4, none⟩ = some (.int .i64 0) := (blk_cell BK244.out 4).trans rfl; have hcz52_5 : w49.cell? ⟨gb244, 5, none⟩ = some (.int .i64 0) := (blk_cell BK244.out 5).trans rfl; have hcz52_6 : w49.cell? ⟨gb244, 6, none⟩ = some (.int .i64 0) := (blk_cell BK244.out 6).trans rfl; have hfz52_0 := blk_frozen BK244.out 0; have hfz52_1 := blk_frozen BK244.out 1; have hfz52_2 := blk_frozen BK244.out 2; have hfz52_3 := blk_frozen BK244.out 3; have hfz52_4 := blk_frozen BK244.out 4; have hfz52_5 := blk_frozen BK244.out 5; have hfz52_6 := blk_frozen BK244.out 6))
        have n0_ : Aside0 (Kd.R (Kd.int .i64) 3 (((((((w49.setCell ⟨gb244, 0, none⟩ (.int .i64 t235)).setCell ⟨gb244, 1, none⟩ (.int .i64 t236)).setCell ⟨gb244, 2, none⟩ (.string t237)).setCell ⟨gb244, 3, none⟩ (.string t238)).setCell ⟨gb244, 4, none⟩ (.int .i64 t239)).setCell ⟨gb244, 5, none⟩ (.int .i64 t240)).setCell ⟨gb244, 6, none⟩ (.int .i64 t241)) w.heap.size (fun _ => True) u7 x7_1) := ⟨by exact Kd.R_mono (Kd.R_far (p := ⟨gb244, 6, none⟩) (Kd.R_far (p := ⟨gb244, 5, none⟩) (Kd.R_far (p := ⟨gb244, 4, none⟩) (Kd.R_far (p := ⟨gb244, 3, none⟩) (Kd.R_far (p := ⟨gb244, 2, none⟩) (Kd.R_far (p := ⟨gb244, 1, none⟩) (Kd.R_far (p := ⟨gb244, 0, none⟩) (Kd.R_types HO_7.out BK244.out (by decide)) (fun _ hk => hk.2) (.int .i64 t235)) (fun _ hk => hk.2) (.int .i64 t236)) (fun _ hk => hk.2) (.string t237)) (fun _ hk => hk.2) (.string t238)) (fun _ hk => hk.2) (.int .i64 t239)) (fun _ hk => hk.2) (.int .i64 t240)) (fun _ hk => hk.2) (.int .i64 t241)) (fun _ hk => trivial)⟩
        have n1_ : Aside0 (Kd.R (Kd.int .u8) 5 (((((((w49.setCell ⟨gb244, 0, none⟩ (.int .i64 t235)).setCell ⟨gb244, 1, none⟩ (.int .i64 t236)).setCell ⟨gb244, 2, none⟩ (.string t237)).setCell ⟨gb244, 3, none⟩ (.string t238)).setCell ⟨gb244, 4, none⟩ (.int .i64 t239)).setCell ⟨gb244, 5, none⟩ (.int .i64 t240)).setCell ⟨gb244, 6, none⟩ (.int .i64 t241)) w.heap.size (fun _ => True) u8 x8_1) := ⟨by exact Kd.R_mono (Kd.R_far (p := ⟨gb244, 6, none⟩) (Kd.R_far (p := ⟨gb244, 5, none⟩) (Kd.R_far (p := ⟨gb244, 4, none⟩) (Kd.R_far (p := ⟨gb244, 3, none⟩) (Kd.R_far (p := ⟨gb244, 2, none⟩) (Kd.R_far (p := ⟨gb244, 1, none⟩) (Kd.R_far (p := ⟨gb244, 0, none⟩) (Kd.R_types HO_8.out BK244.out (by decide)) (fun _ hk => hk.2) (.int .i64 t235)) (fun _ hk => hk.2) (.int .i64 t236)) (fun _ hk => hk.2) (.string t237)) (fun _ hk => hk.2) (.string t238)) (fun _ hk => hk.2) (.int .i64 t239)) (fun _ hk => hk.2) (.int .i64 t240)) (fun _ hk => hk.2) (.int .i64 t241)) (fun _ hk => trivial)⟩
        have n2_ : Aside0 ((((((((w49.setCell ⟨gb244, 0, none⟩ (.int .i64 t235)).setCell ⟨gb244, 1, none⟩ (.int .i64 t236)).setCell ⟨gb244, 2, none⟩ (.string t237)).setCell ⟨gb244, 3, none⟩ (.string t238)).setCell ⟨gb244, 4, none⟩ (.int .i64 t239)).setCell ⟨gb244, 5, none⟩ (.int .i64 t240)).setCell ⟨gb244, 6, none⟩ (.int .i64 t241)).heap[gb226]? = some (.cells #[.int .i64 p0_, .int .i64 p1_, .string p2_, .string p3_, .int .i64 p4_, .int .i64 p5_, .int .i64 p6_] 27 (0, 0))) := ⟨by refine blk_far ?_ NB226_244.out _; refine blk_far ?_ NB226_244.out _; refine blk_far ?_ NB226_244.out _; refine blk_far ?_ NB226_244.out _; refine blk_far ?_ NB226_244.out _; refine blk_far ?_ NB226_244.out _; refine blk_far ?_ NB226_244.out _; exact BK226.out⟩
        have n3_ : Aside0 ((((((((w49.setCell ⟨gb244, 0, none⟩ (.int .i64 t235)).setCell ⟨gb244, 1, none⟩ (.int .i64 t236)).setCell ⟨gb244, 2, none⟩ (.string t237)).setCell ⟨gb244, 3, none⟩ (.string t238)).setCell ⟨gb244, 4, none⟩ (.int .i64 t239)).setCell ⟨gb244, 5, none⟩ (.int .i64 t240)).setCell ⟨gb244, 6, none⟩ (.int .i64 t241)).heap[gb227]? = some (.cells #[.int .i64 q0_, .int .i64 q1_, .string q2_, .string q3_, .int .i64 q4_, .int .i64 q5_, .int .i64 q6_] 27 (0, 0))) := ⟨by refine blk_far ?_ NB227_244.out _; refine blk_far ?_ NB227_244.out _; refine blk_far ?_ NB227_244.out _; refine blk_far ?_ NB227_244.out _; refine blk_far ?_ NB227_244.out _; refine blk_far ?_ NB227_244.out _; refine blk_far ?_ NB227_244.out _; exact BK227.out⟩
        have n4_ : Aside0 ((((((((w49.setCell ⟨gb244, 0, none⟩ (.int .i64 t235)).setCell ⟨gb244, 1, none⟩ (.int .i64 t236)).setCell ⟨gb244, 2, none⟩ (.string t237)).setCell ⟨gb244, 3, none⟩ (.string t238)).setCell ⟨gb244, 4, none⟩ (.int .i64 t239)).setCell ⟨gb244, 5, none⟩ (.int .i64 t240)).setCell ⟨gb244, 6, none⟩ (.int .i64 t241)).heap[gb244]? = some (.cells #[.int .i64 t235, .int .i64 t236, .string t237, .string t238, .int .i64 t239, .int .i64 t240, .int .i64 t241] 27 (0, 0))) := ⟨by refine blk_put (cs := #[.int .i64 t235, .int .i64 t236, .string t237, .string t238, .int .i64 t239, .int .i64 t240, .int .i64 0]) ?_ 6 _ rfl; refine blk_put (cs := #[.int .i64 t235, .int .i64 t236, .string t237, .string t238, .int .i64 t239, .int .i64 0, .int .i64 0]) ?_ 5 _ rfl; refine blk_put (cs := #[.int .i64 t235, .int .i64 t236, .string t237, .string t238, .int .i64 0, .int .i64 0, .int .i64 0]) ?_ 4 _ rfl; refine blk_put (cs := #[.int .i64 t235, .int .i64 t236, .string t237, .string (⟨#[]⟩ : ByteArray), .int .i64 0, .int .i64 0, .int .i64 0]) ?_ 3 _ rfl; refine blk_put (cs := #[.int .i64 t235, .int .i64 t236, .string (⟨#[]⟩ : ByteArray), .string (⟨#[]⟩ : ByteArray), .int .i64 0, .int .i64 0, .int .i64 0]) ?_ 2 _ rfl; refine blk_put (cs := #[.int .i64 t235, .int .i64 0, .string (⟨#[]⟩ : ByteArray), .string (⟨#[]⟩ : ByteArray), .int .i64 0, .int .i64 0, .int .i64 0]) ?_ 1 _ rfl; refine blk_put (cs := #[.int .i64 0, .int .i64 0, .string (⟨#[]⟩ : ByteArray), .string (⟨#[]⟩ : ByteArray), .int .i64 0, .int .i64 0, .int .i64 0]) ?_ 0 _ rfl; exact BK244.out⟩
        have n5_ : Aside0 (Below w.heap.size w (((((((w49.setCell ⟨gb244, 0, none⟩ (.int .i64 t235)).setCell ⟨gb244, 1, none⟩ (.int .i64 t236)).setCell ⟨gb244, 2, none⟩ (.string t237)).setCell ⟨gb244, 3, none⟩ (.string t238)).setCell ⟨gb244, 4, none⟩ (.int .i64 t239)).setCell ⟨gb244, 5, none⟩ (.int .i64 t240)).setCell ⟨gb244, 6, none⟩ (.int .i64 t241))) := ⟨by repeat (first | (with_reducible first | exact HB.out | apply below_alloc | apply pw_below_drewN | apply below_drew1 | refine below_set ?_ GE226.out | refine below_set ?_ GE227.out | refine below_set ?_ GE244.out) | exact HB.out)⟩
        (try clear HO_7)
        (try clear HO_8)
        (try clear BK226)
        (try clear BK227)
        (try clear BK244)
        (try clear HB)
        generalize (((((((w49.setCell ⟨gb244, 0, none⟩ (.int .i64 t235)).setCell ⟨gb244, 1, none⟩ (.int .i64 t236)).setCell ⟨gb244, 2, none⟩ (.string t237)).setCell ⟨gb244, 3, none⟩ (.string t238)).setCell ⟨gb244, 4, none⟩ (.int .i64 t239)).setCell ⟨gb244, 5, none⟩ (.int .i64 t240)).setCell ⟨gb244, 6, none⟩ (.int .i64 t241)) = w53 at n0_ n1_ n2_ n3_ n4_ n5_ ⊢
        have HO_7 := n0_
        have HO_8 := n1_
        have BK226 := n2_
        have BK227 := n3_
        have BK244 := n4_
        have HB := n5_
        clear n0_ n1_ n2_ n3_ n4_ n5_
        have n0_ := Aside0.mk (Kd.R_drew HO_7.out)
        have n1_ := Aside0.mk (Kd.R_drew HO_8.out)
        have n2_ := Aside0.mk (blk_drew BK226.out)
        have n3_ := Aside0.mk (blk_drew BK227.out)
        have n4_ := Aside0.mk (blk_drew BK244.out)
        have n5_ := Aside0.mk (below_drew1 HB.out)
        clear HO_7
        clear HO_8
        clear BK226
        clear BK227
        clear BK244
        clear HB
        have HO_7 := n0_
        have HO_8 := n1_
        have BK226 := n2_
        have BK227 := n3_
        have BK244 := n4_
        have HB := n5_
        clear n0_ n1_ n2_ n3_ n4_ n5_
        have hcv55 := own_string (P := Try.prog) Try.underlying100 Try.underlying5 Try.underlying9 (Kd.own_of_R HO_8.out)
        refine start_ (n := 7) (S := fun w' => w'.cell? ⟨gb226, 0, none⟩ = some (.int .i64 p0_) ∧ w'.cell? ⟨gb226, 1, none⟩ = some (.int .i64 p1_) ∧ w'.cell? ⟨gb226, 2, none⟩ = some (.string p2_) ∧ w'.cell? ⟨gb226, 3, none⟩ = some (.string p3_) ∧ w'.cell? ⟨gb226, 4, none⟩ = some (.int .i64 p4_) ∧ w'.cell? ⟨gb226, 5, none⟩ = some (.int .i64 p5_) ∧ w'.cell? ⟨gb226, 6, none⟩ = some (.int .i64 p6_) ∧ (convert 100 9 u8).run Try.prog w' = .ok (.string (strOfNums x8_1)) w') (ds := []) #[false, false, false, false, false, false, false] (by kernel_rfl) rfl rfl ⟨(blk_cell BK226.out 0).trans rfl, (blk_cell BK226.out 1).trans rfl, (blk_cell BK226.out 2).trans rfl, (blk_cell BK226.out 3).trans rfl, (blk_cell BK226.out 4).trans rfl, (blk_cell BK226.out 5).trans rfl, (blk_cell BK226.out 6).trans rfl, hcv55⟩ (fun hHeld => ?_)
        generalize w53.drew = w54 at HO_7 HO_8 BK226 BK227 BK244 HB hHeld ⊢
        refine pure_ (i := 1) (N := some 26) (v := ?_) (a' := ?_) #[false, true, false, false, false, false, false] rfl rfl (by kernel_rfl) (fun _ _ _ h => h) (Or.inl ⟨by rfl, ?_⟩) ?_ ?_
        rotate_left
        · intro w'
          go_simp
          with_reducible rfl
        rotate_left
        · simp only [Act.put, List.setIfInBounds_toArray, List.set_cons_zero, List.set_cons_succ, i64_w, i32_w]
          rfl
        refine pure_ (i := 2) (N := some 27) (v := ?_) (a' := ?_) #[false, true, true, false, false, false, false] rfl rfl (by kernel_rfl) (fun _ _ _ h => h) (Or.inl ⟨by rfl, ?_⟩) ?_ ?_
        rotate_left
        · intro w'
          go_simp
          with_reducible rfl
        rotate_left
        · simp only [Act.put, List.setIfInBounds_toArray, List.set_cons_zero, List.set_cons_succ, i64_w, i32_w]
          rfl
        refine take_ (i := 3) (N := some 28) (v := ?_) (a' := ?_) #[false, true, true, true, false, false, false] rfl rfl (by kernel_rfl) (fun _ _ _ h => h) (Or.inl ⟨by rfl, ?_⟩) hHeld ?_ ?_
        rotate_left
        · rintro w' ⟨s0, s1, s2, s3, s4, s5, s6, s7⟩
          go_simp
          with_reducible rfl
        rotate_left
        · simp only [Act.put, List.setIfInBounds_toArray, List.set_cons_zero, List.set_cons_succ, i64_w, i32_w]
          rfl
        refine take_ (i := 0) (N := some 25) (v := ?_) (a' := ?_) #[true, true, true, true, false, false, false] rfl rfl (by kernel_rfl) (fun _ _ _ h => h) (Or.inl ⟨by rfl, ?_⟩) hHeld ?_ ?_
        rotate_left
        · rintro w' ⟨s0, s1, s2, s3, s4, s5, s6, s7⟩
          go_simp
          with_reducible rfl
        rotate_left
        · simp only [Act.put, List.setIfInBounds_toArray, List.set_cons_zero, List.set_cons_succ, i64_w, i32_w]
          rfl
        refine one_ (i := 4) (N := none) #[true, true, true, true, true, false, false] rfl rfl (by kernel_rfl) (by decide) (fun K hK => ?_)
        have hs56 : w54.cell? ⟨gb227, 0, none⟩ = some (.int .i64 q0_) := (blk_cell BK227.out 0).trans rfl
        have hfs56 := blk_frozen BK227.out 0
        have hns56_0 := NB226_227.out
        have hns56_2 := NB244_227.out
        have hms56_0 := NB227_226.out
        have hms56_2 := NB227_244.out
        have hs57 : w54.cell? ⟨gb227, 1, none⟩ = some (.int .i64 q1_) := (blk_cell BK227.out 1).trans rfl
        have hfs57 := blk_frozen BK227.out 1
        have hns57_0 := NB226_227.out
        have hns57_2 := NB244_227.out
        have hms57_0 := NB227_226.out
        have hms57_2 := NB227_244.out
        have hs58 : w54.cell? ⟨gb227, 2, none⟩ = some (.string q2_) := (blk_cell BK227.out 2).trans rfl
        have hfs58 := blk_frozen BK227.out 2
        have hns58_0 := NB226_227.out
        have hns58_2 := NB244_227.out
        have hms58_0 := NB227_226.out
        have hms58_2 := NB227_244.out
        have hs59 : w54.cell? ⟨gb227, 3, none⟩ = some (.string q3_) := (blk_cell BK227.out 3).trans rfl
        have hfs59 := blk_frozen BK227.out 3
        have hns59_0 := NB226_227.out
        have hns59_2 := NB244_227.out
        have hms59_0 := NB227_226.out
        have hms59_2 := NB227_244.out
        have hs60 : w54.cell? ⟨gb227, 4, none⟩ = some (.int .i64 q4_) := (blk_cell BK227.out 4).trans rfl
        have hfs60 := blk_frozen BK227.out 4
        have hns60_0 := NB226_227.out
        have hns60_2 := NB244_227.out
        have hms60_0 := NB227_226.out
        have hms60_2 := NB227_244.out
        have hs61 : w54.cell? ⟨gb227, 5, none⟩ = some (.int .i64 q5_) := (blk_cell BK227.out 5).trans rfl
        have hfs61 := blk_frozen BK227.out 5
        have hns61_0 := NB226_227.out
        have hns61_2 := NB244_227.out
        have hms61_0 := NB227_226.out
        have hms61_2 := NB227_244.out
        have hs62 : w54.cell? ⟨gb227, 6, none⟩ = some (.int .i64 q6_) := (blk_cell BK227.out 6).trans rfl
        have hfs62 := blk_frozen BK227.out 6
        have hns62_0 := NB226_227.out
        have hns62_2 := NB244_227.out
        have hms62_0 := NB227_226.out
        have hms62_2 := NB227_244.out
        refine skip_ (w1 := ?_) (by rfl) rfl ?_ ?_
        rotate_left
        · go_simp
          rfl
        refine hK.out _ _ ⟨((cell_far (p := ⟨gb227, _, none⟩) NB226_227.out _).trans (((cell_far (p := ⟨gb227, _, none⟩) NB226_227.out _).trans (((cell_far (p := ⟨gb227, _, none⟩) NB226_227.out _).trans (((cell_far (p := ⟨gb227, _, none⟩) NB226_227.out _).trans (((cell_far (p := ⟨gb227, _, none⟩) NB226_227.out _).trans (((cell_far (p := ⟨gb227, _, none⟩) NB226_227.out _).trans (((cell_far (p := ⟨gb227, _, none⟩) NB226_227.out _).trans (hHeld.1)))))))))))))), ((cell_far (p := ⟨gb227, _, none⟩) NB226_227.out _).trans (((cell_far (p := ⟨gb227, _, none⟩) NB226_227.out _).trans (((cell_far (p := ⟨gb227, _, none⟩) NB226_227.out _).trans (((cell_far (p := ⟨gb227, _, none⟩) NB226_227.out _).trans (((cell_far (p := ⟨gb227, _, none⟩) NB226_227.out _).trans (((cell_far (p := ⟨gb227, _, none⟩) NB226_227.out _).trans (((cell_far (p := ⟨gb227, _, none⟩) NB226_227.out _).trans (hHeld.2.1)))))))))))))), ((cell_far (p := ⟨gb227, _, none⟩) NB226_227.out _).trans (((cell_far (p := ⟨gb227, _, none⟩) NB226_227.out _).trans (((cell_far (p := ⟨gb227, _, none⟩) NB226_227.out _).trans (((cell_far (p := ⟨gb227, _, none⟩) NB226_227.out _).trans (((cell_far (p := ⟨gb227, _, none⟩) NB226_227.out _).trans (((cell_far (p := ⟨gb227, _, none⟩) NB226_227.out _).trans (((cell_far (p := ⟨gb227, _, none⟩) NB226_227.out _).trans (hHeld.2.2.1)))))))))))))), ((cell_far (p := ⟨gb227, _, none⟩) NB226_227.out _).trans (((cell_far (p := ⟨gb227, _, none⟩) NB226_227.out _).trans (((cell_far (p := ⟨gb227, _, none⟩) NB226_227.out _).trans (((cell_far (p := ⟨gb227, _, none⟩) NB226_227.out _).trans (((cell_far (p := ⟨gb227, _, none⟩) NB226_227.out _).trans (((cell_far (p := ⟨gb227, _, none⟩) NB226_227.out _).trans (((cell_far (p := ⟨gb227, _, none⟩) NB226_227.out _).trans (hHeld.2.2.2.1)))))))))))))), ((cell_far (p := ⟨gb227, _, none⟩) NB226_227.out _).trans (((cell_far (p := ⟨gb227, _, none⟩) NB226_227.out _).trans (((cell_far (p := ⟨gb227, _, none⟩) NB226_227.out _).trans (((cell_far (p := ⟨gb227, _, none⟩) NB226_227.out _).trans (((cell_far (p := ⟨gb227, _, none⟩) NB226_227.out _).trans (((cell_far (p := ⟨gb227, _, none⟩) NB226_227.out _).trans (((cell_far (p := ⟨gb227, _, none⟩) NB226_227.out _).trans (hHeld.2.2.2.2.1)))))))))))))), ((cell_far (p := ⟨gb227, _, none⟩) NB226_227.out _).trans (((cell_far (p := ⟨gb227, _, none⟩) NB226_227.out _).trans (((cell_far (p := ⟨gb227, _, none⟩) NB226_227.out _).trans (((cell_far (p := ⟨gb227, _, none⟩) NB226_227.out _).trans (((cell_far (p := ⟨gb227, _, none⟩) NB226_227.out _).trans (((cell_far (p := ⟨gb227, _, none⟩) NB226_227.out _).trans (((cell_far (p := ⟨gb227, _, none⟩) NB226_227.out _).trans (hHeld.2.2.2.2.2.1)))))))))))))), ((cell_far (p := ⟨gb227, _, none⟩) NB226_227.out _).trans (((cell_far (p := ⟨gb227, _, none⟩) NB226_227.out _).trans (((cell_far (p := ⟨gb227, _, none⟩) NB226_227.out _).trans (((cell_far (p := ⟨gb227, _, none⟩) NB226_227.out _).trans (((cell_far (p := ⟨gb227, _, none⟩) NB226_227.out _).trans (((cell_far (p := ⟨gb227, _, none⟩) NB226_227.out _).trans (((cell_far (p := ⟨gb227, _, none⟩) NB226_227.out _).trans (hHeld.2.2.2.2.2.2.1)))))))))))))), own_string (P := Try.prog) Try.underlying100 Try.underlying5 Try.underlying9 (Kd.own_of_R (Kd.R_mono (Kd.R_far (p := ⟨gb227, 6, none⟩) (Kd.R_far (p := ⟨gb227, 5, none⟩) (Kd.R_far (p := ⟨gb227, 4, none⟩) (Kd.R_far (p := ⟨gb227, 3, none⟩) (Kd.R_far (p := ⟨gb227, 2, none⟩) (Kd.R_far (p := ⟨gb227, 1, none⟩) (Kd.R_far (p := ⟨gb227, 0, none⟩) (Kd.R_types HO_8.out BK227.out (by decide)) (fun _ hk => hk.2) (.int .i64 p0_)) (fun _ hk => hk.2) (.int .i64 p1_)) (fun _ hk => hk.2) (.string p2_)) (fun _ hk => hk.2) (.string p3_)) (fun _ hk => hk.2) (.int .i64 p4_)) (fun _ hk => hk.2) (.int .i64 p5_)) (fun _ hk => hk.2) (.int .i64 p6_)) (fun _ hk => trivial)))⟩ (fun hHeld => ?_)
        clear hK K
        refine pure_ (i := 5) (N := some 5) (v := ?_) (a' := ?_) #[true, true, true, true, true, true, false] rfl rfl (by kernel_rfl) (fun _ _ _ h => h) (Or.inl ⟨by rfl, ?_⟩) ?_ ?_
        rotate_left
        · intro w'
          go_simp
          with_reducible rfl
        rotate_left
        · simp only [Act.put, List.setIfInBounds_toArray, List.set_cons_zero, List.set_cons_succ, i64_w, i32_w]
          rfl
        refine pure_ (i := 6) (N := some 6) (v := ?_) (a' := ?_) #[true, true, true, true, true, true, true] rfl rfl (by kernel_rfl) (fun _ _ _ h => h) (Or.inl ⟨by rfl, ?_⟩) ?_ ?_
        rotate_left
        · intro w'
          go_simp
          with_reducible rfl
        rotate_left
        · simp only [Act.put, List.setIfInBounds_toArray, List.set_cons_zero, List.set_cons_succ, i64_w, i32_w]
          rfl
        refine done_ (by kernel_rfl) ?_
        try go_wp2
        have HF := ((((((((show IsS27 w w54 gb227 q0_ q1_ q2_ q3_ q4_ q5_ q6_ from ⟨BK227.out, GE227.out⟩).set_0 p0_).set_1 p1_).set_2 p2_).set_3 p3_).set_4 p4_).set_5 p5_).set_6 p6_)
        refine bodyPost_ret (results_ctt rfl _ _ gb227 27 _ (0, 0) _ rfl HF.1 Try.underlying27 rfl (by kernel_rfl)) rfl ?_
        exact ⟨_, rfl, (Kd.R_mono (Kd.R_far (p := ⟨gb227, 6, none⟩) (Kd.R_far (p := ⟨gb227, 5, none⟩) (Kd.R_far (p := ⟨gb227, 4, none⟩) (Kd.R_far (p := ⟨gb227, 3, none⟩) (Kd.R_far (p := ⟨gb227, 2, none⟩) (Kd.R_far (p := ⟨gb227, 1, none⟩) (Kd.R_far (p := ⟨gb227, 0, none⟩) (Kd.R_types HO_7.out BK227.out (by decide)) (fun _ hk => hk.2) (.int .i64 p0_)) (fun _ hk => hk.2) (.int .i64 p1_)) (fun _ hk => hk.2) (.string p2_)) (fun _ hk => hk.2) (.string p3_)) (fun _ hk => hk.2) (.int .i64 p4_)) (fun _ hk => hk.2) (.int .i64 p5_)) (fun _ hk => hk.2) (.int .i64 p6_)) (fun _ hk => trivial)), (below_set (below_set (below_set (below_set (below_set (below_set (below_set HB.out GE227.out) GE227.out) GE227.out) GE227.out) GE227.out) GE227.out) GE227.out)⟩

end Go.Proofs.Ytgifhfkpfgpagaa.PI
