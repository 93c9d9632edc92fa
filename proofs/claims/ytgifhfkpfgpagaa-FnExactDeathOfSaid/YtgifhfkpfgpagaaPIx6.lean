-- Printed for this claim by gprint.py, a program of this session round the kit's printer. Lean checks it.
import Derived.Test.YtgifhfkpfgpagaaPIx0
import Derived.Test.YtgifhfkpfgpagaaPIx3
import Derived.Test.YtgifhfkpfgpagaaPIx4
import Derived.Test.YtgifhfkpfgpagaaPIx5
namespace Go.Proofs.Ytgifhfkpfgpagaa.PI
open Go.RowKit Go.Proofs.YtgifhfkpfgpagaaW.PrintWords Go.Proofs.YtgifhfkpfgpagaaW.PrintLast Go.Proofs.YtgifhfkpfgpagaaW.PrintMore
attribute [local go_sem] max2_int min2_int max_two min_two max_three min_three max_four min_four   -- for this text's walks alone
set_option linter.unusedVariables false
set_option linter.unusedSimpArgs false

/-! ### impl_Worm_there: function 64 -/
def impl_Worm_there.f (a0_0 : Int) (a0_1 : Int) (a0_2 : ByteArray) (a0_3 : ByteArray) (a0_4 : Int) (a0_5 : Int) (a0_6 : Int) (a1 : Int) (a2 : Int) : Option (Bool) := (impl_Worm_line.f a0_0 a0_1 a0_2 a0_3 a0_4 a0_5 a0_6 a1 a2).bind fun bt221 => (if bt221.1 = true then (if 0 ≤ bt221.2 then (if bt221.2 < (a0_2.size : Int) then (some ((bt a0_2 bt221.2) == 49)) else (none)) else (none)) else (if 0 ≤ bt221.2 then (if bt221.2 < (a0_3.size : Int) then (some ((bt a0_3 bt221.2) == 49)) else (none)) else (none)))
set_option maxHeartbeats 8000000 in
set_option maxRecDepth 100000 in
theorem impl_Worm_there.calls (a0_0 : Int) (a0_1 : Int) (a0_2 : ByteArray) (a0_3 : ByteArray) (a0_4 : Int) (a0_5 : Int) (a0_6 : Int) (a1 : Int) (a2 : Int) (r : Bool) (w : World) (h : impl_Worm_there.f a0_0 a0_1 a0_2 a0_3 a0_4 a0_5 a0_6 a1 a2 = some r) :
    Calls Try.prog 64 #[.agg #[.int .i64 a0_0, .int .i64 a0_1, .string a0_2, .string a0_3, .int .i64 a0_4, .int .i64 a0_5, .int .i64 a0_6], .int .i64 a1, .int .i64 a2] w fun e w' => e = .returned (.bool r) ∧ Below w.heap.size w w' := by
  have hu27 := Try.underlying27
  have HB := Aside0.mk (Below.refl w.heap.size w)
  have H : ((impl_Worm_line.f a0_0 a0_1 a0_2 a0_3 a0_4 a0_5 a0_6 a1 a2).bind fun bt221 => (if bt221.1 = true then (if 0 ≤ bt221.2 then (if bt221.2 < (a0_2.size : Int) then (some ((bt a0_2 bt221.2) == 49)) else (none)) else (none)) else (if 0 ≤ bt221.2 then (if bt221.2 < (a0_3.size : Int) then (some ((bt a0_3 bt221.2) == 49)) else (none)) else (none)))) = some r := h
  clear h
  replace H := Option.bind_eq_some_iff.mp H
  obtain ⟨⟨t221, t222⟩, A40, H⟩ := H
  replace H : (if t221 = true then (if 0 ≤ t222 then (if t222 < (a0_2.size : Int) then (some ((bt a0_2 t222) == 49)) else (none)) else (none)) else (if 0 ≤ t222 then (if t222 < (a0_3.size : Int) then (some ((bt a0_3 t222) == 49)) else (none)) else (none))) = some r := H
  have A4 := Aside0.mk A40
  clear A40
  by_cases c5 : t221 = true
  · subst c5
    have H1 : (if 0 ≤ t222 then (if t222 < (a0_2.size : Int) then (some ((bt a0_2 t222) == 49)) else (none)) else (none)) = some r := by rw [if_pos rfl] at H; exact H
    clear H
    have H := H1
    clear H1
    by_cases c6 : 0 ≤ t222
    · rw [if_pos c6] at H
      have c6b0 : decide (0 ≤ t222) = true := decide_eq_true c6
      clear c6
      by_cases c7 : t222 < (a0_2.size : Int)
      · rw [if_pos c7] at H
        have c7b0 : decide (t222 < (a0_2.size : Int)) = true := decide_eq_true c7
        clear c7
        obtain rfl := Option.some.inj H
        go_enter Try.func64, Try.ntmps64
        go_wp2_with (first | ((with_reducible refine gate_dst (N := 3) rfl ?_); refine box_event ?hg (N := 3) ?hd (cs := #[.int .i64 a0_0, .int .i64 a0_1, .string a0_2, .string a0_3, .int .i64 a0_4, .int .i64 a0_5, .int .i64 a0_6]) (t := 27) ?hr ?_; (case hd => rfl); (case hg => rfl); (case hr => first | (go_simp; done) | (go_simp; rfl)); intro gb220 hg w9 hbox hb; have n0_ := Aside0.mk (below_step (by repeat (first | (with_reducible first | exact HB.out | apply below_alloc | apply pw_below_drewN | apply below_drew1) | exact HB.out)) hb); have n1_ := Aside0.mk (hbox); have n2_ := Aside0.mk ((by rw [hg]; exact (below_size (by repeat (first | (with_reducible first | exact HB.out | apply below_alloc | apply pw_below_drewN | apply below_drew1) | exact HB.out))) : w.heap.size ≤ gb220)); have n3_ := Aside0.mk ((by rw [hg]; exact (below_size (by repeat (first | (with_reducible first | exact HB.out | apply below_alloc | apply pw_below_drewN | apply below_drew1) | exact HB.out))) : w.heap.size ≤ gb220)); clear HB; have HB := n0_; have BK220 := n1_; have GW220 := n2_; have GE220 := n3_; clear n0_ n1_ n2_ n3_; clear hb hbox hg; have hcz10_0 : w9.cell? ⟨gb220, 0, none⟩ = some (.int .i64 a0_0) := (blk_cell BK220.out 0).trans rfl; have hcz10_1 : w9.cell? ⟨gb220, 1, none⟩ = some (.int .i64 a0_1) := (blk_cell BK220.out 1).trans rfl; have hcz10_2 : w9.cell? ⟨gb220, 2, none⟩ = some (.string a0_2) := (blk_cell BK220.out 2).trans rfl; have hcz10_3 : w9.cell? ⟨gb220, 3, none⟩ = some (.string a0_3) := (blk_cell BK220.out 3).trans rfl; have hcz10_4 : w9.cell? ⟨gb220, 4, none⟩ = some (.int .i64 a0_4) := (blk_cell BK220.out 4).trans rfl; have hcz10_5 : w9.cell? ⟨gb220, 5, none⟩ = some (.int .i64 a0_5) := (blk_cell BK220.out 5).trans rfl; have hcz10_6 : w9.cell? ⟨gb220, 6, none⟩ = some (.int .i64 a0_6) := (blk_cell BK220.out 6).trans rfl; have hfz10_0 := blk_frozen BK220.out 0; have hfz10_1 := blk_frozen BK220.out 1; have hfz10_2 := blk_frozen BK220.out 2; have hfz10_3 := blk_frozen BK220.out 3; have hfz10_4 := blk_frozen BK220.out 4; have hfz10_5 := blk_frozen BK220.out 5; have hfz10_6 := blk_frozen BK220.out 6) | ((with_reducible refine gate_callee (f := 89) rfl ?_); refine goesL_ (some 13) rfl rfl Try.func89 (by kernel_rfl) rfl #[.agg #[.int .i64 a0_0, .int .i64 a0_1, .string a0_2, .string a0_3, .int .i64 a0_4, .int .i64 a0_5, .int .i64 a0_6], .int .i64 a1, .int .i64 a2] rfl (by (try simp only [List.map_toArray, List.map_cons, List.map_nil]); first | done | rfl | (simp only [List.length_drop, List.length_take]; rfl)) ?_; (with_reducible refine (impl_Worm_line.calls a0_0 a0_1 a0_2 a0_3 a0_4 a0_5 a0_6 a1 a2 true t222 _ A4.out).mono ?_); rintro e w11 ⟨rfl, hb⟩; refine ⟨_, rfl, ?_⟩; have n0_ := Aside0.mk (blk_below (g := gb220) (o := .cells #[.int .i64 a0_0, .int .i64 a0_1, .string a0_2, .string a0_3, .int .i64 a0_4, .int .i64 a0_5, .int .i64 a0_6] 27 (0, 0)) (by (with_reducible repeat (first | refine blk_drewN ?_ _ | refine blk_drew ?_ | refine blk_alloc ?_ _)); exact BK220.out) hb); have n1_ := Aside0.mk (below_step (by repeat (first | (with_reducible first | exact HB.out | apply below_alloc | apply pw_below_drewN | apply below_drew1 | refine below_set ?_ GE220.out) | exact HB.out)) hb); clear BK220; clear HB; have BK220 := n0_; have HB := n1_; clear n0_ n1_; (try clear hb); (try clear hb2); (try clear hk); (try clear hi); have hcz12_0 : w11.cell? ⟨gb220, 0, none⟩ = some (.int .i64 a0_0) := (blk_cell BK220.out 0).trans rfl; have hcz12_1 : w11.cell? ⟨gb220, 1, none⟩ = some (.int .i64 a0_1) := (blk_cell BK220.out 1).trans rfl; have hcz12_2 : w11.cell? ⟨gb220, 2, none⟩ = some (.string a0_2) := (blk_cell BK220.out 2).trans rfl; have hcz12_3 : w11.cell? ⟨gb220, 3, none⟩ = some (.string a0_3) := (blk_cell BK220.out 3).trans rfl; have hcz12_4 : w11.cell? ⟨gb220, 4, none⟩ = some (.int .i64 a0_4) := (blk_cell BK220.out 4).trans rfl; have hcz12_5 : w11.cell? ⟨gb220, 5, none⟩ = some (.int .i64 a0_5) := (blk_cell BK220.out 5).trans rfl; have hcz12_6 : w11.cell? ⟨gb220, 6, none⟩ = some (.int .i64 a0_6) := (blk_cell BK220.out 6).trans rfl; have hfz12_0 := blk_frozen BK220.out 0; have hfz12_1 := blk_frozen BK220.out 1; have hfz12_2 := blk_frozen BK220.out 2; have hfz12_3 := blk_frozen BK220.out 3; have hfz12_4 := blk_frozen BK220.out 4; have hfz12_5 := blk_frozen BK220.out 5; have hfz12_6 := blk_frozen BK220.out 6; have p8 : 0 ≤ (t222 : Int) := of_decide_eq_true (by first | (with_reducible assumption) | assumption); have q8 : t222 < (a0_2.size : Int) := of_decide_eq_true (by first | (with_reducible assumption) | assumption); have hx8 := bt_at a0_2 t222; replace p8 := eq_true p8; replace q8 := eq_true q8))
        go_ret
        exact ⟨by first | rfl | (simp [errW_none, errW_some] <;> rfl) | (simp [*, errW_none, errW_some] <;> rfl), by repeat (first | (with_reducible first | exact HB.out | apply below_alloc | apply pw_below_drewN | apply below_drew1 | refine below_set ?_ GE220.out) | exact HB.out)⟩
      · rw [if_neg c7] at H
        exact absurd H (by simp)
    · rw [if_neg c6] at H
      exact absurd H (by simp)
  · replace c5 := Bool.eq_false_iff.mpr c5
    subst c5
    have H1 : (if 0 ≤ t222 then (if t222 < (a0_3.size : Int) then (some ((bt a0_3 t222) == 49)) else (none)) else (none)) = some r := by rw [if_neg (show ¬ (false = true) by decide)] at H; exact H
    clear H
    have H := H1
    clear H1
    by_cases c13 : 0 ≤ t222
    · rw [if_pos c13] at H
      have c13b0 : decide (0 ≤ t222) = true := decide_eq_true c13
      clear c13
      by_cases c14 : t222 < (a0_3.size : Int)
      · rw [if_pos c14] at H
        have c14b0 : decide (t222 < (a0_3.size : Int)) = true := decide_eq_true c14
        clear c14
        obtain rfl := Option.some.inj H
        go_enter Try.func64, Try.ntmps64
        go_wp2_with (first | ((with_reducible refine gate_dst (N := 3) rfl ?_); refine box_event ?hg (N := 3) ?hd (cs := #[.int .i64 a0_0, .int .i64 a0_1, .string a0_2, .string a0_3, .int .i64 a0_4, .int .i64 a0_5, .int .i64 a0_6]) (t := 27) ?hr ?_; (case hd => rfl); (case hg => rfl); (case hr => first | (go_simp; done) | (go_simp; rfl)); intro gb220 hg w16 hbox hb; have n0_ := Aside0.mk (below_step (by repeat (first | (with_reducible first | exact HB.out | apply below_alloc | apply pw_below_drewN | apply below_drew1) | exact HB.out)) hb); have n1_ := Aside0.mk (hbox); have n2_ := Aside0.mk ((by rw [hg]; exact (below_size (by repeat (first | (with_reducible first | exact HB.out | apply below_alloc | apply pw_below_drewN | apply below_drew1) | exact HB.out))) : w.heap.size ≤ gb220)); have n3_ := Aside0.mk ((by rw [hg]; exact (below_size (by repeat (first | (with_reducible first | exact HB.out | apply below_alloc | apply pw_below_drewN | apply below_drew1) | exact HB.out))) : w.heap.size ≤ gb220)); clear HB; have HB := n0_; have BK220 := n1_; have GW220 := n2_; have GE220 := n3_; clear n0_ n1_ n2_ n3_; clear hb hbox hg; have hcz17_0 : w16.cell? ⟨gb220, 0, none⟩ = some (.int .i64 a0_0) := (blk_cell BK220.out 0).trans rfl; have hcz17_1 : w16.cell? ⟨gb220, 1, none⟩ = some (.int .i64 a0_1) := (blk_cell BK220.out 1).trans rfl; have hcz17_2 : w16.cell? ⟨gb220, 2, none⟩ = some (.string a0_2) := (blk_cell BK220.out 2).trans rfl; have hcz17_3 : w16.cell? ⟨gb220, 3, none⟩ = some (.string a0_3) := (blk_cell BK220.out 3).trans rfl; have hcz17_4 : w16.cell? ⟨gb220, 4, none⟩ = some (.int .i64 a0_4) := (blk_cell BK220.out 4).trans rfl; have hcz17_5 : w16.cell? ⟨gb220, 5, none⟩ = some (.int .i64 a0_5) := (blk_cell BK220.out 5).trans rfl; have hcz17_6 : w16.cell? ⟨gb220, 6, none⟩ = some (.int .i64 a0_6) := (blk_cell BK220.out 6).trans rfl; have hfz17_0 := blk_frozen BK220.out 0; have hfz17_1 := blk_frozen BK220.out 1; have hfz17_2 := blk_frozen BK220.out 2; have hfz17_3 := blk_frozen BK220.out 3; have hfz17_4 := blk_frozen BK220.out 4; have hfz17_5 := blk_frozen BK220.out 5; have hfz17_6 := blk_frozen BK220.out 6) | ((with_reducible refine gate_callee (f := 89) rfl ?_); refine goesL_ (some 13) rfl rfl Try.func89 (by kernel_rfl) rfl #[.agg #[.int .i64 a0_0, .int .i64 a0_1, .string a0_2, .string a0_3, .int .i64 a0_4, .int .i64 a0_5, .int .i64 a0_6], .int .i64 a1, .int .i64 a2] rfl (by (try simp only [List.map_toArray, List.map_cons, List.map_nil]); first | done | rfl | (simp only [List.length_drop, List.length_take]; rfl)) ?_; (with_reducible refine (impl_Worm_line.calls a0_0 a0_1 a0_2 a0_3 a0_4 a0_5 a0_6 a1 a2 false t222 _ A4.out).mono ?_); rintro e w18 ⟨rfl, hb⟩; refine ⟨_, rfl, ?_⟩; have n0_ := Aside0.mk (blk_below (g := gb220) (o := .cells #[.int .i64 a0_0, .int .i64 a0_1, .string a0_2, .string a0_3, .int .i64 a0_4, .int .i64 a0_5, .int .i64 a0_6] 27 (0, 0)) (by (with_reducible repeat (first | refine blk_drewN ?_ _ | refine blk_drew ?_ | refine blk_alloc ?_ _)); exact BK220.out) hb); have n1_ := Aside0.mk (below_step (by repeat (first | (with_reducible first | exact HB.out | apply below_alloc | apply pw_below_drewN | apply below_drew1 | refine below_set ?_ GE220.out) | exact HB.out)) hb); clear BK220; clear HB; have BK220 := n0_; have HB := n1_; clear n0_ n1_; (try clear hb); (try clear hb2); (try clear hk); (try clear hi); have hcz19_0 : w18.cell? ⟨gb220, 0, none⟩ = some (.int .i64 a0_0) := (blk_cell BK220.out 0).trans rfl; have hcz19_1 : w18.cell? ⟨gb220, 1, none⟩ = some (.int .i64 a0_1) := (blk_cell BK220.out 1).trans rfl; have hcz19_2 : w18.cell? ⟨gb220, 2, none⟩ = some (.string a0_2) := (blk_cell BK220.out 2).trans rfl; have hcz19_3 : w18.cell? ⟨gb220, 3, none⟩ = some (.string a0_3) := (blk_cell BK220.out 3).trans rfl; have hcz19_4 : w18.cell? ⟨gb220, 4, none⟩ = some (.int .i64 a0_4) := (blk_cell BK220.out 4).trans rfl; have hcz19_5 : w18.cell? ⟨gb220, 5, none⟩ = some (.int .i64 a0_5) := (blk_cell BK220.out 5).trans rfl; have hcz19_6 : w18.cell? ⟨gb220, 6, none⟩ = some (.int .i64 a0_6) := (blk_cell BK220.out 6).trans rfl; have hfz19_0 := blk_frozen BK220.out 0; have hfz19_1 := blk_frozen BK220.out 1; have hfz19_2 := blk_frozen BK220.out 2; have hfz19_3 := blk_frozen BK220.out 3; have hfz19_4 := blk_frozen BK220.out 4; have hfz19_5 := blk_frozen BK220.out 5; have hfz19_6 := blk_frozen BK220.out 6; have p15 : 0 ≤ (t222 : Int) := of_decide_eq_true (by first | (with_reducible assumption) | assumption); have q15 : t222 < (a0_3.size : Int) := of_decide_eq_true (by first | (with_reducible assumption) | assumption); have hx15 := bt_at a0_3 t222; replace p15 := eq_true p15; replace q15 := eq_true q15))
        go_ret
        exact ⟨by first | rfl | (simp [errW_none, errW_some] <;> rfl) | (simp [*, errW_none, errW_some] <;> rfl), by repeat (first | (with_reducible first | exact HB.out | apply below_alloc | apply pw_below_drewN | apply below_drew1 | refine below_set ?_ GE220.out) | exact HB.out)⟩
      · rw [if_neg c14] at H
        exact absurd H (by simp)
    · rw [if_neg c13] at H
      exact absurd H (by simp)

/-! ### impl_painted: function 91 -/
def impl_painted.f (a0 : ByteArray) (a1 : Int) (a2 : Int) : Option (ByteArray) := if 0 ≤ a1 then (if a1 < (a0.size : Int) then some (strOfNums ((bytesOf a0).set a1.toNat ((wrap64 (48 + a2)) % 256))) else none) else none
theorem impl_painted.event {P : Program} {ops : Array Oper} {rest : List Oper} {o : Oper} {a : Act} {Q : Exit → Act → World → Prop} {W : World} (hgd : o.guard = none) {N : Tmp} (_hd : o.dst = some N) {src dst e : TypeId} {u : TypeDesc} {x : Operand} {s : ByteArray} (ho : o.op = .convert src dst x) (hx : a.eval x = .string s)
    (hs : P.underlying src = some u) (hd : P.underlying dst = some (.slice e)) (he : P.underlying e = some (.int .u8))
    (h : ∀ g cap C w1, g = W.heap.size → w1.heap[g]? = some (.cells C e (C.size, C.size + 1)) → C.size = max s.size cap → (∀ j, j < s.size → C[j]? = some (.int .u8 (s.data.toList.getD j 0).toNat)) → Below W.heap.size W w1 →
      wpList P ops Q rest (a.put o.dst (.slice (some ⟨g, 0, none⟩) s.size cap)) w1) : wpList P ops Q (o :: rest) a W := by
  have hrun : (execOp a.eval o).run P W = .ok (.value (.slice (some ⟨W.heap.size, 0, none⟩) s.size (grownCap W s.size 0 e))) (Lib.bytesWorld W e s) := by
    have hc := Lib.run_convert_string_bytes (P := P) W src dst e s hs hd he
    unfold execOp
    simp only [ho, hx]
    simp [hc, Result.andThen]
  refine Kd.event_run hgd hrun (h W.heap.size _ (Lib.bytesCells W e s) _ rfl (Lib.bytesWorld_at_new W e s) ?_ ?_ (bytes_below (Below.refl _ _) (Nat.le_refl _) e s))
  · simp [Lib.bytesCells]
    have := data_length s
    simp at this
    omega
  · intro j hj
    have := data_length s
    simp [Lib.bytesCells, Array.getElem?_append, List.getD, hj]
theorem impl_painted.mark_cell {w1 : World} {g j : Nat} {C : Array Value} {e : TypeId} {v : Value} (hb : w1.heap[g]? = some (.cells C e (C.size, C.size + 1))) (hc : C[j]? = some v) : w1.cell? ⟨g, j, none⟩ = some v ∧ w1.frozen? ⟨g, j, none⟩ = false := by
  refine ⟨by simp [World.cell?, hb, hc], ?_⟩
  have hj : j < C.size := (Array.getElem?_eq_some_iff.1 hc).1
  simp [World.frozen?, hb]
  omega
theorem impl_painted.back {P : Program} {w1 : World} {g cap k : Nat} {v : Int} {C : Array Value} {s : ByteArray} {src dst e : TypeId} (hs : P.underlying src = some (.slice e)) (he : P.underlying e = some (.int .u8)) (hd : P.underlying dst = some .string)
    (hb : w1.heap[g]? = some (.cells C e (C.size, C.size + 1))) (hc : ∀ j, j < s.size → C[j]? = some (.int .u8 (s.data.toList.getD j 0).toNat)) (hk : k < s.size) :
    (convert src dst (.slice (some ⟨g, 0, none⟩) s.size cap)).run P (w1.setCell ⟨g, k, none⟩ (.int .u8 v)) = .ok (.string (strOfNums ((bytesOf s).set k v))) (w1.setCell ⟨g, k, none⟩ (.int .u8 v)) := by
  refine run_convert_bytes_arg _ src e hs he g 0 s.size cap _ (by rw [List.length_set, bytesOf_length]) (fun i hi => ?_) dst hd
  have hl : i < (bytesOf s).length := by rw [bytesOf_length]; exact hi
  rw [Nat.zero_add]
  by_cases e : k = i
  · subst e
    rw [World.cell?_setCell_same _ _ _ (impl_painted.mark_cell hb (hc k hk)).1]
    simp [List.getD_eq_getElem?_getD, List.getElem?_set, hl]
  · rw [World.cell?_setCell_other _ _ _ _ (by simp [e]), (impl_painted.mark_cell hb (hc i hi)).1]
    have hl2 : i < s.data.toList.length := by rw [data_length]; exact hi
    simp [List.getD_eq_getElem?_getD, List.getElem?_set, e, bytesOf, List.getElem?_eq_getElem hl2]
set_option maxHeartbeats 1000000 in
set_option maxRecDepth 100000 in
theorem impl_painted.calls (a0 : ByteArray) (a1 : Int) (a2 : Int) (r : ByteArray) (w : World) (h : impl_painted.f a0 a1 a2 = some r) :
    Calls Try.prog 91 #[.string a0, .int .i64 a1, .int .i64 a2] w fun e w' => e = .returned (.string r) ∧ Below w.heap.size w w' := by
  unfold impl_painted.f at h
  by_cases h0 : 0 ≤ a1
  · by_cases h1 : a1 < (a0.size : Int)
    · rw [if_pos h0, if_pos h1] at h
      obtain rfl := Option.some.inj h
      clear h
      have hk : a1.toNat < a0.size := by omega
      go_enter Try.func91, Try.ntmps91
      go_wp2_with (first | ((with_reducible refine gate_dst (N := 9) rfl ?_); refine impl_painted.event rfl (N := 9) rfl (x := .tmp 8) rfl rfl Try.underlying9 Try.underlying100 Try.underlying5 ?_; intro g cap C w1 hg hb hC hc hbel; have HG := Aside0.mk hg; have HB := Aside0.mk hbel; have hback := impl_painted.back (cap := cap) (v := wrap64 (48 + a2) % 256) Try.underlying100 Try.underlying5 Try.underlying9 hb hc hk; obtain ⟨hcell, hfro⟩ := impl_painted.mark_cell hb (hc _ hk); clear hg hb hC hc hbel))
      go_ret
      exact ⟨rfl, HB.out.setCell (by rw [HG.out]; exact Nat.le_refl _) _⟩
    · rw [if_pos h0, if_neg h1] at h
      cases h
  · rw [if_neg h0] at h
    cases h

/-! ### impl_Worm_made: function 68 -/
def impl_Worm_made.f (a0_0 : Int) (a0_1 : Int) (a0_2 : ByteArray) (a0_3 : ByteArray) (a0_4 : Int) (a0_5 : Int) (a0_6 : Int) (a1 : Int) (a2 : Int) (a3 : Int) : Option (Int × Int × ByteArray × ByteArray × Int × Int × Int) := (impl_Worm_line.f a0_0 a0_1 a0_2 a0_3 a0_4 a0_5 a0_6 a1 a2).bind fun bt225 => (if bt225.1 = true then ((impl_painted.f a0_2 bt225.2 a3).bind fun t227 => (some (a0_0, a0_1, t227, a0_3, a0_4, a0_5, a0_6))) else ((impl_painted.f a0_3 bt225.2 a3).bind fun t228 => (some (a0_0, a0_1, a0_2, t228, a0_4, a0_5, a0_6))))
set_option maxHeartbeats 8000000 in
set_option maxRecDepth 100000 in
theorem impl_Worm_made.calls (a0_0 : Int) (a0_1 : Int) (a0_2 : ByteArray) (a0_3 : ByteArray) (a0_4 : Int) (a0_5 : Int) (a0_6 : Int) (a1 : Int) (a2 : Int) (a3 : Int) (r1 : Int) (r2 : Int) (r3 : ByteArray) (r4 : ByteArray) (r5 : Int) (r6 : Int) (r7 : Int) (w : World) (h : impl_Worm_made.f a0_0 a0_1 a0_2 a0_3 a0_4 a0_5 a0_6 a1 a2 a3 = some (r1, r2, r3, r4, r5, r6, r7)) :
    Calls Try.prog 68 #[.agg #[.int .i64 a0_0, .int .i64 a0_1, .string a0_2, .string a0_3, .int .i64 a0_4, .int .i64 a0_5, .int .i64 a0_6], .int .i64 a1, .int .i64 a2, .int .i64 a3] w fun e w' => e = .returned (.agg #[.int .i64 r1, .int .i64 r2, .string r3, .string r4, .int .i64 r5, .int .i64 r6, .int .i64 r7]) ∧ Below w.heap.size w w' := by
  have hu27 := Try.underlying27
  have HB := Aside0.mk (Below.refl w.heap.size w)
  have H : ((impl_Worm_line.f a0_0 a0_1 a0_2 a0_3 a0_4 a0_5 a0_6 a1 a2).bind fun bt225 => (if bt225.1 = true then ((impl_painted.f a0_2 bt225.2 a3).bind fun t227 => (some (a0_0, a0_1, t227, a0_3, a0_4, a0_5, a0_6))) else ((impl_painted.f a0_3 bt225.2 a3).bind fun t228 => (some (a0_0, a0_1, a0_2, t228, a0_4, a0_5, a0_6))))) = some (r1, r2, r3, r4, r5, r6, r7) := h
  clear h
  replace H := Option.bind_eq_some_iff.mp H
  obtain ⟨⟨t225, t226⟩, A50, H⟩ := H
  replace H : (if t225 = true then ((impl_painted.f a0_2 t226 a3).bind fun t227 => (some (a0_0, a0_1, t227, a0_3, a0_4, a0_5, a0_6))) else ((impl_painted.f a0_3 t226 a3).bind fun t228 => (some (a0_0, a0_1, a0_2, t228, a0_4, a0_5, a0_6)))) = some (r1, r2, r3, r4, r5, r6, r7) := H
  have A5 := Aside0.mk A50
  clear A50
  by_cases c6 : t225 = true
  · subst c6
    have H1 : ((impl_painted.f a0_2 t226 a3).bind fun t227 => (some (a0_0, a0_1, t227, a0_3, a0_4, a0_5, a0_6))) = some (r1, r2, r3, r4, r5, r6, r7) := by rw [if_pos rfl] at H; exact H
    clear H
    have H := H1
    clear H1
    replace H := Option.bind_eq_some_iff.mp H
    obtain ⟨t227, A70, H⟩ := H
    replace H : (some (a0_0, a0_1, t227, a0_3, a0_4, a0_5, a0_6)) = some (r1, r2, r3, r4, r5, r6, r7) := H
    have A7 := Aside0.mk A70
    clear A70
    simp only [Option.some.injEq, Prod.mk.injEq] at H
    obtain ⟨rfl, rfl, rfl, rfl, rfl, rfl, rfl⟩ := H
    go_enter Try.func68, Try.ntmps68
    go_wp2_with (first | ((with_reducible refine gate_dst (N := 4) rfl ?_); refine box_event ?hg (N := 4) ?hd (cs := #[.int .i64 a0_0, .int .i64 a0_1, .string a0_2, .string a0_3, .int .i64 a0_4, .int .i64 a0_5, .int .i64 a0_6]) (t := 27) ?hr ?_; (case hd => rfl); (case hg => rfl); (case hr => first | (go_simp; done) | (go_simp; rfl)); intro gb223 hg w8 hbox hb; have n0_ := Aside0.mk (below_step (by repeat (first | (with_reducible first | exact HB.out | apply below_alloc | apply pw_below_drewN | apply below_drew1) | exact HB.out)) hb); have n1_ := Aside0.mk (hbox); have n2_ := Aside0.mk ((by rw [hg]; exact (below_size (by repeat (first | (with_reducible first | exact HB.out | apply below_alloc | apply pw_below_drewN | apply below_drew1) | exact HB.out))) : w.heap.size ≤ gb223)); have n3_ := Aside0.mk ((by rw [hg]; exact (below_size (by repeat (first | (with_reducible first | exact HB.out | apply below_alloc | apply pw_below_drewN | apply below_drew1) | exact HB.out))) : w.heap.size ≤ gb223)); clear HB; have HB := n0_; have BK223 := n1_; have GW223 := n2_; have GE223 := n3_; clear n0_ n1_ n2_ n3_; clear hb hbox hg) | ((with_reducible refine gate_dst (N := 8) rfl ?_); refine box_event ?hg (N := 8) ?hd (cs := #[.int .i64 0, .int .i64 0, .string (⟨#[]⟩ : ByteArray), .string (⟨#[]⟩ : ByteArray), .int .i64 0, .int .i64 0, .int .i64 0]) (t := 27) ?hr ?_; (case hd => rfl); (case hg => rfl); (case hr => first | (go_simp; done) | (go_simp; rfl)); intro gb224 hg w9 hbox hb; have n0_ := Aside0.mk (blk_below (g := gb223) (o := .cells #[.int .i64 a0_0, .int .i64 a0_1, .string a0_2, .string a0_3, .int .i64 a0_4, .int .i64 a0_5, .int .i64 a0_6] 27 (0, 0)) (by (with_reducible repeat (first | refine blk_drewN ?_ _ | refine blk_drew ?_ | refine blk_alloc ?_ _)); exact BK223.out) hb); have n1_ := Aside0.mk (below_step (by repeat (first | (with_reducible first | exact HB.out | apply below_alloc | apply pw_below_drewN | apply below_drew1 | refine below_set ?_ GE223.out) | exact HB.out)) hb); have n2_ := Aside0.mk (hbox); have n3_ := Aside0.mk ((by rw [hg]; exact (below_size (by repeat (first | (with_reducible first | exact HB.out | apply below_alloc | apply pw_below_drewN | apply below_drew1 | refine below_set ?_ GE223.out) | exact HB.out))) : w.heap.size ≤ gb224)); have n4_ := Aside0.mk ((by rw [hg]; exact (below_size (by repeat (first | (with_reducible first | exact HB.out | apply below_alloc | apply pw_below_drewN | apply below_drew1 | refine below_set ?_ GE223.out) | exact HB.out))) : w.heap.size ≤ gb224)); have n5_ := Aside0.mk ((by rw [hg]; exact Nat.ne_of_lt (blk_lt (g := gb223) (o := .cells #[.int .i64 a0_0, .int .i64 a0_1, .string a0_2, .string a0_3, .int .i64 a0_4, .int .i64 a0_5, .int .i64 a0_6] 27 (0, 0)) (by (with_reducible repeat (first | refine blk_drewN ?_ _ | refine blk_drew ?_ | refine blk_alloc ?_ _)); exact BK223.out)) : gb223 ≠ gb224)); have n6_ := Aside0.mk ((by rw [hg]; exact Nat.ne_of_gt (blk_lt (g := gb223) (o := .cells #[.int .i64 a0_0, .int .i64 a0_1, .string a0_2, .string a0_3, .int .i64 a0_4, .int .i64 a0_5, .int .i64 a0_6] 27 (0, 0)) (by (with_reducible repeat (first | refine blk_drewN ?_ _ | refine blk_drew ?_ | refine blk_alloc ?_ _)); exact BK223.out)) : gb224 ≠ gb223)); clear BK223; clear HB; have BK223 := n0_; have HB := n1_; have BK224 := n2_; have GW224 := n3_; have GE224 := n4_; have NB223_224 := n5_; have NB224_223 := n6_; clear n0_ n1_ n2_ n3_ n4_ n5_ n6_; clear hb hbox hg; have hnb10 := NB223_224.out; have hnc10 := NB224_223.out; have hcz11_0 : w9.cell? ⟨gb223, 0, none⟩ = some (.int .i64 a0_0) := (blk_cell BK223.out 0).trans rfl; have hcz11_1 : w9.cell? ⟨gb223, 1, none⟩ = some (.int .i64 a0_1) := (blk_cell BK223.out 1).trans rfl; have hcz11_2 : w9.cell? ⟨gb223, 2, none⟩ = some (.string a0_2) := (blk_cell BK223.out 2).trans rfl; have hcz11_3 : w9.cell? ⟨gb223, 3, none⟩ = some (.string a0_3) := (blk_cell BK223.out 3).trans rfl; have hcz11_4 : w9.cell? ⟨gb223, 4, none⟩ = some (.int .i64 a0_4) := (blk_cell BK223.out 4).trans rfl; have hcz11_5 : w9.cell? ⟨gb223, 5, none⟩ = some (.int .i64 a0_5) := (blk_cell BK223.out 5).trans rfl; have hcz11_6 : w9.cell? ⟨gb223, 6, none⟩ = some (.int .i64 a0_6) := (blk_cell BK223.out 6).trans rfl; have hfz11_0 := blk_frozen BK223.out 0; have hfz11_1 := blk_frozen BK223.out 1; have hfz11_2 := blk_frozen BK223.out 2; have hfz11_3 := blk_frozen BK223.out 3; have hfz11_4 := blk_frozen BK223.out 4; have hfz11_5 := blk_frozen BK223.out 5; have hfz11_6 := blk_frozen BK223.out 6) | ((with_reducible refine gate_callee (f := 89) rfl ?_); refine goesL_ (some 15) rfl rfl Try.func89 (by kernel_rfl) rfl #[.agg #[.int .i64 a0_0, .int .i64 a0_1, .string a0_2, .string a0_3, .int .i64 a0_4, .int .i64 a0_5, .int .i64 a0_6], .int .i64 a1, .int .i64 a2] rfl (by (try simp only [List.map_toArray, List.map_cons, List.map_nil]); first | done | rfl | (simp only [List.length_drop, List.length_take]; rfl)) ?_; (with_reducible refine (impl_Worm_line.calls a0_0 a0_1 a0_2 a0_3 a0_4 a0_5 a0_6 a1 a2 true t226 _ A5.out).mono ?_); rintro e w12 ⟨rfl, hb⟩; refine ⟨_, rfl, ?_⟩; have n0_ := Aside0.mk (blk_below (g := gb223) (o := .cells #[.int .i64 a0_0, .int .i64 a0_1, .string a0_2, .string a0_3, .int .i64 a0_4, .int .i64 a0_5, .int .i64 a0_6] 27 (0, 0)) (by (with_reducible repeat (first | refine blk_drewN ?_ _ | refine blk_drew ?_ | refine blk_alloc ?_ _)); exact BK223.out) hb); have n1_ := Aside0.mk (blk_below (g := gb224) (o := .cells #[.int .i64 0, .int .i64 0, .string (⟨#[]⟩ : ByteArray), .string (⟨#[]⟩ : ByteArray), .int .i64 0, .int .i64 0, .int .i64 0] 27 (0, 0)) (by (with_reducible repeat (first | refine blk_drewN ?_ _ | refine blk_drew ?_ | refine blk_alloc ?_ _)); exact BK224.out) hb); have n2_ := Aside0.mk (below_step (by repeat (first | (with_reducible first | exact HB.out | apply below_alloc | apply pw_below_drewN | apply below_drew1 | refine below_set ?_ GE223.out | refine below_set ?_ GE224.out) | exact HB.out)) hb); clear BK223; clear BK224; clear HB; have BK223 := n0_; have BK224 := n1_; have HB := n2_; clear n0_ n1_ n2_; (try clear hb); (try clear hb2); (try clear hk); (try clear hi); have hcz13_0 : w12.cell? ⟨gb223, 0, none⟩ = some (.int .i64 a0_0) := (blk_cell BK223.out 0).trans rfl; have hcz13_1 : w12.cell? ⟨gb223, 1, none⟩ = some (.int .i64 a0_1) := (blk_cell BK223.out 1).trans rfl; have hcz13_2 : w12.cell? ⟨gb223, 2, none⟩ = some (.string a0_2) := (blk_cell BK223.out 2).trans rfl; have hcz13_3 : w12.cell? ⟨gb223, 3, none⟩ = some (.string a0_3) := (blk_cell BK223.out 3).trans rfl; have hcz13_4 : w12.cell? ⟨gb223, 4, none⟩ = some (.int .i64 a0_4) := (blk_cell BK223.out 4).trans rfl; have hcz13_5 : w12.cell? ⟨gb223, 5, none⟩ = some (.int .i64 a0_5) := (blk_cell BK223.out 5).trans rfl; have hcz13_6 : w12.cell? ⟨gb223, 6, none⟩ = some (.int .i64 a0_6) := (blk_cell BK223.out 6).trans rfl; have hfz13_0 := blk_frozen BK223.out 0; have hfz13_1 := blk_frozen BK223.out 1; have hfz13_2 := blk_frozen BK223.out 2; have hfz13_3 := blk_frozen BK223.out 3; have hfz13_4 := blk_frozen BK223.out 4; have hfz13_5 := blk_frozen BK223.out 5; have hfz13_6 := blk_frozen BK223.out 6) | ((with_reducible refine gate_callee (f := 91) rfl ?_); refine goesL_ (some 23) rfl rfl Try.func91 (by kernel_rfl) rfl #[.string a0_2, .int .i64 t226, .int .i64 a3] rfl (by (try simp only [List.map_toArray, List.map_cons, List.map_nil]); first | done | rfl | (simp only [List.length_drop, List.length_take]; rfl)) ?_; (with_reducible refine (impl_painted.calls a0_2 t226 a3 t227 _ A7.out).mono ?_); rintro e w14 ⟨rfl, hb⟩; refine ⟨_, rfl, ?_⟩; have n0_ := Aside0.mk (blk_below (g := gb223) (o := .cells #[.int .i64 a0_0, .int .i64 a0_1, .string a0_2, .string a0_3, .int .i64 a0_4, .int .i64 a0_5, .int .i64 a0_6] 27 (0, 0)) (by (with_reducible repeat (first | refine blk_drewN ?_ _ | refine blk_drew ?_ | refine blk_alloc ?_ _)); exact BK223.out) hb); have n1_ := Aside0.mk (blk_below (g := gb224) (o := .cells #[.int .i64 0, .int .i64 0, .string (⟨#[]⟩ : ByteArray), .string (⟨#[]⟩ : ByteArray), .int .i64 0, .int .i64 0, .int .i64 0] 27 (0, 0)) (by (with_reducible repeat (first | refine blk_drewN ?_ _ | refine blk_drew ?_ | refine blk_alloc ?_ _)); exact BK224.out) hb); have n2_ := Aside0.mk (below_step (by repeat (first | (with_reducible first | exact HB.out | apply below_alloc | apply pw_below_drewN | apply below_drew1 | refine below_set ?_ GE223.out | refine below_set ?_ GE224.out) | exact HB.out)) hb); clear BK223; clear BK224; clear HB; have BK223 := n0_; have BK224 := n1_; have HB := n2_; clear n0_ n1_ n2_; (try clear hb); (try clear hb2); (try clear hk); (try clear hi); have hcz15_0 : w14.cell? ⟨gb223, 0, none⟩ = some (.int .i64 a0_0) := (blk_cell BK223.out 0).trans rfl; have hcz15_1 : w14.cell? ⟨gb223, 1, none⟩ = some (.int .i64 a0_1) := (blk_cell BK223.out 1).trans rfl; have hcz15_2 : w14.cell? ⟨gb223, 2, none⟩ = some (.string a0_2) := (blk_cell BK223.out 2).trans rfl; have hcz15_3 : w14.cell? ⟨gb223, 3, none⟩ = some (.string a0_3) := (blk_cell BK223.out 3).trans rfl; have hcz15_4 : w14.cell? ⟨gb223, 4, none⟩ = some (.int .i64 a0_4) := (blk_cell BK223.out 4).trans rfl; have hcz15_5 : w14.cell? ⟨gb223, 5, none⟩ = some (.int .i64 a0_5) := (blk_cell BK223.out 5).trans rfl; have hcz15_6 : w14.cell? ⟨gb223, 6, none⟩ = some (.int .i64 a0_6) := (blk_cell BK223.out 6).trans rfl; have hfz15_0 := blk_frozen BK223.out 0; have hfz15_1 := blk_frozen BK223.out 1; have hfz15_2 := blk_frozen BK223.out 2; have hfz15_3 := blk_frozen BK223.out 3; have hfz15_4 := blk_frozen BK223.out 4; have hfz15_5 := blk_frozen BK223.out 5; have hfz15_6 := blk_frozen BK223.out 6; have hcz16_0 : w14.cell? ⟨gb224, 0, none⟩ = some (.int .i64 0) := (blk_cell BK224.out 0).trans rfl; have hcz16_1 : w14.cell? ⟨gb224, 1, none⟩ = some (.int .i64 0) := (blk_cell BK224.out 1).trans rfl; have hcz16_2 : w14.cell? ⟨gb224, 2, none⟩ = some (.string (⟨#[]⟩ : ByteArray)) := (blk_cell BK224.out 2).trans rfl; have hcz16_3 : w14.cell? ⟨gb224, 3, none⟩ = some (.string (⟨#[]⟩ : ByteArray)) := (blk_cell BK224.out 3).trans rfl; have hcz16_4 : w14.cell? ⟨gb224, 4, none⟩ = some (.int .i64 0) := (blk_cell BK224.out 4).trans rfl; have hcz16_5 : w14.cell? ⟨gb224, 5, none⟩ = some (.int .i64 0) := (blk_cell BK224.out 5).trans rfl; have hcz16_6 : w14.cell? ⟨gb224, 6, none⟩ = some (.int .i64 0) := (blk_cell BK224.out 6).trans rfl; have hfz16_0 := blk_frozen BK224.out 0; have hfz16_1 := blk_frozen BK224.out 1; have hfz16_2 := blk_frozen BK224.out 2; have hfz16_3 := blk_frozen BK224.out 3; have hfz16_4 := blk_frozen BK224.out 4; have hfz16_5 := blk_frozen BK224.out 5; have hfz16_6 := blk_frozen BK224.out 6))
    refine bodyPost_ret (results_cell_row rfl _ _ gb224 27 #[.int .i64 a0_0, .int .i64 a0_1, .string t227, .string a0_3, .int .i64 a0_4, .int .i64 a0_5, .int .i64 a0_6] (0, 0) _ rfl (by (with_reducible repeat (first | refine blk_drewN ?_ _ | refine blk_drew ?_ | refine blk_alloc ?_ _)); refine blk_put (cs := #[.int .i64 a0_0, .int .i64 a0_1, .string t227, .string a0_3, .int .i64 a0_4, .int .i64 a0_5, .int .i64 0]) ?_ 6 _ rfl; (with_reducible repeat (first | refine blk_drewN ?_ _ | refine blk_drew ?_ | refine blk_alloc ?_ _)); refine blk_put (cs := #[.int .i64 a0_0, .int .i64 a0_1, .string t227, .string a0_3, .int .i64 a0_4, .int .i64 0, .int .i64 0]) ?_ 5 _ rfl; (with_reducible repeat (first | refine blk_drewN ?_ _ | refine blk_drew ?_ | refine blk_alloc ?_ _)); refine blk_put (cs := #[.int .i64 a0_0, .int .i64 a0_1, .string t227, .string a0_3, .int .i64 0, .int .i64 0, .int .i64 0]) ?_ 4 _ rfl; (with_reducible repeat (first | refine blk_drewN ?_ _ | refine blk_drew ?_ | refine blk_alloc ?_ _)); refine blk_put (cs := #[.int .i64 a0_0, .int .i64 a0_1, .string t227, .string (⟨#[]⟩ : ByteArray), .int .i64 0, .int .i64 0, .int .i64 0]) ?_ 3 _ rfl; (with_reducible repeat (first | refine blk_drewN ?_ _ | refine blk_drew ?_ | refine blk_alloc ?_ _)); refine blk_put (cs := #[.int .i64 a0_0, .int .i64 a0_1, .string (⟨#[]⟩ : ByteArray), .string (⟨#[]⟩ : ByteArray), .int .i64 0, .int .i64 0, .int .i64 0]) ?_ 2 _ rfl; (with_reducible repeat (first | refine blk_drewN ?_ _ | refine blk_drew ?_ | refine blk_alloc ?_ _)); refine blk_put (cs := #[.int .i64 a0_0, .int .i64 0, .string (⟨#[]⟩ : ByteArray), .string (⟨#[]⟩ : ByteArray), .int .i64 0, .int .i64 0, .int .i64 0]) ?_ 1 _ rfl; (with_reducible repeat (first | refine blk_drewN ?_ _ | refine blk_drew ?_ | refine blk_alloc ?_ _)); refine blk_put (cs := #[.int .i64 0, .int .i64 0, .string (⟨#[]⟩ : ByteArray), .string (⟨#[]⟩ : ByteArray), .int .i64 0, .int .i64 0, .int .i64 0]) ?_ 0 _ rfl; (with_reducible repeat (first | refine blk_drewN ?_ _ | refine blk_drew ?_ | refine blk_alloc ?_ _)); refine blk_far ?_ NB224_223.out _; (with_reducible repeat (first | refine blk_drewN ?_ _ | refine blk_drew ?_ | refine blk_alloc ?_ _)); exact BK224.out) Try.underlying27 rfl (by kernel_rfl)) rfl ?_
    exact ⟨by first | rfl | (simp [errW_none, errW_some] <;> rfl) | (simp [*, errW_none, errW_some] <;> rfl), by repeat (first | (with_reducible first | exact HB.out | apply below_alloc | apply pw_below_drewN | apply below_drew1 | refine below_set ?_ GE223.out | refine below_set ?_ GE224.out) | exact HB.out)⟩
  · replace c6 := Bool.eq_false_iff.mpr c6
    subst c6
    have H1 : ((impl_painted.f a0_3 t226 a3).bind fun t228 => (some (a0_0, a0_1, a0_2, t228, a0_4, a0_5, a0_6))) = some (r1, r2, r3, r4, r5, r6, r7) := by rw [if_neg (show ¬ (false = true) by decide)] at H; exact H
    clear H
    have H := H1
    clear H1
    replace H := Option.bind_eq_some_iff.mp H
    obtain ⟨t228, A170, H⟩ := H
    replace H : (some (a0_0, a0_1, a0_2, t228, a0_4, a0_5, a0_6)) = some (r1, r2, r3, r4, r5, r6, r7) := H
    have A17 := Aside0.mk A170
    clear A170
    simp only [Option.some.injEq, Prod.mk.injEq] at H
    obtain ⟨rfl, rfl, rfl, rfl, rfl, rfl, rfl⟩ := H
    go_enter Try.func68, Try.ntmps68
    go_wp2_with (first | ((with_reducible refine gate_dst (N := 4) rfl ?_); refine box_event ?hg (N := 4) ?hd (cs := #[.int .i64 a0_0, .int .i64 a0_1, .string a0_2, .string a0_3, .int .i64 a0_4, .int .i64 a0_5, .int .i64 a0_6]) (t := 27) ?hr ?_; (case hd => rfl); (case hg => rfl); (case hr => first | (go_simp; done) | (go_simp; rfl)); intro gb223 hg w18 hbox hb; have n0_ := Aside0.mk (below_step (by repeat (first | (with_reducible first | exact HB.out | apply below_alloc | apply pw_below_drewN | apply below_drew1) | exact HB.out)) hb); have n1_ := Aside0.mk (hbox); have n2_ := Aside0.mk ((by rw [hg]; exact (below_size (by repeat (first | (with_reducible first | exact HB.out | apply below_alloc | apply pw_below_drewN | apply below_drew1) | exact HB.out))) : w.heap.size ≤ gb223)); have n3_ := Aside0.mk ((by rw [hg]; exact (below_size (by repeat (first | (with_reducible first | exact HB.out | apply below_alloc | apply pw_below_drewN | apply below_drew1) | exact HB.out))) : w.heap.size ≤ gb223)); clear HB; have HB := n0_; have BK223 := n1_; have GW223 := n2_; have GE223 := n3_; clear n0_ n1_ n2_ n3_; clear hb hbox hg) | ((with_reducible refine gate_dst (N := 8) rfl ?_); refine box_event ?hg (N := 8) ?hd (cs := #[.int .i64 0, .int .i64 0, .string (⟨#[]⟩ : ByteArray), .string (⟨#[]⟩ : ByteArray), .int .i64 0, .int .i64 0, .int .i64 0]) (t := 27) ?hr ?_; (case hd => rfl); (case hg => rfl); (case hr => first | (go_simp; done) | (go_simp; rfl)); intro gb224 hg w19 hbox hb; have n0_ := Aside0.mk (blk_below (g := gb223) (o := .cells #[.int .i64 a0_0, .int .i64 a0_1, .string a0_2, .string a0_3, .int .i64 a0_4, .int .i64 a0_5, .int .i64 a0_6] 27 (0, 0)) (by (with_reducible repeat (first | refine blk_drewN ?_ _ | refine blk_drew ?_ | refine blk_alloc ?_ _)); exact BK223.out) hb); have n1_ := Aside0.mk (below_step (by repeat (first | (with_reducible first | exact HB.out | apply below_alloc | apply pw_below_drewN | apply below_drew1 | refine below_set ?_ GE223.out) | exact HB.out)) hb); have n2_ := Aside0.mk (hbox); have n3_ := Aside0.mk ((by rw [hg]; exact (below_size (by repeat (first | (with_reducible first | exact HB.out | apply below_alloc | apply pw_below_drewN | apply below_drew1 | refine below_set ?_ GE223.out) | exact HB.out))) : w.heap.size ≤ gb224)); have n4_ := Aside0.mk ((by rw [hg]; exact (below_size (by repeat (first | (with_reducible first | exact HB.out | apply below_alloc | apply pw_below_drewN | apply below_drew1 | refine below_set ?_ GE223.out) | exact HB.out))) : w.heap.size ≤ gb224)); have n5_ := Aside0.mk ((by rw [hg]; exact Nat.ne_of_lt (blk_lt (g := gb223) (o := .cells #[.int .i64 a0_0, .int .i64 a0_1, .string a0_2, .string a0_3, .int .i64 a0_4, .int .i64 a0_5, .int .i64 a0_6] 27 (0, 0)) (by (with_reducible repeat (first | refine blk_drewN ?_ _ | refine blk_drew ?_ | refine blk_alloc ?_ _)); exact BK223.out)) : gb223 ≠ gb224)); have n6_ := Aside0.mk ((by rw [hg]; exact Nat.ne_of_gt (blk_lt (g := gb223) (o := .cells #[.int .i64 a0_0, .int .i64 a0_1, .string a0_2, .string a0_3, .int .i64 a0_4, .int .i64 a0_5, .int .i64 a0_6] 27 (0, 0)) (by (with_reducible repeat (first | refine blk_drewN ?_ _ | refine blk_drew ?_ | refine blk_alloc ?_ _)); exact BK223.out)) : gb224 ≠ gb223)); clear BK223; clear HB; have BK223 := n0_; have HB := n1_; have BK224 := n2_; have GW224 := n3_; have GE224 := n4_; have NB223_224 := n5_; have NB224_223 := n6_; clear n0_ n1_ n2_ n3_ n4_ n5_ n6_; clear hb hbox hg; have hnb20 := NB223_224.out; have hnc20 := NB224_223.out; have hcz21_0 : w19.cell? ⟨gb223, 0, none⟩ = some (.int .i64 a0_0) := (blk_cell BK223.out 0).trans rfl; have hcz21_1 : w19.cell? ⟨gb223, 1, none⟩ = some (.int .i64 a0_1) := (blk_cell BK223.out 1).trans rfl; have hcz21_2 : w19.cell? ⟨gb223, 2, none⟩ = some (.string a0_2) := (blk_cell BK223.out 2).trans rfl; have hcz21_3 : w19.cell? ⟨gb223, 3, none⟩ = some (.string a0_3) := (blk_cell BK223.out 3).trans rfl; have hcz21_4 : w19.cell? ⟨gb223, 4, none⟩ = some (.int .i64 a0_4) := (blk_cell BK223.out 4).trans rfl; have hcz21_5 : w19.cell? ⟨gb223, 5, none⟩ = some (.int .i64 a0_5) := (blk_cell BK223.out 5).trans rfl; have hcz21_6 : w19.cell? ⟨gb223, 6, none⟩ = some (.int .i64 a0_6) := (blk_cell BK223.out 6).trans rfl; have hfz21_0 := blk_frozen BK223.out 0; have hfz21_1 := blk_frozen BK223.out 1; have hfz21_2 := blk_frozen BK223.out 2; have hfz21_3 := blk_frozen BK223.out 3; have hfz21_4 := blk_frozen BK223.out 4; have hfz21_5 := blk_frozen BK223.out 5; have hfz21_6 := blk_frozen BK223.out 6) | ((with_reducible refine gate_callee (f := 89) rfl ?_); refine goesL_ (some 15) rfl rfl Try.func89 (by kernel_rfl) rfl #[.agg #[.int .i64 a0_0, .int .i64 a0_1, .string a0_2, .string a0_3, .int .i64 a0_4, .int .i64 a0_5, .int .i64 a0_6], .int .i64 a1, .int .i64 a2] rfl (by (try simp only [List.map_toArray, List.map_cons, List.map_nil]); first | done | rfl | (simp only [List.length_drop, List.length_take]; rfl)) ?_; (with_reducible refine (impl_Worm_line.calls a0_0 a0_1 a0_2 a0_3 a0_4 a0_5 a0_6 a1 a2 false t226 _ A5.out).mono ?_); rintro e w22 ⟨rfl, hb⟩; refine ⟨_, rfl, ?_⟩; have n0_ := Aside0.mk (blk_below (g := gb223) (o := .cells #[.int .i64 a0_0, .int .i64 a0_1, .string a0_2, .string a0_3, .int .i64 a0_4, .int .i64 a0_5, .int .i64 a0_6] 27 (0, 0)) (by (with_reducible repeat (first | refine blk_drewN ?_ _ | refine blk_drew ?_ | refine blk_alloc ?_ _)); exact BK223.out) hb); have n1_ := Aside0.mk (blk_below (g := gb224) (o := .cells #[.int .i64 0, .int .i64 0, .string (⟨#[]⟩ : ByteArray), .string (⟨#[]⟩ : ByteArray), .int .i64 0, .int .i64 0, .int .i64 0] 27 (0, 0)) (by (with_reducible repeat (first | refine blk_drewN ?_ _ | refine blk_drew ?_ | refine blk_alloc ?_ _)); exact BK224.out) hb); have n2_ := Aside0.mk (below_step (by repeat (first | (with_reducible first | exact HB.out | apply below_alloc | apply pw_below_drewN | apply below_drew1 | refine below_set ?_ GE223.out | refine below_set ?_ GE224.out) | exact HB.out)) hb); clear BK223; clear BK224; clear HB; have BK223 := n0_; have BK224 := n1_; have HB := n2_; clear n0_ n1_ n2_; (try clear hb); (try clear hb2); (try clear hk); (try clear hi); have hcz23_0 : w22.cell? ⟨gb223, 0, none⟩ = some (.int .i64 a0_0) := (blk_cell BK223.out 0).trans rfl; have hcz23_1 : w22.cell? ⟨gb223, 1, none⟩ = some (.int .i64 a0_1) := (blk_cell BK223.out 1).trans rfl; have hcz23_2 : w22.cell? ⟨gb223, 2, none⟩ = some (.string a0_2) := (blk_cell BK223.out 2).trans rfl; have hcz23_3 : w22.cell? ⟨gb223, 3, none⟩ = some (.string a0_3) := (blk_cell BK223.out 3).trans rfl; have hcz23_4 : w22.cell? ⟨gb223, 4, none⟩ = some (.int .i64 a0_4) := (blk_cell BK223.out 4).trans rfl; have hcz23_5 : w22.cell? ⟨gb223, 5, none⟩ = some (.int .i64 a0_5) := (blk_cell BK223.out 5).trans rfl; have hcz23_6 : w22.cell? ⟨gb223, 6, none⟩ = some (.int .i64 a0_6) := (blk_cell BK223.out 6).trans rfl; have hfz23_0 := blk_frozen BK223.out 0; have hfz23_1 := blk_frozen BK223.out 1; have hfz23_2 := blk_frozen BK223.out 2; have hfz23_3 := blk_frozen BK223.out 3; have hfz23_4 := blk_frozen BK223.out 4; have hfz23_5 := blk_frozen BK223.out 5; have hfz23_6 := blk_frozen BK223.out 6) | ((with_reducible refine gate_callee (f := 91) rfl ?_); refine goesL_ (some 29) rfl rfl Try.func91 (by kernel_rfl) rfl #[.string a0_3, .int .i64 t226, .int .i64 a3] rfl (by (try simp only [List.map_toArray, List.map_cons, List.map_nil]); first | done | rfl | (simp only [List.length_drop, List.length_take]; rfl)) ?_; (with_reducible refine (impl_painted.calls a0_3 t226 a3 t228 _ A17.out).mono ?_); rintro e w24 ⟨rfl, hb⟩; refine ⟨_, rfl, ?_⟩; have n0_ := Aside0.mk (blk_below (g := gb223) (o := .cells #[.int .i64 a0_0, .int .i64 a0_1, .string a0_2, .string a0_3, .int .i64 a0_4, .int .i64 a0_5, .int .i64 a0_6] 27 (0, 0)) (by (with_reducible repeat (first | refine blk_drewN ?_ _ | refine blk_drew ?_ | refine blk_alloc ?_ _)); exact BK223.out) hb); have n1_ := Aside0.mk (blk_below (g := gb224) (o := .cells #[.int .i64 0, .int .i64 0, .string (⟨#[]⟩ : ByteArray), .string (⟨#[]⟩ : ByteArray), .int .i64 0, .int .i64 0, .int .i64 0] 27 (0, 0)) (by (with_reducible repeat (first | refine blk_drewN ?_ _ | refine blk_drew ?_ | refine blk_alloc ?_ _)); exact BK224.out) hb); have n2_ := Aside0.mk (below_step (by repeat (first | (with_reducible first | exact HB.out | apply below_alloc | apply pw_below_drewN | apply below_drew1 | refine below_set ?_ GE223.out | refine below_set ?_ GE224.out) | exact HB.out)) hb); clear BK223; clear BK224; clear HB; have BK223 := n0_; have BK224 := n1_; have HB := n2_; clear n0_ n1_ n2_; (try clear hb); (try clear hb2); (try clear hk); (try clear hi); have hcz25_0 : w24.cell? ⟨gb223, 0, none⟩ = some (.int .i64 a0_0) := (blk_cell BK223.out 0).trans rfl; have hcz25_1 : w24.cell? ⟨gb223, 1, none⟩ = some (.int .i64 a0_1) := (blk_cell BK223.out 1).trans rfl; have hcz25_2 : w24.cell? ⟨gb223, 2, none⟩ = some (.string a0_2) := (blk_cell BK223.out 2).trans rfl; have hcz25_3 : w24.cell? ⟨gb223, 3, none⟩ = some (.string a0_3) := (blk_cell BK223.out 3).trans rfl; have hcz25_4 : w24.cell? ⟨gb223, 4, none⟩ = some (.int .i64 a0_4) := (blk_cell BK223.out 4).trans rfl; have hcz25_5 : w24.cell? ⟨gb223, 5, none⟩ = some (.int .i64 a0_5) := (blk_cell BK223.out 5).trans rfl; have hcz25_6 : w24.cell? ⟨gb223, 6, none⟩ = some (.int .i64 a0_6) := (blk_cell BK223.out 6).trans rfl; have hfz25_0 := blk_frozen BK223.out 0; have hfz25_1 := blk_frozen BK223.out 1; have hfz25_2 := blk_frozen BK223.out 2; have hfz25_3 := blk_frozen BK223.out 3; have hfz25_4 := blk_frozen BK223.out 4; have hfz25_5 := blk_frozen BK223.out 5; have hfz25_6 := blk_frozen BK223.out 6; have hcz26_0 : w24.cell? ⟨gb224, 0, none⟩ = some (.int .i64 0) := (blk_cell BK224.out 0).trans rfl; have hcz26_1 : w24.cell? ⟨gb224, 1, none⟩ = some (.int .i64 0) := (blk_cell BK224.out 1).trans rfl; have hcz26_2 : w24.cell? ⟨gb224, 2, none⟩ = some (.string (⟨#[]⟩ : ByteArray)) := (blk_cell BK224.out 2).trans rfl; have hcz26_3 : w24.cell? ⟨gb224, 3, none⟩ = some (.string (⟨#[]⟩ : ByteArray)) := (blk_cell BK224.out 3).trans rfl; have hcz26_4 : w24.cell? ⟨gb224, 4, none⟩ = some (.int .i64 0) := (blk_cell BK224.out 4).trans rfl; have hcz26_5 : w24.cell? ⟨gb224, 5, none⟩ = some (.int .i64 0) := (blk_cell BK224.out 5).trans rfl; have hcz26_6 : w24.cell? ⟨gb224, 6, none⟩ = some (.int .i64 0) := (blk_cell BK224.out 6).trans rfl; have hfz26_0 := blk_frozen BK224.out 0; have hfz26_1 := blk_frozen BK224.out 1; have hfz26_2 := blk_frozen BK224.out 2; have hfz26_3 := blk_frozen BK224.out 3; have hfz26_4 := blk_frozen BK224.out 4; have hfz26_5 := blk_frozen BK224.out 5; have hfz26_6 := blk_frozen BK224.out 6))
    refine bodyPost_ret (results_cell_row rfl _ _ gb224 27 #[.int .i64 a0_0, .int .i64 a0_1, .string a0_2, .string t228, .int .i64 a0_4, .int .i64 a0_5, .int .i64 a0_6] (0, 0) _ rfl (by (with_reducible repeat (first | refine blk_drewN ?_ _ | refine blk_drew ?_ | refine blk_alloc ?_ _)); refine blk_put (cs := #[.int .i64 a0_0, .int .i64 a0_1, .string a0_2, .string t228, .int .i64 a0_4, .int .i64 a0_5, .int .i64 0]) ?_ 6 _ rfl; (with_reducible repeat (first | refine blk_drewN ?_ _ | refine blk_drew ?_ | refine blk_alloc ?_ _)); refine blk_put (cs := #[.int .i64 a0_0, .int .i64 a0_1, .string a0_2, .string t228, .int .i64 a0_4, .int .i64 0, .int .i64 0]) ?_ 5 _ rfl; (with_reducible repeat (first | refine blk_drewN ?_ _ | refine blk_drew ?_ | refine blk_alloc ?_ _)); refine blk_put (cs := #[.int .i64 a0_0, .int .i64 a0_1, .string a0_2, .string t228, .int .i64 0, .int .i64 0, .int .i64 0]) ?_ 4 _ rfl; (with_reducible repeat (first | refine blk_drewN ?_ _ | refine blk_drew ?_ | refine blk_alloc ?_ _)); refine blk_put (cs := #[.int .i64 a0_0, .int .i64 a0_1, .string a0_2, .string (⟨#[]⟩ : ByteArray), .int .i64 0, .int .i64 0, .int .i64 0]) ?_ 3 _ rfl; (with_reducible repeat (first | refine blk_drewN ?_ _ | refine blk_drew ?_ | refine blk_alloc ?_ _)); refine blk_put (cs := #[.int .i64 a0_0, .int .i64 a0_1, .string (⟨#[]⟩ : ByteArray), .string (⟨#[]⟩ : ByteArray), .int .i64 0, .int .i64 0, .int .i64 0]) ?_ 2 _ rfl; (with_reducible repeat (first | refine blk_drewN ?_ _ | refine blk_drew ?_ | refine blk_alloc ?_ _)); refine blk_put (cs := #[.int .i64 a0_0, .int .i64 0, .string (⟨#[]⟩ : ByteArray), .string (⟨#[]⟩ : ByteArray), .int .i64 0, .int .i64 0, .int .i64 0]) ?_ 1 _ rfl; (with_reducible repeat (first | refine blk_drewN ?_ _ | refine blk_drew ?_ | refine blk_alloc ?_ _)); refine blk_put (cs := #[.int .i64 0, .int .i64 0, .string (⟨#[]⟩ : ByteArray), .string (⟨#[]⟩ : ByteArray), .int .i64 0, .int .i64 0, .int .i64 0]) ?_ 0 _ rfl; (with_reducible repeat (first | refine blk_drewN ?_ _ | refine blk_drew ?_ | refine blk_alloc ?_ _)); refine blk_far ?_ NB224_223.out _; (with_reducible repeat (first | refine blk_drewN ?_ _ | refine blk_drew ?_ | refine blk_alloc ?_ _)); exact BK224.out) Try.underlying27 rfl (by kernel_rfl)) rfl ?_
    exact ⟨by first | rfl | (simp [errW_none, errW_some] <;> rfl) | (simp [*, errW_none, errW_some] <;> rfl), by repeat (first | (with_reducible first | exact HB.out | apply below_alloc | apply pw_below_drewN | apply below_drew1 | refine below_set ?_ GE223.out | refine below_set ?_ GE224.out) | exact HB.out)⟩

/-! ### impl_quarters: function 102 -/
def impl_quarters.f (a0 : Int) : Option (Int) := if a0 = 76 then (some 3) else (if a0 = 82 then (some 1) else (if a0 = 85 then (some 2) else (some 0)))
set_option maxHeartbeats 8000000 in
set_option maxRecDepth 100000 in
theorem impl_quarters.calls (a0 : Int) (r : Int) (w : World) (h : impl_quarters.f a0 = some r) :
    Calls Try.prog 102 #[.int .u8 a0] w fun e w' => e = .returned (.int .i64 r) ∧ Drawn0 w w' := by
  have H : (if a0 = 76 then (some 3) else (if a0 = 82 then (some 1) else (if a0 = 85 then (some 2) else (some 0)))) = some r := h
  clear h
  by_cases c2 : a0 = 76
  · rw [if_pos c2] at H
    have c2b0 : (a0 == 76) = true := beq_iff_eq.mpr c2
    have c2b1 : (a0 != 76) = false := bne_eq_false_iff_eq.mpr c2
    clear c2
    obtain rfl := Option.some.inj H
    go_enter Try.func102, Try.ntmps102
    go_wp2
    go_ret
    exact ⟨by first | rfl | (simp; done) | (simp [*]; done), by repeat (first | exact Drawn0.refl _ | apply Drawn0.step)⟩
  · rw [if_neg c2] at H
    have c2b0 : (a0 == 76) = false := beq_eq_false_iff_ne.mpr c2
    have c2b1 : (a0 != 76) = true := bne_iff_ne.mpr c2
    by_cases c3 : a0 = 82
    · rw [if_pos c3] at H
      have c3b0 : (a0 == 82) = true := beq_iff_eq.mpr c3
      have c3b1 : (a0 != 82) = false := bne_eq_false_iff_eq.mpr c3
      clear c3
      obtain rfl := Option.some.inj H
      go_enter Try.func102, Try.ntmps102
      go_wp2
      go_ret
      exact ⟨by first | rfl | (simp; done) | (simp [*]; done), by repeat (first | exact Drawn0.refl _ | apply Drawn0.step)⟩
    · rw [if_neg c3] at H
      have c3b0 : (a0 == 82) = false := beq_eq_false_iff_ne.mpr c3
      have c3b1 : (a0 != 82) = true := bne_iff_ne.mpr c3
      by_cases c4 : a0 = 85
      · rw [if_pos c4] at H
        have c4b0 : (a0 == 85) = true := beq_iff_eq.mpr c4
        have c4b1 : (a0 != 85) = false := bne_eq_false_iff_eq.mpr c4
        clear c4
        obtain rfl := Option.some.inj H
        go_enter Try.func102, Try.ntmps102
        go_wp2
        go_ret
        exact ⟨by first | rfl | (simp; done) | (simp [*]; done), by repeat (first | exact Drawn0.refl _ | apply Drawn0.step)⟩
      · rw [if_neg c4] at H
        have c4b0 : (a0 == 85) = false := beq_eq_false_iff_ne.mpr c4
        have c4b1 : (a0 != 85) = true := bne_iff_ne.mpr c4
        obtain rfl := Option.some.inj H
        go_enter Try.func102, Try.ntmps102
        go_wp2
        go_ret
        exact ⟨by first | rfl | (simp; done) | (simp [*]; done), by repeat (first | exact Drawn0.refl _ | apply Drawn0.step)⟩

/-! ### impl_Worm_eat: function 77 -/
def impl_Worm_eat.l (a0_0 : Int) (a0_1 : Int) (a0_2 : ByteArray) (a0_3 : ByteArray) (a0_4 : Int) (a0_5 : Int) (a0_6 : Int) (a1 : ByteArray) (node : Int) : Nat → Int → Option (Int × Int × ByteArray × ByteArray × Int × Int × Int × Int × Bool)
  | 0, _ => none
  | n + 1, i => if i < (a1.size : Int) then ((impl_quarters.f (bt a1 i)).bind fun t => (impl_Worm_there.f a0_0 a0_1 a0_2 a0_3 a0_4 a0_5 a0_6 node (Int.tmod (wrap64 (a0_6 + t)) 4)).bind fun b => if b = true then ((impl_Worm_made.f a0_0 a0_1 a0_2 a0_3 a0_4 a0_5 a0_6 node (Int.tmod (wrap64 (a0_6 + t)) 4) 0).bind fun z => (impl_Worm_beside.f a0_0 a0_1 a0_2 a0_3 a0_4 a0_5 a0_6 node (Int.tmod (wrap64 (a0_6 + t)) 4)).bind fun nx => if a0_0 = 0 then none else some (z.1, z.2.1, z.2.2.1, z.2.2.2.1, Int.tmod nx a0_0, wrap64 (Int.tdiv nx a0_0), Int.tmod (wrap64 (a0_6 + t)) 4, bt a1 i, true)) else impl_Worm_eat.l a0_0 a0_1 a0_2 a0_3 a0_4 a0_5 a0_6 a1 node n (i + 1)) else some (0, 0, (⟨#[]⟩ : ByteArray), (⟨#[]⟩ : ByteArray), 0, 0, 0, 0, false)
def impl_Worm_eat.f (a0_0 : Int) (a0_1 : Int) (a0_2 : ByteArray) (a0_3 : ByteArray) (a0_4 : Int) (a0_5 : Int) (a0_6 : Int) (a1 : ByteArray) : Option (Int × Int × ByteArray × ByteArray × Int × Int × Int × Int × Bool) := if a1.size ≤ 9223372036854775807 then ((impl_Worm_node.f a0_0 a0_1 a0_2 a0_3 a0_4 a0_5 a0_6).bind fun node => impl_Worm_eat.l a0_0 a0_1 a0_2 a0_3 a0_4 a0_5 a0_6 a1 node (a1.size + 1) 0) else none
theorem impl_Worm_eat.quarters_still (a r : Int) (w : World) (h : impl_quarters.f a = some r) : Calls Try.prog 102 #[.int .u8 a] w fun e w' => e = .returned (.int .i64 r) ∧ w' = w := by
  unfold impl_quarters.f at h
  by_cases c0 : a = 76
  · rw [if_pos c0] at h
    have c0b : (a == 76) = true := beq_iff_eq.mpr c0
    clear c0
    obtain rfl := Option.some.inj h
    go_enter Try.func102, Try.ntmps102
    go_wp2
    go_ret
    exact ⟨rfl, rfl⟩
  · rw [if_neg c0] at h
    have c0b : (a == 76) = false := beq_eq_false_iff_ne.mpr c0
    clear c0
    by_cases c1 : a = 82
    · rw [if_pos c1] at h
      have c1b : (a == 82) = true := beq_iff_eq.mpr c1
      clear c1
      obtain rfl := Option.some.inj h
      go_enter Try.func102, Try.ntmps102
      go_wp2
      go_ret
      exact ⟨rfl, rfl⟩
    · rw [if_neg c1] at h
      have c1b : (a == 82) = false := beq_eq_false_iff_ne.mpr c1
      clear c1
      by_cases c2 : a = 85
      · rw [if_pos c2] at h
        have c2b : (a == 85) = true := beq_iff_eq.mpr c2
        clear c2
        obtain rfl := Option.some.inj h
        go_enter Try.func102, Try.ntmps102
        go_wp2
        go_ret
        exact ⟨rfl, rfl⟩
      · rw [if_neg c2] at h
        have c2b : (a == 85) = false := beq_eq_false_iff_ne.mpr c2
        clear c2
        obtain rfl := Option.some.inj h
        go_enter Try.func102, Try.ntmps102
        go_wp2
        go_ret
        exact ⟨rfl, rfl⟩
theorem impl_Worm_eat.byte (s : ByteArray) (x : Int) (h0 : 0 ≤ x) (h1 : x < s.size) : ((s.data.toList.getD x.toNat 0).toNat : Int) = bt s x := by
  rw [← rd_bytesOf]
  have h' : x.toNat < s.data.toList.length := by rw [data_length]; omega
  simp [rd, bytesOf, List.getD_eq_getElem?_getD, List.getElem?_eq_getElem h']
theorem impl_Worm_eat.drew_heap (w : World) : w.drew.heap = w.heap := rfl
set_option maxHeartbeats 2000000 in
set_option maxRecDepth 100000 in
theorem impl_Worm_eat.calls (a0_0 : Int) (a0_1 : Int) (a0_2 : ByteArray) (a0_3 : ByteArray) (a0_4 : Int) (a0_5 : Int) (a0_6 : Int) (a1 : ByteArray) (r1 : Int) (r2 : Int) (r3 : ByteArray) (r4 : ByteArray) (r5 : Int) (r6 : Int) (r7 : Int) (r8 : Int) (r9 : Bool) (w : World) (h : impl_Worm_eat.f a0_0 a0_1 a0_2 a0_3 a0_4 a0_5 a0_6 a1 = some (r1, r2, r3, r4, r5, r6, r7, r8, r9)) :
    Calls Try.prog 77 #[.agg #[.int .i64 a0_0, .int .i64 a0_1, .string a0_2, .string a0_3, .int .i64 a0_4, .int .i64 a0_5, .int .i64 a0_6], .string a1] w fun e w' => e = .returned (.tuple #[.agg #[.int .i64 r1, .int .i64 r2, .string r3, .string r4, .int .i64 r5, .int .i64 r6, .int .i64 r7], .int .u8 r8, .bool r9]) ∧ Below w.heap.size w w' := by
  unfold impl_Worm_eat.f at h
  by_cases hlim : a1.size ≤ 9223372036854775807
  · rw [if_pos hlim] at h
    obtain ⟨node, hn, h⟩ := Option.bind_eq_some_iff.1 h
    have HN := Aside0.mk hn
    have H' := Aside0.mk h
    clear h hn
    go_enter Try.func77, Try.ntmps77
    go_wp2_with (first | ((with_reducible refine gate_dst (N := 2) rfl ?_); refine box_event ?hg (N := 2) ?hd (cs := #[.int .i64 a0_0, .int .i64 a0_1, .string a0_2, .string a0_3, .int .i64 a0_4, .int .i64 a0_5, .int .i64 a0_6]) (t := 27) ?hr ?_; (case hd => rfl); (case hg => rfl); (case hr => first | (go_simp; done) | (go_simp; rfl)); intro gb hgb w1 hbox hb; have BK := Aside0.mk hbox; have HB := Aside0.mk hb; have GB := Aside0.mk (show w.heap.size ≤ gb by rw [hgb]; exact Nat.le_refl _); clear hbox hb hgb) | ((with_reducible refine gate_dst (N := 4) rfl ?_); refine box_event ?hg (N := 4) ?hd (cs := #[.int .i64 0, .int .i64 0, .string (⟨#[]⟩ : ByteArray), .string (⟨#[]⟩ : ByteArray), .int .i64 0, .int .i64 0, .int .i64 0]) (t := 27) ?hr ?_; (case hd => rfl); (case hg => rfl); (case hr => first | (go_simp; done) | (go_simp; rfl)); intro gr hgr w2 hbox hb; have BR := Aside0.mk hbox; have GR := Aside0.mk (show w.heap.size ≤ gr by rw [hgr]; exact below_size HB.out); have NE := Aside0.mk (show gb ≠ gr by rw [hgr]; exact Nat.ne_of_lt (blk_lt BK.out)); have BK_ := Aside0.mk (blk_below BK.out hb); have HB_ := Aside0.mk (below_step HB.out hb); clear BK HB; have BK := BK_; have HB := HB_; clear BK_ HB_ hbox hb hgr; have c0 : w2.cell? ⟨gb, 0, none⟩ = some (.int .i64 a0_0) := (blk_cell BK.out 0).trans rfl; have c1 : w2.cell? ⟨gb, 1, none⟩ = some (.int .i64 a0_1) := (blk_cell BK.out 1).trans rfl; have c2 : w2.cell? ⟨gb, 2, none⟩ = some (.string a0_2) := (blk_cell BK.out 2).trans rfl; have c3 : w2.cell? ⟨gb, 3, none⟩ = some (.string a0_3) := (blk_cell BK.out 3).trans rfl; have c4 : w2.cell? ⟨gb, 4, none⟩ = some (.int .i64 a0_4) := (blk_cell BK.out 4).trans rfl; have c5 : w2.cell? ⟨gb, 5, none⟩ = some (.int .i64 a0_5) := (blk_cell BK.out 5).trans rfl; have c6 : w2.cell? ⟨gb, 6, none⟩ = some (.int .i64 a0_6) := (blk_cell BK.out 6).trans rfl) | (go_at_call 67; refine (impl_Worm_node.calls a0_0 a0_1 a0_2 a0_3 a0_4 a0_5 a0_6 node _ HN.out).mono ?_; rintro e w3 ⟨rfl, hb⟩; have BK_ := Aside0.mk (blk_below BK.out hb); have BR_ := Aside0.mk (blk_below BR.out hb); have HB_ := Aside0.mk (below_step HB.out hb); clear BK BR HB; have BK := BK_; have BR := BR_; have HB := HB_; clear BK_ BR_ HB_; clear hb c0 c1 c2 c3 c4 c5 c6) | ((with_reducible refine gate_dst (N := 16) rfl ?_); refine impl_painted.event rfl (N := 16) rfl (x := .tmp 15) rfl rfl Try.underlying9 Try.underlying100 Try.underlying5 ?_; intro gt cap C w4 hgt hbt hCt hct hb; have HT := Aside0.mk hbt; have HC := Aside0.mk hct; have BK_ := Aside0.mk (blk_below BK.out hb); have BR_ := Aside0.mk (blk_below BR.out hb); have HB_ := Aside0.mk (below_step HB.out hb); clear BK BR HB; have BK := BK_; have BR := BR_; have HB := HB_; clear BK_ BR_ HB_; clear hb hbt hct hCt hgt))
    generalize a1.size + 1 = k at H'
    go_loopg [18] k (fun kq v18 wr => ∃ (x : Int), v18 = .int .i64 x ∧ Aside0 (impl_Worm_eat.l a0_0 a0_1 a0_2 a0_3 a0_4 a0_5 a0_6 a1 node kq x = some (r1, r2, r3, r4, r5, r6, r7, r8, r9)) ∧ Aside0 (kq ≤ k) ∧ Aside0 (0 ≤ x) ∧ Aside0 (wr.heap[gb]? = some (.cells #[.int .i64 a0_0, .int .i64 a0_1, .string a0_2, .string a0_3, .int .i64 a0_4, .int .i64 a0_5, .int .i64 a0_6] 27 (0, 0))) ∧ Aside0 (wr.heap[gr]? = some (.cells #[.int .i64 0, .int .i64 0, .string (⟨#[]⟩ : ByteArray), .string (⟨#[]⟩ : ByteArray), .int .i64 0, .int .i64 0, .int .i64 0] 27 (0, 0))) ∧ Aside0 (wr.heap[gt]? = some (.cells C 5 (C.size, C.size + 1))) ∧ Aside0 (Below w.heap.size w wr))
    case atStart => exact ⟨0, rfl, H', ⟨Nat.le_refl _⟩, ⟨by omega⟩, BK, BR, HT, HB⟩
    case round =>
      clear H' BK BR HT HB
      obtain ⟨x, rfl, HA, HK1, HX, BK, BR, HT, HB⟩ := hrel
      cases gk with
      | zero => exact absurd HA.out (by simp [impl_Worm_eat.l])
      | succ k1 =>
        have H := HA.out
        clear HA
        unfold impl_Worm_eat.l at H
        by_cases hx : x < (a1.size : Int)
        · rw [if_pos hx] at H
          have hx0 := HX.out
          have hb0 : decide (x < (a1.size : Int)) = true := decide_eq_true hx
          obtain ⟨hcell, -⟩ := impl_painted.mark_cell HT.out (HC.out x.toNat (by omega))
          rw [impl_Worm_eat.byte a1 x hx0 hx] at hcell
          have p0 : (0 ≤ x) = True := eq_true hx0
          have p1 : (x < (a1.size : Int)) = True := eq_true hx
          have q1 : IntKind.i64.wrap (x + 1) = x + 1 := by simp only [i64_w]; unfold wrap64; omega
          obtain ⟨t, ht, H1⟩ := Option.bind_eq_some_iff.1 H
          clear H
          rw [show wrap64 (a0_6 + t) = IntKind.i64.wrap (a0_6 + t) from (i64_w _).symm] at H1
          obtain ⟨way, hway⟩ : ∃ way, Int.tmod (IntKind.i64.wrap (a0_6 + t)) 4 = way := ⟨_, rfl⟩
          rw [hway] at H1
          obtain ⟨b, hh, hl⟩ := Option.bind_eq_some_iff.1 H1
          have HQ := Aside0.mk ht
          have HH := Aside0.mk hh
          have HL := Aside0.mk hl
          clear ht hh hl H1 hx hx0
          have c0 : wr.cell? ⟨gb, 0, none⟩ = some (.int .i64 a0_0) := (blk_cell BK.out 0).trans rfl; have c1 : wr.cell? ⟨gb, 1, none⟩ = some (.int .i64 a0_1) := (blk_cell BK.out 1).trans rfl; have c2 : wr.cell? ⟨gb, 2, none⟩ = some (.string a0_2) := (blk_cell BK.out 2).trans rfl; have c3 : wr.cell? ⟨gb, 3, none⟩ = some (.string a0_3) := (blk_cell BK.out 3).trans rfl; have c4 : wr.cell? ⟨gb, 4, none⟩ = some (.int .i64 a0_4) := (blk_cell BK.out 4).trans rfl; have c5 : wr.cell? ⟨gb, 5, none⟩ = some (.int .i64 a0_5) := (blk_cell BK.out 5).trans rfl; have c6 : wr.cell? ⟨gb, 6, none⟩ = some (.int .i64 a0_6) := (blk_cell BK.out 6).trans rfl
          go_wp2_with fail
          clear hcell
          refine wp_region_still_tail 6 (by kernel_rfl) (by kernel_rfl) ?_
          simp only [List.take_succ_cons, List.take_zero, List.drop_succ_cons, List.drop_zero]
          change wpStill _ _ (World.drew _) _ _ _
          repeat still_step
          still_call (impl_Worm_eat.quarters_still _ _ _ HQ.out)
          repeat still_step
          refine wpStill_nil ?_
          change wpList _ _ _ _ _ (World.drew _)
          cases b with
          | false =>
            go_wp2_with (go_at_call 64; refine (impl_Worm_there.calls a0_0 a0_1 a0_2 a0_3 a0_4 a0_5 a0_6 node way false _ HH.out).mono ?_; rintro e w5 ⟨rfl, hb⟩; have BK_ := Aside0.mk (blk_below (w := World.drew wr) (by rw [impl_Worm_eat.drew_heap]; exact BK.out) hb); have BR_ := Aside0.mk (blk_below (w := World.drew wr) (by rw [impl_Worm_eat.drew_heap]; exact BR.out) hb); have HT_ := Aside0.mk (blk_below (w := World.drew wr) (by rw [impl_Worm_eat.drew_heap]; exact HT.out) hb); have HB_ := Aside0.mk (below_step (below_drew1 HB.out) hb); clear BK BR HT HB hb c0 c1 c2 c3 c4 c5 c6; have BK := BK_; have BR := BR_; have HT := HT_; have HB := HB_; clear BK_ BR_ HT_ HB_; have d0 : w5.cell? ⟨gb, 0, none⟩ = some (.int .i64 a0_0) := (blk_cell BK.out 0).trans rfl; have d1 : w5.cell? ⟨gb, 1, none⟩ = some (.int .i64 a0_1) := (blk_cell BK.out 1).trans rfl; have d2 : w5.cell? ⟨gb, 2, none⟩ = some (.string a0_2) := (blk_cell BK.out 2).trans rfl; have d3 : w5.cell? ⟨gb, 3, none⟩ = some (.string a0_3) := (blk_cell BK.out 3).trans rfl; have d4 : w5.cell? ⟨gb, 4, none⟩ = some (.int .i64 a0_4) := (blk_cell BK.out 4).trans rfl; have d5 : w5.cell? ⟨gb, 5, none⟩ = some (.int .i64 a0_5) := (blk_cell BK.out 5).trans rfl; have d6 : w5.cell? ⟨gb, 6, none⟩ = some (.int .i64 a0_6) := (blk_cell BK.out 6).trans rfl)
            go_roundg k1
            case measure => have := HK1.out; omega
            case rel =>
              have hl := HL.out
              rw [if_neg (by simp)] at hl
              exact ⟨x + 1, rfl, ⟨hl⟩, ⟨by have := HK1.out; omega⟩, ⟨by have := HX.out; omega⟩, BK, BR, HT, HB⟩
          | true =>
            go_wp2_with (go_at_call 64; refine (impl_Worm_there.calls a0_0 a0_1 a0_2 a0_3 a0_4 a0_5 a0_6 node way true _ HH.out).mono ?_; rintro e w5 ⟨rfl, hb⟩; have BK_ := Aside0.mk (blk_below (w := World.drew wr) (by rw [impl_Worm_eat.drew_heap]; exact BK.out) hb); have BR_ := Aside0.mk (blk_below (w := World.drew wr) (by rw [impl_Worm_eat.drew_heap]; exact BR.out) hb); have HT_ := Aside0.mk (blk_below (w := World.drew wr) (by rw [impl_Worm_eat.drew_heap]; exact HT.out) hb); have HB_ := Aside0.mk (below_step (below_drew1 HB.out) hb); clear BK BR HT HB hb c0 c1 c2 c3 c4 c5 c6; have BK := BK_; have BR := BR_; have HT := HT_; have HB := HB_; clear BK_ BR_ HT_ HB_; have d0 : w5.cell? ⟨gb, 0, none⟩ = some (.int .i64 a0_0) := (blk_cell BK.out 0).trans rfl; have d1 : w5.cell? ⟨gb, 1, none⟩ = some (.int .i64 a0_1) := (blk_cell BK.out 1).trans rfl; have d2 : w5.cell? ⟨gb, 2, none⟩ = some (.string a0_2) := (blk_cell BK.out 2).trans rfl; have d3 : w5.cell? ⟨gb, 3, none⟩ = some (.string a0_3) := (blk_cell BK.out 3).trans rfl; have d4 : w5.cell? ⟨gb, 4, none⟩ = some (.int .i64 a0_4) := (blk_cell BK.out 4).trans rfl; have d5 : w5.cell? ⟨gb, 5, none⟩ = some (.int .i64 a0_5) := (blk_cell BK.out 5).trans rfl; have d6 : w5.cell? ⟨gb, 6, none⟩ = some (.int .i64 a0_6) := (blk_cell BK.out 6).trans rfl)
            have hl := HL.out
            rw [if_pos trivial] at hl
            obtain ⟨⟨z1, z2, z3, z4, z5, z6, z7⟩, hz, hl⟩ := Option.bind_eq_some_iff.1 hl
            obtain ⟨nx, hnx, hl⟩ := Option.bind_eq_some_iff.1 hl
            by_cases hw0 : a0_0 = 0
            · rw [if_pos hw0] at hl; cases hl
            · rw [if_neg hw0] at hl
              simp only [Option.some.injEq, Prod.mk.injEq] at hl
              obtain ⟨rfl, rfl, rfl, rfl, rfl, rfl, rfl, rfl, rfl⟩ := hl
              have HM := Aside0.mk hz
              have HN := Aside0.mk hnx
              have hw1 : (a0_0 == 0) = false := beq_eq_false_iff_ne.mpr hw0
              clear hz hnx d0 d1 d2 d3 d4 d5 d6
              refine start_ (n := 11) (S := fun w' => w'.cell? ⟨gb, 0, none⟩ = some (.int .i64 a0_0) ∧ w'.cell? ⟨gb, 1, none⟩ = some (.int .i64 a0_1) ∧ w'.cell? ⟨gb, 2, none⟩ = some (.string a0_2) ∧ w'.cell? ⟨gb, 3, none⟩ = some (.string a0_3) ∧ w'.cell? ⟨gb, 4, none⟩ = some (.int .i64 a0_4) ∧ w'.cell? ⟨gb, 5, none⟩ = some (.int .i64 a0_5) ∧ w'.cell? ⟨gb, 6, none⟩ = some (.int .i64 a0_6) ∧ w'.heap[gb]? = some (.cells #[.int .i64 a0_0, .int .i64 a0_1, .string a0_2, .string a0_3, .int .i64 a0_4, .int .i64 a0_5, .int .i64 a0_6] 27 (0, 0)) ∧ w'.heap[gr]? = some (.cells #[.int .i64 0, .int .i64 0, .string (⟨#[]⟩ : ByteArray), .string (⟨#[]⟩ : ByteArray), .int .i64 0, .int .i64 0, .int .i64 0] 27 (0, 0)) ∧ Below w.heap.size w w') (ds := [9]) #[false, false, false, false, false, false, false, false, false, false, false] (by kernel_rfl) rfl rfl ⟨(blk_cell BK.out 0).trans rfl, (blk_cell BK.out 1).trans rfl, (blk_cell BK.out 2).trans rfl, (blk_cell BK.out 3).trans rfl, (blk_cell BK.out 4).trans rfl, (blk_cell BK.out 5).trans rfl, (blk_cell BK.out 6).trans rfl, BK.out, BR.out, below_drew1 HB.out⟩ (fun hHeld => ?_)
              refine pure_ (i := 1) (N := some 33) (v := ?_) (a' := ?_) #[false, true, false, false, false, false, false, false, false, false, false] rfl rfl (by kernel_rfl) (fun _ _ _ h => h) (Or.inl ⟨by rfl, ?_⟩) ?_ ?_
              rotate_left
              · intro w'
                go_simp
                with_reducible rfl
              rotate_left
              · simp only [Act.put, List.setIfInBounds_toArray, List.set_cons_zero, List.set_cons_succ, i64_w, i32_w]
                rfl
              refine pure_ (i := 2) (N := some 34) (v := ?_) (a' := ?_) #[false, true, true, false, false, false, false, false, false, false, false] rfl rfl (by kernel_rfl) (fun _ _ _ h => h) (Or.inl ⟨by rfl, ?_⟩) ?_ ?_
              rotate_left
              · intro w'
                go_simp
                with_reducible rfl
              rotate_left
              · simp only [Act.put, List.setIfInBounds_toArray, List.set_cons_zero, List.set_cons_succ, i64_w, i32_w]
                rfl
              refine pure_ (i := 5) (N := some 37) (v := ?_) (a' := ?_) #[false, true, true, false, false, true, false, false, false, false, false] rfl rfl (by kernel_rfl) (fun _ _ _ h => h) (Or.inl ⟨by rfl, ?_⟩) ?_ ?_
              rotate_left
              · intro w'
                go_simp
                with_reducible rfl
              rotate_left
              · simp only [Act.put, List.setIfInBounds_toArray, List.set_cons_zero, List.set_cons_succ, i64_w, i32_w]
                rfl
              refine pure_ (i := 6) (N := some 38) (v := ?_) (a' := ?_) #[false, true, true, false, false, true, true, false, false, false, false] rfl rfl (by kernel_rfl) (fun _ _ _ h => h) (Or.inl ⟨by rfl, ?_⟩) ?_ ?_
              rotate_left
              · intro w'
                go_simp
                with_reducible rfl
              rotate_left
              · simp only [Act.put, List.setIfInBounds_toArray, List.set_cons_zero, List.set_cons_succ, i64_w, i32_w]
                rfl
              refine take_ (i := 0) (N := some 32) (v := ?_) (a' := ?_) #[true, true, true, false, false, true, true, false, false, false, false] rfl rfl (by kernel_rfl) (fun _ _ _ h => h) (Or.inl ⟨by rfl, ?_⟩) hHeld ?_ ?_
              rotate_left
              · rintro w' ⟨s0, s1, s2, s3, s4, s5, s6, s7, s8, s9⟩
                go_simp
                with_reducible rfl
              rotate_left
              · simp only [Act.put, List.setIfInBounds_toArray, List.set_cons_zero, List.set_cons_succ, i64_w, i32_w]
                rfl
              refine take_ (i := 4) (N := some 36) (v := ?_) (a' := ?_) #[true, true, true, false, true, true, true, false, false, false, false] rfl rfl (by kernel_rfl) (fun _ _ _ h => h) (Or.inl ⟨by rfl, ?_⟩) hHeld ?_ ?_
              rotate_left
              · rintro w' ⟨s0, s1, s2, s3, s4, s5, s6, s7, s8, s9⟩
                go_simp
                with_reducible rfl
              rotate_left
              · simp only [Act.put, List.setIfInBounds_toArray, List.set_cons_zero, List.set_cons_succ, i64_w, i32_w]
                rfl
              refine join_ (σ := Nat) 2 #[true, true, true, true, true, true, true, true, true, false, false] (fun (go : Nat) => [(35, .agg #[.int .i64 z1, .int .i64 z2, .string z3, .string z4, .int .i64 z5, .int .i64 z6, .int .i64 z7]), (39, .int .i64 nx), (11, .pointer (some ⟨go, 0, none⟩))]) (fun (go : Nat) w' => (w'.cell? ⟨gb, 0, none⟩ = some (.int .i64 a0_0) ∧ w'.cell? ⟨gb, 1, none⟩ = some (.int .i64 a0_1) ∧ w'.cell? ⟨gb, 2, none⟩ = some (.string a0_2) ∧ w'.cell? ⟨gb, 3, none⟩ = some (.string a0_3) ∧ w'.cell? ⟨gb, 4, none⟩ = some (.int .i64 a0_4) ∧ w'.cell? ⟨gb, 5, none⟩ = some (.int .i64 a0_5) ∧ w'.cell? ⟨gb, 6, none⟩ = some (.int .i64 a0_6) ∧ w'.heap[gb]? = some (.cells #[.int .i64 a0_0, .int .i64 a0_1, .string a0_2, .string a0_3, .int .i64 a0_4, .int .i64 a0_5, .int .i64 a0_6] 27 (0, 0)) ∧ w'.heap[gr]? = some (.cells #[.int .i64 0, .int .i64 0, .string (⟨#[]⟩ : ByteArray), .string (⟨#[]⟩ : ByteArray), .int .i64 0, .int .i64 0, .int .i64 0] 27 (0, 0)) ∧ Below w.heap.size w w') ∧ w'.heap[go]? = some (.cells #[.int .i64 0, .int .i64 0, .string (⟨#[]⟩ : ByteArray), .string (⟨#[]⟩ : ByteArray), .int .i64 0, .int .i64 0, .int .i64 0] 27 (0, 0)) ∧ gb ≠ go ∧ gr ≠ go ∧ w.heap.size ≤ go) ?_ ?_
              rotate_left
              · intro hCont
                refine two_ (i := 3) (j := 8) (Ni := some 35) (Nj := some 11) #[true, true, true, true, true, true, true, false, false, false, false] #[true, true, true, false, true, true, true, false, true, false, false] rfl rfl rfl rfl (by kernel_rfl) (by decide) (by decide) (fun K hK => ?_) (fun K hK => ?_)
                · skip
                  refine goes_ Try.func68 (by kernel_rfl) rfl #[.agg #[.int .i64 a0_0, .int .i64 a0_1, .string a0_2, .string a0_3, .int .i64 a0_4, .int .i64 a0_5, .int .i64 a0_6], .int .i64 node, .int .i64 way, .int .i64 0] (by rfl) rfl rfl (by simp only [List.map_toArray, List.map_cons, List.map_nil]; rfl) ?_
                  with_reducible refine (impl_Worm_made.calls a0_0 a0_1 a0_2 a0_3 a0_4 a0_5 a0_6 node way 0 z1 z2 z3 z4 z5 z6 z7 _ HM.out).mono ?_
                  rintro e w3 ⟨rfl, hb⟩
                  refine ⟨_, rfl, ?_⟩
                  obtain ⟨_, _, _, _, _, _, _, s7, s8, s9⟩ := hHeld
                  have t7 := blk_below s7 hb
                  have t8 := blk_below s8 hb
                  have t9 := below_step s9 hb
                  refine hK.out _ _ ⟨(blk_cell t7 0).trans rfl, (blk_cell t7 1).trans rfl, (blk_cell t7 2).trans rfl, (blk_cell t7 3).trans rfl, (blk_cell t7 4).trans rfl, (blk_cell t7 5).trans rfl, (blk_cell t7 6).trans rfl, t7, t8, t9⟩ (fun hHeld => ?_)
                  clear hK K
                  refine norm_ (a' := ?_) ?_ ?_
                  rotate_left
                  · show Act.put _ (some 35) _ = _
                    simp only [Act.put, List.setIfInBounds_toArray, List.set_cons_zero, List.set_cons_succ, i64_w, i32_w]
                    rfl
                  refine two_ (i := 7) (j := 8) (Ni := some 39) (Nj := some 11) #[true, true, true, true, true, true, true, true, false, false, false] #[true, true, true, true, true, true, true, false, true, false, false] rfl rfl rfl rfl (by kernel_rfl) (by decide) (by decide) (fun K hK => ?_) (fun K hK => ?_)
                  · skip
                    refine goes_ Try.func63 (by kernel_rfl) rfl #[.agg #[.int .i64 a0_0, .int .i64 a0_1, .string a0_2, .string a0_3, .int .i64 a0_4, .int .i64 a0_5, .int .i64 a0_6], .int .i64 node, .int .i64 way] (by rfl) rfl rfl (by simp only [List.map_toArray, List.map_cons, List.map_nil]; rfl) ?_
                    with_reducible refine (impl_Worm_beside.calls a0_0 a0_1 a0_2 a0_3 a0_4 a0_5 a0_6 node way nx _ HN.out).mono ?_
                    rintro e w3 ⟨rfl, hb⟩
                    refine ⟨_, rfl, ?_⟩
                    obtain ⟨_, _, _, _, _, _, _, s7, s8, s9⟩ := hHeld
                    have t7 := blk_below s7 hb
                    have t8 := blk_below s8 hb
                    have t9 := below_step s9 hb
                    refine hK.out _ _ ⟨(blk_cell t7 0).trans rfl, (blk_cell t7 1).trans rfl, (blk_cell t7 2).trans rfl, (blk_cell t7 3).trans rfl, (blk_cell t7 4).trans rfl, (blk_cell t7 5).trans rfl, (blk_cell t7 6).trans rfl, t7, t8, t9⟩ (fun hHeld => ?_)
                    clear hK K
                    refine norm_ (a' := ?_) ?_ ?_
                    rotate_left
                    · show Act.put _ (some 39) _ = _
                      simp only [Act.put, List.setIfInBounds_toArray, List.set_cons_zero, List.set_cons_succ, i64_w, i32_w]
                      rfl
                    refine one_ (i := 8) (N := some 11) #[true, true, true, true, true, true, true, true, true, false, false] rfl rfl (by kernel_rfl) (by decide) (fun K hK => ?_)
                    refine box_step (by rfl) (N := 11) rfl (cs := #[.int .i64 0, .int .i64 0, .string (⟨#[]⟩ : ByteArray), .string (⟨#[]⟩ : ByteArray), .int .i64 0, .int .i64 0, .int .i64 0]) (t := 27) ?_ ?_
                    · first | (go_simp; done) | (go_simp; rfl)
                    intro go hgo w3 hbo hb
                    obtain ⟨_, _, _, _, _, _, _, s7, s8, s9⟩ := hHeld
                    have t7 := blk_below s7 hb
                    have t8 := blk_below s8 hb
                    have t9 := below_step s9 hb
                    have hne1 : gb ≠ go := by rw [hgo]; exact Nat.ne_of_lt (blk_lt s7)
                    have hne2 : gr ≠ go := by rw [hgo]; exact Nat.ne_of_lt (blk_lt s8)
                    have hle : w.heap.size ≤ go := by rw [hgo]; exact below_size s9
                    refine hK.out _ _ ⟨(blk_cell t7 0).trans rfl, (blk_cell t7 1).trans rfl, (blk_cell t7 2).trans rfl, (blk_cell t7 3).trans rfl, (blk_cell t7 4).trans rfl, (blk_cell t7 5).trans rfl, (blk_cell t7 6).trans rfl, t7, t8, t9⟩ (fun hHeld => ?_)
                    clear hK K
                    refine norm_ (a' := ?_) ?_ ?_
                    rotate_left
                    · show Act.put _ (some 11) _ = _
                      simp only [Act.put, List.setIfInBounds_toArray, List.set_cons_zero, List.set_cons_succ, i64_w, i32_w]
                      rfl
                    exact norm_ (by simp only [putAll, Act.put, List.setIfInBounds_toArray, List.set_cons_zero, List.set_cons_succ]) (hCont go _ ⟨hHeld, hbo, hne1, hne2, hle⟩)
                  · skip
                    refine box_step (by rfl) (N := 11) rfl (cs := #[.int .i64 0, .int .i64 0, .string (⟨#[]⟩ : ByteArray), .string (⟨#[]⟩ : ByteArray), .int .i64 0, .int .i64 0, .int .i64 0]) (t := 27) ?_ ?_
                    · first | (go_simp; done) | (go_simp; rfl)
                    intro go hgo w3 hbo hb
                    obtain ⟨_, _, _, _, _, _, _, s7, s8, s9⟩ := hHeld
                    have t7 := blk_below s7 hb
                    have t8 := blk_below s8 hb
                    have t9 := below_step s9 hb
                    have hne1 : gb ≠ go := by rw [hgo]; exact Nat.ne_of_lt (blk_lt s7)
                    have hne2 : gr ≠ go := by rw [hgo]; exact Nat.ne_of_lt (blk_lt s8)
                    have hle : w.heap.size ≤ go := by rw [hgo]; exact below_size s9
                    refine hK.out _ _ ⟨(blk_cell t7 0).trans rfl, (blk_cell t7 1).trans rfl, (blk_cell t7 2).trans rfl, (blk_cell t7 3).trans rfl, (blk_cell t7 4).trans rfl, (blk_cell t7 5).trans rfl, (blk_cell t7 6).trans rfl, t7, t8, t9⟩ (fun hHeld => ?_)
                    clear hK K
                    refine norm_ (a' := ?_) ?_ ?_
                    rotate_left
                    · show Act.put _ (some 11) _ = _
                      simp only [Act.put, List.setIfInBounds_toArray, List.set_cons_zero, List.set_cons_succ, i64_w, i32_w]
                      rfl
                    refine one_ (i := 7) (N := some 39) #[true, true, true, true, true, true, true, true, true, false, false] rfl rfl (by kernel_rfl) (by decide) (fun K hK => ?_)
                    refine goes_ Try.func63 (by kernel_rfl) rfl #[.agg #[.int .i64 a0_0, .int .i64 a0_1, .string a0_2, .string a0_3, .int .i64 a0_4, .int .i64 a0_5, .int .i64 a0_6], .int .i64 node, .int .i64 way] (by rfl) rfl rfl (by simp only [List.map_toArray, List.map_cons, List.map_nil]; rfl) ?_
                    with_reducible refine (impl_Worm_beside.calls a0_0 a0_1 a0_2 a0_3 a0_4 a0_5 a0_6 node way nx _ HN.out).mono ?_
                    rintro e w3 ⟨rfl, hb⟩
                    refine ⟨_, rfl, ?_⟩
                    obtain ⟨_, _, _, _, _, _, _, s7, s8, s9⟩ := hHeld
                    have t7 := blk_below s7 hb
                    have t8 := blk_below s8 hb
                    have t9 := below_step s9 hb
                    have hbo := blk_below hbo hb
                    refine hK.out _ _ ⟨(blk_cell t7 0).trans rfl, (blk_cell t7 1).trans rfl, (blk_cell t7 2).trans rfl, (blk_cell t7 3).trans rfl, (blk_cell t7 4).trans rfl, (blk_cell t7 5).trans rfl, (blk_cell t7 6).trans rfl, t7, t8, t9⟩ (fun hHeld => ?_)
                    clear hK K
                    refine norm_ (a' := ?_) ?_ ?_
                    rotate_left
                    · show Act.put _ (some 39) _ = _
                      simp only [Act.put, List.setIfInBounds_toArray, List.set_cons_zero, List.set_cons_succ, i64_w, i32_w]
                      rfl
                    exact norm_ (by simp only [putAll, Act.put, List.setIfInBounds_toArray, List.set_cons_zero, List.set_cons_succ]) (hCont go _ ⟨hHeld, hbo, hne1, hne2, hle⟩)
                · skip
                  refine box_step (by rfl) (N := 11) rfl (cs := #[.int .i64 0, .int .i64 0, .string (⟨#[]⟩ : ByteArray), .string (⟨#[]⟩ : ByteArray), .int .i64 0, .int .i64 0, .int .i64 0]) (t := 27) ?_ ?_
                  · first | (go_simp; done) | (go_simp; rfl)
                  intro go hgo w3 hbo hb
                  obtain ⟨_, _, _, _, _, _, _, s7, s8, s9⟩ := hHeld
                  have t7 := blk_below s7 hb
                  have t8 := blk_below s8 hb
                  have t9 := below_step s9 hb
                  have hne1 : gb ≠ go := by rw [hgo]; exact Nat.ne_of_lt (blk_lt s7)
                  have hne2 : gr ≠ go := by rw [hgo]; exact Nat.ne_of_lt (blk_lt s8)
                  have hle : w.heap.size ≤ go := by rw [hgo]; exact below_size s9
                  refine hK.out _ _ ⟨(blk_cell t7 0).trans rfl, (blk_cell t7 1).trans rfl, (blk_cell t7 2).trans rfl, (blk_cell t7 3).trans rfl, (blk_cell t7 4).trans rfl, (blk_cell t7 5).trans rfl, (blk_cell t7 6).trans rfl, t7, t8, t9⟩ (fun hHeld => ?_)
                  clear hK K
                  refine norm_ (a' := ?_) ?_ ?_
                  rotate_left
                  · show Act.put _ (some 11) _ = _
                    simp only [Act.put, List.setIfInBounds_toArray, List.set_cons_zero, List.set_cons_succ, i64_w, i32_w]
                    rfl
                  refine one_ (i := 3) (N := some 35) #[true, true, true, true, true, true, true, false, true, false, false] rfl rfl (by kernel_rfl) (by decide) (fun K hK => ?_)
                  refine goes_ Try.func68 (by kernel_rfl) rfl #[.agg #[.int .i64 a0_0, .int .i64 a0_1, .string a0_2, .string a0_3, .int .i64 a0_4, .int .i64 a0_5, .int .i64 a0_6], .int .i64 node, .int .i64 way, .int .i64 0] (by rfl) rfl rfl (by simp only [List.map_toArray, List.map_cons, List.map_nil]; rfl) ?_
                  with_reducible refine (impl_Worm_made.calls a0_0 a0_1 a0_2 a0_3 a0_4 a0_5 a0_6 node way 0 z1 z2 z3 z4 z5 z6 z7 _ HM.out).mono ?_
                  rintro e w3 ⟨rfl, hb⟩
                  refine ⟨_, rfl, ?_⟩
                  obtain ⟨_, _, _, _, _, _, _, s7, s8, s9⟩ := hHeld
                  have t7 := blk_below s7 hb
                  have t8 := blk_below s8 hb
                  have t9 := below_step s9 hb
                  have hbo := blk_below hbo hb
                  refine hK.out _ _ ⟨(blk_cell t7 0).trans rfl, (blk_cell t7 1).trans rfl, (blk_cell t7 2).trans rfl, (blk_cell t7 3).trans rfl, (blk_cell t7 4).trans rfl, (blk_cell t7 5).trans rfl, (blk_cell t7 6).trans rfl, t7, t8, t9⟩ (fun hHeld => ?_)
                  clear hK K
                  refine norm_ (a' := ?_) ?_ ?_
                  rotate_left
                  · show Act.put _ (some 35) _ = _
                    simp only [Act.put, List.setIfInBounds_toArray, List.set_cons_zero, List.set_cons_succ, i64_w, i32_w]
                    rfl
                  refine one_ (i := 7) (N := some 39) #[true, true, true, true, true, true, true, true, true, false, false] rfl rfl (by kernel_rfl) (by decide) (fun K hK => ?_)
                  refine goes_ Try.func63 (by kernel_rfl) rfl #[.agg #[.int .i64 a0_0, .int .i64 a0_1, .string a0_2, .string a0_3, .int .i64 a0_4, .int .i64 a0_5, .int .i64 a0_6], .int .i64 node, .int .i64 way] (by rfl) rfl rfl (by simp only [List.map_toArray, List.map_cons, List.map_nil]; rfl) ?_
                  with_reducible refine (impl_Worm_beside.calls a0_0 a0_1 a0_2 a0_3 a0_4 a0_5 a0_6 node way nx _ HN.out).mono ?_
                  rintro e w3 ⟨rfl, hb⟩
                  refine ⟨_, rfl, ?_⟩
                  obtain ⟨_, _, _, _, _, _, _, s7, s8, s9⟩ := hHeld
                  have t7 := blk_below s7 hb
                  have t8 := blk_below s8 hb
                  have t9 := below_step s9 hb
                  have hbo := blk_below hbo hb
                  refine hK.out _ _ ⟨(blk_cell t7 0).trans rfl, (blk_cell t7 1).trans rfl, (blk_cell t7 2).trans rfl, (blk_cell t7 3).trans rfl, (blk_cell t7 4).trans rfl, (blk_cell t7 5).trans rfl, (blk_cell t7 6).trans rfl, t7, t8, t9⟩ (fun hHeld => ?_)
                  clear hK K
                  refine norm_ (a' := ?_) ?_ ?_
                  rotate_left
                  · show Act.put _ (some 39) _ = _
                    simp only [Act.put, List.setIfInBounds_toArray, List.set_cons_zero, List.set_cons_succ, i64_w, i32_w]
                    rfl
                  exact norm_ (by simp only [putAll, Act.put, List.setIfInBounds_toArray, List.set_cons_zero, List.set_cons_succ]) (hCont go _ ⟨hHeld, hbo, hne1, hne2, hle⟩)
              rintro go w' ⟨hHeld, hbo, hne1, hne2, hle⟩
              refine norm_ (a' := ?_) ?_ ?_
              rotate_left
              · simp only [putAll, Act.put, List.setIfInBounds_toArray, List.set_cons_zero, List.set_cons_succ]
                rfl
              refine last_ (i := 9) (N := none) #[true, true, true, true, true, true, true, true, true, true, false] rfl rfl (by kernel_rfl) (by decide) (fun K hK => ?_)
              have e0 : w'.cell? ⟨go, 0, none⟩ = some (.int .i64 0) := (blk_cell hbo 0).trans rfl
              have e1 : w'.cell? ⟨go, 1, none⟩ = some (.int .i64 0) := (blk_cell hbo 1).trans rfl
              have e2 : w'.cell? ⟨go, 2, none⟩ = some (.string (⟨#[]⟩ : ByteArray)) := (blk_cell hbo 2).trans rfl
              have e3 : w'.cell? ⟨go, 3, none⟩ = some (.string (⟨#[]⟩ : ByteArray)) := (blk_cell hbo 3).trans rfl
              have e4 : w'.cell? ⟨go, 4, none⟩ = some (.int .i64 0) := (blk_cell hbo 4).trans rfl
              have e5 : w'.cell? ⟨go, 5, none⟩ = some (.int .i64 0) := (blk_cell hbo 5).trans rfl
              have e6 : w'.cell? ⟨go, 6, none⟩ = some (.int .i64 0) := (blk_cell hbo 6).trans rfl
              have f0 := blk_frozen hbo 0
              have f1 := blk_frozen hbo 1
              have f2 := blk_frozen hbo 2
              have f3 := blk_frozen hbo 3
              have f4 := blk_frozen hbo 4
              have f5 := blk_frozen hbo 5
              have f6 := blk_frozen hbo 6
              refine skip_ (w1 := ?_) (by rfl) rfl ?_ ?_
              rotate_left
              · go_simp
                rfl
              have hIb := Aside0.mk (show IsS27 w (((((((w'.setCell ⟨go, 0, none⟩ (.int .i64 z1)).setCell ⟨go, 1, none⟩ (.int .i64 z2)).setCell ⟨go, 2, none⟩ (.string z3)).setCell ⟨go, 3, none⟩ (.string z4)).setCell ⟨go, 4, none⟩ (.int .i64 z5)).setCell ⟨go, 5, none⟩ (.int .i64 z6)).setCell ⟨go, 6, none⟩ (.int .i64 z7)) gb a0_0 a0_1 a0_2 a0_3 a0_4 a0_5 a0_6 from ((((((((show IsS27 w w' gb a0_0 a0_1 a0_2 a0_3 a0_4 a0_5 a0_6 from ⟨hHeld.2.2.2.2.2.2.2.1, GB.out⟩).far hne1 _).far hne1 _).far hne1 _).far hne1 _).far hne1 _).far hne1 _).far hne1 _))
              have hIr := Aside0.mk (show IsS27 w (((((((w'.setCell ⟨go, 0, none⟩ (.int .i64 z1)).setCell ⟨go, 1, none⟩ (.int .i64 z2)).setCell ⟨go, 2, none⟩ (.string z3)).setCell ⟨go, 3, none⟩ (.string z4)).setCell ⟨go, 4, none⟩ (.int .i64 z5)).setCell ⟨go, 5, none⟩ (.int .i64 z6)).setCell ⟨go, 6, none⟩ (.int .i64 z7)) gr 0 0 (⟨#[]⟩ : ByteArray) (⟨#[]⟩ : ByteArray) 0 0 0 from ((((((((show IsS27 w w' gr 0 0 (⟨#[]⟩ : ByteArray) (⟨#[]⟩ : ByteArray) 0 0 0 from ⟨hHeld.2.2.2.2.2.2.2.2.1, GR.out⟩).far hne2 _).far hne2 _).far hne2 _).far hne2 _).far hne2 _).far hne2 _).far hne2 _))
              have hIo := Aside0.mk (show IsS27 w (((((((w'.setCell ⟨go, 0, none⟩ (.int .i64 z1)).setCell ⟨go, 1, none⟩ (.int .i64 z2)).setCell ⟨go, 2, none⟩ (.string z3)).setCell ⟨go, 3, none⟩ (.string z4)).setCell ⟨go, 4, none⟩ (.int .i64 z5)).setCell ⟨go, 5, none⟩ (.int .i64 z6)).setCell ⟨go, 6, none⟩ (.int .i64 z7)) go z1 z2 z3 z4 z5 z6 z7 from ((((((((show IsS27 w w' go 0 0 (⟨#[]⟩ : ByteArray) (⟨#[]⟩ : ByteArray) 0 0 0 from ⟨hbo, hle⟩).set_0 z1).set_1 z2).set_2 z3).set_3 z4).set_4 z5).set_5 z6).set_6 z7))
              have HB7 := Aside0.mk (show Below w.heap.size w (((((((w'.setCell ⟨go, 0, none⟩ (.int .i64 z1)).setCell ⟨go, 1, none⟩ (.int .i64 z2)).setCell ⟨go, 2, none⟩ (.string z3)).setCell ⟨go, 3, none⟩ (.string z4)).setCell ⟨go, 4, none⟩ (.int .i64 z5)).setCell ⟨go, 5, none⟩ (.int .i64 z6)).setCell ⟨go, 6, none⟩ (.int .i64 z7)) from (below_set (below_set (below_set (below_set (below_set (below_set (below_set hHeld.2.2.2.2.2.2.2.2.2 hle) hle) hle) hle) hle) hle) hle))
              refine hK.out _ _ ?_
              clear hK K hHeld hbo e0 e1 e2 e3 e4 e5 e6 f0 f1 f2 f3 f4 f5 f6
              generalize (((((((w'.setCell ⟨go, 0, none⟩ (.int .i64 z1)).setCell ⟨go, 1, none⟩ (.int .i64 z2)).setCell ⟨go, 2, none⟩ (.string z3)).setCell ⟨go, 3, none⟩ (.string z4)).setCell ⟨go, 4, none⟩ (.int .i64 z5)).setCell ⟨go, 5, none⟩ (.int .i64 z6)).setCell ⟨go, 6, none⟩ (.int .i64 z7)) = W9 at hIb hIr hIo HB7 ⊢
              refine pure_ (i := 10) (N := some 12) (v := ?_) (a' := ?_) #[true, true, true, true, true, true, true, true, true, true, true] rfl rfl (by kernel_rfl) (fun _ _ _ h => h) (Or.inl ⟨by rfl, ?_⟩) ?_ ?_
              rotate_left
              · intro w'
                go_simp
                with_reducible rfl
              rotate_left
              · simp only [Act.put, List.setIfInBounds_toArray, List.set_cons_zero, List.set_cons_succ, i64_w, i32_w]
                rfl
              refine done_ (by kernel_rfl) ?_
              clear BK BR HT HB
              have d0 : W9.cell? ⟨gb, 0, none⟩ = some (.int .i64 a0_0) := (blk_cell hIb.out.1 0).trans rfl; have e0 : W9.cell? ⟨go, 0, none⟩ = some (.int .i64 z1) := (blk_cell hIo.out.1 0).trans rfl; have e1 : W9.cell? ⟨go, 1, none⟩ = some (.int .i64 z2) := (blk_cell hIo.out.1 1).trans rfl; have e2 : W9.cell? ⟨go, 2, none⟩ = some (.string z3) := (blk_cell hIo.out.1 2).trans rfl; have e3 : W9.cell? ⟨go, 3, none⟩ = some (.string z4) := (blk_cell hIo.out.1 3).trans rfl; have e4 : W9.cell? ⟨go, 4, none⟩ = some (.int .i64 z5) := (blk_cell hIo.out.1 4).trans rfl; have e5 : W9.cell? ⟨go, 5, none⟩ = some (.int .i64 z6) := (blk_cell hIo.out.1 5).trans rfl; have e6 : W9.cell? ⟨go, 6, none⟩ = some (.int .i64 z7) := (blk_cell hIo.out.1 6).trans rfl; have f0 := blk_frozen hIo.out.1 0; have f1 := blk_frozen hIo.out.1 1; have f2 := blk_frozen hIo.out.1 2; have f3 := blk_frozen hIo.out.1 3; have f4 := blk_frozen hIo.out.1 4; have f5 := blk_frozen hIo.out.1 5; have f6 := blk_frozen hIo.out.1 6; have i0 : W9.cell? ⟨gr, 0, none⟩ = some (.int .i64 0) := (blk_cell hIr.out.1 0).trans rfl; have i1 : W9.cell? ⟨gr, 1, none⟩ = some (.int .i64 0) := (blk_cell hIr.out.1 1).trans rfl; have i2 : W9.cell? ⟨gr, 2, none⟩ = some (.string (⟨#[]⟩ : ByteArray)) := (blk_cell hIr.out.1 2).trans rfl; have i3 : W9.cell? ⟨gr, 3, none⟩ = some (.string (⟨#[]⟩ : ByteArray)) := (blk_cell hIr.out.1 3).trans rfl; have i4 : W9.cell? ⟨gr, 4, none⟩ = some (.int .i64 0) := (blk_cell hIr.out.1 4).trans rfl; have i5 : W9.cell? ⟨gr, 5, none⟩ = some (.int .i64 0) := (blk_cell hIr.out.1 5).trans rfl; have i6 : W9.cell? ⟨gr, 6, none⟩ = some (.int .i64 0) := (blk_cell hIr.out.1 6).trans rfl; have j0 := blk_frozen hIr.out.1 0; have j1 := blk_frozen hIr.out.1 1; have j2 := blk_frozen hIr.out.1 2; have j3 := blk_frozen hIr.out.1 3; have j4 := blk_frozen hIr.out.1 4; have j5 := blk_frozen hIr.out.1 5; have j6 := blk_frozen hIr.out.1 6; have ne1 : gr ≠ go := hne2; have ne2 : go ≠ gr := hne2.symm; have hle7 := Aside0.mk hle
              go_wp2_with fail
              refine start_ (n := 15) (S := fun w' => w'.cell? ⟨gb, 0, none⟩ = some (.int .i64 a0_0)) (ds := []) #[false, false, false, false, false, false, false, false, false, false, false, false, false, false, false] (by kernel_rfl) rfl rfl (d0) (fun hHeld => ?_)
              refine pure_ (i := 0) (N := some 40) (v := ?_) (a' := ?_) #[true, false, false, false, false, false, false, false, false, false, false, false, false, false, false] rfl rfl (by kernel_rfl) (fun _ _ _ h => h) (Or.inl ⟨by rfl, ?_⟩) ?_ ?_
              rotate_left
              · intro w'
                go_simp
                with_reducible rfl
              rotate_left
              · simp only [Act.put, List.setIfInBounds_toArray, List.set_cons_zero, List.set_cons_succ, i64_w, i32_w]
                rfl
              refine pure_ (i := 1) (N := some 41) (v := ?_) (a' := ?_) #[true, true, false, false, false, false, false, false, false, false, false, false, false, false, false] rfl rfl (by kernel_rfl) (fun _ _ _ h => h) (Or.inl ⟨by rfl, ?_⟩) ?_ ?_
              rotate_left
              · intro w'
                go_simp
                with_reducible rfl
              rotate_left
              · simp only [Act.put, List.setIfInBounds_toArray, List.set_cons_zero, List.set_cons_succ, i64_w, i32_w]
                rfl
              refine pure_ (i := 4) (N := some 44) (v := ?_) (a' := ?_) #[true, true, false, false, true, false, false, false, false, false, false, false, false, false, false] rfl rfl (by kernel_rfl) (fun _ _ _ h => h) (Or.inl ⟨by rfl, ?_⟩) ?_ ?_
              rotate_left
              · intro w'
                go_simp
                with_reducible rfl
              rotate_left
              · simp only [Act.put, List.setIfInBounds_toArray, List.set_cons_zero, List.set_cons_succ, i64_w, i32_w]
                rfl
              refine pure_ (i := 5) (N := some 45) (v := ?_) (a' := ?_) #[true, true, false, false, true, true, false, false, false, false, false, false, false, false, false] rfl rfl (by kernel_rfl) (fun _ _ _ h => h) (Or.inl ⟨by rfl, ?_⟩) ?_ ?_
              rotate_left
              · intro w'
                go_simp
                with_reducible rfl
              rotate_left
              · simp only [Act.put, List.setIfInBounds_toArray, List.set_cons_zero, List.set_cons_succ, i64_w, i32_w]
                rfl
              refine pure_ (i := 8) (N := some 48) (v := ?_) (a' := ?_) #[true, true, false, false, true, true, false, false, true, false, false, false, false, false, false] rfl rfl (by kernel_rfl) (fun _ _ _ h => h) (Or.inl ⟨by rfl, ?_⟩) ?_ ?_
              rotate_left
              · intro w'
                go_simp
                with_reducible rfl
              rotate_left
              · simp only [Act.put, List.setIfInBounds_toArray, List.set_cons_zero, List.set_cons_succ, i64_w, i32_w]
                rfl
              refine take_ (i := 2) (N := some 42) (v := ?_) (a' := ?_) #[true, true, true, false, true, true, false, false, true, false, false, false, false, false, false] rfl rfl (by kernel_rfl) (fun _ _ _ h => h) (Or.inl ⟨by rfl, ?_⟩) hHeld ?_ ?_
              rotate_left
              · intro w' s0
                go_simp
                with_reducible rfl
              rotate_left
              · simp only [Act.put, List.setIfInBounds_toArray, List.set_cons_zero, List.set_cons_succ, i64_w, i32_w]
                rfl
              refine pure_ (i := 3) (N := some 43) (v := ?_) (a' := ?_) #[true, true, true, true, true, true, false, false, true, false, false, false, false, false, false] rfl rfl (by kernel_rfl) (fun _ _ _ h => h) (Or.inl ⟨by rfl, ?_⟩) ?_ ?_
              rotate_left
              · intro w'
                go_simp
                with_reducible rfl
              rotate_left
              · simp only [Act.put, List.setIfInBounds_toArray, List.set_cons_zero, List.set_cons_succ, i64_w, i32_w]
                rfl
              refine pure_ (i := 9) (N := some 49) (v := ?_) (a' := ?_) #[true, true, true, true, true, true, false, false, true, true, false, false, false, false, false] rfl rfl (by kernel_rfl) (fun _ _ _ h => h) (Or.inl ⟨by rfl, ?_⟩) ?_ ?_
              rotate_left
              · intro w'
                go_simp
                with_reducible rfl
              rotate_left
              · simp only [Act.put, List.setIfInBounds_toArray, List.set_cons_zero, List.set_cons_succ, i64_w, i32_w]
                rfl
              refine take_ (i := 6) (N := some 46) (v := ?_) (a' := ?_) #[true, true, true, true, true, true, true, false, true, true, false, false, false, false, false] rfl rfl (by kernel_rfl) (fun _ _ _ h => h) (Or.inl ⟨by rfl, ?_⟩) hHeld ?_ ?_
              rotate_left
              · intro w' s0
                go_simp
                with_reducible rfl
              rotate_left
              · simp only [Act.put, List.setIfInBounds_toArray, List.set_cons_zero, List.set_cons_succ, i64_w, i32_w]
                rfl
              refine pure_ (i := 7) (N := some 47) (v := ?_) (a' := ?_) #[true, true, true, true, true, true, true, true, true, true, false, false, false, false, false] rfl rfl (by kernel_rfl) (fun _ _ _ h => h) (Or.inl ⟨by rfl, ?_⟩) ?_ ?_
              rotate_left
              · intro w'
                go_simp
                with_reducible rfl
              rotate_left
              · simp only [Act.put, List.setIfInBounds_toArray, List.set_cons_zero, List.set_cons_succ, i64_w, i32_w]
                rfl
              refine one_ (i := 10) (N := none) #[true, true, true, true, true, true, true, true, true, true, true, false, false, false, false] rfl rfl (by kernel_rfl) (by decide) (fun K hK => ?_)
              refine skip_ (w1 := ?_) (by rfl) rfl ?_ ?_
              rotate_left
              · go_simp
                rfl
              refine hK.out _ _ ((by go_simp)) (fun hHeld => ?_)
              clear hK K
              refine pure_ (i := 11) (N := some 50) (v := ?_) (a' := ?_) #[true, true, true, true, true, true, true, true, true, true, true, true, false, false, false] rfl rfl (by kernel_rfl) (fun _ _ _ h => h) (Or.inl ⟨by rfl, ?_⟩) ?_ ?_
              rotate_left
              · intro w'
                go_simp
                with_reducible rfl
              rotate_left
              · simp only [Act.put, List.setIfInBounds_toArray, List.set_cons_zero, List.set_cons_succ, i64_w, i32_w]
                rfl
              refine one_ (i := 12) (N := none) #[true, true, true, true, true, true, true, true, true, true, true, true, true, false, false] rfl rfl (by kernel_rfl) (by decide) (fun K hK => ?_)
              refine skip_ (w1 := ?_) (by rfl) rfl ?_ ?_
              rotate_left
              · go_simp
                rfl
              refine hK.out _ _ ((by go_simp)) (fun hHeld => ?_)
              clear hK K
              refine pure_ (i := 13) (N := some 51) (v := ?_) (a' := ?_) #[true, true, true, true, true, true, true, true, true, true, true, true, true, true, false] rfl rfl (by kernel_rfl) (fun _ _ _ h => h) (Or.inl ⟨by rfl, ?_⟩) ?_ ?_
              rotate_left
              · intro w'
                go_simp
                with_reducible rfl
              rotate_left
              · simp only [Act.put, List.setIfInBounds_toArray, List.set_cons_zero, List.set_cons_succ, i64_w, i32_w]
                rfl
              refine one_ (i := 14) (N := none) #[true, true, true, true, true, true, true, true, true, true, true, true, true, true, true] rfl rfl (by kernel_rfl) (by decide) (fun K hK => ?_)
              refine skip_ (w1 := ?_) (by rfl) rfl ?_ ?_
              rotate_left
              · go_simp
                rfl
              refine hK.out _ _ ((by go_simp)) (fun hHeld => ?_)
              clear hK K
              refine done_ (by kernel_rfl) ?_
              go_wp2
              try simp only [Exit.inBlock, Exit.then]
              have HF := (((((((((((hIr.out.far (p := ⟨go, 4, none⟩) hne2 (.int .i64 (Int.tmod nx a0_0))).far (p := ⟨go, 5, none⟩) hne2 (.int .i64 (wrap64 (Int.tdiv nx a0_0)))).far (p := ⟨go, 6, none⟩) hne2 (.int .i64 way)).set_0 z1).set_1 z2).set_2 z3).set_3 z4).set_4 (Int.tmod nx a0_0)).set_5 (wrap64 (Int.tdiv nx a0_0))).set_6 way)).drew
              refine bodyPost_ret (results_ctt rfl _ _ gr 27 _ (0, 0) _ rfl HF.1 Try.underlying27 rfl (by kernel_rfl)) rfl ?_
              exact ⟨rfl, below_drew1 (below_set (below_set (below_set (below_set (below_set (below_set (below_set (below_set (below_set (below_set HB7.out hle) hle) hle) GR.out) GR.out) GR.out) GR.out) GR.out) GR.out) GR.out)⟩
        · rw [if_neg hx] at H
          simp only [Option.some.injEq, Prod.mk.injEq] at H
          obtain ⟨rfl, rfl, rfl, rfl, rfl, rfl, rfl, rfl, rfl⟩ := H
          have hb0 : decide (x < (a1.size : Int)) = false := decide_eq_false hx
          have e0 : wr.cell? ⟨gr, 0, none⟩ = some (.int .i64 0) := (blk_cell BR.out 0).trans rfl; have e1 : wr.cell? ⟨gr, 1, none⟩ = some (.int .i64 0) := (blk_cell BR.out 1).trans rfl; have e2 : wr.cell? ⟨gr, 2, none⟩ = some (.string (⟨#[]⟩ : ByteArray)) := (blk_cell BR.out 2).trans rfl; have e3 : wr.cell? ⟨gr, 3, none⟩ = some (.string (⟨#[]⟩ : ByteArray)) := (blk_cell BR.out 3).trans rfl; have e4 : wr.cell? ⟨gr, 4, none⟩ = some (.int .i64 0) := (blk_cell BR.out 4).trans rfl; have e5 : wr.cell? ⟨gr, 5, none⟩ = some (.int .i64 0) := (blk_cell BR.out 5).trans rfl; have e6 : wr.cell? ⟨gr, 6, none⟩ = some (.int .i64 0) := (blk_cell BR.out 6).trans rfl; have f0 := blk_frozen BR.out 0; have f1 := blk_frozen BR.out 1; have f2 := blk_frozen BR.out 2; have f3 := blk_frozen BR.out 3; have f4 := blk_frozen BR.out 4; have f5 := blk_frozen BR.out 5; have f6 := blk_frozen BR.out 6
          go_wp2
          try simp only [Exit.inBlock, Exit.then]
          have HF := ((((((((show IsS27 w wr gr 0 0 (⟨#[]⟩ : ByteArray) (⟨#[]⟩ : ByteArray) 0 0 0 from ⟨BR.out, GR.out⟩).set_0 0).set_1 0).set_2 (⟨#[]⟩ : ByteArray)).set_3 (⟨#[]⟩ : ByteArray)).set_4 0).set_5 0).set_6 0)
          refine bodyPost_ret (results_ctt rfl _ _ gr 27 _ (0, 0) _ rfl HF.1 Try.underlying27 rfl (by kernel_rfl)) rfl ?_
          exact ⟨rfl, (below_set (below_set (below_set (below_set (below_set (below_set (below_set HB.out GR.out) GR.out) GR.out) GR.out) GR.out) GR.out) GR.out)⟩
  · rw [if_neg hlim] at h; cases h

end Go.Proofs.Ytgifhfkpfgpagaa.PI
