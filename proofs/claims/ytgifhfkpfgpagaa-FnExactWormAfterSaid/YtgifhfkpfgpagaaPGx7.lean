-- Printed for this claim by gprint.py, a program of this session round the kit's printer. Lean checks it.
import Derived.Test.YtgifhfkpfgpagaaPGx0
import Derived.Test.YtgifhfkpfgpagaaPGx3
import Derived.Test.YtgifhfkpfgpagaaPGx4
import Derived.Test.YtgifhfkpfgpagaaPGx5
import Derived.Test.YtgifhfkpfgpagaaPGx6
namespace Go.Proofs.Ytgifhfkpfgpagaa.PG
open Go.RowKit Go.Proofs.YtgifhfkpfgpagaaW.PrintWords Go.Proofs.YtgifhfkpfgpagaaW.PrintLast Go.Proofs.YtgifhfkpfgpagaaW.PrintMore
attribute [local go_sem] max2_int min2_int max_two min_two max_three min_three max_four min_four   -- for this text's walks alone
set_option linter.unusedVariables false
set_option linter.unusedSimpArgs false

/-! ### impl_Worm_eat: function 77 -/
def impl_Worm_eat.l (a0_0 : Int) (a0_1 : Int) (a0_2 : ByteArray) (a0_3 : ByteArray) (a0_4 : Int) (a0_5 : Int) (a0_6 : Int) (a1 : ByteArray) (node : Int) : Nat → Int → Option (Int × Int × ByteArray × ByteArray × Int × Int × Int × Int × Bool)
  | 0, _ => none
  | n + 1, i => if i < (a1.size : Int) then ((impl_quarters.f (bt a1 i)).bind fun t => (impl_Worm_there.f a0_0 a0_1 a0_2 a0_3 a0_4 a0_5 a0_6 node (Int.tmod (wrap64 (a0_6 + t)) 4)).bind fun b => if b = true then ((impl_Worm_made.f a0_0 a0_1 a0_2 a0_3 a0_4 a0_5 a0_6 node (Int.tmod (wrap64 (a0_6 + t)) 4) 0).bind fun z => (impl_Worm_beside.f a0_0 a0_1 a0_2 a0_3 a0_4 a0_5 a0_6 node (Int.tmod (wrap64 (a0_6 + t)) 4)).bind fun nx => if a0_0 = 0 then none else some (z.1, z.2.1, z.2.2.1, z.2.2.2.1, Int.tmod nx a0_0, wrap64 (Int.tdiv nx a0_0), Int.tmod (wrap64 (a0_6 + t)) 4, bt a1 i, true)) else impl_Worm_eat.l a0_0 a0_1 a0_2 a0_3 a0_4 a0_5 a0_6 a1 node n (i + 1)) else some (0, 0, (⟨#[]⟩ : ByteArray), (⟨#[]⟩ : ByteArray), 0, 0, 0, 0, false)
def impl_Worm_eat.f (a0_0 : Int) (a0_1 : Int) (a0_2 : ByteArray) (a0_3 : ByteArray) (a0_4 : Int) (a0_5 : Int) (a0_6 : Int) (a1 : ByteArray) : Option (Int × Int × ByteArray × ByteArray × Int × Int × Int × Int × Bool) := if a1.size ≤ 9223372036854775807 then ((impl_Worm_node.f a0_0 a0_1 a0_2 a0_3 a0_4 a0_5 a0_6).bind fun node => impl_Worm_eat.l a0_0 a0_1 a0_2 a0_3 a0_4 a0_5 a0_6 a1 node (a1.size + 1) 0) else none
theorem impl_Worm_eat.quarters_still (a r : Int) (w : World) (h : impl_quarters.f a = some r) : Calls Try.prog 102 #[.int .u8 a] w fun e w' => e = .returned (.int .i64 r) ∧ w' = w := by
  unfold impl_quarters.f at h
  by_cases c0 : a = 76
  · rw [if_pos c0] at h
    have c0b : (a == 76) = true := beq_iff_eq.mpr c0
    clear c0
    obtain rfl := Option.some.inj h
    go_enter Try.func102, Try.ntmps102
    go_wp2
    go_ret
    exact ⟨rfl, rfl⟩
  · rw [if_neg c0] at h
    have c0b : (a == 76) = false := beq_eq_false_iff_ne.mpr c0
    clear c0
    by_cases c1 : a = 82
    · rw [if_pos c1] at h
      have c1b : (a == 82) = true := beq_iff_eq.mpr c1
      clear c1
      obtain rfl := Option.some.inj h
      go_enter Try.func102, Try.ntmps102
      go_wp2
      go_ret
      exact ⟨rfl, rfl⟩
    · rw [if_neg c1] at h
      have c1b : (a == 82) = false := beq_eq_false_iff_ne.mpr c1
      clear c1
      by_cases c2 : a = 85
      · rw [if_pos c2] at h
        have c2b : (a == 85) = true := beq_iff_eq.mpr c2
        clear c2
        obtain rfl := Option.some.inj h
        go_enter Try.func102, Try.ntmps102
        go_wp2
        go_ret
        exact ⟨rfl, rfl⟩
      · rw [if_neg c2] at h
        have c2b : (a == 85) = false := beq_eq_false_iff_ne.mpr c2
        clear c2
        obtain rfl := Option.some.inj h
        go_enter Try.func102, Try.ntmps102
        go_wp2
        go_ret
        exact ⟨rfl, rfl⟩
theorem impl_Worm_eat.byte (s : ByteArray) (x : Int) (h0 : 0 ≤ x) (h1 : x < s.size) : ((s.data.toList.getD x.toNat 0).toNat : Int) = bt s x := by
  rw [← rd_bytesOf]
  have h' : x.toNat < s.data.toList.length := by rw [data_length]; omega
  simp [rd, bytesOf, List.getD_eq_getElem?_getD, List.getElem?_eq_getElem h']
theorem impl_Worm_eat.drew_heap (w : World) : w.drew.heap = w.heap := rfl
set_option maxHeartbeats 2000000 in
set_option maxRecDepth 100000 in
theorem impl_Worm_eat.calls (a0_0 : Int) (a0_1 : Int) (a0_2 : ByteArray) (a0_3 : ByteArray) (a0_4 : Int) (a0_5 : Int) (a0_6 : Int) (a1 : ByteArray) (r1 : Int) (r2 : Int) (r3 : ByteArray) (r4 : ByteArray) (r5 : Int) (r6 : Int) (r7 : Int) (r8 : Int) (r9 : Bool) (w : World) (h : impl_Worm_eat.f a0_0 a0_1 a0_2 a0_3 a0_4 a0_5 a0_6 a1 = some (r1, r2, r3, r4, r5, r6, r7, r8, r9)) :
    Calls Try.prog 77 #[.agg #[.int .i64 a0_0, .int .i64 a0_1, .string a0_2, .string a0_3, .int .i64 a0_4, .int .i64 a0_5, .int .i64 a0_6], .string a1] w fun e w' => e = .returned (.tuple #[.agg #[.int .i64 r1, .int .i64 r2, .string r3, .string r4, .int .i64 r5, .int .i64 r6, .int .i64 r7], .int .u8 r8, .bool r9]) ∧ Below w.heap.size w w' := by
  unfold impl_Worm_eat.f at h
  by_cases hlim : a1.size ≤ 9223372036854775807
  · rw [if_pos hlim] at h
    obtain ⟨node, hn, h⟩ := Option.bind_eq_some_iff.1 h
    have HN := Aside0.mk hn
    have H' := Aside0.mk h
    clear h hn
    go_enter Try.func77, Try.ntmps77
    go_wp2_with (first | ((with_reducible refine gate_dst (N := 2) rfl ?_); refine box_event ?hg (N := 2) ?hd (cs := #[.int .i64 a0_0, .int .i64 a0_1, .string a0_2, .string a0_3, .int .i64 a0_4, .int .i64 a0_5, .int .i64 a0_6]) (t := 27) ?hr ?_; (case hd => rfl); (case hg => rfl); (case hr => first | (go_simp; done) | (go_simp; rfl)); intro gb hgb w1 hbox hb; have BK := Aside0.mk hbox; have HB := Aside0.mk hb; have GB := Aside0.mk (show w.heap.size ≤ gb by rw [hgb]; exact Nat.le_refl _); clear hbox hb hgb) | ((with_reducible refine gate_dst (N := 4) rfl ?_); refine box_event ?hg (N := 4) ?hd (cs := #[.int .i64 0, .int .i64 0, .string (⟨#[]⟩ : ByteArray), .string (⟨#[]⟩ : ByteArray), .int .i64 0, .int .i64 0, .int .i64 0]) (t := 27) ?hr ?_; (case hd => rfl); (case hg => rfl); (case hr => first | (go_simp; done) | (go_simp; rfl)); intro gr hgr w2 hbox hb; have BR := Aside0.mk hbox; have GR := Aside0.mk (show w.heap.size ≤ gr by rw [hgr]; exact below_size HB.out); have NE := Aside0.mk (show gb ≠ gr by rw [hgr]; exact Nat.ne_of_lt (blk_lt BK.out)); have BK_ := Aside0.mk (blk_below BK.out hb); have HB_ := Aside0.mk (below_step HB.out hb); clear BK HB; have BK := BK_; have HB := HB_; clear BK_ HB_ hbox hb hgr; have c0 : w2.cell? ⟨gb, 0, none⟩ = some (.int .i64 a0_0) := (blk_cell BK.out 0).trans rfl; have c1 : w2.cell? ⟨gb, 1, none⟩ = some (.int .i64 a0_1) := (blk_cell BK.out 1).trans rfl; have c2 : w2.cell? ⟨gb, 2, none⟩ = some (.string a0_2) := (blk_cell BK.out 2).trans rfl; have c3 : w2.cell? ⟨gb, 3, none⟩ = some (.string a0_3) := (blk_cell BK.out 3).trans rfl; have c4 : w2.cell? ⟨gb, 4, none⟩ = some (.int .i64 a0_4) := (blk_cell BK.out 4).trans rfl; have c5 : w2.cell? ⟨gb, 5, none⟩ = some (.int .i64 a0_5) := (blk_cell BK.out 5).trans rfl; have c6 : w2.cell? ⟨gb, 6, none⟩ = some (.int .i64 a0_6) := (blk_cell BK.out 6).trans rfl) | (go_at_call 67; refine (impl_Worm_node.calls a0_0 a0_1 a0_2 a0_3 a0_4 a0_5 a0_6 node _ HN.out).mono ?_; rintro e w3 ⟨rfl, hb⟩; have BK_ := Aside0.mk (blk_below BK.out hb); have BR_ := Aside0.mk (blk_below BR.out hb); have HB_ := Aside0.mk (below_step HB.out hb); clear BK BR HB; have BK := BK_; have BR := BR_; have HB := HB_; clear BK_ BR_ HB_; clear hb c0 c1 c2 c3 c4 c5 c6) | ((with_reducible refine gate_dst (N := 16) rfl ?_); refine impl_painted.event rfl (N := 16) rfl (x := .tmp 15) rfl rfl Try.underlying9 Try.underlying100 Try.underlying5 ?_; intro gt cap C w4 hgt hbt hCt hct hb; have HT := Aside0.mk hbt; have HC := Aside0.mk hct; have BK_ := Aside0.mk (blk_below BK.out hb); have BR_ := Aside0.mk (blk_below BR.out hb); have HB_ := Aside0.mk (below_step HB.out hb); clear BK BR HB; have BK := BK_; have BR := BR_; have HB := HB_; clear BK_ BR_ HB_; clear hb hbt hct hCt hgt))
    generalize a1.size + 1 = k at H'
    go_loopg [18] k (fun kq v18 wr => ∃ (x : Int), v18 = .int .i64 x ∧ Aside0 (impl_Worm_eat.l a0_0 a0_1 a0_2 a0_3 a0_4 a0_5 a0_6 a1 node kq x = some (r1, r2, r3, r4, r5, r6, r7, r8, r9)) ∧ Aside0 (kq ≤ k) ∧ Aside0 (0 ≤ x) ∧ Aside0 (wr.heap[gb]? = some (.cells #[.int .i64 a0_0, .int .i64 a0_1, .string a0_2, .string a0_3, .int .i64 a0_4, .int .i64 a0_5, .int .i64 a0_6] 27 (0, 0))) ∧ Aside0 (wr.heap[gr]? = some (.cells #[.int .i64 0, .int .i64 0, .string (⟨#[]⟩ : ByteArray), .string (⟨#[]⟩ : ByteArray), .int .i64 0, .int .i64 0, .int .i64 0] 27 (0, 0))) ∧ Aside0 (wr.heap[gt]? = some (.cells C 5 (C.size, C.size + 1))) ∧ Aside0 (Below w.heap.size w wr))
    case atStart => exact ⟨0, rfl, H', ⟨Nat.le_refl _⟩, ⟨by omega⟩, BK, BR, HT, HB⟩
    case round =>
      clear H' BK BR HT HB
      obtain ⟨x, rfl, HA, HK1, HX, BK, BR, HT, HB⟩ := hrel
      cases gk with
      | zero => exact absurd HA.out (by simp [impl_Worm_eat.l])
      | succ k1 =>
        have H := HA.out
        clear HA
        unfold impl_Worm_eat.l at H
        by_cases hx : x < (a1.size : Int)
        · rw [if_pos hx] at H
          have hx0 := HX.out
          have hb0 : decide (x < (a1.size : Int)) = true := decide_eq_true hx
          obtain ⟨hcell, -⟩ := impl_painted.mark_cell HT.out (HC.out x.toNat (by omega))
          rw [impl_Worm_eat.byte a1 x hx0 hx] at hcell
          have p0 : (0 ≤ x) = True := eq_true hx0
          have p1 : (x < (a1.size : Int)) = True := eq_true hx
          have q1 : IntKind.i64.wrap (x + 1) = x + 1 := by simp only [i64_w]; unfold wrap64; omega
          obtain ⟨t, ht, H1⟩ := Option.bind_eq_some_iff.1 H
          clear H
          rw [show wrap64 (a0_6 + t) = IntKind.i64.wrap (a0_6 + t) from (i64_w _).symm] at H1
          obtain ⟨way, hway⟩ : ∃ way, Int.tmod (IntKind.i64.wrap (a0_6 + t)) 4 = way := ⟨_, rfl⟩
          rw [hway] at H1
          obtain ⟨b, hh, hl⟩ := Option.bind_eq_some_iff.1 H1
          have HQ := Aside0.mk ht
          have HH := Aside0.mk hh
          have HL := Aside0.mk hl
          clear ht hh hl H1 hx hx0
          have c0 : wr.cell? ⟨gb, 0, none⟩ = some (.int .i64 a0_0) := (blk_cell BK.out 0).trans rfl; have c1 : wr.cell? ⟨gb, 1, none⟩ = some (.int .i64 a0_1) := (blk_cell BK.out 1).trans rfl; have c2 : wr.cell? ⟨gb, 2, none⟩ = some (.string a0_2) := (blk_cell BK.out 2).trans rfl; have c3 : wr.cell? ⟨gb, 3, none⟩ = some (.string a0_3) := (blk_cell BK.out 3).trans rfl; have c4 : wr.cell? ⟨gb, 4, none⟩ = some (.int .i64 a0_4) := (blk_cell BK.out 4).trans rfl; have c5 : wr.cell? ⟨gb, 5, none⟩ = some (.int .i64 a0_5) := (blk_cell BK.out 5).trans rfl; have c6 : wr.cell? ⟨gb, 6, none⟩ = some (.int .i64 a0_6) := (blk_cell BK.out 6).trans rfl
          go_wp2_with fail
          clear hcell
          refine wp_region_still_tail 6 (by kernel_rfl) (by kernel_rfl) ?_
          simp only [List.take_succ_cons, List.take_zero, List.drop_succ_cons, List.drop_zero]
          change wpStill _ _ (World.drew _) _ _ _
          repeat still_step
          still_call (impl_Worm_eat.quarters_still _ _ _ HQ.out)
          repeat still_step
          refine wpStill_nil ?_
          change wpList _ _ _ _ _ (World.drew _)
          cases b with
          | false =>
            go_wp2_with (go_at_call 64; refine (impl_Worm_there.calls a0_0 a0_1 a0_2 a0_3 a0_4 a0_5 a0_6 node way false _ HH.out).mono ?_; rintro e w5 ⟨rfl, hb⟩; have BK_ := Aside0.mk (blk_below (w := World.drew wr) (by rw [impl_Worm_eat.drew_heap]; exact BK.out) hb); have BR_ := Aside0.mk (blk_below (w := World.drew wr) (by rw [impl_Worm_eat.drew_heap]; exact BR.out) hb); have HT_ := Aside0.mk (blk_below (w := World.drew wr) (by rw [impl_Worm_eat.drew_heap]; exact HT.out) hb); have HB_ := Aside0.mk (below_step (below_drew1 HB.out) hb); clear BK BR HT HB hb c0 c1 c2 c3 c4 c5 c6; have BK := BK_; have BR := BR_; have HT := HT_; have HB := HB_; clear BK_ BR_ HT_ HB_; have d0 : w5.cell? ⟨gb, 0, none⟩ = some (.int .i64 a0_0) := (blk_cell BK.out 0).trans rfl; have d1 : w5.cell? ⟨gb, 1, none⟩ = some (.int .i64 a0_1) := (blk_cell BK.out 1).trans rfl; have d2 : w5.cell? ⟨gb, 2, none⟩ = some (.string a0_2) := (blk_cell BK.out 2).trans rfl; have d3 : w5.cell? ⟨gb, 3, none⟩ = some (.string a0_3) := (blk_cell BK.out 3).trans rfl; have d4 : w5.cell? ⟨gb, 4, none⟩ = some (.int .i64 a0_4) := (blk_cell BK.out 4).trans rfl; have d5 : w5.cell? ⟨gb, 5, none⟩ = some (.int .i64 a0_5) := (blk_cell BK.out 5).trans rfl; have d6 : w5.cell? ⟨gb, 6, none⟩ = some (.int .i64 a0_6) := (blk_cell BK.out 6).trans rfl)
            go_roundg k1
            case measure => have := HK1.out; omega
            case rel =>
              have hl := HL.out
              rw [if_neg (by simp)] at hl
              exact ⟨x + 1, rfl, ⟨hl⟩, ⟨by have := HK1.out; omega⟩, ⟨by have := HX.out; omega⟩, BK, BR, HT, HB⟩
          | true =>
            go_wp2_with (go_at_call 64; refine (impl_Worm_there.calls a0_0 a0_1 a0_2 a0_3 a0_4 a0_5 a0_6 node way true _ HH.out).mono ?_; rintro e w5 ⟨rfl, hb⟩; have BK_ := Aside0.mk (blk_below (w := World.drew wr) (by rw [impl_Worm_eat.drew_heap]; exact BK.out) hb); have BR_ := Aside0.mk (blk_below (w := World.drew wr) (by rw [impl_Worm_eat.drew_heap]; exact BR.out) hb); have HT_ := Aside0.mk (blk_below (w := World.drew wr) (by rw [impl_Worm_eat.drew_heap]; exact HT.out) hb); have HB_ := Aside0.mk (below_step (below_drew1 HB.out) hb); clear BK BR HT HB hb c0 c1 c2 c3 c4 c5 c6; have BK := BK_; have BR := BR_; have HT := HT_; have HB := HB_; clear BK_ BR_ HT_ HB_; have d0 : w5.cell? ⟨gb, 0, none⟩ = some (.int .i64 a0_0) := (blk_cell BK.out 0).trans rfl; have d1 : w5.cell? ⟨gb, 1, none⟩ = some (.int .i64 a0_1) := (blk_cell BK.out 1).trans rfl; have d2 : w5.cell? ⟨gb, 2, none⟩ = some (.string a0_2) := (blk_cell BK.out 2).trans rfl; have d3 : w5.cell? ⟨gb, 3, none⟩ = some (.string a0_3) := (blk_cell BK.out 3).trans rfl; have d4 : w5.cell? ⟨gb, 4, none⟩ = some (.int .i64 a0_4) := (blk_cell BK.out 4).trans rfl; have d5 : w5.cell? ⟨gb, 5, none⟩ = some (.int .i64 a0_5) := (blk_cell BK.out 5).trans rfl; have d6 : w5.cell? ⟨gb, 6, none⟩ = some (.int .i64 a0_6) := (blk_cell BK.out 6).trans rfl)
            have hl := HL.out
            rw [if_pos trivial] at hl
            obtain ⟨⟨z1, z2, z3, z4, z5, z6, z7⟩, hz, hl⟩ := Option.bind_eq_some_iff.1 hl
            obtain ⟨nx, hnx, hl⟩ := Option.bind_eq_some_iff.1 hl
            by_cases hw0 : a0_0 = 0
            · rw [if_pos hw0] at hl; cases hl
            · rw [if_neg hw0] at hl
              simp only [Option.some.injEq, Prod.mk.injEq] at hl
              obtain ⟨rfl, rfl, rfl, rfl, rfl, rfl, rfl, rfl, rfl⟩ := hl
              have HM := Aside0.mk hz
              have HN := Aside0.mk hnx
              have hw1 : (a0_0 == 0) = false := beq_eq_false_iff_ne.mpr hw0
              clear hz hnx d0 d1 d2 d3 d4 d5 d6
              refine start_ (n := 11) (S := fun w' => w'.cell? ⟨gb, 0, none⟩ = some (.int .i64 a0_0) ∧ w'.cell? ⟨gb, 1, none⟩ = some (.int .i64 a0_1) ∧ w'.cell? ⟨gb, 2, none⟩ = some (.string a0_2) ∧ w'.cell? ⟨gb, 3, none⟩ = some (.string a0_3) ∧ w'.cell? ⟨gb, 4, none⟩ = some (.int .i64 a0_4) ∧ w'.cell? ⟨gb, 5, none⟩ = some (.int .i64 a0_5) ∧ w'.cell? ⟨gb, 6, none⟩ = some (.int .i64 a0_6) ∧ w'.heap[gb]? = some (.cells #[.int .i64 a0_0, .int .i64 a0_1, .string a0_2, .string a0_3, .int .i64 a0_4, .int .i64 a0_5, .int .i64 a0_6] 27 (0, 0)) ∧ w'.heap[gr]? = some (.cells #[.int .i64 0, .int .i64 0, .string (⟨#[]⟩ : ByteArray), .string (⟨#[]⟩ : ByteArray), .int .i64 0, .int .i64 0, .int .i64 0] 27 (0, 0)) ∧ Below w.heap.size w w') (ds := [9]) #[false, false, false, false, false, false, false, false, false, false, false] (by kernel_rfl) rfl rfl ⟨(blk_cell BK.out 0).trans rfl, (blk_cell BK.out 1).trans rfl, (blk_cell BK.out 2).trans rfl, (blk_cell BK.out 3).trans rfl, (blk_cell BK.out 4).trans rfl, (blk_cell BK.out 5).trans rfl, (blk_cell BK.out 6).trans rfl, BK.out, BR.out, below_drew1 HB.out⟩ (fun hHeld => ?_)
              refine pure_ (i := 1) (N := some 33) (v := ?_) (a' := ?_) #[false, true, false, false, false, false, false, false, false, false, false] rfl rfl (by kernel_rfl) (fun _ _ _ h => h) (Or.inl ⟨by rfl, ?_⟩) ?_ ?_
              rotate_left
              · intro w'
                go_simp
                with_reducible rfl
              rotate_left
              · simp only [Act.put, List.setIfInBounds_toArray, List.set_cons_zero, List.set_cons_succ, i64_w, i32_w]
                rfl
              refine pure_ (i := 2) (N := some 34) (v := ?_) (a' := ?_) #[false, true, true, false, false, false, false, false, false, false, false] rfl rfl (by kernel_rfl) (fun _ _ _ h => h) (Or.inl ⟨by rfl, ?_⟩) ?_ ?_
              rotate_left
              · intro w'
                go_simp
                with_reducible rfl
              rotate_left
              · simp only [Act.put, List.setIfInBounds_toArray, List.set_cons_zero, List.set_cons_succ, i64_w, i32_w]
                rfl
              refine pure_ (i := 5) (N := some 37) (v := ?_) (a' := ?_) #[false, true, true, false, false, true, false, false, false, false, false] rfl rfl (by kernel_rfl) (fun _ _ _ h => h) (Or.inl ⟨by rfl, ?_⟩) ?_ ?_
              rotate_left
              · intro w'
                go_simp
                with_reducible rfl
              rotate_left
              · simp only [Act.put, List.setIfInBounds_toArray, List.set_cons_zero, List.set_cons_succ, i64_w, i32_w]
                rfl
              refine pure_ (i := 6) (N := some 38) (v := ?_) (a' := ?_) #[false, true, true, false, false, true, true, false, false, false, false] rfl rfl (by kernel_rfl) (fun _ _ _ h => h) (Or.inl ⟨by rfl, ?_⟩) ?_ ?_
              rotate_left
              · intro w'
                go_simp
                with_reducible rfl
              rotate_left
              · simp only [Act.put, List.setIfInBounds_toArray, List.set_cons_zero, List.set_cons_succ, i64_w, i32_w]
                rfl
              refine take_ (i := 0) (N := some 32) (v := ?_) (a' := ?_) #[true, true, true, false, false, true, true, false, false, false, false] rfl rfl (by kernel_rfl) (fun _ _ _ h => h) (Or.inl ⟨by rfl, ?_⟩) hHeld ?_ ?_
              rotate_left
              · rintro w' ⟨s0, s1, s2, s3, s4, s5, s6, s7, s8, s9⟩
                go_simp
                with_reducible rfl
              rotate_left
              · simp only [Act.put, List.setIfInBounds_toArray, List.set_cons_zero, List.set_cons_succ, i64_w, i32_w]
                rfl
              refine take_ (i := 4) (N := some 36) (v := ?_) (a' := ?_) #[true, true, true, false, true, true, true, false, false, false, false] rfl rfl (by kernel_rfl) (fun _ _ _ h => h) (Or.inl ⟨by rfl, ?_⟩) hHeld ?_ ?_
              rotate_left
              · rintro w' ⟨s0, s1, s2, s3, s4, s5, s6, s7, s8, s9⟩
                go_simp
                with_reducible rfl
              rotate_left
              · simp only [Act.put, List.setIfInBounds_toArray, List.set_cons_zero, List.set_cons_succ, i64_w, i32_w]
                rfl
              refine join_ (σ := Nat) 2 #[true, true, true, true, true, true, true, true, true, false, false] (fun (go : Nat) => [(35, .agg #[.int .i64 z1, .int .i64 z2, .string z3, .string z4, .int .i64 z5, .int .i64 z6, .int .i64 z7]), (39, .int .i64 nx), (11, .pointer (some ⟨go, 0, none⟩))]) (fun (go : Nat) w' => (w'.cell? ⟨gb, 0, none⟩ = some (.int .i64 a0_0) ∧ w'.cell? ⟨gb, 1, none⟩ = some (.int .i64 a0_1) ∧ w'.cell? ⟨gb, 2, none⟩ = some (.string a0_2) ∧ w'.cell? ⟨gb, 3, none⟩ = some (.string a0_3) ∧ w'.cell? ⟨gb, 4, none⟩ = some (.int .i64 a0_4) ∧ w'.cell? ⟨gb, 5, none⟩ = some (.int .i64 a0_5) ∧ w'.cell? ⟨gb, 6, none⟩ = some (.int .i64 a0_6) ∧ w'.heap[gb]? = some (.cells #[.int .i64 a0_0, .int .i64 a0_1, .string a0_2, .string a0_3, .int .i64 a0_4, .int .i64 a0_5, .int .i64 a0_6] 27 (0, 0)) ∧ w'.heap[gr]? = some (.cells #[.int .i64 0, .int .i64 0, .string (⟨#[]⟩ : ByteArray), .string (⟨#[]⟩ : ByteArray), .int .i64 0, .int .i64 0, .int .i64 0] 27 (0, 0)) ∧ Below w.heap.size w w') ∧ w'.heap[go]? = some (.cells #[.int .i64 0, .int .i64 0, .string (⟨#[]⟩ : ByteArray), .string (⟨#[]⟩ : ByteArray), .int .i64 0, .int .i64 0, .int .i64 0] 27 (0, 0)) ∧ gb ≠ go ∧ gr ≠ go ∧ w.heap.size ≤ go) ?_ ?_
              rotate_left
              · intro hCont
                refine two_ (i := 3) (j := 8) (Ni := some 35) (Nj := some 11) #[true, true, true, true, true, true, true, false, false, false, false] #[true, true, true, false, true, true, true, false, true, false, false] rfl rfl rfl rfl (by kernel_rfl) (by decide) (by decide) (fun K hK => ?_) (fun K hK => ?_)
                · skip
                  refine goes_ Try.func68 (by kernel_rfl) rfl #[.agg #[.int .i64 a0_0, .int .i64 a0_1, .string a0_2, .string a0_3, .int .i64 a0_4, .int .i64 a0_5, .int .i64 a0_6], .int .i64 node, .int .i64 way, .int .i64 0] (by rfl) rfl rfl (by simp only [List.map_toArray, List.map_cons, List.map_nil]; rfl) ?_
                  with_reducible refine (impl_Worm_made.calls a0_0 a0_1 a0_2 a0_3 a0_4 a0_5 a0_6 node way 0 z1 z2 z3 z4 z5 z6 z7 _ HM.out).mono ?_
                  rintro e w3 ⟨rfl, hb⟩
                  refine ⟨_, rfl, ?_⟩
                  obtain ⟨_, _, _, _, _, _, _, s7, s8, s9⟩ := hHeld
                  have t7 := blk_below s7 hb
                  have t8 := blk_below s8 hb
                  have t9 := below_step s9 hb
                  refine hK.out _ _ ⟨(blk_cell t7 0).trans rfl, (blk_cell t7 1).trans rfl, (blk_cell t7 2).trans rfl, (blk_cell t7 3).trans rfl, (blk_cell t7 4).trans rfl, (blk_cell t7 5).trans rfl, (blk_cell t7 6).trans rfl, t7, t8, t9⟩ (fun hHeld => ?_)
                  clear hK K
                  refine norm_ (a' := ?_) ?_ ?_
                  rotate_left
                  · show Act.put _ (some 35) _ = _
                    simp only [Act.put, List.setIfInBounds_toArray, List.set_cons_zero, List.set_cons_succ, i64_w, i32_w]
                    rfl
                  refine two_ (i := 7) (j := 8) (Ni := some 39) (Nj := some 11) #[true, true, true, true, true, true, true, true, false, false, false] #[true, true, true, true, true, true, true, false, true, false, false] rfl rfl rfl rfl (by kernel_rfl) (by decide) (by decide) (fun K hK => ?_) (fun K hK => ?_)
                  · skip
                    refine goes_ Try.func63 (by kernel_rfl) rfl #[.agg #[.int .i64 a0_0, .int .i64 a0_1, .string a0_2, .string a0_3, .int .i64 a0_4, .int .i64 a0_5, .int .i64 a0_6], .int .i64 node, .int .i64 way] (by rfl) rfl rfl (by simp only [List.map_toArray, List.map_cons, List.map_nil]; rfl) ?_
                    with_reducible refine (impl_Worm_beside.calls a0_0 a0_1 a0_2 a0_3 a0_4 a0_5 a0_6 node way nx _ HN.out).mono ?_
                    rintro e w3 ⟨rfl, hb⟩
                    refine ⟨_, rfl, ?_⟩
                    obtain ⟨_, _, _, _, _, _, _, s7, s8, s9⟩ := hHeld
                    have t7 := blk_below s7 hb
                    have t8 := blk_below s8 hb
                    have t9 := below_step s9 hb
                    refine hK.out _ _ ⟨(blk_cell t7 0).trans rfl, (blk_cell t7 1).trans rfl, (blk_cell t7 2).trans rfl, (blk_cell t7 3).trans rfl, (blk_cell t7 4).trans rfl, (blk_cell t7 5).trans rfl, (blk_cell t7 6).trans rfl, t7, t8, t9⟩ (fun hHeld => ?_)
                    clear hK K
                    refine norm_ (a' := ?_) ?_ ?_
                    rotate_left
                    · show Act.put _ (some 39) _ = _
                      simp only [Act.put, List.setIfInBounds_toArray, List.set_cons_zero, List.set_cons_succ, i64_w, i32_w]
                      rfl
                    refine one_ (i := 8) (N := some 11) #[true, true, true, true, true, true, true, true, true, false, false] rfl rfl (by kernel_rfl) (by decide) (fun K hK => ?_)
                    refine box_step (by rfl) (N := 11) rfl (cs := #[.int .i64 0, .int .i64 0, .string (⟨#[]⟩ : ByteArray), .string (⟨#[]⟩ : ByteArray), .int .i64 0, .int .i64 0, .int .i64 0]) (t := 27) ?_ ?_
                    · first | (go_simp; done) | (go_simp; rfl)
                    intro go hgo w3 hbo hb
                    obtain ⟨_, _, _, _, _, _, _, s7, s8, s9⟩ := hHeld
                    have t7 := blk_below s7 hb
                    have t8 := blk_below s8 hb
                    have t9 := below_step s9 hb
                    have hne1 : gb ≠ go := by rw [hgo]; exact Nat.ne_of_lt (blk_lt s7)
                    have hne2 : gr ≠ go := by rw [hgo]; exact Nat.ne_of_lt (blk_lt s8)
                    have hle : w.heap.size ≤ go := by rw [hgo]; exact below_size s9
                    refine hK.out _ _ ⟨(blk_cell t7 0).trans rfl, (blk_cell t7 1).trans rfl, (blk_cell t7 2).trans rfl, (blk_cell t7 3).trans rfl, (blk_cell t7 4).trans rfl, (blk_cell t7 5).trans rfl, (blk_cell t7 6).trans rfl, t7, t8, t9⟩ (fun hHeld => ?_)
                    clear hK K
                    refine norm_ (a' := ?_) ?_ ?_
                    rotate_left
                    · show Act.put _ (some 11) _ = _
                      simp only [Act.put, List.setIfInBounds_toArray, List.set_cons_zero, List.set_cons_succ, i64_w, i32_w]
                      rfl
                    exact norm_ (by simp only [putAll, Act.put, List.setIfInBounds_toArray, List.set_cons_zero, List.set_cons_succ]) (hCont go _ ⟨hHeld, hbo, hne1, hne2, hle⟩)
                  · skip
                    refine box_step (by rfl) (N := 11) rfl (cs := #[.int .i64 0, .int .i64 0, .string (⟨#[]⟩ : ByteArray), .string (⟨#[]⟩ : ByteArray), .int .i64 0, .int .i64 0, .int .i64 0]) (t := 27) ?_ ?_
                    · first | (go_simp; done) | (go_simp; rfl)
                    intro go hgo w3 hbo hb
                    obtain ⟨_, _, _, _, _, _, _, s7, s8, s9⟩ := hHeld
                    have t7 := blk_below s7 hb
                    have t8 := blk_below s8 hb
                    have t9 := below_step s9 hb
                    have hne1 : gb ≠ go := by rw [hgo]; exact Nat.ne_of_lt (blk_lt s7)
                    have hne2 : gr ≠ go := by rw [hgo]; exact Nat.ne_of_lt (blk_lt s8)
                    have hle : w.heap.size ≤ go := by rw [hgo]; exact below_size s9
                    refine hK.out _ _ ⟨(blk_cell t7 0).trans rfl, (blk_cell t7 1).trans rfl, (blk_cell t7 2).trans rfl, (blk_cell t7 3).trans rfl, (blk_cell t7 4).trans rfl, (blk_cell t7 5).trans rfl, (blk_cell t7 6).trans rfl, t7, t8, t9⟩ (fun hHeld => ?_)
                    clear hK K
                    refine norm_ (a' := ?_) ?_ ?_
                    rotate_left
                    · show Act.put _ (some 11) _ = _
                      simp only [Act.put, List.setIfInBounds_toArray, List.set_cons_zero, List.set_cons_succ, i64_w, i32_w]
                      rfl
                    refine one_ (i := 7) (N := some 39) #[true, true, true, true, true, true, true, true, true, false, false] rfl rfl (by kernel_rfl) (by decide) (fun K hK => ?_)
                    refine goes_ Try.func63 (by kernel_rfl) rfl #[.agg #[.int .i64 a0_0, .int .i64 a0_1, .string a0_2, .string a0_3, .int .i64 a0_4, .int .i64 a0_5, .int .i64 a0_6], .int .i64 node, .int .i64 way] (by rfl) rfl rfl (by simp only [List.map_toArray, List.map_cons, List.map_nil]; rfl) ?_
                    with_reducible refine (impl_Worm_beside.calls a0_0 a0_1 a0_2 a0_3 a0_4 a0_5 a0_6 node way nx _ HN.out).mono ?_
                    rintro e w3 ⟨rfl, hb⟩
                    refine ⟨_, rfl, ?_⟩
                    obtain ⟨_, _, _, _, _, _, _, s7, s8, s9⟩ := hHeld
                    have t7 := blk_below s7 hb
                    have t8 := blk_below s8 hb
                    have t9 := below_step s9 hb
                    have hbo := blk_below hbo hb
                    refine hK.out _ _ ⟨(blk_cell t7 0).trans rfl, (blk_cell t7 1).trans rfl, (blk_cell t7 2).trans rfl, (blk_cell t7 3).trans rfl, (blk_cell t7 4).trans rfl, (blk_cell t7 5).trans rfl, (blk_cell t7 6).trans rfl, t7, t8, t9⟩ (fun hHeld => ?_)
                    clear hK K
                    refine norm_ (a' := ?_) ?_ ?_
                    rotate_left
                    · show Act.put _ (some 39) _ = _
                      simp only [Act.put, List.setIfInBounds_toArray, List.set_cons_zero, List.set_cons_succ, i64_w, i32_w]
                      rfl
                    exact norm_ (by simp only [putAll, Act.put, List.setIfInBounds_toArray, List.set_cons_zero, List.set_cons_succ]) (hCont go _ ⟨hHeld, hbo, hne1, hne2, hle⟩)
                · skip
                  refine box_step (by rfl) (N := 11) rfl (cs := #[.int .i64 0, .int .i64 0, .string (⟨#[]⟩ : ByteArray), .string (⟨#[]⟩ : ByteArray), .int .i64 0, .int .i64 0, .int .i64 0]) (t := 27) ?_ ?_
                  · first | (go_simp; done) | (go_simp; rfl)
                  intro go hgo w3 hbo hb
                  obtain ⟨_, _, _, _, _, _, _, s7, s8, s9⟩ := hHeld
                  have t7 := blk_below s7 hb
                  have t8 := blk_below s8 hb
                  have t9 := below_step s9 hb
                  have hne1 : gb ≠ go := by rw [hgo]; exact Nat.ne_of_lt (blk_lt s7)
                  have hne2 : gr ≠ go := by rw [hgo]; exact Nat.ne_of_lt (blk_lt s8)
                  have hle : w.heap.size ≤ go := by rw [hgo]; exact below_size s9
                  refine hK.out _ _ ⟨(blk_cell t7 0).trans rfl, (blk_cell t7 1).trans rfl, (blk_cell t7 2).trans rfl, (blk_cell t7 3).trans rfl, (blk_cell t7 4).trans rfl, (blk_cell t7 5).trans rfl, (blk_cell t7 6).trans rfl, t7, t8, t9⟩ (fun hHeld => ?_)
                  clear hK K
                  refine norm_ (a' := ?_) ?_ ?_
                  rotate_left
                  · show Act.put _ (some 11) _ = _
                    simp only [Act.put, List.setIfInBounds_toArray, List.set_cons_zero, List.set_cons_succ, i64_w, i32_w]
                    rfl
                  refine one_ (i := 3) (N := some 35) #[true, true, true, true, true, true, true, false, true, false, false] rfl rfl (by kernel_rfl) (by decide) (fun K hK => ?_)
                  refine goes_ Try.func68 (by kernel_rfl) rfl #[.agg #[.int .i64 a0_0, .int .i64 a0_1, .string a0_2, .string a0_3, .int .i64 a0_4, .int .i64 a0_5, .int .i64 a0_6], .int .i64 node, .int .i64 way, .int .i64 0] (by rfl) rfl rfl (by simp only [List.map_toArray, List.map_cons, List.map_nil]; rfl) ?_
                  with_reducible refine (impl_Worm_made.calls a0_0 a0_1 a0_2 a0_3 a0_4 a0_5 a0_6 node way 0 z1 z2 z3 z4 z5 z6 z7 _ HM.out).mono ?_
                  rintro e w3 ⟨rfl, hb⟩
                  refine ⟨_, rfl, ?_⟩
                  obtain ⟨_, _, _, _, _, _, _, s7, s8, s9⟩ := hHeld
                  have t7 := blk_below s7 hb
                  have t8 := blk_below s8 hb
                  have t9 := below_step s9 hb
                  have hbo := blk_below hbo hb
                  refine hK.out _ _ ⟨(blk_cell t7 0).trans rfl, (blk_cell t7 1).trans rfl, (blk_cell t7 2).trans rfl, (blk_cell t7 3).trans rfl, (blk_cell t7 4).trans rfl, (blk_cell t7 5).trans rfl, (blk_cell t7 6).trans rfl, t7, t8, t9⟩ (fun hHeld => ?_)
                  clear hK K
                  refine norm_ (a' := ?_) ?_ ?_
                  rotate_left
                  · show Act.put _ (some 35) _ = _
                    simp only [Act.put, List.setIfInBounds_toArray, List.set_cons_zero, List.set_cons_succ, i64_w, i32_w]
                    rfl
                  refine one_ (i := 7) (N := some 39) #[true, true, true, true, true, true, true, true, true, false, false] rfl rfl (by kernel_rfl) (by decide) (fun K hK => ?_)
                  refine goes_ Try.func63 (by kernel_rfl) rfl #[.agg #[.int .i64 a0_0, .int .i64 a0_1, .string a0_2, .string a0_3, .int .i64 a0_4, .int .i64 a0_5, .int .i64 a0_6], .int .i64 node, .int .i64 way] (by rfl) rfl rfl (by simp only [List.map_toArray, List.map_cons, List.map_nil]; rfl) ?_
                  with_reducible refine (impl_Worm_beside.calls a0_0 a0_1 a0_2 a0_3 a0_4 a0_5 a0_6 node way nx _ HN.out).mono ?_
                  rintro e w3 ⟨rfl, hb⟩
                  refine ⟨_, rfl, ?_⟩
                  obtain ⟨_, _, _, _, _, _, _, s7, s8, s9⟩ := hHeld
                  have t7 := blk_below s7 hb
                  have t8 := blk_below s8 hb
                  have t9 := below_step s9 hb
                  have hbo := blk_below hbo hb
                  refine hK.out _ _ ⟨(blk_cell t7 0).trans rfl, (blk_cell t7 1).trans rfl, (blk_cell t7 2).trans rfl, (blk_cell t7 3).trans rfl, (blk_cell t7 4).trans rfl, (blk_cell t7 5).trans rfl, (blk_cell t7 6).trans rfl, t7, t8, t9⟩ (fun hHeld => ?_)
                  clear hK K
                  refine norm_ (a' := ?_) ?_ ?_
                  rotate_left
                  · show Act.put _ (some 39) _ = _
                    simp only [Act.put, List.setIfInBounds_toArray, List.set_cons_zero, List.set_cons_succ, i64_w, i32_w]
                    rfl
                  exact norm_ (by simp only [putAll, Act.put, List.setIfInBounds_toArray, List.set_cons_zero, List.set_cons_succ]) (hCont go _ ⟨hHeld, hbo, hne1, hne2, hle⟩)
              rintro go w' ⟨hHeld, hbo, hne1, hne2, hle⟩
              refine norm_ (a' := ?_) ?_ ?_
              rotate_left
              · simp only [putAll, Act.put, List.setIfInBounds_toArray, List.set_cons_zero, List.set_cons_succ]
                rfl
              refine last_ (i := 9) (N := none) #[true, true, true, true, true, true, true, true, true, true, false] rfl rfl (by kernel_rfl) (by decide) (fun K hK => ?_)
              have e0 : w'.cell? ⟨go, 0, none⟩ = some (.int .i64 0) := (blk_cell hbo 0).trans rfl
              have e1 : w'.cell? ⟨go, 1, none⟩ = some (.int .i64 0) := (blk_cell hbo 1).trans rfl
              have e2 : w'.cell? ⟨go, 2, none⟩ = some (.string (⟨#[]⟩ : ByteArray)) := (blk_cell hbo 2).trans rfl
              have e3 : w'.cell? ⟨go, 3, none⟩ = some (.string (⟨#[]⟩ : ByteArray)) := (blk_cell hbo 3).trans rfl
              have e4 : w'.cell? ⟨go, 4, none⟩ = some (.int .i64 0) := (blk_cell hbo 4).trans rfl
              have e5 : w'.cell? ⟨go, 5, none⟩ = some (.int .i64 0) := (blk_cell hbo 5).trans rfl
              have e6 : w'.cell? ⟨go, 6, none⟩ = some (.int .i64 0) := (blk_cell hbo 6).trans rfl
              have f0 := blk_frozen hbo 0
              have f1 := blk_frozen hbo 1
              have f2 := blk_frozen hbo 2
              have f3 := blk_frozen hbo 3
              have f4 := blk_frozen hbo 4
              have f5 := blk_frozen hbo 5
              have f6 := blk_frozen hbo 6
              refine skip_ (w1 := ?_) (by rfl) rfl ?_ ?_
              rotate_left
              · go_simp
                rfl
              have hIb := Aside0.mk (show IsS27 w (((((((w'.setCell ⟨go, 0, none⟩ (.int .i64 z1)).setCell ⟨go, 1, none⟩ (.int .i64 z2)).setCell ⟨go, 2, none⟩ (.string z3)).setCell ⟨go, 3, none⟩ (.string z4)).setCell ⟨go, 4, none⟩ (.int .i64 z5)).setCell ⟨go, 5, none⟩ (.int .i64 z6)).setCell ⟨go, 6, none⟩ (.int .i64 z7)) gb a0_0 a0_1 a0_2 a0_3 a0_4 a0_5 a0_6 from ((((((((show IsS27 w w' gb a0_0 a0_1 a0_2 a0_3 a0_4 a0_5 a0_6 from ⟨hHeld.2.2.2.2.2.2.2.1, GB.out⟩).far hne1 _).far hne1 _).far hne1 _).far hne1 _).far hne1 _).far hne1 _).far hne1 _))
              have hIr := Aside0.mk (show IsS27 w (((((((w'.setCell ⟨go, 0, none⟩ (.int .i64 z1)).setCell ⟨go, 1, none⟩ (.int .i64 z2)).setCell ⟨go, 2, none⟩ (.string z3)).setCell ⟨go, 3, none⟩ (.string z4)).setCell ⟨go, 4, none⟩ (.int .i64 z5)).setCell ⟨go, 5, none⟩ (.int .i64 z6)).setCell ⟨go, 6, none⟩ (.int .i64 z7)) gr 0 0 (⟨#[]⟩ : ByteArray) (⟨#[]⟩ : ByteArray) 0 0 0 from ((((((((show IsS27 w w' gr 0 0 (⟨#[]⟩ : ByteArray) (⟨#[]⟩ : ByteArray) 0 0 0 from ⟨hHeld.2.2.2.2.2.2.2.2.1, GR.out⟩).far hne2 _).far hne2 _).far hne2 _).far hne2 _).far hne2 _).far hne2 _).far hne2 _))
              have hIo := Aside0.mk (show IsS27 w (((((((w'.setCell ⟨go, 0, none⟩ (.int .i64 z1)).setCell ⟨go, 1, none⟩ (.int .i64 z2)).setCell ⟨go, 2, none⟩ (.string z3)).setCell ⟨go, 3, none⟩ (.string z4)).setCell ⟨go, 4, none⟩ (.int .i64 z5)).setCell ⟨go, 5, none⟩ (.int .i64 z6)).setCell ⟨go, 6, none⟩ (.int .i64 z7)) go z1 z2 z3 z4 z5 z6 z7 from ((((((((show IsS27 w w' go 0 0 (⟨#[]⟩ : ByteArray) (⟨#[]⟩ : ByteArray) 0 0 0 from ⟨hbo, hle⟩).set_0 z1).set_1 z2).set_2 z3).set_3 z4).set_4 z5).set_5 z6).set_6 z7))
              have HB7 := Aside0.mk (show Below w.heap.size w (((((((w'.setCell ⟨go, 0, none⟩ (.int .i64 z1)).setCell ⟨go, 1, none⟩ (.int .i64 z2)).setCell ⟨go, 2, none⟩ (.string z3)).setCell ⟨go, 3, none⟩ (.string z4)).setCell ⟨go, 4, none⟩ (.int .i64 z5)).setCell ⟨go, 5, none⟩ (.int .i64 z6)).setCell ⟨go, 6, none⟩ (.int .i64 z7)) from (below_set (below_set (below_set (below_set (below_set (below_set (below_set hHeld.2.2.2.2.2.2.2.2.2 hle) hle) hle) hle) hle) hle) hle))
              refine hK.out _ _ ?_
              clear hK K hHeld hbo e0 e1 e2 e3 e4 e5 e6 f0 f1 f2 f3 f4 f5 f6
              generalize (((((((w'.setCell ⟨go, 0, none⟩ (.int .i64 z1)).setCell ⟨go, 1, none⟩ (.int .i64 z2)).setCell ⟨go, 2, none⟩ (.string z3)).setCell ⟨go, 3, none⟩ (.string z4)).setCell ⟨go, 4, none⟩ (.int .i64 z5)).setCell ⟨go, 5, none⟩ (.int .i64 z6)).setCell ⟨go, 6, none⟩ (.int .i64 z7)) = W9 at hIb hIr hIo HB7 ⊢
              refine pure_ (i := 10) (N := some 12) (v := ?_) (a' := ?_) #[true, true, true, true, true, true, true, true, true, true, true] rfl rfl (by kernel_rfl) (fun _ _ _ h => h) (Or.inl ⟨by rfl, ?_⟩) ?_ ?_
              rotate_left
              · intro w'
                go_simp
                with_reducible rfl
              rotate_left
              · simp only [Act.put, List.setIfInBounds_toArray, List.set_cons_zero, List.set_cons_succ, i64_w, i32_w]
                rfl
              refine done_ (by kernel_rfl) ?_
              clear BK BR HT HB
              have d0 : W9.cell? ⟨gb, 0, none⟩ = some (.int .i64 a0_0) := (blk_cell hIb.out.1 0).trans rfl; have e0 : W9.cell? ⟨go, 0, none⟩ = some (.int .i64 z1) := (blk_cell hIo.out.1 0).trans rfl; have e1 : W9.cell? ⟨go, 1, none⟩ = some (.int .i64 z2) := (blk_cell hIo.out.1 1).trans rfl; have e2 : W9.cell? ⟨go, 2, none⟩ = some (.string z3) := (blk_cell hIo.out.1 2).trans rfl; have e3 : W9.cell? ⟨go, 3, none⟩ = some (.string z4) := (blk_cell hIo.out.1 3).trans rfl; have e4 : W9.cell? ⟨go, 4, none⟩ = some (.int .i64 z5) := (blk_cell hIo.out.1 4).trans rfl; have e5 : W9.cell? ⟨go, 5, none⟩ = some (.int .i64 z6) := (blk_cell hIo.out.1 5).trans rfl; have e6 : W9.cell? ⟨go, 6, none⟩ = some (.int .i64 z7) := (blk_cell hIo.out.1 6).trans rfl; have f0 := blk_frozen hIo.out.1 0; have f1 := blk_frozen hIo.out.1 1; have f2 := blk_frozen hIo.out.1 2; have f3 := blk_frozen hIo.out.1 3; have f4 := blk_frozen hIo.out.1 4; have f5 := blk_frozen hIo.out.1 5; have f6 := blk_frozen hIo.out.1 6; have i0 : W9.cell? ⟨gr, 0, none⟩ = some (.int .i64 0) := (blk_cell hIr.out.1 0).trans rfl; have i1 : W9.cell? ⟨gr, 1, none⟩ = some (.int .i64 0) := (blk_cell hIr.out.1 1).trans rfl; have i2 : W9.cell? ⟨gr, 2, none⟩ = some (.string (⟨#[]⟩ : ByteArray)) := (blk_cell hIr.out.1 2).trans rfl; have i3 : W9.cell? ⟨gr, 3, none⟩ = some (.string (⟨#[]⟩ : ByteArray)) := (blk_cell hIr.out.1 3).trans rfl; have i4 : W9.cell? ⟨gr, 4, none⟩ = some (.int .i64 0) := (blk_cell hIr.out.1 4).trans rfl; have i5 : W9.cell? ⟨gr, 5, none⟩ = some (.int .i64 0) := (blk_cell hIr.out.1 5).trans rfl; have i6 : W9.cell? ⟨gr, 6, none⟩ = some (.int .i64 0) := (blk_cell hIr.out.1 6).trans rfl; have j0 := blk_frozen hIr.out.1 0; have j1 := blk_frozen hIr.out.1 1; have j2 := blk_frozen hIr.out.1 2; have j3 := blk_frozen hIr.out.1 3; have j4 := blk_frozen hIr.out.1 4; have j5 := blk_frozen hIr.out.1 5; have j6 := blk_frozen hIr.out.1 6; have ne1 : gr ≠ go := hne2; have ne2 : go ≠ gr := hne2.symm; have hle7 := Aside0.mk hle
              go_wp2_with fail
              refine start_ (n := 15) (S := fun w' => w'.cell? ⟨gb, 0, none⟩ = some (.int .i64 a0_0)) (ds := []) #[false, false, false, false, false, false, false, false, false, false, false, false, false, false, false] (by kernel_rfl) rfl rfl (d0) (fun hHeld => ?_)
              refine pure_ (i := 0) (N := some 40) (v := ?_) (a' := ?_) #[true, false, false, false, false, false, false, false, false, false, false, false, false, false, false] rfl rfl (by kernel_rfl) (fun _ _ _ h => h) (Or.inl ⟨by rfl, ?_⟩) ?_ ?_
              rotate_left
              · intro w'
                go_simp
                with_reducible rfl
              rotate_left
              · simp only [Act.put, List.setIfInBounds_toArray, List.set_cons_zero, List.set_cons_succ, i64_w, i32_w]
                rfl
              refine pure_ (i := 1) (N := some 41) (v := ?_) (a' := ?_) #[true, true, false, false, false, false, false, false, false, false, false, false, false, false, false] rfl rfl (by kernel_rfl) (fun _ _ _ h => h) (Or.inl ⟨by rfl, ?_⟩) ?_ ?_
              rotate_left
              · intro w'
                go_simp
                with_reducible rfl
              rotate_left
              · simp only [Act.put, List.setIfInBounds_toArray, List.set_cons_zero, List.set_cons_succ, i64_w, i32_w]
                rfl
              refine pure_ (i := 4) (N := some 44) (v := ?_) (a' := ?_) #[true, true, false, false, true, false, false, false, false, false, false, false, false, false, false] rfl rfl (by kernel_rfl) (fun _ _ _ h => h) (Or.inl ⟨by rfl, ?_⟩) ?_ ?_
              rotate_left
              · intro w'
                go_simp
                with_reducible rfl
              rotate_left
              · simp only [Act.put, List.setIfInBounds_toArray, List.set_cons_zero, List.set_cons_succ, i64_w, i32_w]
                rfl
              refine pure_ (i := 5) (N := some 45) (v := ?_) (a' := ?_) #[true, true, false, false, true, true, false, false, false, false, false, false, false, false, false] rfl rfl (by kernel_rfl) (fun _ _ _ h => h) (Or.inl ⟨by rfl, ?_⟩) ?_ ?_
              rotate_left
              · intro w'
                go_simp
                with_reducible rfl
              rotate_left
              · simp only [Act.put, List.setIfInBounds_toArray, List.set_cons_zero, List.set_cons_succ, i64_w, i32_w]
                rfl
              refine pure_ (i := 8) (N := some 48) (v := ?_) (a' := ?_) #[true, true, false, false, true, true, false, false, true, false, false, false, false, false, false] rfl rfl (by kernel_rfl) (fun _ _ _ h => h) (Or.inl ⟨by rfl, ?_⟩) ?_ ?_
              rotate_left
              · intro w'
                go_simp
                with_reducible rfl
              rotate_left
              · simp only [Act.put, List.setIfInBounds_toArray, List.set_cons_zero, List.set_cons_succ, i64_w, i32_w]
                rfl
              refine take_ (i := 2) (N := some 42) (v := ?_) (a' := ?_) #[true, true, true, false, true, true, false, false, true, false, false, false, false, false, false] rfl rfl (by kernel_rfl) (fun _ _ _ h => h) (Or.inl ⟨by rfl, ?_⟩) hHeld ?_ ?_
              rotate_left
              · intro w' s0
                go_simp
                with_reducible rfl
              rotate_left
              · simp only [Act.put, List.setIfInBounds_toArray, List.set_cons_zero, List.set_cons_succ, i64_w, i32_w]
                rfl
              refine pure_ (i := 3) (N := some 43) (v := ?_) (a' := ?_) #[true, true, true, true, true, true, false, false, true, false, false, false, false, false, false] rfl rfl (by kernel_rfl) (fun _ _ _ h => h) (Or.inl ⟨by rfl, ?_⟩) ?_ ?_
              rotate_left
              · intro w'
                go_simp
                with_reducible rfl
              rotate_left
              · simp only [Act.put, List.setIfInBounds_toArray, List.set_cons_zero, List.set_cons_succ, i64_w, i32_w]
                rfl
              refine pure_ (i := 9) (N := some 49) (v := ?_) (a' := ?_) #[true, true, true, true, true, true, false, false, true, true, false, false, false, false, false] rfl rfl (by kernel_rfl) (fun _ _ _ h => h) (Or.inl ⟨by rfl, ?_⟩) ?_ ?_
              rotate_left
              · intro w'
                go_simp
                with_reducible rfl
              rotate_left
              · simp only [Act.put, List.setIfInBounds_toArray, List.set_cons_zero, List.set_cons_succ, i64_w, i32_w]
                rfl
              refine take_ (i := 6) (N := some 46) (v := ?_) (a' := ?_) #[true, true, true, true, true, true, true, false, true, true, false, false, false, false, false] rfl rfl (by kernel_rfl) (fun _ _ _ h => h) (Or.inl ⟨by rfl, ?_⟩) hHeld ?_ ?_
              rotate_left
              · intro w' s0
                go_simp
                with_reducible rfl
              rotate_left
              · simp only [Act.put, List.setIfInBounds_toArray, List.set_cons_zero, List.set_cons_succ, i64_w, i32_w]
                rfl
              refine pure_ (i := 7) (N := some 47) (v := ?_) (a' := ?_) #[true, true, true, true, true, true, true, true, true, true, false, false, false, false, false] rfl rfl (by kernel_rfl) (fun _ _ _ h => h) (Or.inl ⟨by rfl, ?_⟩) ?_ ?_
              rotate_left
              · intro w'
                go_simp
                with_reducible rfl
              rotate_left
              · simp only [Act.put, List.setIfInBounds_toArray, List.set_cons_zero, List.set_cons_succ, i64_w, i32_w]
                rfl
              refine one_ (i := 10) (N := none) #[true, true, true, true, true, true, true, true, true, true, true, false, false, false, false] rfl rfl (by kernel_rfl) (by decide) (fun K hK => ?_)
              refine skip_ (w1 := ?_) (by rfl) rfl ?_ ?_
              rotate_left
              · go_simp
                rfl
              refine hK.out _ _ ((by go_simp)) (fun hHeld => ?_)
              clear hK K
              refine pure_ (i := 11) (N := some 50) (v := ?_) (a' := ?_) #[true, true, true, true, true, true, true, true, true, true, true, true, false, false, false] rfl rfl (by kernel_rfl) (fun _ _ _ h => h) (Or.inl ⟨by rfl, ?_⟩) ?_ ?_
              rotate_left
              · intro w'
                go_simp
                with_reducible rfl
              rotate_left
              · simp only [Act.put, List.setIfInBounds_toArray, List.set_cons_zero, List.set_cons_succ, i64_w, i32_w]
                rfl
              refine one_ (i := 12) (N := none) #[true, true, true, true, true, true, true, true, true, true, true, true, true, false, false] rfl rfl (by kernel_rfl) (by decide) (fun K hK => ?_)
              refine skip_ (w1 := ?_) (by rfl) rfl ?_ ?_
              rotate_left
              · go_simp
                rfl
              refine hK.out _ _ ((by go_simp)) (fun hHeld => ?_)
              clear hK K
              refine pure_ (i := 13) (N := some 51) (v := ?_) (a' := ?_) #[true, true, true, true, true, true, true, true, true, true, true, true, true, true, false] rfl rfl (by kernel_rfl) (fun _ _ _ h => h) (Or.inl ⟨by rfl, ?_⟩) ?_ ?_
              rotate_left
              · intro w'
                go_simp
                with_reducible rfl
              rotate_left
              · simp only [Act.put, List.setIfInBounds_toArray, List.set_cons_zero, List.set_cons_succ, i64_w, i32_w]
                rfl
              refine one_ (i := 14) (N := none) #[true, true, true, true, true, true, true, true, true, true, true, true, true, true, true] rfl rfl (by kernel_rfl) (by decide) (fun K hK => ?_)
              refine skip_ (w1 := ?_) (by rfl) rfl ?_ ?_
              rotate_left
              · go_simp
                rfl
              refine hK.out _ _ ((by go_simp)) (fun hHeld => ?_)
              clear hK K
              refine done_ (by kernel_rfl) ?_
              go_wp2
              try simp only [Exit.inBlock, Exit.then]
              have HF := (((((((((((hIr.out.far (p := ⟨go, 4, none⟩) hne2 (.int .i64 (Int.tmod nx a0_0))).far (p := ⟨go, 5, none⟩) hne2 (.int .i64 (wrap64 (Int.tdiv nx a0_0)))).far (p := ⟨go, 6, none⟩) hne2 (.int .i64 way)).set_0 z1).set_1 z2).set_2 z3).set_3 z4).set_4 (Int.tmod nx a0_0)).set_5 (wrap64 (Int.tdiv nx a0_0))).set_6 way)).drew
              refine bodyPost_ret (results_ctt rfl _ _ gr 27 _ (0, 0) _ rfl HF.1 Try.underlying27 rfl (by kernel_rfl)) rfl ?_
              exact ⟨rfl, below_drew1 (below_set (below_set (below_set (below_set (below_set (below_set (below_set (below_set (below_set (below_set HB7.out hle) hle) hle) GR.out) GR.out) GR.out) GR.out) GR.out) GR.out) GR.out)⟩
        · rw [if_neg hx] at H
          simp only [Option.some.injEq, Prod.mk.injEq] at H
          obtain ⟨rfl, rfl, rfl, rfl, rfl, rfl, rfl, rfl, rfl⟩ := H
          have hb0 : decide (x < (a1.size : Int)) = false := decide_eq_false hx
          have e0 : wr.cell? ⟨gr, 0, none⟩ = some (.int .i64 0) := (blk_cell BR.out 0).trans rfl; have e1 : wr.cell? ⟨gr, 1, none⟩ = some (.int .i64 0) := (blk_cell BR.out 1).trans rfl; have e2 : wr.cell? ⟨gr, 2, none⟩ = some (.string (⟨#[]⟩ : ByteArray)) := (blk_cell BR.out 2).trans rfl; have e3 : wr.cell? ⟨gr, 3, none⟩ = some (.string (⟨#[]⟩ : ByteArray)) := (blk_cell BR.out 3).trans rfl; have e4 : wr.cell? ⟨gr, 4, none⟩ = some (.int .i64 0) := (blk_cell BR.out 4).trans rfl; have e5 : wr.cell? ⟨gr, 5, none⟩ = some (.int .i64 0) := (blk_cell BR.out 5).trans rfl; have e6 : wr.cell? ⟨gr, 6, none⟩ = some (.int .i64 0) := (blk_cell BR.out 6).trans rfl; have f0 := blk_frozen BR.out 0; have f1 := blk_frozen BR.out 1; have f2 := blk_frozen BR.out 2; have f3 := blk_frozen BR.out 3; have f4 := blk_frozen BR.out 4; have f5 := blk_frozen BR.out 5; have f6 := blk_frozen BR.out 6
          go_wp2
          try simp only [Exit.inBlock, Exit.then]
          have HF := ((((((((show IsS27 w wr gr 0 0 (⟨#[]⟩ : ByteArray) (⟨#[]⟩ : ByteArray) 0 0 0 from ⟨BR.out, GR.out⟩).set_0 0).set_1 0).set_2 (⟨#[]⟩ : ByteArray)).set_3 (⟨#[]⟩ : ByteArray)).set_4 0).set_5 0).set_6 0)
          refine bodyPost_ret (results_ctt rfl _ _ gr 27 _ (0, 0) _ rfl HF.1 Try.underlying27 rfl (by kernel_rfl)) rfl ?_
          exact ⟨rfl, (below_set (below_set (below_set (below_set (below_set (below_set (below_set HB.out GR.out) GR.out) GR.out) GR.out) GR.out) GR.out) GR.out)⟩
  · rw [if_neg hlim] at h; cases h

/-! ### impl_WormAfter: function 42 -/
mutual
def impl_WormAfter.j0 : Nat → ByteArray → Int → Bool → Int → Int → ByteArray → ByteArray → Int → Int → Int → Option (Int × Int × ByteArray × ByteArray × Int × Int × Int × Bool)
  | 0, _, _, _, _, _, _, _, _, _, _ => none
  | k + 1, x1, x2, x19, x211000, x211001, x211002, x211003, x211004, x211005, x211006 => if x19 = true then (some (0, 0, (⟨#[]⟩ : ByteArray), (⟨#[]⟩ : ByteArray), 0, 0, 0, false)) else (impl_WormAfter.l0 k x1 x2 0 x211000 x211001 x211002 x211003 x211004 x211005 x211006)
def impl_WormAfter.l0 : Nat → ByteArray → Int → Int → Int → Int → ByteArray → ByteArray → Int → Int → Int → Option (Int × Int × ByteArray × ByteArray × Int × Int × Int × Bool)
  | 0, _, _, _, _, _, _, _, _, _, _ => none
  | k + 1, x1, x21, x22, x211000, x211001, x211002, x211003, x211004, x211005, x211006 => if x22 < x21 then ((impl_Worm_eat.f x211000 x211001 x211002 x211003 x211004 x211005 x211006 x1).bind fun bt214 => (if bt214.2.2.2.2.2.2.2.2 = true then (impl_WormAfter.l0 k x1 x21 (wrap64 (x22 + 1)) bt214.1 bt214.2.1 bt214.2.2.1 bt214.2.2.2.1 bt214.2.2.2.2.1 bt214.2.2.2.2.2.1 bt214.2.2.2.2.2.2.1) else (some (0, 0, (⟨#[]⟩ : ByteArray), (⟨#[]⟩ : ByteArray), 0, 0, 0, false)))) else (some (x211000, x211001, x211002, x211003, x211004, x211005, x211006, true))
end
def impl_WormAfter.f (k : Nat) (a0_0 : Int) (a0_1 : Int) (a0_2 : ByteArray) (a0_3 : ByteArray) (a0_4 : Int) (a0_5 : Int) (a0_6 : Int) (a1 : ByteArray) (a2 : Int) : Option (Int × Int × ByteArray × ByteArray × Int × Int × Int × Bool) := (impl_isTasting.f k a0_0 a0_1 a0_2 a0_3 a0_4 a0_5 a0_6 a1).bind fun t212 => (if t212 = true then ((impl_within.f a2 0 100).bind fun t213 => (impl_WormAfter.j0 k a1 a2 (!t213) a0_0 a0_1 a0_2 a0_3 a0_4 a0_5 a0_6)) else (impl_WormAfter.j0 k a1 a2 true a0_0 a0_1 a0_2 a0_3 a0_4 a0_5 a0_6))
theorem impl_WormAfter.mono_l : ∀ k, (∀ y0 y1 y2 y3 y4 y5 y6 y7 y8 y9, LeO (impl_WormAfter.j0 k y0 y1 y2 y3 y4 y5 y6 y7 y8 y9) (impl_WormAfter.j0 (k + 1) y0 y1 y2 y3 y4 y5 y6 y7 y8 y9)) ∧ (∀ y0 y1 y2 y3 y4 y5 y6 y7 y8 y9, LeO (impl_WormAfter.l0 k y0 y1 y2 y3 y4 y5 y6 y7 y8 y9) (impl_WormAfter.l0 (k + 1) y0 y1 y2 y3 y4 y5 y6 y7 y8 y9))
  | 0 => ⟨fun _ _ _ _ _ _ _ _ _ _ r h => by simp [impl_WormAfter.j0] at h, fun _ _ _ _ _ _ _ _ _ _ r h => by simp [impl_WormAfter.l0] at h⟩
  | k + 1 => by
    obtain ⟨ih0, ih1⟩ := impl_WormAfter.mono_l k
    refine ⟨?_, ?_⟩
    · intro y0 y1 y2 y3 y4 y5 y6 y7 y8 y9
      unfold impl_WormAfter.j0
      repeat' first
      | (with_reducible exact ih0 _ _ _ _ _ _ _ _ _ _)
      | (with_reducible exact ih1 _ _ _ _ _ _ _ _ _ _)
      | (with_reducible exact impl_isTasting.mono _ _ _ _ _ _ _ _ _)
      | (with_reducible exact LeO.refl _)
      | (with_reducible exact LeO.none _)
      | (with_reducible refine LeO.ite ?_ ?_)
      | (with_reducible refine LeO.bind ?_ (fun _ => ?_))
      | exact ih0 _ _ _ _ _ _ _ _ _ _
      | exact ih1 _ _ _ _ _ _ _ _ _ _
      | exact impl_isTasting.mono _ _ _ _ _ _ _ _ _
      | exact LeO.none _
      | refine LeO.ite ?_ ?_
      | refine LeO.bind ?_ (fun _ => ?_)
    · intro y0 y1 y2 y3 y4 y5 y6 y7 y8 y9
      unfold impl_WormAfter.l0
      repeat' first
      | (with_reducible exact ih0 _ _ _ _ _ _ _ _ _ _)
      | (with_reducible exact ih1 _ _ _ _ _ _ _ _ _ _)
      | (with_reducible exact impl_isTasting.mono _ _ _ _ _ _ _ _ _)
      | (with_reducible exact LeO.refl _)
      | (with_reducible exact LeO.none _)
      | (with_reducible refine LeO.ite ?_ ?_)
      | (with_reducible refine LeO.bind ?_ (fun _ => ?_))
      | exact ih0 _ _ _ _ _ _ _ _ _ _
      | exact ih1 _ _ _ _ _ _ _ _ _ _
      | exact impl_isTasting.mono _ _ _ _ _ _ _ _ _
      | exact LeO.none _
      | refine LeO.ite ?_ ?_
      | refine LeO.bind ?_ (fun _ => ?_)
theorem impl_WormAfter.mono : ∀ a0 a1 a2 a3 a4 a5 a6 a7 a8 k, LeO (impl_WormAfter.f k a0 a1 a2 a3 a4 a5 a6 a7 a8) (impl_WormAfter.f (k + 1) a0 a1 a2 a3 a4 a5 a6 a7 a8) := by
  intro a0 a1 a2 a3 a4 a5 a6 a7 a8 k
  obtain ⟨ih0, ih1⟩ := impl_WormAfter.mono_l k
  unfold impl_WormAfter.f
  repeat' first
      | (with_reducible exact ih0 _ _ _ _ _ _ _ _ _ _)
      | (with_reducible exact ih1 _ _ _ _ _ _ _ _ _ _)
      | (with_reducible exact impl_isTasting.mono _ _ _ _ _ _ _ _ _)
      | (with_reducible exact LeO.refl _)
      | (with_reducible exact LeO.none _)
      | (with_reducible refine LeO.ite ?_ ?_)
      | (with_reducible refine LeO.bind ?_ (fun _ => ?_))
      | exact ih0 _ _ _ _ _ _ _ _ _ _
      | exact ih1 _ _ _ _ _ _ _ _ _ _
      | exact impl_isTasting.mono _ _ _ _ _ _ _ _ _
      | exact LeO.none _
      | refine LeO.ite ?_ ?_
      | refine LeO.bind ?_ (fun _ => ?_)
set_option maxHeartbeats 8000000 in
set_option maxRecDepth 100000 in
theorem impl_WormAfter.calls (k : Nat) (a0_0 : Int) (a0_1 : Int) (a0_2 : ByteArray) (a0_3 : ByteArray) (a0_4 : Int) (a0_5 : Int) (a0_6 : Int) (a1 : ByteArray) (a2 : Int) (r1 : Int) (r2 : Int) (r3 : ByteArray) (r4 : ByteArray) (r5 : Int) (r6 : Int) (r7 : Int) (r8 : Bool) (w : World) (h : impl_WormAfter.f k a0_0 a0_1 a0_2 a0_3 a0_4 a0_5 a0_6 a1 a2 = some (r1, r2, r3, r4, r5, r6, r7, r8)) :
    Calls Try.prog 42 #[.agg #[.int .i64 a0_0, .int .i64 a0_1, .string a0_2, .string a0_3, .int .i64 a0_4, .int .i64 a0_5, .int .i64 a0_6], .string a1, .int .i64 a2] w fun e w' => e = .returned (.tuple #[.agg #[.int .i64 r1, .int .i64 r2, .string r3, .string r4, .int .i64 r5, .int .i64 r6, .int .i64 r7], .bool r8]) ∧ Below w.heap.size w w' := by
  have hu27 := Try.underlying27
  have HB := Aside0.mk (Below.refl w.heap.size w)
  have H : ((impl_isTasting.f k a0_0 a0_1 a0_2 a0_3 a0_4 a0_5 a0_6 a1).bind fun t212 => (if t212 = true then ((impl_within.f a2 0 100).bind fun t213 => (impl_WormAfter.j0 k a1 a2 (!t213) a0_0 a0_1 a0_2 a0_3 a0_4 a0_5 a0_6)) else (impl_WormAfter.j0 k a1 a2 true a0_0 a0_1 a0_2 a0_3 a0_4 a0_5 a0_6))) = some (r1, r2, r3, r4, r5, r6, r7, r8) := h
  clear h
  have HC4 := Aside0.mk H
  clear H
  go_enter Try.func42, Try.ntmps42
  go_upto_region 1 with (first | ((with_reducible refine gate_dst (N := 3) rfl ?_); refine box_event ?hg (N := 3) ?hd (cs := #[.int .i64 a0_0, .int .i64 a0_1, .string a0_2, .string a0_3, .int .i64 a0_4, .int .i64 a0_5, .int .i64 a0_6]) (t := 27) ?hr ?_; (case hd => rfl); (case hg => rfl); (case hr => first | (go_simp; done) | (go_simp; rfl)); intro gb210 hg w5 hbox hb; have n0_ := Aside0.mk (below_step (by repeat (first | (with_reducible first | exact HB.out | apply below_alloc | apply pw_below_drewN | apply below_drew1) | exact HB.out)) hb); have n1_ := Aside0.mk (hbox); have n2_ := Aside0.mk ((by rw [hg]; exact (below_size (by repeat (first | (with_reducible first | exact HB.out | apply below_alloc | apply pw_below_drewN | apply below_drew1) | exact HB.out))) : w.heap.size ≤ gb210)); have n3_ := Aside0.mk ((by rw [hg]; exact (below_size (by repeat (first | (with_reducible first | exact HB.out | apply below_alloc | apply pw_below_drewN | apply below_drew1) | exact HB.out))) : w.heap.size ≤ gb210)); clear HB; have HB := n0_; have BK210 := n1_; have GW210 := n2_; have GE210 := n3_; clear n0_ n1_ n2_ n3_; clear hb hbox hg) | ((with_reducible refine gate_dst (N := 6) rfl ?_); refine box_event ?hg (N := 6) ?hd (cs := #[.int .i64 0, .int .i64 0, .string (⟨#[]⟩ : ByteArray), .string (⟨#[]⟩ : ByteArray), .int .i64 0, .int .i64 0, .int .i64 0]) (t := 27) ?hr ?_; (case hd => rfl); (case hg => rfl); (case hr => first | (go_simp; done) | (go_simp; rfl)); intro gb211 hg w6 hbox hb; have n0_ := Aside0.mk (blk_below (g := gb210) (o := .cells #[.int .i64 a0_0, .int .i64 a0_1, .string a0_2, .string a0_3, .int .i64 a0_4, .int .i64 a0_5, .int .i64 a0_6] 27 (0, 0)) (by (with_reducible repeat (first | refine blk_drewN ?_ _ | refine blk_drew ?_ | refine blk_alloc ?_ _)); exact BK210.out) hb); have n1_ := Aside0.mk (below_step (by repeat (first | (with_reducible first | exact HB.out | apply below_alloc | apply pw_below_drewN | apply below_drew1 | refine below_set ?_ GE210.out) | exact HB.out)) hb); have n2_ := Aside0.mk (hbox); have n3_ := Aside0.mk ((by rw [hg]; exact (below_size (by repeat (first | (with_reducible first | exact HB.out | apply below_alloc | apply pw_below_drewN | apply below_drew1 | refine below_set ?_ GE210.out) | exact HB.out))) : w.heap.size ≤ gb211)); have n4_ := Aside0.mk ((by rw [hg]; exact (below_size (by repeat (first | (with_reducible first | exact HB.out | apply below_alloc | apply pw_below_drewN | apply below_drew1 | refine below_set ?_ GE210.out) | exact HB.out))) : w.heap.size ≤ gb211)); have n5_ := Aside0.mk ((by rw [hg]; exact Nat.ne_of_lt (blk_lt (g := gb210) (o := .cells #[.int .i64 a0_0, .int .i64 a0_1, .string a0_2, .string a0_3, .int .i64 a0_4, .int .i64 a0_5, .int .i64 a0_6] 27 (0, 0)) (by (with_reducible repeat (first | refine blk_drewN ?_ _ | refine blk_drew ?_ | refine blk_alloc ?_ _)); exact BK210.out)) : gb210 ≠ gb211)); have n6_ := Aside0.mk ((by rw [hg]; exact Nat.ne_of_gt (blk_lt (g := gb210) (o := .cells #[.int .i64 a0_0, .int .i64 a0_1, .string a0_2, .string a0_3, .int .i64 a0_4, .int .i64 a0_5, .int .i64 a0_6] 27 (0, 0)) (by (with_reducible repeat (first | refine blk_drewN ?_ _ | refine blk_drew ?_ | refine blk_alloc ?_ _)); exact BK210.out)) : gb211 ≠ gb210)); clear BK210; clear HB; have BK210 := n0_; have HB := n1_; have BK211 := n2_; have GW211 := n3_; have GE211 := n4_; have NB210_211 := n5_; have NB211_210 := n6_; clear n0_ n1_ n2_ n3_ n4_ n5_ n6_; clear hb hbox hg))
  (try simp only [Act.put, List.setIfInBounds_toArray, List.set_cons_zero, List.set_cons_succ])
  go_cut [19] (fun v19 wc => ∃ (kq : Nat) (x19_3 : Bool), v19 = .bool x19_3 ∧ Aside0 (impl_WormAfter.j0 kq a1 a2 x19_3 a0_0 a0_1 a0_2 a0_3 a0_4 a0_5 a0_6 = some (r1, r2, r3, r4, r5, r6, r7, r8)) ∧ Aside0 (kq ≤ k) ∧ Aside0 (wc.heap[gb210]? = some (.cells #[.int .i64 a0_0, .int .i64 a0_1, .string a0_2, .string a0_3, .int .i64 a0_4, .int .i64 a0_5, .int .i64 a0_6] 27 (0, 0))) ∧ Aside0 (wc.heap[gb211]? = some (.cells #[.int .i64 0, .int .i64 0, .string (⟨#[]⟩ : ByteArray), .string (⟨#[]⟩ : ByteArray), .int .i64 0, .int .i64 0, .int .i64 0] 27 (0, 0))) ∧ Aside0 (Below w.heap.size w wc))
  case first =>
    have H := HC4.out
    clear HC4
    replace H := Option.bind_eq_some_iff.mp H
    obtain ⟨t212, A70, H⟩ := H
    replace H : (if t212 = true then ((impl_within.f a2 0 100).bind fun t213 => (impl_WormAfter.j0 k a1 a2 (!t213) a0_0 a0_1 a0_2 a0_3 a0_4 a0_5 a0_6)) else (impl_WormAfter.j0 k a1 a2 true a0_0 a0_1 a0_2 a0_3 a0_4 a0_5 a0_6)) = some (r1, r2, r3, r4, r5, r6, r7, r8) := H
    have A7 := Aside0.mk A70
    clear A70
    by_cases c8 : t212 = true
    · subst c8
      have H1 : ((impl_within.f a2 0 100).bind fun t213 => (impl_WormAfter.j0 k a1 a2 (!t213) a0_0 a0_1 a0_2 a0_3 a0_4 a0_5 a0_6)) = some (r1, r2, r3, r4, r5, r6, r7, r8) := by rw [if_pos rfl] at H; exact H
      clear H
      have H := H1
      clear H1
      replace H := Option.bind_eq_some_iff.mp H
      obtain ⟨t213, A90, H⟩ := H
      replace H : (impl_WormAfter.j0 k a1 a2 (!t213) a0_0 a0_1 a0_2 a0_3 a0_4 a0_5 a0_6) = some (r1, r2, r3, r4, r5, r6, r7, r8) := H
      have A9 := Aside0.mk A90
      clear A90
      have H' := Aside0.mk H
      clear H
      have hnb10 := NB210_211.out
      have hnc10 := NB211_210.out
      have hcz11_0 : w6.cell? ⟨gb210, 0, none⟩ = some (.int .i64 a0_0) := (blk_cell BK210.out 0).trans rfl
      have hcz11_1 : w6.cell? ⟨gb210, 1, none⟩ = some (.int .i64 a0_1) := (blk_cell BK210.out 1).trans rfl
      have hcz11_2 : w6.cell? ⟨gb210, 2, none⟩ = some (.string a0_2) := (blk_cell BK210.out 2).trans rfl
      have hcz11_3 : w6.cell? ⟨gb210, 3, none⟩ = some (.string a0_3) := (blk_cell BK210.out 3).trans rfl
      have hcz11_4 : w6.cell? ⟨gb210, 4, none⟩ = some (.int .i64 a0_4) := (blk_cell BK210.out 4).trans rfl
      have hcz11_5 : w6.cell? ⟨gb210, 5, none⟩ = some (.int .i64 a0_5) := (blk_cell BK210.out 5).trans rfl
      have hcz11_6 : w6.cell? ⟨gb210, 6, none⟩ = some (.int .i64 a0_6) := (blk_cell BK210.out 6).trans rfl
      have hfz11_0 := blk_frozen BK210.out 0
      have hfz11_1 := blk_frozen BK210.out 1
      have hfz11_2 := blk_frozen BK210.out 2
      have hfz11_3 := blk_frozen BK210.out 3
      have hfz11_4 := blk_frozen BK210.out 4
      have hfz11_5 := blk_frozen BK210.out 5
      have hfz11_6 := blk_frozen BK210.out 6
      go_wp2_with (first | ((with_reducible refine gate_callee (f := 75) rfl ?_); refine goesL_ (some 13) rfl rfl Try.func75 (by kernel_rfl) rfl #[.agg #[.int .i64 a0_0, .int .i64 a0_1, .string a0_2, .string a0_3, .int .i64 a0_4, .int .i64 a0_5, .int .i64 a0_6], .string a1] rfl (by (try simp only [List.map_toArray, List.map_cons, List.map_nil]); first | done | rfl | (simp only [List.length_drop, List.length_take]; rfl)) ?_; (with_reducible refine (impl_isTasting.calls k a0_0 a0_1 a0_2 a0_3 a0_4 a0_5 a0_6 a1 true _ A7.out).mono ?_); rintro e w12 ⟨rfl, hb⟩; refine ⟨_, rfl, ?_⟩; have n0_ := Aside0.mk (blk_below (g := gb210) (o := .cells #[.int .i64 a0_0, .int .i64 a0_1, .string a0_2, .string a0_3, .int .i64 a0_4, .int .i64 a0_5, .int .i64 a0_6] 27 (0, 0)) (by (with_reducible repeat (first | refine blk_drewN ?_ _ | refine blk_drew ?_ | refine blk_alloc ?_ _)); exact BK210.out) hb); have n1_ := Aside0.mk (blk_below (g := gb211) (o := .cells #[.int .i64 0, .int .i64 0, .string (⟨#[]⟩ : ByteArray), .string (⟨#[]⟩ : ByteArray), .int .i64 0, .int .i64 0, .int .i64 0] 27 (0, 0)) (by (with_reducible repeat (first | refine blk_drewN ?_ _ | refine blk_drew ?_ | refine blk_alloc ?_ _)); exact BK211.out) hb); have n2_ := Aside0.mk (below_step (by repeat (first | (with_reducible first | exact HB.out | apply below_alloc | apply pw_below_drewN | apply below_drew1 | refine below_set ?_ GE210.out | refine below_set ?_ GE211.out) | exact HB.out)) hb); clear BK210; clear BK211; clear HB; have BK210 := n0_; have BK211 := n1_; have HB := n2_; clear n0_ n1_ n2_; (try clear hb); (try clear hb2); (try clear hk); (try clear hi)) | (go_at_call 76; (with_reducible refine (impl_within.calls a2 0 100 t213 _ A9.out).mono ?_); rintro e w' ⟨rfl, ⟨nd, rfl⟩⟩))
      go_meet
      case rel => exact ⟨_, (!t213), (by first | rfl | (simp; done) | (simp [*]; done)), H', ⟨by first | omega | exact Nat.le_refl _⟩, ⟨by (with_reducible repeat (first | refine blk_drewN ?_ _ | refine blk_drew ?_ | refine blk_alloc ?_ _)); exact BK210.out⟩, ⟨by (with_reducible repeat (first | refine blk_drewN ?_ _ | refine blk_drew ?_ | refine blk_alloc ?_ _)); exact BK211.out⟩, ⟨by repeat (first | (with_reducible first | exact HB.out | apply below_alloc | apply pw_below_drewN | apply below_drew1 | refine below_set ?_ GE210.out | refine below_set ?_ GE211.out) | exact HB.out)⟩⟩
    · replace c8 := Bool.eq_false_iff.mpr c8
      subst c8
      have H1 : (impl_WormAfter.j0 k a1 a2 true a0_0 a0_1 a0_2 a0_3 a0_4 a0_5 a0_6) = some (r1, r2, r3, r4, r5, r6, r7, r8) := by rw [if_neg (show ¬ (false = true) by decide)] at H; exact H
      clear H
      have H := H1
      clear H1
      have H' := Aside0.mk H
      clear H
      have hnb13 := NB210_211.out
      have hnc13 := NB211_210.out
      have hcz14_0 : w6.cell? ⟨gb210, 0, none⟩ = some (.int .i64 a0_0) := (blk_cell BK210.out 0).trans rfl
      have hcz14_1 : w6.cell? ⟨gb210, 1, none⟩ = some (.int .i64 a0_1) := (blk_cell BK210.out 1).trans rfl
      have hcz14_2 : w6.cell? ⟨gb210, 2, none⟩ = some (.string a0_2) := (blk_cell BK210.out 2).trans rfl
      have hcz14_3 : w6.cell? ⟨gb210, 3, none⟩ = some (.string a0_3) := (blk_cell BK210.out 3).trans rfl
      have hcz14_4 : w6.cell? ⟨gb210, 4, none⟩ = some (.int .i64 a0_4) := (blk_cell BK210.out 4).trans rfl
      have hcz14_5 : w6.cell? ⟨gb210, 5, none⟩ = some (.int .i64 a0_5) := (blk_cell BK210.out 5).trans rfl
      have hcz14_6 : w6.cell? ⟨gb210, 6, none⟩ = some (.int .i64 a0_6) := (blk_cell BK210.out 6).trans rfl
      have hfz14_0 := blk_frozen BK210.out 0
      have hfz14_1 := blk_frozen BK210.out 1
      have hfz14_2 := blk_frozen BK210.out 2
      have hfz14_3 := blk_frozen BK210.out 3
      have hfz14_4 := blk_frozen BK210.out 4
      have hfz14_5 := blk_frozen BK210.out 5
      have hfz14_6 := blk_frozen BK210.out 6
      go_wp2_with (first | ((with_reducible refine gate_callee (f := 75) rfl ?_); refine goesL_ (some 13) rfl rfl Try.func75 (by kernel_rfl) rfl #[.agg #[.int .i64 a0_0, .int .i64 a0_1, .string a0_2, .string a0_3, .int .i64 a0_4, .int .i64 a0_5, .int .i64 a0_6], .string a1] rfl (by (try simp only [List.map_toArray, List.map_cons, List.map_nil]); first | done | rfl | (simp only [List.length_drop, List.length_take]; rfl)) ?_; (with_reducible refine (impl_isTasting.calls k a0_0 a0_1 a0_2 a0_3 a0_4 a0_5 a0_6 a1 false _ A7.out).mono ?_); rintro e w15 ⟨rfl, hb⟩; refine ⟨_, rfl, ?_⟩; have n0_ := Aside0.mk (blk_below (g := gb210) (o := .cells #[.int .i64 a0_0, .int .i64 a0_1, .string a0_2, .string a0_3, .int .i64 a0_4, .int .i64 a0_5, .int .i64 a0_6] 27 (0, 0)) (by (with_reducible repeat (first | refine blk_drewN ?_ _ | refine blk_drew ?_ | refine blk_alloc ?_ _)); exact BK210.out) hb); have n1_ := Aside0.mk (blk_below (g := gb211) (o := .cells #[.int .i64 0, .int .i64 0, .string (⟨#[]⟩ : ByteArray), .string (⟨#[]⟩ : ByteArray), .int .i64 0, .int .i64 0, .int .i64 0] 27 (0, 0)) (by (with_reducible repeat (first | refine blk_drewN ?_ _ | refine blk_drew ?_ | refine blk_alloc ?_ _)); exact BK211.out) hb); have n2_ := Aside0.mk (below_step (by repeat (first | (with_reducible first | exact HB.out | apply below_alloc | apply pw_below_drewN | apply below_drew1 | refine below_set ?_ GE210.out | refine below_set ?_ GE211.out) | exact HB.out)) hb); clear BK210; clear BK211; clear HB; have BK210 := n0_; have BK211 := n1_; have HB := n2_; clear n0_ n1_ n2_; (try clear hb); (try clear hb2); (try clear hk); (try clear hi)))
      go_meet
      case rel => exact ⟨_, (true), (by first | rfl | (simp; done) | (simp [*]; done)), H', ⟨by first | omega | exact Nat.le_refl _⟩, ⟨by (with_reducible repeat (first | refine blk_drewN ?_ _ | refine blk_drew ?_ | refine blk_alloc ?_ _)); exact BK210.out⟩, ⟨by (with_reducible repeat (first | refine blk_drewN ?_ _ | refine blk_drew ?_ | refine blk_alloc ?_ _)); exact BK211.out⟩, ⟨by repeat (first | (with_reducible first | exact HB.out | apply below_alloc | apply pw_below_drewN | apply below_drew1 | refine below_set ?_ GE210.out | refine below_set ?_ GE211.out) | exact HB.out)⟩⟩
  case rest =>
    clear HC4
    try clear c1
    try clear p2
    try clear c4
    try clear c7
    try clear c8
    try clear c10
    try clear c13
    try clear hcz11_0
    try clear hcz11_1
    try clear hcz11_2
    try clear hcz11_3
    try clear hcz11_4
    try clear hcz11_5
    try clear hcz11_6
    try clear hcz14_0
    try clear hcz14_1
    try clear hcz14_2
    try clear hcz14_3
    try clear hcz14_4
    try clear hcz14_5
    try clear hcz14_6
    try clear hfz11_0
    try clear hfz11_1
    try clear hfz11_2
    try clear hfz11_3
    try clear hfz11_4
    try clear hfz11_5
    try clear hfz11_6
    try clear hfz14_0
    try clear hfz14_1
    try clear hfz14_2
    try clear hfz14_3
    try clear hfz14_4
    try clear hfz14_5
    try clear hfz14_6
    obtain ⟨kq, x19_3, rfl, HA, HJ3, BK210, BK211, HB⟩ := hcut
    cases kq with
    | zero => exact absurd HA.out (by simp [impl_WormAfter.j0])
    | succ kj3 =>
      have H := HA.out
      clear HA
      simp only [impl_WormAfter.j0] at H
      by_cases c16 : x19_3 = true
      · subst c16
        have H1 : (some (0, 0, (⟨#[]⟩ : ByteArray), (⟨#[]⟩ : ByteArray), 0, 0, 0, false)) = some (r1, r2, r3, r4, r5, r6, r7, r8) := by rw [if_pos rfl] at H; exact H
        clear H
        have H := H1
        clear H1
        simp only [Option.some.injEq, Prod.mk.injEq] at H
        obtain ⟨rfl, rfl, rfl, rfl, rfl, rfl, rfl, rfl⟩ := H
        have hnb17 := NB211_210.out
        have hnc17 := NB210_211.out
        have hcz18_0 : wc.cell? ⟨gb211, 0, none⟩ = some (.int .i64 0) := (blk_cell BK211.out 0).trans rfl
        have hcz18_1 : wc.cell? ⟨gb211, 1, none⟩ = some (.int .i64 0) := (blk_cell BK211.out 1).trans rfl
        have hcz18_2 : wc.cell? ⟨gb211, 2, none⟩ = some (.string (⟨#[]⟩ : ByteArray)) := (blk_cell BK211.out 2).trans rfl
        have hcz18_3 : wc.cell? ⟨gb211, 3, none⟩ = some (.string (⟨#[]⟩ : ByteArray)) := (blk_cell BK211.out 3).trans rfl
        have hcz18_4 : wc.cell? ⟨gb211, 4, none⟩ = some (.int .i64 0) := (blk_cell BK211.out 4).trans rfl
        have hcz18_5 : wc.cell? ⟨gb211, 5, none⟩ = some (.int .i64 0) := (blk_cell BK211.out 5).trans rfl
        have hcz18_6 : wc.cell? ⟨gb211, 6, none⟩ = some (.int .i64 0) := (blk_cell BK211.out 6).trans rfl
        have hfz18_0 := blk_frozen BK211.out 0
        have hfz18_1 := blk_frozen BK211.out 1
        have hfz18_2 := blk_frozen BK211.out 2
        have hfz18_3 := blk_frozen BK211.out 3
        have hfz18_4 := blk_frozen BK211.out 4
        have hfz18_5 := blk_frozen BK211.out 5
        have hfz18_6 := blk_frozen BK211.out 6
        go_wp2
        refine bodyPost_ret (results_ct rfl _ _ gb211 27 #[.int .i64 0, .int .i64 0, .string (⟨#[]⟩ : ByteArray), .string (⟨#[]⟩ : ByteArray), .int .i64 0, .int .i64 0, .int .i64 0] (0, 0) _ rfl (by (with_reducible repeat (first | refine blk_drewN ?_ _ | refine blk_drew ?_ | refine blk_alloc ?_ _)); refine blk_put (cs := #[.int .i64 0, .int .i64 0, .string (⟨#[]⟩ : ByteArray), .string (⟨#[]⟩ : ByteArray), .int .i64 0, .int .i64 0, .int .i64 0]) ?_ 6 _ rfl; (with_reducible repeat (first | refine blk_drewN ?_ _ | refine blk_drew ?_ | refine blk_alloc ?_ _)); refine blk_put (cs := #[.int .i64 0, .int .i64 0, .string (⟨#[]⟩ : ByteArray), .string (⟨#[]⟩ : ByteArray), .int .i64 0, .int .i64 0, .int .i64 0]) ?_ 5 _ rfl; (with_reducible repeat (first | refine blk_drewN ?_ _ | refine blk_drew ?_ | refine blk_alloc ?_ _)); refine blk_put (cs := #[.int .i64 0, .int .i64 0, .string (⟨#[]⟩ : ByteArray), .string (⟨#[]⟩ : ByteArray), .int .i64 0, .int .i64 0, .int .i64 0]) ?_ 4 _ rfl; (with_reducible repeat (first | refine blk_drewN ?_ _ | refine blk_drew ?_ | refine blk_alloc ?_ _)); refine blk_put (cs := #[.int .i64 0, .int .i64 0, .string (⟨#[]⟩ : ByteArray), .string (⟨#[]⟩ : ByteArray), .int .i64 0, .int .i64 0, .int .i64 0]) ?_ 3 _ rfl; (with_reducible repeat (first | refine blk_drewN ?_ _ | refine blk_drew ?_ | refine blk_alloc ?_ _)); refine blk_put (cs := #[.int .i64 0, .int .i64 0, .string (⟨#[]⟩ : ByteArray), .string (⟨#[]⟩ : ByteArray), .int .i64 0, .int .i64 0, .int .i64 0]) ?_ 2 _ rfl; (with_reducible repeat (first | refine blk_drewN ?_ _ | refine blk_drew ?_ | refine blk_alloc ?_ _)); refine blk_put (cs := #[.int .i64 0, .int .i64 0, .string (⟨#[]⟩ : ByteArray), .string (⟨#[]⟩ : ByteArray), .int .i64 0, .int .i64 0, .int .i64 0]) ?_ 1 _ rfl; (with_reducible repeat (first | refine blk_drewN ?_ _ | refine blk_drew ?_ | refine blk_alloc ?_ _)); refine blk_put (cs := #[.int .i64 0, .int .i64 0, .string (⟨#[]⟩ : ByteArray), .string (⟨#[]⟩ : ByteArray), .int .i64 0, .int .i64 0, .int .i64 0]) ?_ 0 _ rfl; (with_reducible repeat (first | refine blk_drewN ?_ _ | refine blk_drew ?_ | refine blk_alloc ?_ _)); exact BK211.out) Try.underlying27 rfl (by kernel_rfl)) rfl ?_
        exact ⟨by first | rfl | (simp [errW_none, errW_some] <;> rfl) | (simp [*, errW_none, errW_some] <;> rfl), by repeat (first | (with_reducible first | exact HB.out | apply below_alloc | apply pw_below_drewN | apply below_drew1 | refine below_set ?_ GE210.out | refine below_set ?_ GE211.out) | exact HB.out)⟩
      · replace c16 := Bool.eq_false_iff.mpr c16
        subst c16
        have H1 : (impl_WormAfter.l0 kj3 a1 a2 0 a0_0 a0_1 a0_2 a0_3 a0_4 a0_5 a0_6) = some (r1, r2, r3, r4, r5, r6, r7, r8) := by rw [if_neg (show ¬ (false = true) by decide)] at H; exact H
        clear H
        have H := H1
        clear H1
        have H' := Aside0.mk H
        clear H
        go_wp2
        go_loopg [22] kj3 (fun kq v22 w' => ∃ (x22_2 : Int) (x211000_2 : Int) (x211001_2 : Int) (x211002_2 : ByteArray) (x211003_2 : ByteArray) (x211004_2 : Int) (x211005_2 : Int) (x211006_2 : Int) (x212000_2 : Int) (x212001_2 : Int) (x212002_2 : ByteArray) (x212003_2 : ByteArray) (x212004_2 : Int) (x212005_2 : Int) (x212006_2 : Int), v22 = .int .i64 x22_2 ∧ Aside0 (impl_WormAfter.l0 kq a1 a2 x22_2 x211000_2 x211001_2 x211002_2 x211003_2 x211004_2 x211005_2 x211006_2 = some (r1, r2, r3, r4, r5, r6, r7, r8)) ∧ Aside0 (kq ≤ kj3) ∧ Aside0 (w'.heap[gb210]? = some (.cells #[.int .i64 x211000_2, .int .i64 x211001_2, .string x211002_2, .string x211003_2, .int .i64 x211004_2, .int .i64 x211005_2, .int .i64 x211006_2] 27 (0, 0))) ∧ Aside0 (w'.heap[gb211]? = some (.cells #[.int .i64 x212000_2, .int .i64 x212001_2, .string x212002_2, .string x212003_2, .int .i64 x212004_2, .int .i64 x212005_2, .int .i64 x212006_2] 27 (0, 0))) ∧ Aside0 (Below w.heap.size w w'))
        case atStart => exact ⟨(0), (a0_0), (a0_1), (a0_2), (a0_3), (a0_4), (a0_5), (a0_6), (0), (0), ((⟨#[]⟩ : ByteArray)), ((⟨#[]⟩ : ByteArray)), (0), (0), (0), (by first | rfl | (simp; done) | (simp [*]; done)), H', ⟨Nat.le_refl _⟩, ⟨by (with_reducible repeat (first | refine blk_drewN ?_ _ | refine blk_drew ?_ | refine blk_alloc ?_ _)); exact BK210.out⟩, ⟨by (with_reducible repeat (first | refine blk_drewN ?_ _ | refine blk_drew ?_ | refine blk_alloc ?_ _)); exact BK211.out⟩, ⟨by repeat (first | (with_reducible first | exact HB.out | apply below_alloc | apply pw_below_drewN | apply below_drew1 | refine below_set ?_ GE210.out | refine below_set ?_ GE211.out) | exact HB.out)⟩⟩
        case round =>
          clear H'
          try clear c1
          try clear p2
          try clear c4
          try clear c7
          try clear c8
          try clear c10
          try clear c13
          try clear c16
          try clear c17
          try clear hcz11_0
          try clear hcz11_1
          try clear hcz11_2
          try clear hcz11_3
          try clear hcz11_4
          try clear hcz11_5
          try clear hcz11_6
          try clear hcz14_0
          try clear hcz14_1
          try clear hcz14_2
          try clear hcz14_3
          try clear hcz14_4
          try clear hcz14_5
          try clear hcz14_6
          try clear hcz18_0
          try clear hcz18_1
          try clear hcz18_2
          try clear hcz18_3
          try clear hcz18_4
          try clear hcz18_5
          try clear hcz18_6
          try clear hfz11_0
          try clear hfz11_1
          try clear hfz11_2
          try clear hfz11_3
          try clear hfz11_4
          try clear hfz11_5
          try clear hfz11_6
          try clear hfz14_0
          try clear hfz14_1
          try clear hfz14_2
          try clear hfz14_3
          try clear hfz14_4
          try clear hfz14_5
          try clear hfz14_6
          try clear hfz18_0
          try clear hfz18_1
          try clear hfz18_2
          try clear hfz18_3
          try clear hfz18_4
          try clear hfz18_5
          try clear hfz18_6
          try clear p2
          obtain ⟨x22_2, x211000_2, x211001_2, x211002_2, x211003_2, x211004_2, x211005_2, x211006_2, x212000_2, x212001_2, x212002_2, x212003_2, x212004_2, x212005_2, x212006_2, rfl, HA, HK2, BK210, BK211, HB⟩ := hrel
          cases gk with
          | zero => exact absurd HA.out (by simp [impl_WormAfter.l0])
          | succ k2 =>
            have H := HA.out
            clear HA
            simp only [impl_WormAfter.l0] at H
            by_cases c19 : x22_2 < a2
            · rw [if_pos c19] at H
              have c19b0 : decide (x22_2 < a2) = true := decide_eq_true c19
              clear c19
              replace H := Option.bind_eq_some_iff.mp H
              obtain ⟨⟨t214, t215, t216, t217, t218, t219, t220, t221, t222⟩, A200, H⟩ := H
              replace H : (if t222 = true then (impl_WormAfter.l0 k2 a1 a2 (wrap64 (x22_2 + 1)) t214 t215 t216 t217 t218 t219 t220) else (some (0, 0, (⟨#[]⟩ : ByteArray), (⟨#[]⟩ : ByteArray), 0, 0, 0, false))) = some (r1, r2, r3, r4, r5, r6, r7, r8) := H
              have A20 := Aside0.mk A200
              clear A200
              by_cases c21 : t222 = true
              · subst c21
                have H1 : (impl_WormAfter.l0 k2 a1 a2 (wrap64 (x22_2 + 1)) t214 t215 t216 t217 t218 t219 t220) = some (r1, r2, r3, r4, r5, r6, r7, r8) := by rw [if_pos rfl] at H; exact H
                clear H
                have H := H1
                clear H1
                have H' := Aside0.mk H
                clear H
                have hnb22 := NB210_211.out
                have hnc22 := NB211_210.out
                have hcz23_0 : wr.cell? ⟨gb210, 0, none⟩ = some (.int .i64 x211000_2) := (blk_cell BK210.out 0).trans rfl
                have hcz23_1 : wr.cell? ⟨gb210, 1, none⟩ = some (.int .i64 x211001_2) := (blk_cell BK210.out 1).trans rfl
                have hcz23_2 : wr.cell? ⟨gb210, 2, none⟩ = some (.string x211002_2) := (blk_cell BK210.out 2).trans rfl
                have hcz23_3 : wr.cell? ⟨gb210, 3, none⟩ = some (.string x211003_2) := (blk_cell BK210.out 3).trans rfl
                have hcz23_4 : wr.cell? ⟨gb210, 4, none⟩ = some (.int .i64 x211004_2) := (blk_cell BK210.out 4).trans rfl
                have hcz23_5 : wr.cell? ⟨gb210, 5, none⟩ = some (.int .i64 x211005_2) := (blk_cell BK210.out 5).trans rfl
                have hcz23_6 : wr.cell? ⟨gb210, 6, none⟩ = some (.int .i64 x211006_2) := (blk_cell BK210.out 6).trans rfl
                have hfz23_0 := blk_frozen BK210.out 0
                have hfz23_1 := blk_frozen BK210.out 1
                have hfz23_2 := blk_frozen BK210.out 2
                have hfz23_3 := blk_frozen BK210.out 3
                have hfz23_4 := blk_frozen BK210.out 4
                have hfz23_5 := blk_frozen BK210.out 5
                have hfz23_6 := blk_frozen BK210.out 6
                go_wp2_with (first | ((with_reducible refine gate_callee (f := 77) rfl ?_); refine goesL_ (some 27) rfl rfl Try.func77 (by kernel_rfl) rfl #[.agg #[.int .i64 x211000_2, .int .i64 x211001_2, .string x211002_2, .string x211003_2, .int .i64 x211004_2, .int .i64 x211005_2, .int .i64 x211006_2], .string a1] rfl (by (try simp only [List.map_toArray, List.map_cons, List.map_nil]); first | done | rfl | (simp only [List.length_drop, List.length_take]; rfl)) ?_; (with_reducible refine (impl_Worm_eat.calls x211000_2 x211001_2 x211002_2 x211003_2 x211004_2 x211005_2 x211006_2 a1 t214 t215 t216 t217 t218 t219 t220 t221 true _ A20.out).mono ?_); rintro e w24 ⟨rfl, hb⟩; refine ⟨_, rfl, ?_⟩; have n0_ := Aside0.mk (blk_below (g := gb210) (o := .cells #[.int .i64 x211000_2, .int .i64 x211001_2, .string x211002_2, .string x211003_2, .int .i64 x211004_2, .int .i64 x211005_2, .int .i64 x211006_2] 27 (0, 0)) (by (with_reducible repeat (first | refine blk_drewN ?_ _ | refine blk_drew ?_ | refine blk_alloc ?_ _)); exact BK210.out) hb); have n1_ := Aside0.mk (blk_below (g := gb211) (o := .cells #[.int .i64 x212000_2, .int .i64 x212001_2, .string x212002_2, .string x212003_2, .int .i64 x212004_2, .int .i64 x212005_2, .int .i64 x212006_2] 27 (0, 0)) (by (with_reducible repeat (first | refine blk_drewN ?_ _ | refine blk_drew ?_ | refine blk_alloc ?_ _)); exact BK211.out) hb); have n2_ := Aside0.mk (below_step (by repeat (first | (with_reducible first | exact HB.out | apply below_alloc | apply pw_below_drewN | apply below_drew1 | refine below_set ?_ GE210.out | refine below_set ?_ GE211.out) | exact HB.out)) hb); clear BK210; clear BK211; clear HB; have BK210 := n0_; have BK211 := n1_; have HB := n2_; clear n0_ n1_ n2_; (try clear hb); (try clear hb2); (try clear hk); (try clear hi)) | ((with_reducible refine gate_dst (N := 8) rfl ?_); refine box_event ?hg (N := 8) ?hd (cs := #[.int .i64 0, .int .i64 0, .string (⟨#[]⟩ : ByteArray), .string (⟨#[]⟩ : ByteArray), .int .i64 0, .int .i64 0, .int .i64 0]) (t := 27) ?hr ?_; (case hd => rfl); (case hg => rfl); (case hr => first | (go_simp; done) | (go_simp; rfl)); intro gb223 hg w25 hbox hb; have n0_ := Aside0.mk (blk_below (g := gb210) (o := .cells #[.int .i64 x211000_2, .int .i64 x211001_2, .string x211002_2, .string x211003_2, .int .i64 x211004_2, .int .i64 x211005_2, .int .i64 x211006_2] 27 (0, 0)) (by (with_reducible repeat (first | refine blk_drewN ?_ _ | refine blk_drew ?_ | refine blk_alloc ?_ _)); exact BK210.out) hb); have n1_ := Aside0.mk (blk_below (g := gb211) (o := .cells #[.int .i64 x212000_2, .int .i64 x212001_2, .string x212002_2, .string x212003_2, .int .i64 x212004_2, .int .i64 x212005_2, .int .i64 x212006_2] 27 (0, 0)) (by (with_reducible repeat (first | refine blk_drewN ?_ _ | refine blk_drew ?_ | refine blk_alloc ?_ _)); exact BK211.out) hb); have n2_ := Aside0.mk (below_step (by repeat (first | (with_reducible first | exact HB.out | apply below_alloc | apply pw_below_drewN | apply below_drew1 | refine below_set ?_ GE210.out | refine below_set ?_ GE211.out) | exact HB.out)) hb); have n3_ := Aside0.mk (hbox); have n4_ := Aside0.mk ((by rw [hg]; exact (below_size (by repeat (first | (with_reducible first | exact HB.out | apply below_alloc | apply pw_below_drewN | apply below_drew1 | refine below_set ?_ GE210.out | refine below_set ?_ GE211.out) | exact HB.out))) : w.heap.size ≤ gb223)); have n5_ := Aside0.mk ((by rw [hg]; exact (below_size (by repeat (first | (with_reducible first | exact HB.out | apply below_alloc | apply pw_below_drewN | apply below_drew1 | refine below_set ?_ GE210.out | refine below_set ?_ GE211.out) | exact HB.out))) : w.heap.size ≤ gb223)); have n6_ := Aside0.mk ((by rw [hg]; exact Nat.ne_of_lt (blk_lt (g := gb210) (o := .cells #[.int .i64 x211000_2, .int .i64 x211001_2, .string x211002_2, .string x211003_2, .int .i64 x211004_2, .int .i64 x211005_2, .int .i64 x211006_2] 27 (0, 0)) (by (with_reducible repeat (first | refine blk_drewN ?_ _ | refine blk_drew ?_ | refine blk_alloc ?_ _)); exact BK210.out)) : gb210 ≠ gb223)); have n7_ := Aside0.mk ((by rw [hg]; exact Nat.ne_of_gt (blk_lt (g := gb210) (o := .cells #[.int .i64 x211000_2, .int .i64 x211001_2, .string x211002_2, .string x211003_2, .int .i64 x211004_2, .int .i64 x211005_2, .int .i64 x211006_2] 27 (0, 0)) (by (with_reducible repeat (first | refine blk_drewN ?_ _ | refine blk_drew ?_ | refine blk_alloc ?_ _)); exact BK210.out)) : gb223 ≠ gb210)); have n8_ := Aside0.mk ((by rw [hg]; exact Nat.ne_of_lt (blk_lt (g := gb211) (o := .cells #[.int .i64 x212000_2, .int .i64 x212001_2, .string x212002_2, .string x212003_2, .int .i64 x212004_2, .int .i64 x212005_2, .int .i64 x212006_2] 27 (0, 0)) (by (with_reducible repeat (first | refine blk_drewN ?_ _ | refine blk_drew ?_ | refine blk_alloc ?_ _)); exact BK211.out)) : gb211 ≠ gb223)); have n9_ := Aside0.mk ((by rw [hg]; exact Nat.ne_of_gt (blk_lt (g := gb211) (o := .cells #[.int .i64 x212000_2, .int .i64 x212001_2, .string x212002_2, .string x212003_2, .int .i64 x212004_2, .int .i64 x212005_2, .int .i64 x212006_2] 27 (0, 0)) (by (with_reducible repeat (first | refine blk_drewN ?_ _ | refine blk_drew ?_ | refine blk_alloc ?_ _)); exact BK211.out)) : gb223 ≠ gb211)); clear BK210; clear BK211; clear HB; have BK210 := n0_; have BK211 := n1_; have HB := n2_; have BK223 := n3_; have GW223 := n4_; have GE223 := n5_; have NB210_223 := n6_; have NB223_210 := n7_; have NB211_223 := n8_; have NB223_211 := n9_; clear n0_ n1_ n2_ n3_ n4_ n5_ n6_ n7_ n8_ n9_; clear hb hbox hg; have hnb26 := NB223_210.out; have hnc26 := NB210_223.out; have hnb27 := NB223_211.out; have hnc27 := NB211_223.out; have hcz28_0 : w25.cell? ⟨gb223, 0, none⟩ = some (.int .i64 0) := (blk_cell BK223.out 0).trans rfl; have hcz28_1 : w25.cell? ⟨gb223, 1, none⟩ = some (.int .i64 0) := (blk_cell BK223.out 1).trans rfl; have hcz28_2 : w25.cell? ⟨gb223, 2, none⟩ = some (.string (⟨#[]⟩ : ByteArray)) := (blk_cell BK223.out 2).trans rfl; have hcz28_3 : w25.cell? ⟨gb223, 3, none⟩ = some (.string (⟨#[]⟩ : ByteArray)) := (blk_cell BK223.out 3).trans rfl; have hcz28_4 : w25.cell? ⟨gb223, 4, none⟩ = some (.int .i64 0) := (blk_cell BK223.out 4).trans rfl; have hcz28_5 : w25.cell? ⟨gb223, 5, none⟩ = some (.int .i64 0) := (blk_cell BK223.out 5).trans rfl; have hcz28_6 : w25.cell? ⟨gb223, 6, none⟩ = some (.int .i64 0) := (blk_cell BK223.out 6).trans rfl; have hfz28_0 := blk_frozen BK223.out 0; have hfz28_1 := blk_frozen BK223.out 1; have hfz28_2 := blk_frozen BK223.out 2; have hfz28_3 := blk_frozen BK223.out 3; have hfz28_4 := blk_frozen BK223.out 4; have hfz28_5 := blk_frozen BK223.out 5; have hfz28_6 := blk_frozen BK223.out 6; have hcz29_0 : w25.cell? ⟨gb210, 0, none⟩ = some (.int .i64 x211000_2) := (blk_cell BK210.out 0).trans rfl; have hcz29_1 : w25.cell? ⟨gb210, 1, none⟩ = some (.int .i64 x211001_2) := (blk_cell BK210.out 1).trans rfl; have hcz29_2 : w25.cell? ⟨gb210, 2, none⟩ = some (.string x211002_2) := (blk_cell BK210.out 2).trans rfl; have hcz29_3 : w25.cell? ⟨gb210, 3, none⟩ = some (.string x211003_2) := (blk_cell BK210.out 3).trans rfl; have hcz29_4 : w25.cell? ⟨gb210, 4, none⟩ = some (.int .i64 x211004_2) := (blk_cell BK210.out 4).trans rfl; have hcz29_5 : w25.cell? ⟨gb210, 5, none⟩ = some (.int .i64 x211005_2) := (blk_cell BK210.out 5).trans rfl; have hcz29_6 : w25.cell? ⟨gb210, 6, none⟩ = some (.int .i64 x211006_2) := (blk_cell BK210.out 6).trans rfl; have hfz29_0 := blk_frozen BK210.out 0; have hfz29_1 := blk_frozen BK210.out 1; have hfz29_2 := blk_frozen BK210.out 2; have hfz29_3 := blk_frozen BK210.out 3; have hfz29_4 := blk_frozen BK210.out 4; have hfz29_5 := blk_frozen BK210.out 5; have hfz29_6 := blk_frozen BK210.out 6))
                go_roundg k2
                case measure => have := HJ3.out; have := HK2.out; omega
                case rel => exact ⟨(wrap64 (x22_2 + 1)), (t214), (t215), (t216), (t217), (t218), (t219), (t220), (x212000_2), (x212001_2), (x212002_2), (x212003_2), (x212004_2), (x212005_2), (x212006_2), (by first | rfl | (simp; done) | (simp [*]; done)), H', ⟨by have := HJ3.out; have := HK2.out; omega⟩, ⟨by (with_reducible repeat (first | refine blk_drewN ?_ _ | refine blk_drew ?_ | refine blk_alloc ?_ _)); refine blk_put (cs := #[.int .i64 t214, .int .i64 t215, .string t216, .string t217, .int .i64 t218, .int .i64 t219, .int .i64 x211006_2]) ?_ 6 _ rfl; (with_reducible repeat (first | refine blk_drewN ?_ _ | refine blk_drew ?_ | refine blk_alloc ?_ _)); refine blk_put (cs := #[.int .i64 t214, .int .i64 t215, .string t216, .string t217, .int .i64 t218, .int .i64 x211005_2, .int .i64 x211006_2]) ?_ 5 _ rfl; (with_reducible repeat (first | refine blk_drewN ?_ _ | refine blk_drew ?_ | refine blk_alloc ?_ _)); refine blk_put (cs := #[.int .i64 t214, .int .i64 t215, .string t216, .string t217, .int .i64 x211004_2, .int .i64 x211005_2, .int .i64 x211006_2]) ?_ 4 _ rfl; (with_reducible repeat (first | refine blk_drewN ?_ _ | refine blk_drew ?_ | refine blk_alloc ?_ _)); refine blk_put (cs := #[.int .i64 t214, .int .i64 t215, .string t216, .string x211003_2, .int .i64 x211004_2, .int .i64 x211005_2, .int .i64 x211006_2]) ?_ 3 _ rfl; (with_reducible repeat (first | refine blk_drewN ?_ _ | refine blk_drew ?_ | refine blk_alloc ?_ _)); refine blk_put (cs := #[.int .i64 t214, .int .i64 t215, .string x211002_2, .string x211003_2, .int .i64 x211004_2, .int .i64 x211005_2, .int .i64 x211006_2]) ?_ 2 _ rfl; (with_reducible repeat (first | refine blk_drewN ?_ _ | refine blk_drew ?_ | refine blk_alloc ?_ _)); refine blk_put (cs := #[.int .i64 t214, .int .i64 x211001_2, .string x211002_2, .string x211003_2, .int .i64 x211004_2, .int .i64 x211005_2, .int .i64 x211006_2]) ?_ 1 _ rfl; (with_reducible repeat (first | refine blk_drewN ?_ _ | refine blk_drew ?_ | refine blk_alloc ?_ _)); refine blk_put (cs := #[.int .i64 x211000_2, .int .i64 x211001_2, .string x211002_2, .string x211003_2, .int .i64 x211004_2, .int .i64 x211005_2, .int .i64 x211006_2]) ?_ 0 _ rfl; (with_reducible repeat (first | refine blk_drewN ?_ _ | refine blk_drew ?_ | refine blk_alloc ?_ _)); refine blk_far ?_ NB210_223.out _; (with_reducible repeat (first | refine blk_drewN ?_ _ | refine blk_drew ?_ | refine blk_alloc ?_ _)); refine blk_far ?_ NB210_223.out _; (with_reducible repeat (first | refine blk_drewN ?_ _ | refine blk_drew ?_ | refine blk_alloc ?_ _)); refine blk_far ?_ NB210_223.out _; (with_reducible repeat (first | refine blk_drewN ?_ _ | refine blk_drew ?_ | refine blk_alloc ?_ _)); refine blk_far ?_ NB210_223.out _; (with_reducible repeat (first | refine blk_drewN ?_ _ | refine blk_drew ?_ | refine blk_alloc ?_ _)); refine blk_far ?_ NB210_223.out _; (with_reducible repeat (first | refine blk_drewN ?_ _ | refine blk_drew ?_ | refine blk_alloc ?_ _)); refine blk_far ?_ NB210_223.out _; (with_reducible repeat (first | refine blk_drewN ?_ _ | refine blk_drew ?_ | refine blk_alloc ?_ _)); refine blk_far ?_ NB210_223.out _; (with_reducible repeat (first | refine blk_drewN ?_ _ | refine blk_drew ?_ | refine blk_alloc ?_ _)); exact BK210.out⟩, ⟨by (with_reducible repeat (first | refine blk_drewN ?_ _ | refine blk_drew ?_ | refine blk_alloc ?_ _)); refine blk_far ?_ NB211_210.out _; (with_reducible repeat (first | refine blk_drewN ?_ _ | refine blk_drew ?_ | refine blk_alloc ?_ _)); refine blk_far ?_ NB211_210.out _; (with_reducible repeat (first | refine blk_drewN ?_ _ | refine blk_drew ?_ | refine blk_alloc ?_ _)); refine blk_far ?_ NB211_210.out _; (with_reducible repeat (first | refine blk_drewN ?_ _ | refine blk_drew ?_ | refine blk_alloc ?_ _)); refine blk_far ?_ NB211_210.out _; (with_reducible repeat (first | refine blk_drewN ?_ _ | refine blk_drew ?_ | refine blk_alloc ?_ _)); refine blk_far ?_ NB211_210.out _; (with_reducible repeat (first | refine blk_drewN ?_ _ | refine blk_drew ?_ | refine blk_alloc ?_ _)); refine blk_far ?_ NB211_210.out _; (with_reducible repeat (first | refine blk_drewN ?_ _ | refine blk_drew ?_ | refine blk_alloc ?_ _)); refine blk_far ?_ NB211_210.out _; (with_reducible repeat (first | refine blk_drewN ?_ _ | refine blk_drew ?_ | refine blk_alloc ?_ _)); refine blk_far ?_ NB211_223.out _; (with_reducible repeat (first | refine blk_drewN ?_ _ | refine blk_drew ?_ | refine blk_alloc ?_ _)); refine blk_far ?_ NB211_223.out _; (with_reducible repeat (first | refine blk_drewN ?_ _ | refine blk_drew ?_ | refine blk_alloc ?_ _)); refine blk_far ?_ NB211_223.out _; (with_reducible repeat (first | refine blk_drewN ?_ _ | refine blk_drew ?_ | refine blk_alloc ?_ _)); refine blk_far ?_ NB211_223.out _; (with_reducible repeat (first | refine blk_drewN ?_ _ | refine blk_drew ?_ | refine blk_alloc ?_ _)); refine blk_far ?_ NB211_223.out _; (with_reducible repeat (first | refine blk_drewN ?_ _ | refine blk_drew ?_ | refine blk_alloc ?_ _)); refine blk_far ?_ NB211_223.out _; (with_reducible repeat (first | refine blk_drewN ?_ _ | refine blk_drew ?_ | refine blk_alloc ?_ _)); refine blk_far ?_ NB211_223.out _; (with_reducible repeat (first | refine blk_drewN ?_ _ | refine blk_drew ?_ | refine blk_alloc ?_ _)); exact BK211.out⟩, ⟨by repeat (first | (with_reducible first | exact HB.out | apply below_alloc | apply pw_below_drewN | apply below_drew1 | refine below_set ?_ GE210.out | refine below_set ?_ GE211.out | refine below_set ?_ GE223.out) | exact HB.out)⟩⟩
              · replace c21 := Bool.eq_false_iff.mpr c21
                subst c21
                have H1 : (some (0, 0, (⟨#[]⟩ : ByteArray), (⟨#[]⟩ : ByteArray), 0, 0, 0, false)) = some (r1, r2, r3, r4, r5, r6, r7, r8) := by rw [if_neg (show ¬ (false = true) by decide)] at H; exact H
                clear H
                have H := H1
                clear H1
                simp only [Option.some.injEq, Prod.mk.injEq] at H
                obtain ⟨rfl, rfl, rfl, rfl, rfl, rfl, rfl, rfl⟩ := H
                have hnb30 := NB210_211.out
                have hnc30 := NB211_210.out
                have hcz31_0 : wr.cell? ⟨gb210, 0, none⟩ = some (.int .i64 x211000_2) := (blk_cell BK210.out 0).trans rfl
                have hcz31_1 : wr.cell? ⟨gb210, 1, none⟩ = some (.int .i64 x211001_2) := (blk_cell BK210.out 1).trans rfl
                have hcz31_2 : wr.cell? ⟨gb210, 2, none⟩ = some (.string x211002_2) := (blk_cell BK210.out 2).trans rfl
                have hcz31_3 : wr.cell? ⟨gb210, 3, none⟩ = some (.string x211003_2) := (blk_cell BK210.out 3).trans rfl
                have hcz31_4 : wr.cell? ⟨gb210, 4, none⟩ = some (.int .i64 x211004_2) := (blk_cell BK210.out 4).trans rfl
                have hcz31_5 : wr.cell? ⟨gb210, 5, none⟩ = some (.int .i64 x211005_2) := (blk_cell BK210.out 5).trans rfl
                have hcz31_6 : wr.cell? ⟨gb210, 6, none⟩ = some (.int .i64 x211006_2) := (blk_cell BK210.out 6).trans rfl
                have hfz31_0 := blk_frozen BK210.out 0
                have hfz31_1 := blk_frozen BK210.out 1
                have hfz31_2 := blk_frozen BK210.out 2
                have hfz31_3 := blk_frozen BK210.out 3
                have hfz31_4 := blk_frozen BK210.out 4
                have hfz31_5 := blk_frozen BK210.out 5
                have hfz31_6 := blk_frozen BK210.out 6
                go_wp2_with (first | ((with_reducible refine gate_callee (f := 77) rfl ?_); refine goesL_ (some 27) rfl rfl Try.func77 (by kernel_rfl) rfl #[.agg #[.int .i64 x211000_2, .int .i64 x211001_2, .string x211002_2, .string x211003_2, .int .i64 x211004_2, .int .i64 x211005_2, .int .i64 x211006_2], .string a1] rfl (by (try simp only [List.map_toArray, List.map_cons, List.map_nil]); first | done | rfl | (simp only [List.length_drop, List.length_take]; rfl)) ?_; (with_reducible refine (impl_Worm_eat.calls x211000_2 x211001_2 x211002_2 x211003_2 x211004_2 x211005_2 x211006_2 a1 t214 t215 t216 t217 t218 t219 t220 t221 false _ A20.out).mono ?_); rintro e w32 ⟨rfl, hb⟩; refine ⟨_, rfl, ?_⟩; have n0_ := Aside0.mk (blk_below (g := gb210) (o := .cells #[.int .i64 x211000_2, .int .i64 x211001_2, .string x211002_2, .string x211003_2, .int .i64 x211004_2, .int .i64 x211005_2, .int .i64 x211006_2] 27 (0, 0)) (by (with_reducible repeat (first | refine blk_drewN ?_ _ | refine blk_drew ?_ | refine blk_alloc ?_ _)); exact BK210.out) hb); have n1_ := Aside0.mk (blk_below (g := gb211) (o := .cells #[.int .i64 x212000_2, .int .i64 x212001_2, .string x212002_2, .string x212003_2, .int .i64 x212004_2, .int .i64 x212005_2, .int .i64 x212006_2] 27 (0, 0)) (by (with_reducible repeat (first | refine blk_drewN ?_ _ | refine blk_drew ?_ | refine blk_alloc ?_ _)); exact BK211.out) hb); have n2_ := Aside0.mk (below_step (by repeat (first | (with_reducible first | exact HB.out | apply below_alloc | apply pw_below_drewN | apply below_drew1 | refine below_set ?_ GE210.out | refine below_set ?_ GE211.out) | exact HB.out)) hb); clear BK210; clear BK211; clear HB; have BK210 := n0_; have BK211 := n1_; have HB := n2_; clear n0_ n1_ n2_; (try clear hb); (try clear hb2); (try clear hk); (try clear hi)) | ((with_reducible refine gate_dst (N := 8) rfl ?_); refine box_event ?hg (N := 8) ?hd (cs := #[.int .i64 0, .int .i64 0, .string (⟨#[]⟩ : ByteArray), .string (⟨#[]⟩ : ByteArray), .int .i64 0, .int .i64 0, .int .i64 0]) (t := 27) ?hr ?_; (case hd => rfl); (case hg => rfl); (case hr => first | (go_simp; done) | (go_simp; rfl)); intro gb223 hg w33 hbox hb; have n0_ := Aside0.mk (blk_below (g := gb210) (o := .cells #[.int .i64 x211000_2, .int .i64 x211001_2, .string x211002_2, .string x211003_2, .int .i64 x211004_2, .int .i64 x211005_2, .int .i64 x211006_2] 27 (0, 0)) (by (with_reducible repeat (first | refine blk_drewN ?_ _ | refine blk_drew ?_ | refine blk_alloc ?_ _)); exact BK210.out) hb); have n1_ := Aside0.mk (blk_below (g := gb211) (o := .cells #[.int .i64 x212000_2, .int .i64 x212001_2, .string x212002_2, .string x212003_2, .int .i64 x212004_2, .int .i64 x212005_2, .int .i64 x212006_2] 27 (0, 0)) (by (with_reducible repeat (first | refine blk_drewN ?_ _ | refine blk_drew ?_ | refine blk_alloc ?_ _)); exact BK211.out) hb); have n2_ := Aside0.mk (below_step (by repeat (first | (with_reducible first | exact HB.out | apply below_alloc | apply pw_below_drewN | apply below_drew1 | refine below_set ?_ GE210.out | refine below_set ?_ GE211.out) | exact HB.out)) hb); have n3_ := Aside0.mk (hbox); have n4_ := Aside0.mk ((by rw [hg]; exact (below_size (by repeat (first | (with_reducible first | exact HB.out | apply below_alloc | apply pw_below_drewN | apply below_drew1 | refine below_set ?_ GE210.out | refine below_set ?_ GE211.out) | exact HB.out))) : w.heap.size ≤ gb223)); have n5_ := Aside0.mk ((by rw [hg]; exact (below_size (by repeat (first | (with_reducible first | exact HB.out | apply below_alloc | apply pw_below_drewN | apply below_drew1 | refine below_set ?_ GE210.out | refine below_set ?_ GE211.out) | exact HB.out))) : w.heap.size ≤ gb223)); have n6_ := Aside0.mk ((by rw [hg]; exact Nat.ne_of_lt (blk_lt (g := gb210) (o := .cells #[.int .i64 x211000_2, .int .i64 x211001_2, .string x211002_2, .string x211003_2, .int .i64 x211004_2, .int .i64 x211005_2, .int .i64 x211006_2] 27 (0, 0)) (by (with_reducible repeat (first | refine blk_drewN ?_ _ | refine blk_drew ?_ | refine blk_alloc ?_ _)); exact BK210.out)) : gb210 ≠ gb223)); have n7_ := Aside0.mk ((by rw [hg]; exact Nat.ne_of_gt (blk_lt (g := gb210) (o := .cells #[.int .i64 x211000_2, .int .i64 x211001_2, .string x211002_2, .string x211003_2, .int .i64 x211004_2, .int .i64 x211005_2, .int .i64 x211006_2] 27 (0, 0)) (by (with_reducible repeat (first | refine blk_drewN ?_ _ | refine blk_drew ?_ | refine blk_alloc ?_ _)); exact BK210.out)) : gb223 ≠ gb210)); have n8_ := Aside0.mk ((by rw [hg]; exact Nat.ne_of_lt (blk_lt (g := gb211) (o := .cells #[.int .i64 x212000_2, .int .i64 x212001_2, .string x212002_2, .string x212003_2, .int .i64 x212004_2, .int .i64 x212005_2, .int .i64 x212006_2] 27 (0, 0)) (by (with_reducible repeat (first | refine blk_drewN ?_ _ | refine blk_drew ?_ | refine blk_alloc ?_ _)); exact BK211.out)) : gb211 ≠ gb223)); have n9_ := Aside0.mk ((by rw [hg]; exact Nat.ne_of_gt (blk_lt (g := gb211) (o := .cells #[.int .i64 x212000_2, .int .i64 x212001_2, .string x212002_2, .string x212003_2, .int .i64 x212004_2, .int .i64 x212005_2, .int .i64 x212006_2] 27 (0, 0)) (by (with_reducible repeat (first | refine blk_drewN ?_ _ | refine blk_drew ?_ | refine blk_alloc ?_ _)); exact BK211.out)) : gb223 ≠ gb211)); clear BK210; clear BK211; clear HB; have BK210 := n0_; have BK211 := n1_; have HB := n2_; have BK223 := n3_; have GW223 := n4_; have GE223 := n5_; have NB210_223 := n6_; have NB223_210 := n7_; have NB211_223 := n8_; have NB223_211 := n9_; clear n0_ n1_ n2_ n3_ n4_ n5_ n6_ n7_ n8_ n9_; clear hb hbox hg; have hnb34 := NB223_210.out; have hnc34 := NB210_223.out; have hnb35 := NB223_211.out; have hnc35 := NB211_223.out; have hcz36_0 : w33.cell? ⟨gb223, 0, none⟩ = some (.int .i64 0) := (blk_cell BK223.out 0).trans rfl; have hcz36_1 : w33.cell? ⟨gb223, 1, none⟩ = some (.int .i64 0) := (blk_cell BK223.out 1).trans rfl; have hcz36_2 : w33.cell? ⟨gb223, 2, none⟩ = some (.string (⟨#[]⟩ : ByteArray)) := (blk_cell BK223.out 2).trans rfl; have hcz36_3 : w33.cell? ⟨gb223, 3, none⟩ = some (.string (⟨#[]⟩ : ByteArray)) := (blk_cell BK223.out 3).trans rfl; have hcz36_4 : w33.cell? ⟨gb223, 4, none⟩ = some (.int .i64 0) := (blk_cell BK223.out 4).trans rfl; have hcz36_5 : w33.cell? ⟨gb223, 5, none⟩ = some (.int .i64 0) := (blk_cell BK223.out 5).trans rfl; have hcz36_6 : w33.cell? ⟨gb223, 6, none⟩ = some (.int .i64 0) := (blk_cell BK223.out 6).trans rfl; have hfz36_0 := blk_frozen BK223.out 0; have hfz36_1 := blk_frozen BK223.out 1; have hfz36_2 := blk_frozen BK223.out 2; have hfz36_3 := blk_frozen BK223.out 3; have hfz36_4 := blk_frozen BK223.out 4; have hfz36_5 := blk_frozen BK223.out 5; have hfz36_6 := blk_frozen BK223.out 6; have hcz37_0 : w33.cell? ⟨gb211, 0, none⟩ = some (.int .i64 x212000_2) := (blk_cell BK211.out 0).trans rfl; have hcz37_1 : w33.cell? ⟨gb211, 1, none⟩ = some (.int .i64 x212001_2) := (blk_cell BK211.out 1).trans rfl; have hcz37_2 : w33.cell? ⟨gb211, 2, none⟩ = some (.string x212002_2) := (blk_cell BK211.out 2).trans rfl; have hcz37_3 : w33.cell? ⟨gb211, 3, none⟩ = some (.string x212003_2) := (blk_cell BK211.out 3).trans rfl; have hcz37_4 : w33.cell? ⟨gb211, 4, none⟩ = some (.int .i64 x212004_2) := (blk_cell BK211.out 4).trans rfl; have hcz37_5 : w33.cell? ⟨gb211, 5, none⟩ = some (.int .i64 x212005_2) := (blk_cell BK211.out 5).trans rfl; have hcz37_6 : w33.cell? ⟨gb211, 6, none⟩ = some (.int .i64 x212006_2) := (blk_cell BK211.out 6).trans rfl; have hfz37_0 := blk_frozen BK211.out 0; have hfz37_1 := blk_frozen BK211.out 1; have hfz37_2 := blk_frozen BK211.out 2; have hfz37_3 := blk_frozen BK211.out 3; have hfz37_4 := blk_frozen BK211.out 4; have hfz37_5 := blk_frozen BK211.out 5; have hfz37_6 := blk_frozen BK211.out 6))
                refine bodyPost_ret (results_ct rfl _ _ gb211 27 #[.int .i64 0, .int .i64 0, .string (⟨#[]⟩ : ByteArray), .string (⟨#[]⟩ : ByteArray), .int .i64 0, .int .i64 0, .int .i64 0] (0, 0) _ rfl (by (with_reducible repeat (first | refine blk_drewN ?_ _ | refine blk_drew ?_ | refine blk_alloc ?_ _)); refine blk_put (cs := #[.int .i64 0, .int .i64 0, .string (⟨#[]⟩ : ByteArray), .string (⟨#[]⟩ : ByteArray), .int .i64 0, .int .i64 0, .int .i64 x212006_2]) ?_ 6 _ rfl; (with_reducible repeat (first | refine blk_drewN ?_ _ | refine blk_drew ?_ | refine blk_alloc ?_ _)); refine blk_put (cs := #[.int .i64 0, .int .i64 0, .string (⟨#[]⟩ : ByteArray), .string (⟨#[]⟩ : ByteArray), .int .i64 0, .int .i64 x212005_2, .int .i64 x212006_2]) ?_ 5 _ rfl; (with_reducible repeat (first | refine blk_drewN ?_ _ | refine blk_drew ?_ | refine blk_alloc ?_ _)); refine blk_put (cs := #[.int .i64 0, .int .i64 0, .string (⟨#[]⟩ : ByteArray), .string (⟨#[]⟩ : ByteArray), .int .i64 x212004_2, .int .i64 x212005_2, .int .i64 x212006_2]) ?_ 4 _ rfl; (with_reducible repeat (first | refine blk_drewN ?_ _ | refine blk_drew ?_ | refine blk_alloc ?_ _)); refine blk_put (cs := #[.int .i64 0, .int .i64 0, .string (⟨#[]⟩ : ByteArray), .string x212003_2, .int .i64 x212004_2, .int .i64 x212005_2, .int .i64 x212006_2]) ?_ 3 _ rfl; (with_reducible repeat (first | refine blk_drewN ?_ _ | refine blk_drew ?_ | refine blk_alloc ?_ _)); refine blk_put (cs := #[.int .i64 0, .int .i64 0, .string x212002_2, .string x212003_2, .int .i64 x212004_2, .int .i64 x212005_2, .int .i64 x212006_2]) ?_ 2 _ rfl; (with_reducible repeat (first | refine blk_drewN ?_ _ | refine blk_drew ?_ | refine blk_alloc ?_ _)); refine blk_put (cs := #[.int .i64 0, .int .i64 x212001_2, .string x212002_2, .string x212003_2, .int .i64 x212004_2, .int .i64 x212005_2, .int .i64 x212006_2]) ?_ 1 _ rfl; (with_reducible repeat (first | refine blk_drewN ?_ _ | refine blk_drew ?_ | refine blk_alloc ?_ _)); refine blk_put (cs := #[.int .i64 x212000_2, .int .i64 x212001_2, .string x212002_2, .string x212003_2, .int .i64 x212004_2, .int .i64 x212005_2, .int .i64 x212006_2]) ?_ 0 _ rfl; (with_reducible repeat (first | refine blk_drewN ?_ _ | refine blk_drew ?_ | refine blk_alloc ?_ _)); refine blk_far ?_ NB211_223.out _; (with_reducible repeat (first | refine blk_drewN ?_ _ | refine blk_drew ?_ | refine blk_alloc ?_ _)); refine blk_far ?_ NB211_223.out _; (with_reducible repeat (first | refine blk_drewN ?_ _ | refine blk_drew ?_ | refine blk_alloc ?_ _)); refine blk_far ?_ NB211_223.out _; (with_reducible repeat (first | refine blk_drewN ?_ _ | refine blk_drew ?_ | refine blk_alloc ?_ _)); refine blk_far ?_ NB211_223.out _; (with_reducible repeat (first | refine blk_drewN ?_ _ | refine blk_drew ?_ | refine blk_alloc ?_ _)); refine blk_far ?_ NB211_223.out _; (with_reducible repeat (first | refine blk_drewN ?_ _ | refine blk_drew ?_ | refine blk_alloc ?_ _)); refine blk_far ?_ NB211_223.out _; (with_reducible repeat (first | refine blk_drewN ?_ _ | refine blk_drew ?_ | refine blk_alloc ?_ _)); refine blk_far ?_ NB211_223.out _; (with_reducible repeat (first | refine blk_drewN ?_ _ | refine blk_drew ?_ | refine blk_alloc ?_ _)); exact BK211.out) Try.underlying27 rfl (by kernel_rfl)) rfl ?_
                exact ⟨by first | rfl | (simp [errW_none, errW_some] <;> rfl) | (simp [*, errW_none, errW_some] <;> rfl), by repeat (first | (with_reducible first | exact HB.out | apply below_alloc | apply pw_below_drewN | apply below_drew1 | refine below_set ?_ GE210.out | refine below_set ?_ GE211.out | refine below_set ?_ GE223.out) | exact HB.out)⟩
            · rw [if_neg c19] at H
              have c19b0 : decide (x22_2 < a2) = false := decide_eq_false c19
              clear c19
              simp only [Option.some.injEq, Prod.mk.injEq] at H
              obtain ⟨rfl, rfl, rfl, rfl, rfl, rfl, rfl, rfl⟩ := H
              have hnb38 := NB210_211.out
              have hnc38 := NB211_210.out
              have hcz39_0 : wr.cell? ⟨gb210, 0, none⟩ = some (.int .i64 x211000_2) := (blk_cell BK210.out 0).trans rfl
              have hcz39_1 : wr.cell? ⟨gb210, 1, none⟩ = some (.int .i64 x211001_2) := (blk_cell BK210.out 1).trans rfl
              have hcz39_2 : wr.cell? ⟨gb210, 2, none⟩ = some (.string x211002_2) := (blk_cell BK210.out 2).trans rfl
              have hcz39_3 : wr.cell? ⟨gb210, 3, none⟩ = some (.string x211003_2) := (blk_cell BK210.out 3).trans rfl
              have hcz39_4 : wr.cell? ⟨gb210, 4, none⟩ = some (.int .i64 x211004_2) := (blk_cell BK210.out 4).trans rfl
              have hcz39_5 : wr.cell? ⟨gb210, 5, none⟩ = some (.int .i64 x211005_2) := (blk_cell BK210.out 5).trans rfl
              have hcz39_6 : wr.cell? ⟨gb210, 6, none⟩ = some (.int .i64 x211006_2) := (blk_cell BK210.out 6).trans rfl
              have hfz39_0 := blk_frozen BK210.out 0
              have hfz39_1 := blk_frozen BK210.out 1
              have hfz39_2 := blk_frozen BK210.out 2
              have hfz39_3 := blk_frozen BK210.out 3
              have hfz39_4 := blk_frozen BK210.out 4
              have hfz39_5 := blk_frozen BK210.out 5
              have hfz39_6 := blk_frozen BK210.out 6
              have hcz40_0 : wr.cell? ⟨gb211, 0, none⟩ = some (.int .i64 x212000_2) := (blk_cell BK211.out 0).trans rfl
              have hcz40_1 : wr.cell? ⟨gb211, 1, none⟩ = some (.int .i64 x212001_2) := (blk_cell BK211.out 1).trans rfl
              have hcz40_2 : wr.cell? ⟨gb211, 2, none⟩ = some (.string x212002_2) := (blk_cell BK211.out 2).trans rfl
              have hcz40_3 : wr.cell? ⟨gb211, 3, none⟩ = some (.string x212003_2) := (blk_cell BK211.out 3).trans rfl
              have hcz40_4 : wr.cell? ⟨gb211, 4, none⟩ = some (.int .i64 x212004_2) := (blk_cell BK211.out 4).trans rfl
              have hcz40_5 : wr.cell? ⟨gb211, 5, none⟩ = some (.int .i64 x212005_2) := (blk_cell BK211.out 5).trans rfl
              have hcz40_6 : wr.cell? ⟨gb211, 6, none⟩ = some (.int .i64 x212006_2) := (blk_cell BK211.out 6).trans rfl
              have hfz40_0 := blk_frozen BK211.out 0
              have hfz40_1 := blk_frozen BK211.out 1
              have hfz40_2 := blk_frozen BK211.out 2
              have hfz40_3 := blk_frozen BK211.out 3
              have hfz40_4 := blk_frozen BK211.out 4
              have hfz40_5 := blk_frozen BK211.out 5
              have hfz40_6 := blk_frozen BK211.out 6
              go_wp2
              refine bodyPost_ret (results_ct rfl _ _ gb211 27 #[.int .i64 x211000_2, .int .i64 x211001_2, .string x211002_2, .string x211003_2, .int .i64 x211004_2, .int .i64 x211005_2, .int .i64 x211006_2] (0, 0) _ rfl (by (with_reducible repeat (first | refine blk_drewN ?_ _ | refine blk_drew ?_ | refine blk_alloc ?_ _)); refine blk_put (cs := #[.int .i64 x211000_2, .int .i64 x211001_2, .string x211002_2, .string x211003_2, .int .i64 x211004_2, .int .i64 x211005_2, .int .i64 x212006_2]) ?_ 6 _ rfl; (with_reducible repeat (first | refine blk_drewN ?_ _ | refine blk_drew ?_ | refine blk_alloc ?_ _)); refine blk_put (cs := #[.int .i64 x211000_2, .int .i64 x211001_2, .string x211002_2, .string x211003_2, .int .i64 x211004_2, .int .i64 x212005_2, .int .i64 x212006_2]) ?_ 5 _ rfl; (with_reducible repeat (first | refine blk_drewN ?_ _ | refine blk_drew ?_ | refine blk_alloc ?_ _)); refine blk_put (cs := #[.int .i64 x211000_2, .int .i64 x211001_2, .string x211002_2, .string x211003_2, .int .i64 x212004_2, .int .i64 x212005_2, .int .i64 x212006_2]) ?_ 4 _ rfl; (with_reducible repeat (first | refine blk_drewN ?_ _ | refine blk_drew ?_ | refine blk_alloc ?_ _)); refine blk_put (cs := #[.int .i64 x211000_2, .int .i64 x211001_2, .string x211002_2, .string x212003_2, .int .i64 x212004_2, .int .i64 x212005_2, .int .i64 x212006_2]) ?_ 3 _ rfl; (with_reducible repeat (first | refine blk_drewN ?_ _ | refine blk_drew ?_ | refine blk_alloc ?_ _)); refine blk_put (cs := #[.int .i64 x211000_2, .int .i64 x211001_2, .string x212002_2, .string x212003_2, .int .i64 x212004_2, .int .i64 x212005_2, .int .i64 x212006_2]) ?_ 2 _ rfl; (with_reducible repeat (first | refine blk_drewN ?_ _ | refine blk_drew ?_ | refine blk_alloc ?_ _)); refine blk_put (cs := #[.int .i64 x211000_2, .int .i64 x212001_2, .string x212002_2, .string x212003_2, .int .i64 x212004_2, .int .i64 x212005_2, .int .i64 x212006_2]) ?_ 1 _ rfl; (with_reducible repeat (first | refine blk_drewN ?_ _ | refine blk_drew ?_ | refine blk_alloc ?_ _)); refine blk_put (cs := #[.int .i64 x212000_2, .int .i64 x212001_2, .string x212002_2, .string x212003_2, .int .i64 x212004_2, .int .i64 x212005_2, .int .i64 x212006_2]) ?_ 0 _ rfl; (with_reducible repeat (first | refine blk_drewN ?_ _ | refine blk_drew ?_ | refine blk_alloc ?_ _)); exact BK211.out) Try.underlying27 rfl (by kernel_rfl)) rfl ?_
              exact ⟨by first | rfl | (simp [errW_none, errW_some] <;> rfl) | (simp [*, errW_none, errW_some] <;> rfl), by repeat (first | (with_reducible first | exact HB.out | apply below_alloc | apply pw_below_drewN | apply below_drew1 | refine below_set ?_ GE210.out | refine below_set ?_ GE211.out) | exact HB.out)⟩

end Go.Proofs.Ytgifhfkpfgpagaa.PG
