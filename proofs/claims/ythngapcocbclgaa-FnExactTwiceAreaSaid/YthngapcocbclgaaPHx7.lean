-- Printed for this claim by gprint.py, a program of this session round the kit's printer. Lean checks it.
import Derived.Test.YthngapcocbclgaaPHx0
import Derived.Test.YthngapcocbclgaaPHx2
import Derived.Test.YthngapcocbclgaaPHx5
import Derived.Test.YthngapcocbclgaaPHx6
namespace Go.Proofs.Ythngapcocbclgaa.PH
open Go.RowKit Go.Proofs.YthngapcocbclgaaW.PrintWords Go.Proofs.YthngapcocbclgaaW.PrintLast Go.Proofs.YthngapcocbclgaaW.PrintMore
attribute [local go_sem] max2_int min2_int max_two min_two max_three min_three max_four min_four   -- for this text's walks alone
set_option linter.unusedVariables false
set_option linter.unusedSimpArgs false

attribute [local go_sem high] eqA47
/-! ### impl_ClosesAfter: function 15 -/
def impl_ClosesAfter.l0 : Nat → ByteArray → Int → Option (Int × Bool)
  | 0, _, _ => none
  | k + 1, x0, x4 => if x4 ≤ 4 then ((impl_turtle_walk.f k 0 0 0 x0 x4 0 0).bind fun bt169 => (if ((bt169.1 == 0 && (bt169.2.1 == 0)) && (bt169.2.2 == 0)) = true then (some (x4, true)) else (impl_ClosesAfter.l0 k x0 (wrap64 (x4 + 1))))) else (some (0, false))
def impl_ClosesAfter.f (k : Nat) (a0 : ByteArray) : Option (Int × Bool) := (impl_IsProgram.f k a0).bind fun t168 => (if t168 = true then (impl_ClosesAfter.l0 k a0 1) else (some (0, false)))
theorem impl_ClosesAfter.mono_l : ∀ k, (∀ y0 y1, LeO (impl_ClosesAfter.l0 k y0 y1) (impl_ClosesAfter.l0 (k + 1) y0 y1))
  | 0 => fun _ _ r h => by simp [impl_ClosesAfter.l0] at h
  | k + 1 => by
    have ih0 := impl_ClosesAfter.mono_l k
    · intro y0 y1
      unfold impl_ClosesAfter.l0
      repeat' first
      | (with_reducible exact ih0 _ _)
      | (with_reducible exact impl_IsProgram.mono _ _)
      | (with_reducible exact impl_turtle_walk.mono _ _ _ _ _ _ _ _)
      | (with_reducible exact LeO.refl _)
      | (with_reducible exact LeO.none _)
      | (with_reducible refine LeO.ite ?_ ?_)
      | (with_reducible refine LeO.bind ?_ (fun _ => ?_))
      | exact ih0 _ _
      | exact impl_IsProgram.mono _ _
      | exact impl_turtle_walk.mono _ _ _ _ _ _ _ _
      | exact LeO.none _
      | refine LeO.ite ?_ ?_
      | refine LeO.bind ?_ (fun _ => ?_)
theorem impl_ClosesAfter.mono : ∀ a0 k, LeO (impl_ClosesAfter.f k a0) (impl_ClosesAfter.f (k + 1) a0) := by
  intro a0 k
  have ih0 := impl_ClosesAfter.mono_l k
  unfold impl_ClosesAfter.f
  repeat' first
      | (with_reducible exact ih0 _ _)
      | (with_reducible exact impl_IsProgram.mono _ _)
      | (with_reducible exact impl_turtle_walk.mono _ _ _ _ _ _ _ _)
      | (with_reducible exact LeO.refl _)
      | (with_reducible exact LeO.none _)
      | (with_reducible refine LeO.ite ?_ ?_)
      | (with_reducible refine LeO.bind ?_ (fun _ => ?_))
      | exact ih0 _ _
      | exact impl_IsProgram.mono _ _
      | exact impl_turtle_walk.mono _ _ _ _ _ _ _ _
      | exact LeO.none _
      | refine LeO.ite ?_ ?_
      | refine LeO.bind ?_ (fun _ => ?_)
set_option maxHeartbeats 8000000 in
set_option maxRecDepth 100000 in
theorem impl_ClosesAfter.calls (k : Nat) (a0 : ByteArray) (r1 : Int) (r2 : Bool) (w : World) (h : impl_ClosesAfter.f k a0 = some (r1, r2)) :
    Calls Try.prog 15 #[.string a0] w fun e w' => e = .returned (.tuple #[.int .i64 r1, .bool r2]) ∧ Below w.heap.size w w' := by
  have hu47 := Try.underlying47
  have HB := Aside0.mk (Below.refl w.heap.size w)
  have H : ((impl_IsProgram.f k a0).bind fun t168 => (if t168 = true then (impl_ClosesAfter.l0 k a0 1) else (some (0, false)))) = some (r1, r2) := h
  clear h
  replace H := Option.bind_eq_some_iff.mp H
  obtain ⟨t168, A20, H⟩ := H
  replace H : (if t168 = true then (impl_ClosesAfter.l0 k a0 1) else (some (0, false))) = some (r1, r2) := H
  have A2 := Aside0.mk A20
  clear A20
  by_cases c3 : t168 = true
  · subst c3
    have H1 : (impl_ClosesAfter.l0 k a0 1) = some (r1, r2) := by rw [if_pos rfl] at H; exact H
    clear H
    have H := H1
    clear H1
    have H' := Aside0.mk H
    clear H
    go_enter Try.func15, Try.ntmps15
    go_wp2_with (first | ((with_reducible refine gate_callee (f := 43) rfl ?_); refine goesL_ (some 6) rfl rfl Try.func43 (by kernel_rfl) rfl #[.string a0] rfl (by (try simp only [List.map_toArray, List.map_cons, List.map_nil]); first | done | rfl | (simp only [List.length_drop, List.length_take]; rfl)) ?_; (with_reducible refine (impl_IsProgram.calls k a0 true _ A2.out).mono ?_); rintro e w' ⟨rfl, ⟨nd, rfl⟩⟩; refine ⟨_, rfl, ?_⟩))
    go_loopg [4] k (fun kq v4 w' => ∃ (x4_1 : Int), v4 = .int .i64 x4_1 ∧ Aside0 (impl_ClosesAfter.l0 kq a0 x4_1 = some (r1, r2)) ∧ Aside0 (kq ≤ k) ∧ Aside0 (Below w.heap.size w w'))
    case atStart => exact ⟨(1), (by first | rfl | (simp; done) | (simp [*]; done)), H', ⟨Nat.le_refl _⟩, ⟨by repeat (first | (with_reducible first | exact HB.out | apply below_alloc | apply pw_below_drewN | apply below_drew1) | exact HB.out)⟩⟩
    case round =>
      clear H'
      try clear c1
      try clear p2
      try clear c3
      obtain ⟨x4_1, rfl, HA, HK1, HB⟩ := hrel
      cases gk with
      | zero => exact absurd HA.out (by simp [impl_ClosesAfter.l0])
      | succ k1 =>
        have H := HA.out
        clear HA
        simp only [impl_ClosesAfter.l0] at H
        by_cases c4 : x4_1 ≤ 4
        · rw [if_pos c4] at H
          have c4b0 : decide (x4_1 ≤ 4) = true := decide_eq_true c4
          clear c4
          replace H := Option.bind_eq_some_iff.mp H
          obtain ⟨⟨t169, t170, t171⟩, A50, H⟩ := H
          replace H : (if ((t169 == 0 && (t170 == 0)) && (t171 == 0)) = true then (some (x4_1, true)) else (impl_ClosesAfter.l0 k1 a0 (wrap64 (x4_1 + 1)))) = some (r1, r2) := H
          have A5 := Aside0.mk A50
          clear A50
          by_cases c6 : ((t169 == 0 && (t170 == 0)) && (t171 == 0)) = true
          · rw [if_pos c6] at H
            have c6b0 : ((t169 == 0 && (t170 == 0)) && (t171 == 0)) = true := c6
            clear c6
            simp only [Option.some.injEq, Prod.mk.injEq] at H
            obtain ⟨rfl, rfl⟩ := H
            go_wp2_with (first | ((with_reducible refine gate_callee (f := 39) rfl ?_); refine goesL_ (some 15) rfl rfl Try.func39 (by kernel_rfl) rfl #[.agg #[.int .i64 0, .int .i64 0, .int .i64 0], .string a0, .int .i64 x4_1, .func (.func 40) #[] #[], .func (.func 40) #[] #[]] rfl (by (try simp only [List.map_toArray, List.map_cons, List.map_nil]); first | done | rfl | (simp only [List.length_drop, List.length_take]; rfl)) ?_; (with_reducible refine (impl_turtle_walk.calls k1 0 0 0 a0 x4_1 0 0 t169 t170 t171 _ A5.out).mono ?_); rintro e w7 ⟨rfl, hb⟩; refine ⟨_, rfl, ?_⟩; have n0_ := Aside0.mk (below_step (by repeat (first | (with_reducible first | exact HB.out | apply below_alloc | apply pw_below_drewN | apply below_drew1) | exact HB.out)) hb); clear HB; have HB := n0_; clear n0_; (try clear hb); (try clear hb2); (try clear hk); (try clear hi)))
            go_ret2
            exact ⟨by first | rfl | (simp [errW_none, errW_some] <;> rfl) | (simp [*, errW_none, errW_some] <;> rfl), by repeat (first | (with_reducible first | exact HB.out | apply below_alloc | apply pw_below_drewN | apply below_drew1) | exact HB.out)⟩
          · rw [if_neg c6] at H
            have c6b0 : ((t169 == 0 && (t170 == 0)) && (t171 == 0)) = false := by simpa using c6
            clear c6
            have H' := Aside0.mk H
            clear H
            go_wp2_with (first | ((with_reducible refine gate_callee (f := 39) rfl ?_); refine goesL_ (some 15) rfl rfl Try.func39 (by kernel_rfl) rfl #[.agg #[.int .i64 0, .int .i64 0, .int .i64 0], .string a0, .int .i64 x4_1, .func (.func 40) #[] #[], .func (.func 40) #[] #[]] rfl (by (try simp only [List.map_toArray, List.map_cons, List.map_nil]); first | done | rfl | (simp only [List.length_drop, List.length_take]; rfl)) ?_; (with_reducible refine (impl_turtle_walk.calls k1 0 0 0 a0 x4_1 0 0 t169 t170 t171 _ A5.out).mono ?_); rintro e w8 ⟨rfl, hb⟩; refine ⟨_, rfl, ?_⟩; have n0_ := Aside0.mk (below_step (by repeat (first | (with_reducible first | exact HB.out | apply below_alloc | apply pw_below_drewN | apply below_drew1) | exact HB.out)) hb); clear HB; have HB := n0_; clear n0_; (try clear hb); (try clear hb2); (try clear hk); (try clear hi)))
            go_roundg k1
            case measure => have := HK1.out; omega
            case rel => exact ⟨(wrap64 (x4_1 + 1)), (by first | rfl | (simp; done) | (simp [*]; done)), H', ⟨by have := HK1.out; omega⟩, ⟨by repeat (first | (with_reducible first | exact HB.out | apply below_alloc | apply pw_below_drewN | apply below_drew1) | exact HB.out)⟩⟩
        · rw [if_neg c4] at H
          have c4b0 : decide (x4_1 ≤ 4) = false := decide_eq_false c4
          clear c4
          simp only [Option.some.injEq, Prod.mk.injEq] at H
          obtain ⟨rfl, rfl⟩ := H
          go_wp2
          go_ret2
          exact ⟨by first | rfl | (simp [errW_none, errW_some] <;> rfl) | (simp [*, errW_none, errW_some] <;> rfl), by repeat (first | (with_reducible first | exact HB.out | apply below_alloc | apply pw_below_drewN | apply below_drew1) | exact HB.out)⟩
  · replace c3 := Bool.eq_false_iff.mpr c3
    subst c3
    have H1 : (some (0, false)) = some (r1, r2) := by rw [if_neg (show ¬ (false = true) by decide)] at H; exact H
    clear H
    have H := H1
    clear H1
    simp only [Option.some.injEq, Prod.mk.injEq] at H
    obtain ⟨rfl, rfl⟩ := H
    go_enter Try.func15, Try.ntmps15
    go_wp2_with (first | ((with_reducible refine gate_callee (f := 43) rfl ?_); refine goesL_ (some 6) rfl rfl Try.func43 (by kernel_rfl) rfl #[.string a0] rfl (by (try simp only [List.map_toArray, List.map_cons, List.map_nil]); first | done | rfl | (simp only [List.length_drop, List.length_take]; rfl)) ?_; (with_reducible refine (impl_IsProgram.calls k a0 false _ A2.out).mono ?_); rintro e w' ⟨rfl, ⟨nd, rfl⟩⟩; refine ⟨_, rfl, ?_⟩))
    go_ret2
    exact ⟨by first | rfl | (simp [errW_none, errW_some] <;> rfl) | (simp [*, errW_none, errW_some] <;> rfl), by repeat (first | (with_reducible first | exact HB.out | apply below_alloc | apply pw_below_drewN | apply below_drew1) | exact HB.out)⟩

/-! ### impl_corners: function 45 -/
-- it calls 39, with the closure 68
def impl_corners.clo (gc B : Nat) : Clo (List S45) where
  I := fun xs W => ∃ v, W.heap[gc]? = some (.cells #[v] 52 (0, 0)) ∧ Kd.R k45 45 W B (fun _ => True) v xs ∧ B ≤ gc ∧ B ≤ W.heap.size
  O := fun k => B ≤ k
  stab := by
    rintro s W W' ⟨v, h1, h2, h3, h4⟩ hsz hk
    refine ⟨v, hk gc _ h1 rfl, ?_, h3, Nat.le_trans h4 hsz⟩
    refine Kd.R_mono (Kd.R_move (Kd.R_bound h2) (fun i hi => ?_)) (fun _ hi => hi.1)
    obtain ⟨_, _, _, q, hq, cells, hc⟩ := hi
    rw [show k45.E = [] from rfl, List.mem_singleton] at hq
    subst hq
    exact (hk i _ hc rfl).trans hc.symm
def impl_corners.add (xs : List S45) (x y : Int) : Option (List S45) := if xs.length < 8796093022208 then some (xs ++ [⟨x, y⟩]) else none
set_option maxHeartbeats 4000000 in
set_option maxRecDepth 100000 in
theorem impl_corners.steps (gc B : Nat) (w0 : World) : Clo.Steps Try.prog (impl_corners.clo gc B) w0 impl_corners.add 68 #[.pointer (some ⟨gc, 0, none⟩)] := by
  intro xs xs' x y w hX hst
  show Calls Try.prog 68 #[.agg #[.int .i64 x, .int .i64 y], .pointer (some ⟨gc, 0, none⟩)] w _
  obtain ⟨⟨v, hgc, hv, hBg, hBs⟩, hF⟩ := hX
  unfold impl_corners.add at hst
  by_cases hl : xs.length < 8796093022208
  case neg => rw [if_neg hl] at hst; cases hst
  rw [if_pos hl] at hst
  obtain rfl := Option.some.inj hst
  have hu := Try.underlying45
  obtain ⟨A, c, rfl⟩ := Kd.R_slice hv
  have HB := Aside0.mk (Below.refl w.heap.size w)
  have BC := Aside0.mk hgc
  have HO := Aside0.mk hv
  have HL := Aside0.mk hl
  have HS := Aside0.mk hBs
  have HG := Aside0.mk hBg
  have HF := Aside0.mk hF
  clear hgc hv hl hBs hBg hst hF
  go_enter Try.func68, Try.ntmps68
  go_wp2_with (first | ((with_reducible refine gate_dst (N := 2) rfl ?_); refine box_event ?hg (N := 2) ?hd (cs := #[.int .i64 x, .int .i64 y]) (t := 45) ?hr ?_; (case hd => rfl); (case hg => rfl); (case hr => first | (go_simp; done) | (go_simp; rfl)); intro gb hg w3 hbox hb; have n0_ := Aside0.mk (below_step HB.out hb); have n1_ := Aside0.mk (blk_below BC.out hb); have n2_ := Aside0.mk (Kd.R_below HO.out hb); have BK := Aside0.mk hbox; have hcc : w3.cell? ⟨gc, 0, none⟩ = some (.slice A xs.length c) := (blk_cell n1_.out 0).trans rfl; have hc0 : w3.cell? ⟨gb, 0, none⟩ = some (.int .i64 x) := (blk_cell hbox 0).trans rfl; have hc1 : w3.cell? ⟨gb, 1, none⟩ = some (.int .i64 y) := (blk_cell hbox 1).trans rfl; clear HB BC HO; have HB := n0_; have BC := n1_; have HO := n2_; clear n0_ n1_ n2_ hbox hg hb) | ((with_reducible refine gate_builtin (b := .append) (xs := #[.tmp 3, .tmp 5]) rfl ?_); at_builtin; refine Kd.R_append k45 (w0 := w) B rfl (.tmp 3) (.tmp 5) 52 45 (.agg #[(.int .i64 0), (.int .i64 0)]) 16 rfl Try.underlying52 info45 rfl (by decide) (by omega) (.slice A xs.length c) xs (⟨x, y⟩ : S45) [.int .i64 x, .int .i64 y] (fun _ => True) (fun _ => False) rfl rfl ?aP (fun _ hk => hk.elim) (fun _ _ => trivial) HO.out ?aB ?aS ?aL ?_; (case aP => exact k45_mkM _ _ _ (⟨x, y⟩ : S45)); (case aB => exact HB.out.mono HS.out); (case aS => exact Nat.le_trans HS.out HB.out.size); (case aL => have := HL.out; omega); intro v7 w7 ho hb hgr hat; obtain ⟨A7, c7, e7⟩ := Kd.R_slice ho; rw [List.length_append, List.length_singleton] at e7; subst e7; have BC7 := Aside0.mk (blk_grown BC.out hgr (Kd.R_ne HO.out BC.out (by decide))); have HO7 := Aside0.mk ho; have HB7 := Aside0.mk hb; have HG7 := Aside0.mk hgr; have hcc7 : w7.cell? ⟨gc, 0, none⟩ = some (.slice A xs.length c) := (blk_cell BC7.out 0).trans rfl; have hfz7 := blk_frozen BC7.out 0; clear hcc hc0 hc1 ho hb hgr hat))
  first | go_end0 | ((try simp only [Exit.inBlock, Exit.then]); refine bodyPost_ret (results_none rfl _ _ _) rfl ?_)
  refine ⟨by first | rfl | (simp; done), ⟨⟨_, blk_put BC7.out 0 _ rfl, Kd.R_mono (Kd.R_far (p := ⟨gc, 0, none⟩) (Kd.R_types HO7.out BC7.out (by decide)) (fun _ hk => hk.2) _) (fun _ _ => trivial), HG.out, ?_⟩, HB7.out.os, HB7.out.tape, HB7.out.output, ?_, fun k hk hn => ?_, fun k o ho hown => ?_⟩⟩
  · exact Nat.le_trans HS.out (Nat.le_trans HB7.out.size (by simp [World.setCell]))
  · exact Nat.le_trans HB7.out.size (by simp [World.setCell])
  · have hlt : k < B := Nat.lt_of_not_le hn
    exact (Below.heap_setCell w7 ⟨gc, 0, none⟩ _ k (by show k ≠ gc; have := HG.out; omega)).trans (HB7.out.block k hlt)
  · have h3 := blk_below ho HB.out
    have hne : k ≠ gc := by
      rintro rfl
      have h4 := BC.out
      rw [h3] at h4
      cases h4
      cases hown
    have hne2 : some k ≠ (Value.slice A xs.length c).ownBlock := fun e => by
      obtain ⟨cells, h4⟩ := Kd.R_typed HO.out k e.symm
      rw [h3] at h4
      cases h4
      cases hown
    exact (Below.heap_setCell w7 ⟨gc, 0, none⟩ _ k hne).trans (blk_grown h3 HG7.out hne2)
def impl_corners.f (k : Nat) (a0 : ByteArray) (a1 : Int) : Option ((List (S45))) := (impl_turtle_walkG.f (fun s _ _ => some s) impl_corners.add k [(⟨0, 0⟩ : S45)] 0 0 0 a0 a1).bind fun r => some r.2.2.2
theorem impl_corners.mono : ∀ a0 a1 k, LeO (impl_corners.f k a0 a1) (impl_corners.f (k + 1) a0 a1) := fun _ _ _ => LeO.bind (impl_turtle_walkG.mono _ _ _ _ _ _ _ _ _) (fun _ => LeO.refl _)
set_option maxHeartbeats 4000000 in
set_option maxRecDepth 100000 in
theorem impl_corners.calls (k : Nat) (a0 : ByteArray) (a1 : Int) (r : List (S45)) (w : World) (h : impl_corners.f k a0 a1 = some r) :
    Calls Try.prog 45 #[.string a0, .int .i64 a1] w fun e w' => ∃ v0_ : Value, e = .returned (v0_) ∧ Kd.R k45 45 w' w.heap.size (fun _ => True) v0_ r ∧ Below w.heap.size w w' := by
  have hu45 := Try.underlying45
  have hu47 := Try.underlying47
  have eg1 : ∀ args w, (callFunc 40 args).run Try.prog w = .ok (.enter 40 args) w := Go.Proofs.enters_of Try.func40 (by kernel_rfl) rfl
  have eg2 : ∀ args w, (callFunc 68 args).run Try.prog w = .ok (.enter 68 args) w := Go.Proofs.enters_of Try.func68 (by kernel_rfl) rfl
  obtain ⟨⟨q1, q2, q3, q4⟩, hq, h⟩ := Option.bind_eq_some_iff.mp h
  obtain rfl := Option.some.inj h
  obtain ⟨y1, hy1⟩ : ∃ y_ : List (S45), y_ = (([(⟨0, 0⟩ : S45)] : List (S45))) := ⟨_, rfl⟩
  rw [← hy1] at hq
  have key : ∀ (gc : Nat) (v : Value) (W : World), w.heap.size ≤ gc → w.heap.size ≤ W.heap.size → W.heap[gc]? = some (.cells #[v] 52 (0, 0)) → Kd.R k45 45 W w.heap.size (fun _ => True) v y1 →
      Calls Try.prog 39 #[.agg #[.int .i64 0, .int .i64 0, .int .i64 0], .string a0, .int .i64 a1, .func (.func 40) #[] #[], .func (.func 68) #[] #[.pointer (some ⟨gc, 0, none⟩)]] W fun e w' => e = .returned (.agg #[.int .i64 q1, .int .i64 q2, .int .i64 q3]) ∧ Clo.X (impl_corners.clo gc w.heap.size) W q4 w' := fun gc v W h1 h2 h3 h4 =>
    impl_turtle_walkG.calls (impl_corners.clo gc w.heap.size) (fun s _ _ => some s) impl_corners.add 40 68 #[] #[.pointer (some ⟨gc, 0, none⟩)] eg1 eg2 W ⟨Clo.steps_nothing _ _⟩ ⟨impl_corners.steps gc w.heap.size W⟩ k y1 ⟨⟨v, h3, h4, h1, h2⟩, ⟨rfl, rfl, rfl, Nat.le_refl _, fun _ _ _ => rfl⟩⟩ 0 0 0 a0 a1 q1 q2 q3 q4 hq
  have HK := Aside0.mk key
  have Ny1 := Aside0.mk hy1
  have HB := Aside0.mk (Below.refl w.heap.size w)
  clear key eg1 eg2 hy1 hq h
  go_enter Try.func45, Try.ntmps45
  go_wp2_with (first | ((with_reducible refine gate_dst (N := 7) rfl ?_); refine Kd.R_lit k45 _ 45 ?hg (N := 7) ?hd (xs := ([(⟨0, 0⟩ : S45)] : List (S45))) (inner := [.int .i64 0, .int .i64 0]) (ok := fun _ => True) (okp := fun _ => True) ?hr ?hp (fun _ hk => hk) trivial (Below.refl _ _) (Nat.le_refl _) (by simp) ?_; (case hd => rfl); (case hg => rfl); (case hr => first | (go_simp; done) | (go_simp; rfl)); (case hp => exact (Reps.c2 (show Kd.M k45 _ _ _ (⟨0, 0⟩ : S45) [.int .i64 0, .int .i64 0] from (k45_mkM _ _ _ (⟨0, 0⟩ : S45) )) (Reps.none _ _))); intro v1 w5 ho6 hb hg_ hnew_; clear hg_ hnew_; (first | rw [← Ny1.out] at ho6 | (simp only [Int.reduceToNat] at ho6; rw [← Ny1.out] at ho6)); have n0_ := Aside0.mk (Kd.R_lower ho6 (below_size HB.out)); have n1_ := Aside0.mk (below_step HB.out hb); clear HB; have HO := n0_; have HB := n1_; clear n0_ n1_; clear hb ho6; obtain ⟨Ao1, co1, eo1⟩ := Kd.R_slice HO.out; subst eo1) | ((with_reducible refine gate_dst (N := 5) rfl ?_); refine box_event ?hg (N := 5) ?hd (cs := #[.slice none 0 0]) (t := 52) ?hr ?_; (case hd => rfl); (case hg => rfl); (case hr => first | (go_simp; done) | (go_simp; rfl)); intro gc hg w6 hbox hb; have n0_ := Aside0.mk (Kd.R_below HO.out hb); have n1_ := Aside0.mk (show w.heap.size ≤ gc by rw [hg]; exact below_size HB.out); have n2_ := Aside0.mk (below_step HB.out hb); have n3_ := Aside0.mk hbox; clear HO HB; have HO := n0_; have GC := n1_; have HB := n2_; have BC := n3_; have hcc : w6.cell? ⟨gc, 0, none⟩ = some (.slice none 0 0) := (blk_cell BC.out 0).trans rfl; have hfz := blk_frozen BC.out 0; clear n0_ n1_ n2_ n3_ hbox hg hb) | (go_at_call 39; refine (HK.out gc (.slice Ao1 y1.length co1) _ GC.out (by first | exact Nat.le_trans HB.out.size (by simp [World.setCell]) | exact HB.out.size) (blk_put BC.out 0 _ rfl) (Kd.R_mono (Kd.R_far (p := ⟨gc, 0, none⟩) (Kd.R_types HO.out BC.out (by decide)) (fun _ hk => hk.2) _) (fun _ _ => trivial))).mono ?_; rintro e w9 ⟨rfl, hX⟩; obtain ⟨⟨v9, hg9, hr9, hq1, hq2⟩, hF9⟩ := hX; have HB9 := Aside0.mk (show Below w.heap.size w w9 from ⟨hF9.os.trans HB.out.os, hF9.tape.trans HB.out.tape, hF9.output.trans HB.out.output, Nat.le_trans HB.out.size (Nat.le_trans (by simp [World.setCell]) hF9.size), fun k hk => (hF9.block k (by simp [World.setCell]; exact Nat.lt_of_lt_of_le hk HB.out.size) (Nat.not_le.2 hk)).trans ((Below.heap_setCell w6 ⟨gc, 0, none⟩ _ k (by show k ≠ gc; have := GC.out; omega)).trans (HB.out.block k hk))⟩); obtain ⟨A9, c9, e9⟩ := Kd.R_slice hr9; subst e9; have HO9 := Aside0.mk hr9; have hcc9 : w9.cell? ⟨gc, 0, none⟩ = some (.slice A9 q4.length c9) := (blk_cell hg9 0).trans rfl; clear hcc hfz hg9 hr9 hF9 hq1 hq2))
  go_ret
  exact ⟨_, by first | rfl | (simp; done), HO9.out, HB9.out⟩

/-! ### impl_TwiceArea: function 17 -/
def impl_TwiceArea.l0 : Nat → List (S45) → Int → Int → Option (Int × Bool)
  | 0, _, _, _ => none
  | k + 1, x6, x7, x8 => if x8 < (x6.length : Int) then (if 0 ≤ (wrap64 (x8 - 1)) then (if (wrap64 (x8 - 1)) < (x6.length : Int) then (if 0 ≤ x8 then (impl_TwiceArea.l0 k x6 (wrap64 (x7 + (wrap64 ((wrap64 (((rd_T45 x6 (wrap64 (x8 - 1))).f0) * ((rd_T45 x6 x8).f1))) - (wrap64 (((rd_T45 x6 x8).f0) * ((rd_T45 x6 (wrap64 (x8 - 1))).f1))))))) (wrap64 (x8 + 1))) else (none)) else (none)) else (none)) else (some (x7, true))
def impl_TwiceArea.f (k : Nat) (a0 : ByteArray) : Option (Int × Bool) := (impl_ClosesAfter.f k a0).bind fun bt172 => (if bt172.2 = true then ((impl_corners.f k a0 bt172.1).bind fun t174 => (impl_TwiceArea.l0 k t174 0 1)) else (some (0, false)))
theorem impl_TwiceArea.mono_l : ∀ k, (∀ y0 y1 y2, LeO (impl_TwiceArea.l0 k y0 y1 y2) (impl_TwiceArea.l0 (k + 1) y0 y1 y2))
  | 0 => fun _ _ _ r h => by simp [impl_TwiceArea.l0] at h
  | k + 1 => by
    have ih0 := impl_TwiceArea.mono_l k
    · intro y0 y1 y2
      unfold impl_TwiceArea.l0
      repeat' first
      | (with_reducible exact ih0 _ _ _)
      | (with_reducible exact impl_ClosesAfter.mono _ _)
      | (with_reducible exact impl_corners.mono _ _ _)
      | (with_reducible exact LeO.refl _)
      | (with_reducible exact LeO.none _)
      | (with_reducible refine LeO.ite ?_ ?_)
      | (with_reducible refine LeO.bind ?_ (fun _ => ?_))
      | exact ih0 _ _ _
      | exact impl_ClosesAfter.mono _ _
      | exact impl_corners.mono _ _ _
      | exact LeO.none _
      | refine LeO.ite ?_ ?_
      | refine LeO.bind ?_ (fun _ => ?_)
theorem impl_TwiceArea.mono : ∀ a0 k, LeO (impl_TwiceArea.f k a0) (impl_TwiceArea.f (k + 1) a0) := by
  intro a0 k
  have ih0 := impl_TwiceArea.mono_l k
  unfold impl_TwiceArea.f
  repeat' first
      | (with_reducible exact ih0 _ _ _)
      | (with_reducible exact impl_ClosesAfter.mono _ _)
      | (with_reducible exact impl_corners.mono _ _ _)
      | (with_reducible exact LeO.refl _)
      | (with_reducible exact LeO.none _)
      | (with_reducible refine LeO.ite ?_ ?_)
      | (with_reducible refine LeO.bind ?_ (fun _ => ?_))
      | exact ih0 _ _ _
      | exact impl_ClosesAfter.mono _ _
      | exact impl_corners.mono _ _ _
      | exact LeO.none _
      | refine LeO.ite ?_ ?_
      | refine LeO.bind ?_ (fun _ => ?_)
set_option maxHeartbeats 8000000 in
set_option maxRecDepth 100000 in
theorem impl_TwiceArea.calls (k : Nat) (a0 : ByteArray) (r1 : Int) (r2 : Bool) (w : World) (h : impl_TwiceArea.f k a0 = some (r1, r2)) :
    Calls Try.prog 17 #[.string a0] w fun e w' => e = .returned (.tuple #[.int .i64 r1, .bool r2]) ∧ Below w.heap.size w w' := by
  have HB := Aside0.mk (Below.refl w.heap.size w)
  have H : ((impl_ClosesAfter.f k a0).bind fun bt172 => (if bt172.2 = true then ((impl_corners.f k a0 bt172.1).bind fun t174 => (impl_TwiceArea.l0 k t174 0 1)) else (some (0, false)))) = some (r1, r2) := h
  clear h
  replace H := Option.bind_eq_some_iff.mp H
  obtain ⟨⟨t172, t173⟩, A20, H⟩ := H
  replace H : (if t173 = true then ((impl_corners.f k a0 t172).bind fun t174 => (impl_TwiceArea.l0 k t174 0 1)) else (some (0, false))) = some (r1, r2) := H
  have A2 := Aside0.mk A20
  clear A20
  by_cases c3 : t173 = true
  · subst c3
    have H1 : ((impl_corners.f k a0 t172).bind fun t174 => (impl_TwiceArea.l0 k t174 0 1)) = some (r1, r2) := by rw [if_pos rfl] at H; exact H
    clear H
    have H := H1
    clear H1
    replace H := Option.bind_eq_some_iff.mp H
    obtain ⟨t174, A40, H⟩ := H
    replace H : (impl_TwiceArea.l0 k t174 0 1) = some (r1, r2) := H
    have A4 := Aside0.mk A40
    clear A40
    have H' := Aside0.mk H
    clear H
    go_enter Try.func17, Try.ntmps17
    go_wp2_with (first | (go_at_call 15; (with_reducible refine (impl_ClosesAfter.calls k a0 t172 true _ A2.out).mono ?_); rintro e w5 ⟨rfl, hb⟩; have n0_ := Aside0.mk (below_step (by repeat (first | (with_reducible first | exact HB.out | apply below_alloc | apply pw_below_drewN | apply below_drew1) | exact HB.out)) hb); clear HB; have HB := n0_; clear n0_; (try clear hb); (try clear hb2); (try clear hk); (try clear hi)) | (go_at_call 45; (with_reducible refine (impl_corners.calls k a0 t172 t174 _ A4.out).mono ?_); rintro e w6 ⟨v175, rfl, ho0, hb⟩; have n0_ := Aside0.mk (Kd.R_lower ho0 (below_size (by repeat (first | (with_reducible first | exact HB.out | apply below_alloc | apply pw_below_drewN | apply below_drew1) | exact HB.out)))); have n1_ := Aside0.mk (below_step (by repeat (first | (with_reducible first | exact HB.out | apply below_alloc | apply pw_below_drewN | apply below_drew1) | exact HB.out)) hb); clear HB; have HO176 := n0_; have HB := n1_; clear n0_ n1_; (try clear hb); (try clear hb2); (try clear hk); (try clear hi); (try clear ho0)))
    repeat (go_quiet (first | (go_at_call 15; (with_reducible refine (impl_ClosesAfter.calls k a0 t172 true _ A2.out).mono ?_); rintro e w5 ⟨rfl, hb⟩; have n0_ := Aside0.mk (below_step (by repeat (first | (with_reducible first | exact HB.out | apply below_alloc | apply pw_below_drewN | apply below_drew1) | exact HB.out)) hb); clear HB; have HB := n0_; clear n0_; (try clear hb); (try clear hb2); (try clear hk); (try clear hi)) | (go_at_call 45; (with_reducible refine (impl_corners.calls k a0 t172 t174 _ A4.out).mono ?_); rintro e w6 ⟨v175, rfl, ho0, hb⟩; have n0_ := Aside0.mk (Kd.R_lower ho0 (below_size (by repeat (first | (with_reducible first | exact HB.out | apply below_alloc | apply pw_below_drewN | apply below_drew1) | exact HB.out)))); have n1_ := Aside0.mk (below_step (by repeat (first | (with_reducible first | exact HB.out | apply below_alloc | apply pw_below_drewN | apply below_drew1) | exact HB.out)) hb); clear HB; have HO176 := n0_; have HB := n1_; clear n0_ n1_; (try clear hb); (try clear hb2); (try clear hk); (try clear hi); (try clear ho0))); try go_wp2_with (first | (go_at_call 15; (with_reducible refine (impl_ClosesAfter.calls k a0 t172 true _ A2.out).mono ?_); rintro e w5 ⟨rfl, hb⟩; have n0_ := Aside0.mk (below_step (by repeat (first | (with_reducible first | exact HB.out | apply below_alloc | apply pw_below_drewN | apply below_drew1) | exact HB.out)) hb); clear HB; have HB := n0_; clear n0_; (try clear hb); (try clear hb2); (try clear hk); (try clear hi)) | (go_at_call 45; (with_reducible refine (impl_corners.calls k a0 t172 t174 _ A4.out).mono ?_); rintro e w6 ⟨v175, rfl, ho0, hb⟩; have n0_ := Aside0.mk (Kd.R_lower ho0 (below_size (by repeat (first | (with_reducible first | exact HB.out | apply below_alloc | apply pw_below_drewN | apply below_drew1) | exact HB.out)))); have n1_ := Aside0.mk (below_step (by repeat (first | (with_reducible first | exact HB.out | apply below_alloc | apply pw_below_drewN | apply below_drew1) | exact HB.out)) hb); clear HB; have HO176 := n0_; have HB := n1_; clear n0_ n1_; (try clear hb); (try clear hb2); (try clear hk); (try clear hi); (try clear ho0))))
    go_loopg [7, 8] k (fun kq v7 v8 w' => ∃ (x7_1 : Int) (x8_1 : Int), v7 = .int .i64 x7_1 ∧ v8 = .int .i64 x8_1 ∧ Aside0 (impl_TwiceArea.l0 kq t174 x7_1 x8_1 = some (r1, r2)) ∧ Aside0 (kq ≤ k) ∧ Aside0 (Kd.R k45 45 w' w.heap.size (fun _ => True) v175 t174) ∧ Aside0 (Below w.heap.size w w'))
    case atStart => exact ⟨(0), (1), (by first | rfl | (simp; done) | (simp [*]; done)), (by first | rfl | (simp; done) | (simp [*]; done)), H', ⟨Nat.le_refl _⟩, ⟨by (with_reducible repeat (first | apply Kd.R_alloc | apply Kd.R_drewN | apply Kd.R_drew)); exact HO176.out⟩, ⟨by repeat (first | (with_reducible first | exact HB.out | apply below_alloc | apply pw_below_drewN | apply below_drew1) | exact HB.out)⟩⟩
    case round =>
      clear H'
      try clear c1
      try clear p2
      try clear c3
      obtain ⟨x7_1, x8_1, rfl, rfl, HA, HK1, HO_6, HB⟩ := hrel
      cases gk with
      | zero => exact absurd HA.out (by simp [impl_TwiceArea.l0])
      | succ k1 =>
        have H := HA.out
        clear HA
        simp only [impl_TwiceArea.l0] at H
        by_cases c7 : x8_1 < (t174.length : Int)
        · rw [if_pos c7] at H
          have c7b0 : decide (x8_1 < (t174.length : Int)) = true := decide_eq_true c7
          clear c7
          obtain ⟨ji8, hji8⟩ : ∃ j_ : Int, (wrap64 (x8_1 - 1)) = j_ := ⟨_, rfl⟩
          replace H : (if 0 ≤ (ji8) then (if (ji8) < (t174.length : Int) then (if 0 ≤ x8_1 then (impl_TwiceArea.l0 k1 t174 (wrap64 (x7_1 + (wrap64 ((wrap64 (((rd_T45 t174 (ji8)).f0) * ((rd_T45 t174 x8_1).f1))) - (wrap64 (((rd_T45 t174 x8_1).f0) * ((rd_T45 t174 (ji8)).f1))))))) (wrap64 (x8_1 + 1))) else (none)) else (none)) else (none)) = some (r1, r2) := by first | (rw [hji8] at H; exact H) | (simp only [hji8] at H ⊢; exact H)
          have hji8w : (IntKind.i64.wrap (x8_1 - 1)) = ji8 := (i64_w _).trans hji8
          by_cases c9 : 0 ≤ (ji8)
          · rw [if_pos c9] at H
            have c9b0 : decide (0 ≤ (ji8)) = true := decide_eq_true c9
            clear c9
            by_cases c10 : (ji8) < (t174.length : Int)
            · rw [if_pos c10] at H
              have c10b0 : decide ((ji8) < (t174.length : Int)) = true := decide_eq_true c10
              clear c10
              by_cases c11 : 0 ≤ x8_1
              · rw [if_pos c11] at H
                have c11b0 : decide (0 ≤ x8_1) = true := decide_eq_true c11
                clear c11
                have H' := Aside0.mk H
                clear H
                obtain ⟨Ao12, co12, eo12⟩ := Kd.R_slice HO_6.out
                subst eo12
                have p177 : 0 ≤ ((ji8) : Int) := of_decide_eq_true (by first | (with_reducible assumption) | assumption)
                have q177 : (ji8) < (t174.length : Int) := of_decide_eq_true (by first | (with_reducible assumption) | assumption)
                obtain ⟨ad177, e177, hx177_0, hx177_1⟩ := at_T45 (Kd.R_reads' HO_6.out).2.2 (ji8) p177 q177
                cases e177
                replace p177 := eq_true p177
                replace q177 := eq_true q177
                have p178 : 0 ≤ (x8_1 : Int) := of_decide_eq_true (by first | (with_reducible assumption) | assumption)
                have q178 : x8_1 < (t174.length : Int) := of_decide_eq_true (by first | (with_reducible assumption) | assumption)
                obtain ⟨ad178, e178, hx178_0, hx178_1⟩ := at_T45 (Kd.R_reads' HO_6.out).2.2 x8_1 p178 q178
                obtain rfl : ad177 = ad178 := (by injection e178)
                replace p178 := eq_true p178
                replace q178 := eq_true q178
                have p179 : 0 ≤ (x8_1 : Int) := of_decide_eq_true (by first | (with_reducible assumption) | assumption)
                have q179 : x8_1 < (t174.length : Int) := of_decide_eq_true (by first | (with_reducible assumption) | assumption)
                obtain ⟨ad179, e179, hx179_0, hx179_1⟩ := at_T45 (Kd.R_reads' HO_6.out).2.2 x8_1 p179 q179
                obtain rfl : ad177 = ad179 := (by injection e179)
                replace p179 := eq_true p179
                replace q179 := eq_true q179
                have p180 : 0 ≤ ((ji8) : Int) := of_decide_eq_true (by first | (with_reducible assumption) | assumption)
                have q180 : (ji8) < (t174.length : Int) := of_decide_eq_true (by first | (with_reducible assumption) | assumption)
                obtain ⟨ad180, e180, hx180_0, hx180_1⟩ := at_T45 (Kd.R_reads' HO_6.out).2.2 (ji8) p180 q180
                obtain rfl : ad177 = ad180 := (by injection e180)
                replace p180 := eq_true p180
                replace q180 := eq_true q180
                go_wp2
                repeat (go_quiet (fail); try go_wp2)
                go_roundg k1
                case measure => have := HK1.out; omega
                case rel => exact ⟨(wrap64 (x7_1 + (wrap64 ((wrap64 (((rd_T45 t174 (ji8)).f0) * ((rd_T45 t174 x8_1).f1))) - (wrap64 (((rd_T45 t174 x8_1).f0) * ((rd_T45 t174 (ji8)).f1))))))), (wrap64 (x8_1 + 1)), (by first | rfl | (simp; done) | (simp only [← hji8] <;> (first | rfl | simp)) | (simp [*]; done)), (by first | rfl | (simp; done) | (simp [*]; done)), H', ⟨by have := HK1.out; omega⟩, ⟨by (with_reducible repeat (first | apply Kd.R_alloc | apply Kd.R_drewN | apply Kd.R_drew)); exact HO_6.out⟩, ⟨by repeat (first | (with_reducible first | exact HB.out | apply below_alloc | apply pw_below_drewN | apply below_drew1) | exact HB.out)⟩⟩
              · rw [if_neg c11] at H
                exact absurd H (by simp)
            · rw [if_neg c10] at H
              exact absurd H (by simp)
          · rw [if_neg c9] at H
            exact absurd H (by simp)
        · rw [if_neg c7] at H
          have c7b0 : decide (x8_1 < (t174.length : Int)) = false := decide_eq_false c7
          clear c7
          simp only [Option.some.injEq, Prod.mk.injEq] at H
          obtain ⟨rfl, rfl⟩ := H
          obtain ⟨Ao13, co13, eo13⟩ := Kd.R_slice HO_6.out
          subst eo13
          go_wp2
          repeat (go_quiet (fail); try go_wp2)
          go_ret2
          exact ⟨by first | rfl | (simp [errW_none, errW_some] <;> rfl) | (simp [*, errW_none, errW_some] <;> rfl), by repeat (first | (with_reducible first | exact HB.out | apply below_alloc | apply pw_below_drewN | apply below_drew1) | exact HB.out)⟩
  · replace c3 := Bool.eq_false_iff.mpr c3
    subst c3
    have H1 : (some (0, false)) = some (r1, r2) := by rw [if_neg (show ¬ (false = true) by decide)] at H; exact H
    clear H
    have H := H1
    clear H1
    simp only [Option.some.injEq, Prod.mk.injEq] at H
    obtain ⟨rfl, rfl⟩ := H
    go_enter Try.func17, Try.ntmps17
    go_wp2_with (first | (go_at_call 15; (with_reducible refine (impl_ClosesAfter.calls k a0 t172 false _ A2.out).mono ?_); rintro e w14 ⟨rfl, hb⟩; have n0_ := Aside0.mk (below_step (by repeat (first | (with_reducible first | exact HB.out | apply below_alloc | apply pw_below_drewN | apply below_drew1) | exact HB.out)) hb); clear HB; have HB := n0_; clear n0_; (try clear hb); (try clear hb2); (try clear hk); (try clear hi)))
    repeat (go_quiet (first | (go_at_call 15; (with_reducible refine (impl_ClosesAfter.calls k a0 t172 false _ A2.out).mono ?_); rintro e w14 ⟨rfl, hb⟩; have n0_ := Aside0.mk (below_step (by repeat (first | (with_reducible first | exact HB.out | apply below_alloc | apply pw_below_drewN | apply below_drew1) | exact HB.out)) hb); clear HB; have HB := n0_; clear n0_; (try clear hb); (try clear hb2); (try clear hk); (try clear hi))); try go_wp2_with (first | (go_at_call 15; (with_reducible refine (impl_ClosesAfter.calls k a0 t172 false _ A2.out).mono ?_); rintro e w14 ⟨rfl, hb⟩; have n0_ := Aside0.mk (below_step (by repeat (first | (with_reducible first | exact HB.out | apply below_alloc | apply pw_below_drewN | apply below_drew1) | exact HB.out)) hb); clear HB; have HB := n0_; clear n0_; (try clear hb); (try clear hb2); (try clear hk); (try clear hi))))
    go_ret2
    exact ⟨by first | rfl | (simp [errW_none, errW_some] <;> rfl) | (simp [*, errW_none, errW_some] <;> rfl), by repeat (first | (with_reducible first | exact HB.out | apply below_alloc | apply pw_below_drewN | apply below_drew1) | exact HB.out)⟩

/-! ### laws_FnExactTwiceArea: function 5 -/
def laws_FnExactTwiceArea.f (k : Nat) (a0 : ByteArray) : Option (Bool) := if (a0.size : Int) > 1048576 then (some true) else ((spec_TwiceArea.f k a0).bind fun bt181 => ((impl_TwiceArea.f k a0).bind fun bt183 => (if bt183.1 = bt181.1 then (if (bt183.2 != bt181.2) = true then (some false) else (some true)) else (some false))))
theorem laws_FnExactTwiceArea.mono : ∀ a0 k, LeO (laws_FnExactTwiceArea.f k a0) (laws_FnExactTwiceArea.f (k + 1) a0) := by
  intro a0 k
  unfold laws_FnExactTwiceArea.f
  repeat' first
      | (with_reducible exact impl_TwiceArea.mono _ _)
      | (with_reducible exact spec_TwiceArea.mono _ _)
      | (with_reducible exact LeO.refl _)
      | (with_reducible exact LeO.none _)
      | (with_reducible refine LeO.ite ?_ ?_)
      | (with_reducible refine LeO.bind ?_ (fun _ => ?_))
      | exact impl_TwiceArea.mono _ _
      | exact spec_TwiceArea.mono _ _
      | exact LeO.none _
      | refine LeO.ite ?_ ?_
      | refine LeO.bind ?_ (fun _ => ?_)
set_option maxHeartbeats 8000000 in
set_option maxRecDepth 100000 in
theorem laws_FnExactTwiceArea.calls (k : Nat) (a0 : ByteArray) (r : Bool) (w : World) (h : laws_FnExactTwiceArea.f k a0 = some r) :
    Calls Try.prog 5 #[.string a0] w fun e w' => e = .returned (.bool r) ∧ Below w.heap.size w w' := by
  have HB := Aside0.mk (Below.refl w.heap.size w)
  have H : (if (a0.size : Int) > 1048576 then (some true) else ((spec_TwiceArea.f k a0).bind fun bt181 => ((impl_TwiceArea.f k a0).bind fun bt183 => (if bt183.1 = bt181.1 then (if (bt183.2 != bt181.2) = true then (some false) else (some true)) else (some false))))) = some r := h
  clear h
  by_cases c2 : (a0.size : Int) > 1048576
  · rw [if_pos c2] at H
    have c2b0 : decide (1048576 < (a0.size : Int)) = true := decide_eq_true c2
    have c2b1 : decide (1048576 < a0.size) = true := decide_eq_true (by omega)
    clear c2
    obtain rfl := Option.some.inj H
    go_enter Try.func5, Try.ntmps5
    go_wp2
    go_ret
    exact ⟨by first | rfl | (simp [errW_none, errW_some] <;> rfl) | (simp [*, errW_none, errW_some] <;> rfl), by repeat (first | (with_reducible first | exact HB.out | apply below_alloc | apply pw_below_drewN | apply below_drew1) | exact HB.out)⟩
  · rw [if_neg c2] at H
    have c2b0 : decide (1048576 < (a0.size : Int)) = false := decide_eq_false c2
    have c2b1 : decide (1048576 < a0.size) = false := decide_eq_false (by omega)
    clear c2
    replace H := Option.bind_eq_some_iff.mp H
    obtain ⟨⟨t181, t182⟩, A30, H⟩ := H
    replace H : ((impl_TwiceArea.f k a0).bind fun bt183 => (if bt183.1 = t181 then (if (bt183.2 != t182) = true then (some false) else (some true)) else (some false))) = some r := H
    have A3 := Aside0.mk A30
    clear A30
    replace H := Option.bind_eq_some_iff.mp H
    obtain ⟨⟨t183, t184⟩, A40, H⟩ := H
    replace H : (if t183 = t181 then (if (t184 != t182) = true then (some false) else (some true)) else (some false)) = some r := H
    have A4 := Aside0.mk A40
    clear A40
    by_cases c5 : t183 = t181
    · rw [if_pos c5] at H
      have c5b0 : (t183 == t181) = true := beq_iff_eq.mpr c5
      have c5b1 : (t183 != t181) = false := bne_eq_false_iff_eq.mpr c5
      clear c5
      by_cases c6 : (t184 != t182) = true
      · rw [if_pos c6] at H
        have c6b0 : (t184 != t182) = true := c6
        (try (have c6b1 : decide (t184 = t182) = false := by simpa using c6))
        (try (have c6b2 : (t184 == t182) = false := by simpa using c6))
        (try (have c6b3 : ¬ (t184 = t182) := by simpa using c6))
        clear c6
        obtain rfl := Option.some.inj H
        go_enter Try.func5, Try.ntmps5
        go_wp2_with (first | ((with_reducible refine gate_callee (f := 16) rfl ?_); refine goesL_ (some 12) rfl rfl Try.func16 (by kernel_rfl) rfl #[.string a0] rfl (by (try simp only [List.map_toArray, List.map_cons, List.map_nil]); first | done | rfl | (simp only [List.length_drop, List.length_take]; rfl)) ?_; (with_reducible refine (spec_TwiceArea.calls k a0 t181 t182 _ A3.out).mono ?_); rintro e w7 ⟨rfl, hb⟩; refine ⟨_, rfl, ?_⟩; have n0_ := Aside0.mk (below_step (by repeat (first | (with_reducible first | exact HB.out | apply below_alloc | apply pw_below_drewN | apply below_drew1) | exact HB.out)) hb); clear HB; have HB := n0_; clear n0_; (try clear hb); (try clear hb2); (try clear hk); (try clear hi)) | ((with_reducible refine gate_callee (f := 17) rfl ?_); refine goesL_ (some 17) rfl rfl Try.func17 (by kernel_rfl) rfl #[.string a0] rfl (by (try simp only [List.map_toArray, List.map_cons, List.map_nil]); first | done | rfl | (simp only [List.length_drop, List.length_take]; rfl)) ?_; (with_reducible refine (impl_TwiceArea.calls k a0 t183 t184 _ A4.out).mono ?_); rintro e w8 ⟨rfl, hb⟩; refine ⟨_, rfl, ?_⟩; have n0_ := Aside0.mk (below_step (by repeat (first | (with_reducible first | exact HB.out | apply below_alloc | apply pw_below_drewN | apply below_drew1) | exact HB.out)) hb); clear HB; have HB := n0_; clear n0_; (try clear hb); (try clear hb2); (try clear hk); (try clear hi)))
        go_ret
        exact ⟨by first | rfl | (simp [errW_none, errW_some] <;> rfl) | (simp [*, errW_none, errW_some] <;> rfl), by repeat (first | (with_reducible first | exact HB.out | apply below_alloc | apply pw_below_drewN | apply below_drew1) | exact HB.out)⟩
      · rw [if_neg c6] at H
        have c6b0 : (t184 != t182) = false := by simpa using c6
        (try (have c6b1 : decide (t184 = t182) = true := by simpa using c6))
        (try (have c6b2 : (t184 == t182) = true := by simpa using c6))
        clear c6
        obtain rfl := Option.some.inj H
        go_enter Try.func5, Try.ntmps5
        go_wp2_with (first | ((with_reducible refine gate_callee (f := 16) rfl ?_); refine goesL_ (some 12) rfl rfl Try.func16 (by kernel_rfl) rfl #[.string a0] rfl (by (try simp only [List.map_toArray, List.map_cons, List.map_nil]); first | done | rfl | (simp only [List.length_drop, List.length_take]; rfl)) ?_; (with_reducible refine (spec_TwiceArea.calls k a0 t181 t182 _ A3.out).mono ?_); rintro e w9 ⟨rfl, hb⟩; refine ⟨_, rfl, ?_⟩; have n0_ := Aside0.mk (below_step (by repeat (first | (with_reducible first | exact HB.out | apply below_alloc | apply pw_below_drewN | apply below_drew1) | exact HB.out)) hb); clear HB; have HB := n0_; clear n0_; (try clear hb); (try clear hb2); (try clear hk); (try clear hi)) | ((with_reducible refine gate_callee (f := 17) rfl ?_); refine goesL_ (some 17) rfl rfl Try.func17 (by kernel_rfl) rfl #[.string a0] rfl (by (try simp only [List.map_toArray, List.map_cons, List.map_nil]); first | done | rfl | (simp only [List.length_drop, List.length_take]; rfl)) ?_; (with_reducible refine (impl_TwiceArea.calls k a0 t183 t184 _ A4.out).mono ?_); rintro e w10 ⟨rfl, hb⟩; refine ⟨_, rfl, ?_⟩; have n0_ := Aside0.mk (below_step (by repeat (first | (with_reducible first | exact HB.out | apply below_alloc | apply pw_below_drewN | apply below_drew1) | exact HB.out)) hb); clear HB; have HB := n0_; clear n0_; (try clear hb); (try clear hb2); (try clear hk); (try clear hi)))
        go_ret
        exact ⟨by first | rfl | (simp [errW_none, errW_some] <;> rfl) | (simp [*, errW_none, errW_some] <;> rfl), by repeat (first | (with_reducible first | exact HB.out | apply below_alloc | apply pw_below_drewN | apply below_drew1) | exact HB.out)⟩
    · rw [if_neg c5] at H
      have c5b0 : (t183 == t181) = false := beq_eq_false_iff_ne.mpr c5
      have c5b1 : (t183 != t181) = true := bne_iff_ne.mpr c5
      obtain rfl := Option.some.inj H
      go_enter Try.func5, Try.ntmps5
      go_wp2_with (first | ((with_reducible refine gate_callee (f := 16) rfl ?_); refine goesL_ (some 12) rfl rfl Try.func16 (by kernel_rfl) rfl #[.string a0] rfl (by (try simp only [List.map_toArray, List.map_cons, List.map_nil]); first | done | rfl | (simp only [List.length_drop, List.length_take]; rfl)) ?_; (with_reducible refine (spec_TwiceArea.calls k a0 t181 t182 _ A3.out).mono ?_); rintro e w11 ⟨rfl, hb⟩; refine ⟨_, rfl, ?_⟩; have n0_ := Aside0.mk (below_step (by repeat (first | (with_reducible first | exact HB.out | apply below_alloc | apply pw_below_drewN | apply below_drew1) | exact HB.out)) hb); clear HB; have HB := n0_; clear n0_; (try clear hb); (try clear hb2); (try clear hk); (try clear hi)) | ((with_reducible refine gate_callee (f := 17) rfl ?_); refine goesL_ (some 17) rfl rfl Try.func17 (by kernel_rfl) rfl #[.string a0] rfl (by (try simp only [List.map_toArray, List.map_cons, List.map_nil]); first | done | rfl | (simp only [List.length_drop, List.length_take]; rfl)) ?_; (with_reducible refine (impl_TwiceArea.calls k a0 t183 t184 _ A4.out).mono ?_); rintro e w12 ⟨rfl, hb⟩; refine ⟨_, rfl, ?_⟩; have n0_ := Aside0.mk (below_step (by repeat (first | (with_reducible first | exact HB.out | apply below_alloc | apply pw_below_drewN | apply below_drew1) | exact HB.out)) hb); clear HB; have HB := n0_; clear n0_; (try clear hb); (try clear hb2); (try clear hk); (try clear hi)))
      go_ret
      exact ⟨by first | rfl | (simp [errW_none, errW_some] <;> rfl) | (simp [*, errW_none, errW_some] <;> rfl), by repeat (first | (with_reducible first | exact HB.out | apply below_alloc | apply pw_below_drewN | apply below_drew1) | exact HB.out)⟩

/-- THE ONE PURE STATEMENT of laws_FnExactTwiceArea: yours. -/
def laws_FnExactTwiceArea.Pure : Prop := ∀ (a0 : ByteArray), a0.size ≤ 140737488351232 → ∃ k, laws_FnExactTwiceArea.f k a0 = some true
theorem laws_FnExactTwiceArea.walk (P : laws_FnExactTwiceArea.Pure) (a0 : ByteArray) (w : World) (w0 : a0.size ≤ 140737488351232) :
    Calls Try.prog 5 #[.string a0] w fun e w' => e = .returned (.bool true) ∧ Below w.heap.size w w' := by
  obtain ⟨k, h⟩ := P a0 w0
  refine (laws_FnExactTwiceArea.calls k a0 true w h).mono ?_
  rintro e w' ⟨rfl, hd⟩
  exact ⟨rfl, hd⟩

end Go.Proofs.Ythngapcocbclgaa.PH
