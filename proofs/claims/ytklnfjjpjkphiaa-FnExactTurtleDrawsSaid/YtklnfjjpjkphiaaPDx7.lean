-- Printed for this claim by gprint.py, a program of this session round the kit's printer. Lean checks it.
import Derived.Test.YtklnfjjpjkphiaaPDx0
import Derived.Test.YtklnfjjpjkphiaaPDx1
import Derived.Test.YtklnfjjpjkphiaaPDx6
namespace Go.Proofs.Ytklnfjjpjkphiaa.PD
open Go.RowKit Go.Proofs.YtklnfjjpjkphiaaW.PrintWords Go.Proofs.YtklnfjjpjkphiaaW.PrintLast Go.Proofs.YtklnfjjpjkphiaaW.PrintMore
attribute [local go_sem] max2_int min2_int max_two min_two max_three min_three max_four min_four   -- for this text's walks alone
set_option linter.unusedVariables false
set_option linter.unusedSimpArgs false

/-! ### impl_ahead: function 35 -/
def impl_ahead.f (a0 : Int) : Option (Int × Int) := (some (([0, 1, 0, (-1)] : List Int) : List Int)).bind fun y213 => (if 0 ≤ a0 then (if a0 < (y213.length : Int) then ((some (([(-1), 0, 1, 0] : List Int) : List Int)).bind fun y217 => (if a0 < (y217.length : Int) then (some (rd y213 a0, rd y217 a0)) else (none))) else (none)) else (none))
def impl_ahead.T1 : Bool × List (List Nat × List Nat) := (true, [([], []), ([], []), ([0, 1], [0, 1]), ([2], [2]), ([], []), ([], []), ([4, 5], [4, 5]), ([6], [6]), ([3, 0, 1, 2, 3], [3]), ([7, 8, 0, 1, 2, 3, 4, 5, 6, 7, 8], [7])])
def impl_ahead.B1 : List Nat := [0, 0, 3, 7, 0, 0, 48, 112, 15, 511]
theorem impl_ahead.tab1 : rtab .any (opsOf Try.f35 1) = impl_ahead.T1 := by kernel_rfl
theorem impl_ahead.bits1 : waitsOk impl_ahead.T1.2 impl_ahead.B1 = true := by kernel_rfl
set_option maxHeartbeats 8000000 in
set_option maxRecDepth 100000 in
theorem impl_ahead.calls (a0 : Int) (r1 : Int) (r2 : Int) (w : World) (h : impl_ahead.f a0 = some (r1, r2)) :
    Calls Try.prog 35 #[.int .i64 a0] w fun e w' => e = .returned (.tuple #[.int .i64 r1, .int .i64 r2]) ∧ Below w.heap.size w w' := by
  have HB := Aside0.mk (Below.refl w.heap.size w)
  have H : ((some (([0, 1, 0, (-1)] : List Int) : List Int)).bind fun y213 => (if 0 ≤ a0 then (if a0 < (y213.length : Int) then ((some (([(-1), 0, 1, 0] : List Int) : List Int)).bind fun y217 => (if a0 < (y217.length : Int) then (some (rd y213 a0, rd y217 a0)) else (none))) else (none)) else (none))) = some (r1, r2) := h
  clear h
  obtain ⟨y213, hy213⟩ : ∃ y_ : List Int, y_ = (([0, 1, 0, (-1)] : List Int)) := ⟨_, rfl⟩
  replace H : (if 0 ≤ a0 then (if a0 < (y213.length : Int) then ((some (([(-1), 0, 1, 0] : List Int) : List Int)).bind fun y217 => (if a0 < (y217.length : Int) then (some (rd y213 a0, rd y217 a0)) else (none))) else (none)) else (none)) = some (r1, r2) := by first | (rw [hy213]; with_reducible exact H) | (have H2_ := (Option.bind_some _ _).symm.trans H; rw [hy213]; with_reducible exact H2_) | (have H2_ := (Option.bind_some _ _).symm.trans H; with_reducible exact H2_) | with_reducible exact H | (rw [hy213]; exact H) | exact H
  have Ny213 := Aside0.mk hy213
  clear hy213
  by_cases c2 : 0 ≤ a0
  · rw [if_pos c2] at H
    have c2b0 : decide (0 ≤ a0) = true := decide_eq_true c2
    clear c2
    by_cases c3 : a0 < (y213.length : Int)
    · rw [if_pos c3] at H
      have c3b0 : decide (a0 < (y213.length : Int)) = true := decide_eq_true c3
      clear c3
      obtain ⟨y217, hy217⟩ : ∃ y_ : List Int, y_ = (([(-1), 0, 1, 0] : List Int)) := ⟨_, rfl⟩
      replace H : (if a0 < (y217.length : Int) then (some (rd y213 a0, rd y217 a0)) else (none)) = some (r1, r2) := by first | (rw [hy217]; with_reducible exact H) | (have H2_ := (Option.bind_some _ _).symm.trans H; rw [hy217]; with_reducible exact H2_) | (have H2_ := (Option.bind_some _ _).symm.trans H; with_reducible exact H2_) | with_reducible exact H | (rw [hy217]; exact H) | exact H
      have Ny217 := Aside0.mk hy217
      clear hy217
      by_cases c4 : a0 < (y217.length : Int)
      · rw [if_pos c4] at H
        have c4b0 : decide (a0 < (y217.length : Int)) = true := decide_eq_true c4
        clear c4
        simp only [Option.some.injEq, Prod.mk.injEq] at H
        obtain ⟨rfl, rfl⟩ := H
        go_enter Try.func35, Try.ntmps35
        try go_wp2
        have pi216 : (0 ≤ (a0 : Int)) = True := eq_true (of_decide_eq_true (by first | (with_reducible assumption) | assumption))
        have qi216 : (a0 < (y213.length : Int)) = True := eq_true (of_decide_eq_true (by first | (with_reducible assumption) | assumption))
        have pi220 : (0 ≤ (a0 : Int)) = True := eq_true (of_decide_eq_true (by first | (with_reducible assumption) | assumption))
        have qi220 : (a0 < (y217.length : Int)) = True := eq_true (of_decide_eq_true (by first | (with_reducible assumption) | assumption))
        have n0_ := Aside0.mk (below_drew1 HB.out)
        clear HB
        have HB := n0_
        clear n0_
        refine start_ (n := 10) (S := fun w' => True) (ds := []) #[false, false, false, false, false, false, false, false, false, false] (by kernel_rfl) rfl rfl trivial (fun hHeld => ?_); refine with_tabW impl_ahead.tab1 impl_ahead.bits1 (fun HT_ HW_ => ?_)
        generalize w.drew = w5 at HB hHeld ⊢
        refine pure_ (i := 1) (N := some 5) (v := ?_) (a' := ?_) #[false, true, false, false, false, false, false, false, false, false] rfl rfl (any_of HT_.out (by kernel_rfl)) (fun _ _ _ h => h) (Or.inl ⟨by rfl, ?_⟩) ?_ ?_
        rotate_left
        · intro w'
          go_simp
          with_reducible rfl
        rotate_left
        · simp only [Act.put, List.setIfInBounds_toArray, List.set_cons_zero, List.set_cons_succ, i64_w, i32_w]
          rfl
        refine pure_ (i := 5) (N := some 9) (v := ?_) (a' := ?_) #[false, true, false, false, false, true, false, false, false, false] rfl rfl (any_of HT_.out (by kernel_rfl)) (fun _ _ _ h => h) (Or.inl ⟨by rfl, ?_⟩) ?_ ?_
        rotate_left
        · intro w'
          go_simp
          with_reducible rfl
        rotate_left
        · simp only [Act.put, List.setIfInBounds_toArray, List.set_cons_zero, List.set_cons_succ, i64_w, i32_w]
          rfl
        refine inv_at [0, 2, 3, 4, 6, 7, 8, 9] (fun a0_ b a w' => ∃ (v214 : Value) (adz_v214 : Addr) (v218 : Value) (adz_v218 : Addr) (m2_ : Value) (m6_ : Value), a = putSel a0_ b [(0, 4, v214), (2, 6, m2_), (3, 7, .int .i64 (rd y213 a0)), (4, 8, v218), (6, 10, m6_), (7, 11, .int .i64 (rd y217 a0)), (8, 2, .int .i64 (rd y213 a0)), (9, 3, .int .i64 (rd y217 a0))] ∧ (Below w.heap.size w w') ∧ (b 0 = true → Kd.R (Kd.int .i64) 3 w' w.heap.size (fun _ => True) v214 y213) ∧ (b 0 = true → ∃ c_, (v214 : Value) = .slice (some adz_v214) y213.length c_) ∧ (b 4 = true → Kd.R (Kd.int .i64) 3 w' w.heap.size (fun _ => True) v218 y217) ∧ (b 4 = true → ∃ c_, (v218 : Value) = .slice (some adz_v218) y217.length c_) ∧ (b 2 = true → (m2_ : Value) = .pointer (some (adz_v214.add (a0).toNat))) ∧ (b 6 = true → (m6_ : Value) = .pointer (some (adz_v218.add (a0).toNat)))) HT_.out HW_.out (by kernel_rfl) (by kernel_rfl) ?_ ?_ ?_
        · exact ⟨.bool false, ⟨0, 0, none⟩, .bool false, ⟨0, 0, none⟩, .bool false, .bool false, by simp only [putSel, Bool.false_eq_true, if_false], HB.out, fun h_ => absurd h_ (by decide), fun h_ => absurd h_ (by decide), fun h_ => absurd h_ (by decide), fun h_ => absurd h_ (by decide), fun h_ => absurd h_ (by decide), fun h_ => absurd h_ (by decide)⟩
        · skip
          clear HB
          refine steps_cons ?_ ?_
          · rintro b a w' ⟨v214, adz_v214, v218, adz_v218, m2_, m6_, ha, Q_HB, Q_HO215, Q_HA_HO215, Q_HO219, Q_HA_HO219, Q_X2_, Q_X6_⟩ hb_ hon hoff
            refine ⟨_, rfl, fun K hK => ?_⟩
            replace ha := Aside0.mk ha
            have HB := Aside0.mk Q_HB
            refine Kd.R_lit_step (Kd.int .i64) _ 3 ?hg (N := 4) ?hd (xs := ([0, 1, 0, (-1)] : List Int)) (inner := [.int .i64 0, .int .i64 1, .int .i64 0, .int .i64 (-1)]) (ok := fun _ => True) (okp := fun _ => True) ?hr ?hp (fun _ hk => hk) trivial (Below.refl _ _) (Nat.le_refl _) (by simp) ?_; (case hd => rfl); (case hg => rfl); (case hr => first | (go_simp; done) | (go_simp; rfl)); (case hp => exact (Reps.one (show Kd.M (Kd.int .i64) _ _ _ 0 [.int .i64 0] from rfl) (Reps.one (show Kd.M (Kd.int .i64) _ _ _ 1 [.int .i64 1] from rfl) (Reps.one (show Kd.M (Kd.int .i64) _ _ _ 0 [.int .i64 0] from rfl) (Reps.one (show Kd.M (Kd.int .i64) _ _ _ (-1) [.int .i64 (-1)] from rfl) (Reps.none _ _))))))
            intro v214 w6 ho7 hb hg_ hnew_
            clear hg_ hnew_
            (first | rw [← Ny213.out] at ho7 | (simp only [Int.reduceToNat] at ho7; rw [← Ny213.out] at ho7))
            have n0_ := Aside0.mk (Kd.R_lower ho7 (below_size (by repeat (first | (with_reducible first | exact HB.out | apply below_alloc | apply pw_below_drewN | apply below_drew1) | exact HB.out))))
            have n1_ := Aside0.mk (below_step (by repeat (first | (with_reducible first | exact HB.out | apply below_alloc | apply pw_below_drewN | apply below_drew1) | exact HB.out)) hb)
            have z_HO219 := fun (h0_ : b 4 = true) => (show Kd.R (Kd.int .i64) 3 w6 w.heap.size (fun _ => True) v218 y217 from by first | exact (Kd.R_elder' (by (with_reducible repeat (first | apply Kd.R_alloc | apply Kd.R_drewN | apply Kd.R_drew)); exact (Q_HO219 h0_)) (Kd.R_base ho7) hb) | exact Kd.R_mono (Kd.R_elder' (by (with_reducible repeat (first | apply Kd.R_alloc | apply Kd.R_drewN | apply Kd.R_drew)); exact (Q_HO219 h0_)) (Kd.R_base ho7) hb) (fun _ h_ => by first | trivial | exact h_ | exact h_.1))
            clear HB
            have HO215 := n0_
            have HB := n1_
            clear n0_ n1_
            clear hb ho7
            obtain ⟨Ao8, co8, eo8⟩ := Kd.R_slice HO215.out
            subst eo8
            obtain ⟨ado8, fo8, _⟩ := Kd.at_int (Kd.R_reads' HO215.out).2.2 0 (by decide) (by rw [Ny213.out]; simp)
            cases fo8
            refine hK.out _ _ ⟨.slice (some ado8) y213.length co8, ado8, v218, adz_v218, m2_, m6_, (by rw [ha.out]; exact putSel_upk 0 hb_ rfl rfl rfl), (by repeat (first | (with_reducible first | exact HB.out | apply below_alloc | apply pw_below_drewN | apply below_drew1) | exact HB.out)), fun _ => (by (with_reducible repeat (first | apply Kd.R_alloc | apply Kd.R_drewN | apply Kd.R_drew)); exact HO215.out), fun _ => ⟨_, rfl⟩, z_HO219, Q_HA_HO219, fun h0_ => absurd ((hoff 2 (by kernel_rfl)).symm.trans h0_) (by decide), Q_X6_⟩
          refine steps_cons ?_ ?_
          · rintro b a w' ⟨v214, adz_v214, v218, adz_v218, m2_, m6_, ha, Q_HB, Q_HO215, Q_HA_HO215, Q_HO219, Q_HA_HO219, Q_X2_, Q_X6_⟩ hb_ hon hoff
            refine ⟨_, rfl, fun K hK => ?_⟩
            have e4 : a.tmps[4]? = some (v214) := by rw [ha]; exact putSel_on (e := (0, 4, v214)) 0 rfl rfl (hon 0 (by kernel_rfl)) rfl
            have e5 : a.tmps[5]? = some (.int .i64 a0) := by rw [ha]; exact (putSel_off rfl).trans rfl
            replace ha := Aside0.mk ha
            have HB := Aside0.mk Q_HB
            have HO215 := Aside0.mk (Q_HO215 (hon 0 (by kernel_rfl)))
            have HA_HO215 := Aside0.mk (Q_HA_HO215 (hon 0 (by kernel_rfl)))
            obtain ⟨c_, hv_⟩ := HA_HO215.out
            rw [hv_] at e4
            refine value_ (w1 := w') (v := .pointer (some (adz_v214.add (a0).toNat))) (by rfl) rfl ?_ ?_
            · go_simp
              (try simp only [i64_w])
              try rfl
            refine hK.out _ _ ⟨v214, adz_v214, v218, adz_v218, (.pointer (some (adz_v214.add (a0).toNat))), m6_, (by rw [ha.out]; exact putSel_upk 1 hb_ rfl rfl rfl), Q_HB, Q_HO215, Q_HA_HO215, Q_HO219, Q_HA_HO219, fun _ => rfl, Q_X6_⟩
          refine steps_cons ?_ ?_
          · rintro b a w' ⟨v214, adz_v214, v218, adz_v218, m2_, m6_, ha, Q_HB, Q_HO215, Q_HA_HO215, Q_HO219, Q_HA_HO219, Q_X2_, Q_X6_⟩ hb_ hon hoff
            refine ⟨_, rfl, fun K hK => ?_⟩
            have e6 : a.tmps[6]? = some (m2_) := by rw [ha]; exact putSel_on (e := (2, 6, m2_)) 1 rfl rfl (hon 2 (by kernel_rfl)) rfl
            rw [Q_X2_ (hon 2 (by kernel_rfl))] at e6
            replace ha := Aside0.mk ha
            have HB := Aside0.mk Q_HB
            have HO215 := Aside0.mk (Q_HO215 (hon 0 (by kernel_rfl)))
            have HA_HO215 := Aside0.mk (Q_HA_HO215 (hon 0 (by kernel_rfl)))
            obtain ⟨c_, hv_⟩ := HA_HO215.out
            have hF_ := HO215.out
            rw [hv_] at hF_
            obtain ⟨ad_, ea_, hx_⟩ := Kd.at_int (Kd.R_reads' hF_).2.2 a0 (of_eq_true pi216) (of_eq_true qi216)
            cases ea_
            refine value_ (w1 := w') (v := .int .i64 (rd y213 a0)) (by rfl) rfl ?_ ?_
            · go_simp
              (try simp only [i64_w])
              try rfl
            refine hK.out _ _ ⟨v214, adz_v214, v218, adz_v218, m2_, m6_, (by rw [ha.out]; exact putSel_upk 2 hb_ rfl rfl rfl), Q_HB, Q_HO215, Q_HA_HO215, Q_HO219, Q_HA_HO219, Q_X2_, Q_X6_⟩
          refine steps_cons ?_ ?_
          · rintro b a w' ⟨v214, adz_v214, v218, adz_v218, m2_, m6_, ha, Q_HB, Q_HO215, Q_HA_HO215, Q_HO219, Q_HA_HO219, Q_X2_, Q_X6_⟩ hb_ hon hoff
            refine ⟨_, rfl, fun K hK => ?_⟩
            replace ha := Aside0.mk ha
            have HB := Aside0.mk Q_HB
            refine Kd.R_lit_step (Kd.int .i64) _ 3 ?hg (N := 8) ?hd (xs := ([(-1), 0, 1, 0] : List Int)) (inner := [.int .i64 (-1), .int .i64 0, .int .i64 1, .int .i64 0]) (ok := fun _ => True) (okp := fun _ => True) ?hr ?hp (fun _ hk => hk) trivial (Below.refl _ _) (Nat.le_refl _) (by simp) ?_; (case hd => rfl); (case hg => rfl); (case hr => first | (go_simp; done) | (go_simp; rfl)); (case hp => exact (Reps.one (show Kd.M (Kd.int .i64) _ _ _ (-1) [.int .i64 (-1)] from rfl) (Reps.one (show Kd.M (Kd.int .i64) _ _ _ 0 [.int .i64 0] from rfl) (Reps.one (show Kd.M (Kd.int .i64) _ _ _ 1 [.int .i64 1] from rfl) (Reps.one (show Kd.M (Kd.int .i64) _ _ _ 0 [.int .i64 0] from rfl) (Reps.none _ _))))))
            intro v218 w6 ho7 hb hg_ hnew_
            clear hg_ hnew_
            (first | rw [← Ny217.out] at ho7 | (simp only [Int.reduceToNat] at ho7; rw [← Ny217.out] at ho7))
            have n0_ := Aside0.mk (Kd.R_lower ho7 (below_size (by repeat (first | (with_reducible first | exact HB.out | apply below_alloc | apply pw_below_drewN | apply below_drew1) | exact HB.out))))
            have n1_ := Aside0.mk (below_step (by repeat (first | (with_reducible first | exact HB.out | apply below_alloc | apply pw_below_drewN | apply below_drew1) | exact HB.out)) hb)
            have z_HO215 := fun (h0_ : b 0 = true) => (show Kd.R (Kd.int .i64) 3 w6 w.heap.size (fun _ => True) v214 y213 from by first | exact (Kd.R_elder' (by (with_reducible repeat (first | apply Kd.R_alloc | apply Kd.R_drewN | apply Kd.R_drew)); exact (Q_HO215 h0_)) (Kd.R_base ho7) hb) | exact Kd.R_mono (Kd.R_elder' (by (with_reducible repeat (first | apply Kd.R_alloc | apply Kd.R_drewN | apply Kd.R_drew)); exact (Q_HO215 h0_)) (Kd.R_base ho7) hb) (fun _ h_ => by first | trivial | exact h_ | exact h_.1))
            clear HB
            have HO219 := n0_
            have HB := n1_
            clear n0_ n1_
            clear hb ho7
            obtain ⟨Ao8, co8, eo8⟩ := Kd.R_slice HO219.out
            subst eo8
            obtain ⟨ado8, fo8, _⟩ := Kd.at_int (Kd.R_reads' HO219.out).2.2 0 (by decide) (by rw [Ny217.out]; simp)
            cases fo8
            refine hK.out _ _ ⟨v214, adz_v214, .slice (some ado8) y217.length co8, ado8, m2_, m6_, (by rw [ha.out]; exact putSel_upk 3 hb_ rfl rfl rfl), (by repeat (first | (with_reducible first | exact HB.out | apply below_alloc | apply pw_below_drewN | apply below_drew1) | exact HB.out)), z_HO215, Q_HA_HO215, fun _ => (by (with_reducible repeat (first | apply Kd.R_alloc | apply Kd.R_drewN | apply Kd.R_drew)); exact HO219.out), fun _ => ⟨_, rfl⟩, Q_X2_, fun h0_ => absurd ((hoff 6 (by kernel_rfl)).symm.trans h0_) (by decide)⟩
          refine steps_cons ?_ ?_
          · rintro b a w' ⟨v214, adz_v214, v218, adz_v218, m2_, m6_, ha, Q_HB, Q_HO215, Q_HA_HO215, Q_HO219, Q_HA_HO219, Q_X2_, Q_X6_⟩ hb_ hon hoff
            refine ⟨_, rfl, fun K hK => ?_⟩
            have e8 : a.tmps[8]? = some (v218) := by rw [ha]; exact putSel_on (e := (4, 8, v218)) 3 rfl rfl (hon 4 (by kernel_rfl)) rfl
            have e9 : a.tmps[9]? = some (.int .i64 a0) := by rw [ha]; exact (putSel_off rfl).trans rfl
            replace ha := Aside0.mk ha
            have HB := Aside0.mk Q_HB
            have HO219 := Aside0.mk (Q_HO219 (hon 4 (by kernel_rfl)))
            have HA_HO219 := Aside0.mk (Q_HA_HO219 (hon 4 (by kernel_rfl)))
            obtain ⟨c_, hv_⟩ := HA_HO219.out
            rw [hv_] at e8
            refine value_ (w1 := w') (v := .pointer (some (adz_v218.add (a0).toNat))) (by rfl) rfl ?_ ?_
            · go_simp
              (try simp only [i64_w])
              try rfl
            refine hK.out _ _ ⟨v214, adz_v214, v218, adz_v218, m2_, (.pointer (some (adz_v218.add (a0).toNat))), (by rw [ha.out]; exact putSel_upk 4 hb_ rfl rfl rfl), Q_HB, Q_HO215, Q_HA_HO215, Q_HO219, Q_HA_HO219, Q_X2_, fun _ => rfl⟩
          refine steps_cons ?_ ?_
          · rintro b a w' ⟨v214, adz_v214, v218, adz_v218, m2_, m6_, ha, Q_HB, Q_HO215, Q_HA_HO215, Q_HO219, Q_HA_HO219, Q_X2_, Q_X6_⟩ hb_ hon hoff
            refine ⟨_, rfl, fun K hK => ?_⟩
            have e10 : a.tmps[10]? = some (m6_) := by rw [ha]; exact putSel_on (e := (6, 10, m6_)) 4 rfl rfl (hon 6 (by kernel_rfl)) rfl
            rw [Q_X6_ (hon 6 (by kernel_rfl))] at e10
            replace ha := Aside0.mk ha
            have HB := Aside0.mk Q_HB
            have HO219 := Aside0.mk (Q_HO219 (hon 4 (by kernel_rfl)))
            have HA_HO219 := Aside0.mk (Q_HA_HO219 (hon 4 (by kernel_rfl)))
            obtain ⟨c_, hv_⟩ := HA_HO219.out
            have hF_ := HO219.out
            rw [hv_] at hF_
            obtain ⟨ad_, ea_, hx_⟩ := Kd.at_int (Kd.R_reads' hF_).2.2 a0 (of_eq_true pi220) (of_eq_true qi220)
            cases ea_
            refine value_ (w1 := w') (v := .int .i64 (rd y217 a0)) (by rfl) rfl ?_ ?_
            · go_simp
              (try simp only [i64_w])
              try rfl
            refine hK.out _ _ ⟨v214, adz_v214, v218, adz_v218, m2_, m6_, (by rw [ha.out]; exact putSel_upk 5 hb_ rfl rfl rfl), Q_HB, Q_HO215, Q_HA_HO215, Q_HO219, Q_HA_HO219, Q_X2_, Q_X6_⟩
          refine steps_cons ?_ ?_
          · rintro b a w' ⟨v214, adz_v214, v218, adz_v218, m2_, m6_, ha, Q_HB, Q_HO215, Q_HA_HO215, Q_HO219, Q_HA_HO219, Q_X2_, Q_X6_⟩ hb_ hon hoff
            refine ⟨_, rfl, fun K hK => ?_⟩
            have e7 : a.tmps[7]? = some (.int .i64 (rd y213 a0)) := by rw [ha]; exact putSel_on (e := (3, 7, .int .i64 (rd y213 a0))) 2 rfl rfl (hon 3 (by kernel_rfl)) rfl
            replace ha := Aside0.mk ha
            have HB := Aside0.mk Q_HB
            have HO215 := Aside0.mk (Q_HO215 (hon 0 (by kernel_rfl)))
            have HA_HO215 := Aside0.mk (Q_HA_HO215 (hon 0 (by kernel_rfl)))
            refine value_ (w1 := w') (v := .int .i64 (rd y213 a0)) (by rfl) rfl ?_ ?_
            · go_simp
              (try simp only [i64_w])
              try rfl
            refine hK.out _ _ ⟨v214, adz_v214, v218, adz_v218, m2_, m6_, (by rw [ha.out]; exact putSel_upk 6 hb_ rfl rfl rfl), Q_HB, Q_HO215, Q_HA_HO215, Q_HO219, Q_HA_HO219, Q_X2_, Q_X6_⟩
          refine steps_cons ?_ ?_
          · rintro b a w' ⟨v214, adz_v214, v218, adz_v218, m2_, m6_, ha, Q_HB, Q_HO215, Q_HA_HO215, Q_HO219, Q_HA_HO219, Q_X2_, Q_X6_⟩ hb_ hon hoff
            refine ⟨_, rfl, fun K hK => ?_⟩
            have e11 : a.tmps[11]? = some (.int .i64 (rd y217 a0)) := by rw [ha]; exact putSel_on (e := (7, 11, .int .i64 (rd y217 a0))) 5 rfl rfl (hon 7 (by kernel_rfl)) rfl
            replace ha := Aside0.mk ha
            have HB := Aside0.mk Q_HB
            have HO215 := Aside0.mk (Q_HO215 (hon 0 (by kernel_rfl)))
            have HA_HO215 := Aside0.mk (Q_HA_HO215 (hon 0 (by kernel_rfl)))
            have HO219 := Aside0.mk (Q_HO219 (hon 4 (by kernel_rfl)))
            have HA_HO219 := Aside0.mk (Q_HA_HO219 (hon 4 (by kernel_rfl)))
            refine value_ (w1 := w') (v := .int .i64 (rd y217 a0)) (by rfl) rfl ?_ ?_
            · go_simp
              (try simp only [i64_w])
              try rfl
            refine hK.out _ _ ⟨v214, adz_v214, v218, adz_v218, m2_, m6_, (by rw [ha.out]; exact putSel_upk 7 hb_ rfl rfl rfl), Q_HB, Q_HO215, Q_HA_HO215, Q_HO219, Q_HA_HO219, Q_X2_, Q_X6_⟩
          exact steps_nil
        rintro b a w12 hall ⟨v214, adz_v214, v218, adz_v218, m2_, m6_, ha, Q_HB, Q_HO215, Q_HA_HO215, Q_HO219, Q_HA_HO219, Q_X2_, Q_X6_⟩
        clear HB
        have hb0_ := hall 0 (by kernel_rfl)
        have hb2_ := hall 2 (by kernel_rfl)
        have hb3_ := hall 3 (by kernel_rfl)
        have hb4_ := hall 4 (by kernel_rfl)
        have hb6_ := hall 6 (by kernel_rfl)
        have hb7_ := hall 7 (by kernel_rfl)
        have hb8_ := hall 8 (by kernel_rfl)
        have hb9_ := hall 9 (by kernel_rfl)
        subst ha
        obtain rfl := Q_X2_ hb2_
        obtain rfl := Q_X6_ hb6_
        simp only [putSel, hb0_, hb2_, hb3_, hb4_, hb6_, hb7_, hb8_, hb9_, if_true, Act.put, List.setIfInBounds_toArray, List.set_cons_zero, List.set_cons_succ]
        have HB := Aside0.mk Q_HB
        clear Q_HB
        have HO215 := Aside0.mk (Q_HO215 hb0_)
        clear Q_HO215
        have HA_HO215 := Aside0.mk (Q_HA_HO215 hb0_)
        clear Q_HA_HO215
        have HO219 := Aside0.mk (Q_HO219 hb4_)
        clear Q_HO219
        have HA_HO219 := Aside0.mk (Q_HA_HO219 hb4_)
        clear Q_HA_HO219
        clear hall hb0_ hb2_ hb3_ hb4_ hb6_ hb7_ hb8_ hb9_
        obtain ⟨co13, eo13⟩ := HA_HO215.out
        clear HA_HO215
        subst eo13
        obtain ⟨co14, eo14⟩ := HA_HO219.out
        clear HA_HO219
        subst eo14
        try go_wp2
        go_ret2
        exact ⟨by first | rfl | (simp [errW_none, errW_some] <;> rfl) | (simp [*, errW_none, errW_some] <;> rfl), by repeat (first | (with_reducible first | exact HB.out | apply below_alloc | apply pw_below_drewN | apply below_drew1) | exact HB.out)⟩
      · rw [if_neg c4] at H
        exact absurd H (by simp)
    · rw [if_neg c3] at H
      exact absurd H (by simp)
  · rw [if_neg c2] at H
    exact absurd H (by simp)

/-! ### impl_quarters: function 36 -/
def impl_quarters.f (a0 : Int) : Option (Int) := if a0 = 76 then (some 3) else (if a0 = 82 then (some 1) else (if a0 = 85 then (some 2) else (some 0)))
set_option maxHeartbeats 8000000 in
set_option maxRecDepth 100000 in
theorem impl_quarters.calls (a0 : Int) (r : Int) (w : World) (h : impl_quarters.f a0 = some r) :
    Calls Try.prog 36 #[.int .u8 a0] w fun e w' => e = .returned (.int .i64 r) ∧ Drawn0 w w' := by
  have H : (if a0 = 76 then (some 3) else (if a0 = 82 then (some 1) else (if a0 = 85 then (some 2) else (some 0)))) = some r := h
  clear h
  by_cases c2 : a0 = 76
  · rw [if_pos c2] at H
    have c2b0 : (a0 == 76) = true := beq_iff_eq.mpr c2
    have c2b1 : (a0 != 76) = false := bne_eq_false_iff_eq.mpr c2
    clear c2
    obtain rfl := Option.some.inj H
    go_enter Try.func36, Try.ntmps36
    go_wp2
    go_ret
    exact ⟨by first | rfl | (simp; done) | (simp [*]; done), by repeat (first | exact Drawn0.refl _ | apply Drawn0.step)⟩
  · rw [if_neg c2] at H
    have c2b0 : (a0 == 76) = false := beq_eq_false_iff_ne.mpr c2
    have c2b1 : (a0 != 76) = true := bne_iff_ne.mpr c2
    by_cases c3 : a0 = 82
    · rw [if_pos c3] at H
      have c3b0 : (a0 == 82) = true := beq_iff_eq.mpr c3
      have c3b1 : (a0 != 82) = false := bne_eq_false_iff_eq.mpr c3
      clear c3
      obtain rfl := Option.some.inj H
      go_enter Try.func36, Try.ntmps36
      go_wp2
      go_ret
      exact ⟨by first | rfl | (simp; done) | (simp [*]; done), by repeat (first | exact Drawn0.refl _ | apply Drawn0.step)⟩
    · rw [if_neg c3] at H
      have c3b0 : (a0 == 82) = false := beq_eq_false_iff_ne.mpr c3
      have c3b1 : (a0 != 82) = true := bne_iff_ne.mpr c3
      by_cases c4 : a0 = 85
      · rw [if_pos c4] at H
        have c4b0 : (a0 == 85) = true := beq_iff_eq.mpr c4
        have c4b1 : (a0 != 85) = false := bne_eq_false_iff_eq.mpr c4
        clear c4
        obtain rfl := Option.some.inj H
        go_enter Try.func36, Try.ntmps36
        go_wp2
        go_ret
        exact ⟨by first | rfl | (simp; done) | (simp [*]; done), by repeat (first | exact Drawn0.refl _ | apply Drawn0.step)⟩
      · rw [if_neg c4] at H
        have c4b0 : (a0 == 85) = false := beq_eq_false_iff_ne.mpr c4
        have c4b1 : (a0 != 85) = true := bne_iff_ne.mpr c4
        obtain rfl := Option.some.inj H
        go_enter Try.func36, Try.ntmps36
        go_wp2
        go_ret
        exact ⟨by first | rfl | (simp; done) | (simp [*]; done), by repeat (first | exact Drawn0.refl _ | apply Drawn0.step)⟩

/-! ### impl_turtle_walk: function 23 -/
/-! what a closure does, as the walk that calls it needs it: a state s, an invariant I on the world, the captured blocks O; the caller's own variables have the types turtle and part -/
def Clo.own : Obj → Bool
  | .cells _ t (0, 0) => t == 49 || t == 67
  | _ => false
structure Clo (σ : Type) where
  I : σ → World → Prop
  O : Nat → Prop
  stab : ∀ (s : σ) (W W' : World), I s W → W.heap.size ≤ W'.heap.size → (∀ (k : Nat) (o : Obj), W.heap[k]? = some o → Clo.own o = false → W'.heap[k]? = some o) → I s W'
structure Clo.Fr (O : Nat → Prop) (w W : World) : Prop where
  os : W.os = w.os
  tape : W.tape = w.tape
  output : W.output = w.output
  size : w.heap.size ≤ W.heap.size
  block : ∀ k : Nat, k < w.heap.size → ¬ O k → W.heap[k]? = w.heap[k]?
def Clo.X {σ : Type} (c : Clo σ) (w : World) (s : σ) (W : World) : Prop := c.I s W ∧ Clo.Fr c.O w W
/-- what the closure leaves: all but its own blocks as it was, the caller's variables among it -/
structure Clo.CF {σ : Type} (c : Clo σ) (w : World) (s : σ) (W W' : World) : Prop where
  inv : c.I s W'
  os : W'.os = W.os
  tape : W'.tape = W.tape
  output : W'.output = W.output
  size : W.heap.size ≤ W'.heap.size
  block : ∀ k : Nat, k < w.heap.size → ¬ c.O k → W'.heap[k]? = W.heap[k]?
  own : ∀ (k : Nat) (o : Obj), W.heap[k]? = some o → Clo.own o = true → W'.heap[k]? = some o
def Clo.Steps {σ : Type} (P : Program) (c : Clo σ) (w : World) (f : σ → Int → Int → Option σ) (g : Nat) (lb : Array Value) : Prop :=
  ∀ (s s' : σ) (x y : Int) (W : World), Clo.X c w s W → f s x y = some s' → Calls P g (#[.agg #[.int .i64 x, .int .i64 y]] ++ lb) W fun e W' => e = .returned (.tuple #[]) ∧ Clo.CF c w s' W W'
section
variable {σ : Type} {c : Clo σ} {w : World} {s s' : σ} {W W' : World}
theorem Clo.X_step {w2 : World} (h : Clo.X c w s W) (k : Below W.heap.size W w2) : Clo.X c w s w2 :=
  ⟨c.stab s W w2 h.1 k.size (fun i o ho _ => blk_below ho k), ⟨k.os.trans h.2.os, k.tape.trans h.2.tape, k.output.trans h.2.output, Nat.le_trans h.2.size k.size, fun i hi hn => (k.block i (Nat.lt_of_lt_of_le hi h.2.size)).trans (h.2.block i hi hn)⟩⟩
theorem Clo.X_alloc (h : Clo.X c w s W) (o : Obj) : Clo.X c w s (W.alloc o) := Clo.X_step h (below_alloc (Below.refl _ _) o)
theorem Clo.X_drewN (h : Clo.X c w s W) (m : Nat) : Clo.X c w s (W.drewN m) := Clo.X_step h (pw_below_drewN (Below.refl _ _) m)
theorem Clo.X_drew1 (h : Clo.X c w s W) : Clo.X c w s W.drew := Clo.X_step h (below_drew1 (Below.refl _ _))
theorem Clo.X_size (h : Clo.X c w s W) : w.heap.size ≤ W.heap.size := h.2.size
/-- a block of one of the caller's own types -/
def Clo.Typ (W : World) (g : Nat) : Prop := ∃ o, W.heap[g]? = some o ∧ Clo.own o = true
theorem Clo.Typ.ofT {g : Nat} {cs : Array Value} (h : W.heap[g]? = some (.cells cs 49 (0, 0))) : Clo.Typ W g := ⟨_, h, rfl⟩
theorem Clo.Typ.ofP {g : Nat} {cs : Array Value} (h : W.heap[g]? = some (.cells cs 67 (0, 0))) : Clo.Typ W g := ⟨_, h, rfl⟩
theorem Clo.Typ.set {g : Nat} (h : Clo.Typ W g) (g' j : Nat) (v : Value) : Clo.Typ (W.setCell ⟨g', j, none⟩ v) g := by
  obtain ⟨o, h, ho⟩ := h
  by_cases e : g = g'
  · cases o with
    | cells cs t fr =>
      obtain ⟨f1, f2⟩ := fr
      have hf : f1 = 0 ∧ f2 = 0 := by
        unfold Clo.own at ho
        split at ho
        · rename_i he
          cases he
          exact ⟨rfl, rfl⟩
        · cases ho
      obtain ⟨rfl, rfl⟩ := hf
      subst e
      exact ⟨.cells (cs.setIfInBounds j v) t (0, 0), blk_set h j v, ho⟩
    | _ => exact absurd ho (by simp [Clo.own])
  · exact ⟨o, (Below.heap_setCell W ⟨g', j, none⟩ v g e).trans h, ho⟩
theorem Clo.Typ.step {g : Nat} {w2 : World} (h : Clo.Typ W g) (k : Below W.heap.size W w2) : Clo.Typ w2 g := h.imp fun _ ho => ⟨blk_below ho.1 k, ho.2⟩
theorem Clo.Typ.alloc {g : Nat} (h : Clo.Typ W g) (o : Obj) : Clo.Typ (W.alloc o) g := h.step (below_alloc (Below.refl _ _) o)
theorem Clo.Typ.drewN {g : Nat} (h : Clo.Typ W g) (m : Nat) : Clo.Typ (W.drewN m) g := h.step (pw_below_drewN (Below.refl _ _) m)
theorem Clo.Typ.drew {g : Nat} (h : Clo.Typ W g) : Clo.Typ W.drew g := h.step (below_drew1 (Below.refl _ _))
theorem Clo.X_set {g j : Nat} {v : Value} (h : Clo.X c w s W) (hg : w.heap.size ≤ g) (hT : Clo.Typ W g) : Clo.X c w s (W.setCell ⟨g, j, none⟩ v) := by
  refine ⟨c.stab s W _ h.1 (by simp [World.setCell]) (fun i o ho hn => ?_), ⟨h.2.os, h.2.tape, h.2.output, by simp [World.setCell]; exact h.2.size, fun i hi hn => ?_⟩⟩
  · by_cases e : i = g
    · subst e
      obtain ⟨o', h1, h2⟩ := hT
      rw [ho] at h1
      cases h1
      rw [hn] at h2
      cases h2
    · exact (Below.heap_setCell W ⟨g, j, none⟩ v i e).trans ho
  · exact (Below.heap_setCell W ⟨g, j, none⟩ v i (by show i ≠ g; omega)).trans (h.2.block i hi hn)
theorem Clo.X_cf (h : Clo.X c w s W) (k : Clo.CF c w s' W W') : Clo.X c w s' W' :=
  ⟨k.inv, ⟨k.os.trans h.2.os, k.tape.trans h.2.tape, k.output.trans h.2.output, Nat.le_trans h.2.size k.size, fun i hi hn => (k.block i hi hn).trans (h.2.block i hi hn)⟩⟩
theorem Clo.blk_cf {g : Nat} {o : Obj} (h : W.heap[g]? = some o) (k : Clo.CF c w s' W W') (ho : Clo.own o = true := by rfl) : W'.heap[g]? = some o := k.own g o h ho
theorem Clo.R_cf {α : Type} {d : Kd α} {base : Nat} {ok : Nat → Prop} {v : Value} {xs : List α} (h : d.R 67 W base ok v xs) (k : Clo.CF c w s' W W') (hE : d.E = [] := by rfl) : d.R 67 W' base ok v xs :=
  Kd.R_mono (Kd.R_move (Kd.R_bound h) (fun i hi => by
    obtain ⟨_, _, _, q, hq, cells, hc⟩ := hi
    rw [hE, List.mem_singleton] at hq
    subst hq
    exact (k.own i _ hc (by simp [Clo.own])).trans hc.symm)) (fun _ hi => hi.1)
end
mutual
def impl_turtle_walkG.l0 {σ : Type} (st en : σ → Int → Int → Option σ) : Nat → σ → ByteArray → Int → Int → Int → Int → Int → Option (Int × Int × Int × σ)
  | 0, _, _, _, _, _, _, _ => none
  | k + 1, s, x1, x15, x16, x143000, x143001, x143002 => if x16 < x15 then ((impl_parts.f k x1).bind fun t144 => (impl_turtle_walkG.l1 st en k s x1 x15 x16 t144 (t144.length : Int) 0 x143000 x143001 x143002)) else (some (x143000, x143001, x143002, s))
def impl_turtle_walkG.l1 {σ : Type} (st en : σ → Int → Int → Option σ) : Nat → σ → ByteArray → Int → Int → List (S67) → Int → Int → Int → Int → Int → Option (Int × Int × Int × σ)
  | 0, _, _, _, _, _, _, _, _, _, _ => none
  | k + 1, s, x1, x15, x16, x19, x20, x21, x143000, x143001, x143002 => if x21 < x20 then (if 0 ≤ x21 then (if x21 < (x19.length : Int) then ((impl_ahead.f x143002).bind fun bt149 => (impl_turtle_walkG.l2 st en k s x1 bt149.1 bt149.2 x15 x16 x19 x20 x21 ((rd_T67 x19 x21).f0) 0 x143000 x143001 x143002 ((rd_T67 x19 x21).f0) ((rd_T67 x19 x21).f1))) else (none)) else (none)) else (impl_turtle_walkG.l0 st en k s x1 x15 (wrap64 (x16 + 1)) x143000 x143001 x143002)
def impl_turtle_walkG.l2 {σ : Type} (st en : σ → Int → Int → Option σ) : Nat → σ → ByteArray → Int → Int → Int → Int → List (S67) → Int → Int → Int → Int → Int → Int → Int → Int → Int → Option (Int × Int × Int × σ)
  | 0, _, _, _, _, _, _, _, _, _, _, _, _, _, _, _, _ => none
  | k + 1, s, x1, x13, x14, x15, x16, x19, x20, x21, x32, x33, x143000, x143001, x143002, x149000, x149001 => if x33 < x32 then ((st s (wrap64 (x143000 + x13)) (wrap64 (x143001 + x14))).bind fun sN => (impl_turtle_walkG.l2 st en k sN x1 x13 x14 x15 x16 x19 x20 x21 x32 (wrap64 (x33 + 1)) (wrap64 (x143000 + x13)) (wrap64 (x143001 + x14)) x143002 x149000 x149001)) else ((impl_quarters.f x149001).bind fun t151 => ((en s x143000 x143001).bind fun sN => (impl_turtle_walkG.l1 st en k sN x1 x15 x16 x19 x20 (wrap64 (x21 + 1)) x143000 x143001 (Int.tmod (wrap64 (x143002 + t151)) 4))))
end
def impl_turtle_walkG.f {σ : Type} (st en : σ → Int → Int → Option σ) (k : Nat) (s0 : σ) (a0_0 : Int) (a0_1 : Int) (a0_2 : Int) (a1 : ByteArray) (a2 : Int) : Option (Int × Int × Int × σ) := impl_turtle_walkG.l0 st en k s0 a1 a2 0 a0_0 a0_1 a0_2
theorem impl_turtle_walkG.mono_l {σ : Type} (st en : σ → Int → Int → Option σ) : ∀ k, (∀ yS y0 y1 y2 y3 y4 y5, LeO (impl_turtle_walkG.l0 st en k yS y0 y1 y2 y3 y4 y5) (impl_turtle_walkG.l0 st en (k + 1) yS y0 y1 y2 y3 y4 y5)) ∧ (∀ yS y0 y1 y2 y3 y4 y5 y6 y7 y8, LeO (impl_turtle_walkG.l1 st en k yS y0 y1 y2 y3 y4 y5 y6 y7 y8) (impl_turtle_walkG.l1 st en (k + 1) yS y0 y1 y2 y3 y4 y5 y6 y7 y8)) ∧ (∀ yS y0 y1 y2 y3 y4 y5 y6 y7 y8 y9 y10 y11 y12 y13 y14, LeO (impl_turtle_walkG.l2 st en k yS y0 y1 y2 y3 y4 y5 y6 y7 y8 y9 y10 y11 y12 y13 y14) (impl_turtle_walkG.l2 st en (k + 1) yS y0 y1 y2 y3 y4 y5 y6 y7 y8 y9 y10 y11 y12 y13 y14))
  | 0 => ⟨fun _ _ _ _ _ _ _ r h => by simp [impl_turtle_walkG.l0] at h, fun _ _ _ _ _ _ _ _ _ _ r h => by simp [impl_turtle_walkG.l1] at h, fun _ _ _ _ _ _ _ _ _ _ _ _ _ _ _ _ r h => by simp [impl_turtle_walkG.l2] at h⟩
  | k + 1 => by
    obtain ⟨ih0, ih1, ih2⟩ := impl_turtle_walkG.mono_l st en k
    refine ⟨?_, ?_, ?_⟩
    · intro yS y0 y1 y2 y3 y4 y5
      unfold impl_turtle_walkG.l0
      repeat' first
      | (with_reducible exact ih0 _ _ _ _ _ _ _)
      | (with_reducible exact ih1 _ _ _ _ _ _ _ _ _ _)
      | (with_reducible exact ih2 _ _ _ _ _ _ _ _ _ _ _ _ _ _ _ _)
      | (with_reducible exact impl_parts.mono _ _)
      | (with_reducible exact LeO.refl _)
      | (with_reducible exact LeO.none _)
      | (with_reducible refine LeO.ite ?_ ?_)
      | (with_reducible refine LeO.bind ?_ (fun _ => ?_))
      | exact ih0 _ _ _ _ _ _ _
      | exact ih1 _ _ _ _ _ _ _ _ _ _
      | exact ih2 _ _ _ _ _ _ _ _ _ _ _ _ _ _ _ _
      | exact impl_parts.mono _ _
      | exact LeO.none _
      | refine LeO.ite ?_ ?_
      | refine LeO.bind ?_ (fun _ => ?_)
    · intro yS y0 y1 y2 y3 y4 y5 y6 y7 y8
      unfold impl_turtle_walkG.l1
      repeat' first
      | (with_reducible exact ih0 _ _ _ _ _ _ _)
      | (with_reducible exact ih1 _ _ _ _ _ _ _ _ _ _)
      | (with_reducible exact ih2 _ _ _ _ _ _ _ _ _ _ _ _ _ _ _ _)
      | (with_reducible exact impl_parts.mono _ _)
      | (with_reducible exact LeO.refl _)
      | (with_reducible exact LeO.none _)
      | (with_reducible refine LeO.ite ?_ ?_)
      | (with_reducible refine LeO.bind ?_ (fun _ => ?_))
      | exact ih0 _ _ _ _ _ _ _
      | exact ih1 _ _ _ _ _ _ _ _ _ _
      | exact ih2 _ _ _ _ _ _ _ _ _ _ _ _ _ _ _ _
      | exact impl_parts.mono _ _
      | exact LeO.none _
      | refine LeO.ite ?_ ?_
      | refine LeO.bind ?_ (fun _ => ?_)
    · intro yS y0 y1 y2 y3 y4 y5 y6 y7 y8 y9 y10 y11 y12 y13 y14
      unfold impl_turtle_walkG.l2
      repeat' first
      | (with_reducible exact ih0 _ _ _ _ _ _ _)
      | (with_reducible exact ih1 _ _ _ _ _ _ _ _ _ _)
      | (with_reducible exact ih2 _ _ _ _ _ _ _ _ _ _ _ _ _ _ _ _)
      | (with_reducible exact impl_parts.mono _ _)
      | (with_reducible exact LeO.refl _)
      | (with_reducible exact LeO.none _)
      | (with_reducible refine LeO.ite ?_ ?_)
      | (with_reducible refine LeO.bind ?_ (fun _ => ?_))
      | exact ih0 _ _ _ _ _ _ _
      | exact ih1 _ _ _ _ _ _ _ _ _ _
      | exact ih2 _ _ _ _ _ _ _ _ _ _ _ _ _ _ _ _
      | exact impl_parts.mono _ _
      | exact LeO.none _
      | refine LeO.ite ?_ ?_
      | refine LeO.bind ?_ (fun _ => ?_)
theorem impl_turtle_walkG.mono {σ : Type} (st en : σ → Int → Int → Option σ) : ∀ s0 a0 a1 a2 a3 a4 k, LeO (impl_turtle_walkG.f st en k s0 a0 a1 a2 a3 a4) (impl_turtle_walkG.f st en (k + 1) s0 a0 a1 a2 a3 a4) := by
  intro s0 a0 a1 a2 a3 a4 k
  obtain ⟨ih0, ih1, ih2⟩ := impl_turtle_walkG.mono_l st en k
  unfold impl_turtle_walkG.f
  repeat' first
      | (with_reducible exact ih0 _ _ _ _ _ _ _)
      | (with_reducible exact ih1 _ _ _ _ _ _ _ _ _ _)
      | (with_reducible exact ih2 _ _ _ _ _ _ _ _ _ _ _ _ _ _ _ _)
      | (with_reducible exact impl_parts.mono _ _)
      | (with_reducible exact LeO.refl _)
      | (with_reducible exact LeO.none _)
      | (with_reducible refine LeO.ite ?_ ?_)
      | (with_reducible refine LeO.bind ?_ (fun _ => ?_))
      | exact ih0 _ _ _ _ _ _ _
      | exact ih1 _ _ _ _ _ _ _ _ _ _
      | exact ih2 _ _ _ _ _ _ _ _ _ _ _ _ _ _ _ _
      | exact impl_parts.mono _ _
      | exact LeO.none _
      | refine LeO.ite ?_ ?_
      | refine LeO.bind ?_ (fun _ => ?_)
def impl_turtle_walkG.T12 : Bool × List (List Nat × List Nat) := (true, [([], []), ([0], [0]), ([], []), ([2], [2]), ([3], [3]), ([1, 4], [1, 4]), ([5], [5]), ([0, 1, 2, 3, 4, 5, 6], []), ([7, 6, 4, 0, 1, 2, 3, 4, 5, 6], [6, 7])])
def impl_turtle_walkG.B12 : List Nat := [0, 1, 0, 4, 12, 31, 63, 127, 255]
theorem impl_turtle_walkG.tab12 : rtab .any (opsOf Try.f23 12) = impl_turtle_walkG.T12 := by kernel_rfl
theorem impl_turtle_walkG.bits12 : waitsOk impl_turtle_walkG.T12.2 impl_turtle_walkG.B12 = true := by kernel_rfl
set_option maxHeartbeats 8000000 in
set_option maxRecDepth 100000 in
theorem impl_turtle_walkG.calls {σ : Type} (c : Clo σ) (st en : σ → Int → Int → Option σ) (g1 g2 : Nat) (lb1 lb2 : Array Value) (eg1 : ∀ args w, (callFunc g1 args).run Try.prog w = .ok (.enter g1 args) w) (eg2 : ∀ args w, (callFunc g2 args).run Try.prog w = .ok (.enter g2 args) w) (w : World) (hc1 : Aside0 (Clo.Steps Try.prog c w st g1 lb1)) (hc2 : Aside0 (Clo.Steps Try.prog c w en g2 lb2)) (k : Nat) (s0 : σ) (hI0 : Clo.X c w s0 w) (a0_0 : Int) (a0_1 : Int) (a0_2 : Int) (a1 : ByteArray) (a2 : Int) (r1 : Int) (r2 : Int) (r3 : Int) (r4 : σ) (h : impl_turtle_walkG.f st en k s0 a0_0 a0_1 a0_2 a1 a2 = some (r1, r2, r3, r4)) :
    Calls Try.prog 23 #[.agg #[.int .i64 a0_0, .int .i64 a0_1, .int .i64 a0_2], .string a1, .int .i64 a2, .func (.func g1) #[] lb1, .func (.func g2) #[] lb2] w fun e w' => e = .returned (.agg #[.int .i64 r1, .int .i64 r2, .int .i64 r3]) ∧ Clo.X c w r4 w' := by
  have hu47 := Try.underlying49
  have hu70 := Try.underlying67
  have hu45 := Try.underlying36
  have HB := Aside0.mk hI0
  clear hI0
  have H : (impl_turtle_walkG.l0 st en k s0 a1 a2 0 a0_0 a0_1 a0_2) = some (r1, r2, r3, r4) := h
  clear h
  have H' := Aside0.mk H
  clear H
  go_enter Try.func23, Try.ntmps23
  go_wp2_with (first | ((with_reducible refine gate_dst (N := 5) rfl ?_); refine box_event ?hg (N := 5) ?hd (cs := #[.int .i64 a0_0, .int .i64 a0_1, .int .i64 a0_2]) (t := 49) ?hr ?_; (case hd => rfl); (case hg => rfl); (case hr => first | (go_simp; done) | (go_simp; rfl)); intro gb142 hg w6 hbox hb; have n0_ := Aside0.mk (Clo.X_step (c := c) (w := w) (s := s0) (by repeat (first | (with_reducible first | exact HB.out | apply Clo.X_alloc | apply Clo.X_drewN | apply Clo.X_drew1) | exact HB.out)) hb); have n1_ := Aside0.mk (hbox); have n2_ := Aside0.mk ((by rw [hg]; exact (Clo.X_size (c := c) (w := w) (s := s0) (by repeat (first | (with_reducible first | exact HB.out | apply Clo.X_alloc | apply Clo.X_drewN | apply Clo.X_drew1) | exact HB.out))) : w.heap.size ≤ gb142)); have n3_ := Aside0.mk ((by rw [hg]; exact (Clo.X_size (c := c) (w := w) (s := s0) (by repeat (first | (with_reducible first | exact HB.out | apply Clo.X_alloc | apply Clo.X_drewN | apply Clo.X_drew1) | exact HB.out))) : w.heap.size ≤ gb142)); clear HB; have HB := n0_; have BK142 := n1_; have GW142 := n2_; have GE142 := n3_; clear n0_ n1_ n2_ n3_; clear hb hbox hg) | ((with_reducible refine gate_dst (N := 10) rfl ?_); refine box_event ?hg (N := 10) ?hd (cs := #[.int .i64 0, .int .i64 0, .int .i64 0]) (t := 49) ?hr ?_; (case hd => rfl); (case hg => rfl); (case hr => first | (go_simp; done) | (go_simp; rfl)); intro gb143 hg w7 hbox hb; have n0_ := Aside0.mk (blk_below (g := gb142) (o := .cells #[.int .i64 a0_0, .int .i64 a0_1, .int .i64 a0_2] 49 (0, 0)) (by (with_reducible repeat (first | refine blk_drewN ?_ _ | refine blk_drew ?_ | refine blk_alloc ?_ _)); exact BK142.out) hb); have n1_ := Aside0.mk (Clo.X_step (c := c) (w := w) (s := s0) (by repeat (first | (with_reducible first | exact HB.out | apply Clo.X_alloc | apply Clo.X_drewN | apply Clo.X_drew1 | refine Clo.X_set ?_ GE142.out (by repeat (first | exact Clo.Typ.ofT BK142.out | exact Clo.Typ.ofP BK142.out | apply Clo.Typ.set | apply Clo.Typ.alloc | apply Clo.Typ.drewN | apply Clo.Typ.drew))) | exact HB.out)) hb); have n2_ := Aside0.mk (hbox); have n3_ := Aside0.mk ((by rw [hg]; exact (Clo.X_size (c := c) (w := w) (s := s0) (by repeat (first | (with_reducible first | exact HB.out | apply Clo.X_alloc | apply Clo.X_drewN | apply Clo.X_drew1 | refine Clo.X_set ?_ GE142.out (by repeat (first | exact Clo.Typ.ofT BK142.out | exact Clo.Typ.ofP BK142.out | apply Clo.Typ.set | apply Clo.Typ.alloc | apply Clo.Typ.drewN | apply Clo.Typ.drew))) | exact HB.out))) : w.heap.size ≤ gb143)); have n4_ := Aside0.mk ((by rw [hg]; exact (Clo.X_size (c := c) (w := w) (s := s0) (by repeat (first | (with_reducible first | exact HB.out | apply Clo.X_alloc | apply Clo.X_drewN | apply Clo.X_drew1 | refine Clo.X_set ?_ GE142.out (by repeat (first | exact Clo.Typ.ofT BK142.out | exact Clo.Typ.ofP BK142.out | apply Clo.Typ.set | apply Clo.Typ.alloc | apply Clo.Typ.drewN | apply Clo.Typ.drew))) | exact HB.out))) : w.heap.size ≤ gb143)); have n5_ := Aside0.mk ((by rw [hg]; exact Nat.ne_of_lt (blk_lt (g := gb142) (o := .cells #[.int .i64 a0_0, .int .i64 a0_1, .int .i64 a0_2] 49 (0, 0)) (by (with_reducible repeat (first | refine blk_drewN ?_ _ | refine blk_drew ?_ | refine blk_alloc ?_ _)); exact BK142.out)) : gb142 ≠ gb143)); have n6_ := Aside0.mk ((by rw [hg]; exact Nat.ne_of_gt (blk_lt (g := gb142) (o := .cells #[.int .i64 a0_0, .int .i64 a0_1, .int .i64 a0_2] 49 (0, 0)) (by (with_reducible repeat (first | refine blk_drewN ?_ _ | refine blk_drew ?_ | refine blk_alloc ?_ _)); exact BK142.out)) : gb143 ≠ gb142)); clear BK142; clear HB; have BK142 := n0_; have HB := n1_; have BK143 := n2_; have GW143 := n3_; have GE143 := n4_; have NB142_143 := n5_; have NB143_142 := n6_; clear n0_ n1_ n2_ n3_ n4_ n5_ n6_; clear hb hbox hg))
  go_loopg [16] k (fun kq v16 w' => ∃ (s_1 : σ) (x16_1 : Int) (x143000_1 : Int) (x143001_1 : Int) (x143002_1 : Int), v16 = .int .i64 x16_1 ∧ Aside0 (impl_turtle_walkG.l0 st en kq s_1 a1 a2 x16_1 x143000_1 x143001_1 x143002_1 = some (r1, r2, r3, r4)) ∧ Aside0 (kq ≤ k) ∧ Aside0 (w'.heap[gb142]? = some (.cells #[.int .i64 x143000_1, .int .i64 x143001_1, .int .i64 x143002_1] 49 (0, 0))) ∧ Aside0 (w'.heap[gb143]? = some (.cells #[.int .i64 0, .int .i64 0, .int .i64 0] 49 (0, 0))) ∧ Aside0 (Clo.X c w s_1 w'))
  case atStart => exact ⟨s0, (0), (a0_0), (a0_1), (a0_2), (by first | rfl | (simp; done) | (simp [*]; done)), H', ⟨Nat.le_refl _⟩, ⟨by (with_reducible repeat (first | refine blk_drewN ?_ _ | refine blk_drew ?_ | refine blk_alloc ?_ _)); exact BK142.out⟩, ⟨by (with_reducible repeat (first | refine blk_drewN ?_ _ | refine blk_drew ?_ | refine blk_alloc ?_ _)); exact BK143.out⟩, ⟨by repeat (first | (with_reducible first | exact HB.out | apply Clo.X_alloc | apply Clo.X_drewN | apply Clo.X_drew1 | refine Clo.X_set ?_ GE142.out (by repeat (first | exact Clo.Typ.ofT BK142.out | exact Clo.Typ.ofP BK142.out | apply Clo.Typ.set | apply Clo.Typ.alloc | apply Clo.Typ.drewN | apply Clo.Typ.drew)) | refine Clo.X_set ?_ GE143.out (by repeat (first | exact Clo.Typ.ofT BK143.out | exact Clo.Typ.ofP BK143.out | apply Clo.Typ.set | apply Clo.Typ.alloc | apply Clo.Typ.drewN | apply Clo.Typ.drew))) | exact HB.out)⟩⟩
  case round =>
    clear H'
    try clear p2
    try clear c3
    obtain ⟨s_1, x16_1, x143000_1, x143001_1, x143002_1, rfl, HA, HK1, BK142, BK143, HB⟩ := hrel
    cases gk with
    | zero => exact absurd HA.out (by simp [impl_turtle_walkG.l0])
    | succ k1 =>
      have H := HA.out
      clear HA
      simp only [impl_turtle_walkG.l0] at H
      by_cases c8 : x16_1 < a2
      · rw [if_pos c8] at H
        have c8b0 : decide (x16_1 < a2) = true := decide_eq_true c8
        clear c8
        replace H := Option.bind_eq_some_iff.mp H
        obtain ⟨t144, A90, H⟩ := H
        replace H : (impl_turtle_walkG.l1 st en k1 s_1 a1 a2 x16_1 t144 (t144.length : Int) 0 x143000_1 x143001_1 x143002_1) = some (r1, r2, r3, r4) := H
        have A9 := Aside0.mk A90
        clear A90
        have H' := Aside0.mk H
        clear H
        go_wp2_with (first | ((with_reducible refine gate_callee (f := 34) rfl ?_); refine goesL_ (some 19) rfl rfl Try.func34 (by kernel_rfl) rfl #[.string a1] rfl (by (try simp only [List.map_toArray, List.map_cons, List.map_nil]); first | done | rfl | (simp only [List.length_drop, List.length_take]; rfl)) ?_; (with_reducible refine (impl_parts.calls k1 a1 t144 _ A9.out).mono ?_); rintro e w10 ⟨v145, rfl, ho0, hb⟩; refine ⟨_, rfl, ?_⟩; have n0_ := Aside0.mk (Kd.R_lower ho0 (Clo.X_size (c := c) (w := w) (s := s_1) (by repeat (first | (with_reducible first | exact HB.out | apply Clo.X_alloc | apply Clo.X_drewN | apply Clo.X_drew1 | refine Clo.X_set ?_ GE142.out (by repeat (first | exact Clo.Typ.ofT BK142.out | exact Clo.Typ.ofP BK142.out | apply Clo.Typ.set | apply Clo.Typ.alloc | apply Clo.Typ.drewN | apply Clo.Typ.drew)) | refine Clo.X_set ?_ GE143.out (by repeat (first | exact Clo.Typ.ofT BK143.out | exact Clo.Typ.ofP BK143.out | apply Clo.Typ.set | apply Clo.Typ.alloc | apply Clo.Typ.drewN | apply Clo.Typ.drew))) | exact HB.out)))); have n1_ := Aside0.mk (blk_below (g := gb142) (o := .cells #[.int .i64 x143000_1, .int .i64 x143001_1, .int .i64 x143002_1] 49 (0, 0)) (by (with_reducible repeat (first | refine blk_drewN ?_ _ | refine blk_drew ?_ | refine blk_alloc ?_ _)); exact BK142.out) hb); have n2_ := Aside0.mk (blk_below (g := gb143) (o := .cells #[.int .i64 0, .int .i64 0, .int .i64 0] 49 (0, 0)) (by (with_reducible repeat (first | refine blk_drewN ?_ _ | refine blk_drew ?_ | refine blk_alloc ?_ _)); exact BK143.out) hb); have n3_ := Aside0.mk (Clo.X_step (c := c) (w := w) (s := s_1) (by repeat (first | (with_reducible first | exact HB.out | apply Clo.X_alloc | apply Clo.X_drewN | apply Clo.X_drew1 | refine Clo.X_set ?_ GE142.out (by repeat (first | exact Clo.Typ.ofT BK142.out | exact Clo.Typ.ofP BK142.out | apply Clo.Typ.set | apply Clo.Typ.alloc | apply Clo.Typ.drewN | apply Clo.Typ.drew)) | refine Clo.X_set ?_ GE143.out (by repeat (first | exact Clo.Typ.ofT BK143.out | exact Clo.Typ.ofP BK143.out | apply Clo.Typ.set | apply Clo.Typ.alloc | apply Clo.Typ.drewN | apply Clo.Typ.drew))) | exact HB.out)) hb); clear BK142; clear BK143; clear HB; have HO146 := n0_; have BK142 := n1_; have BK143 := n2_; have HB := n3_; clear n0_ n1_ n2_ n3_; (try clear hb); (try clear hb2); (try clear hk); (try clear hi); (try clear ho0); obtain ⟨Ao11, co11, eo11⟩ := Kd.R_slice HO146.out; subst eo11))
        go_loopg [21] k1 (fun kq v21 w' => ∃ (s_2 : σ) (x21_2 : Int) (x143000_2 : Int) (x143001_2 : Int) (x143002_2 : Int), v21 = .int .i64 x21_2 ∧ Aside0 (impl_turtle_walkG.l1 st en kq s_2 a1 a2 x16_1 t144 (t144.length : Int) x21_2 x143000_2 x143001_2 x143002_2 = some (r1, r2, r3, r4)) ∧ Aside0 (kq ≤ k1) ∧ Aside0 (Kd.R k67 67 w' w.heap.size (fun _ => True) (.slice Ao11 t144.length co11) t144) ∧ Aside0 (w'.heap[gb142]? = some (.cells #[.int .i64 x143000_2, .int .i64 x143001_2, .int .i64 x143002_2] 49 (0, 0))) ∧ Aside0 (w'.heap[gb143]? = some (.cells #[.int .i64 0, .int .i64 0, .int .i64 0] 49 (0, 0))) ∧ Aside0 (Clo.X c w s_2 w'))
        case atStart => exact ⟨s_1, (0), (x143000_1), (x143001_1), (x143002_1), (by first | rfl | (simp; done) | (simp [*]; done)), H', ⟨Nat.le_refl _⟩, ⟨by (with_reducible repeat (first | apply Kd.R_alloc | apply Kd.R_drewN | apply Kd.R_drew)); exact HO146.out⟩, ⟨by (with_reducible repeat (first | refine blk_drewN ?_ _ | refine blk_drew ?_ | refine blk_alloc ?_ _)); exact BK142.out⟩, ⟨by (with_reducible repeat (first | refine blk_drewN ?_ _ | refine blk_drew ?_ | refine blk_alloc ?_ _)); exact BK143.out⟩, ⟨by repeat (first | (with_reducible first | exact HB.out | apply Clo.X_alloc | apply Clo.X_drewN | apply Clo.X_drew1 | refine Clo.X_set ?_ GE142.out (by repeat (first | exact Clo.Typ.ofT BK142.out | exact Clo.Typ.ofP BK142.out | apply Clo.Typ.set | apply Clo.Typ.alloc | apply Clo.Typ.drewN | apply Clo.Typ.drew)) | refine Clo.X_set ?_ GE143.out (by repeat (first | exact Clo.Typ.ofT BK143.out | exact Clo.Typ.ofP BK143.out | apply Clo.Typ.set | apply Clo.Typ.alloc | apply Clo.Typ.drewN | apply Clo.Typ.drew))) | exact HB.out)⟩⟩
        case round =>
          clear H'
          try clear p2
          try clear c3
          try clear c6
          try clear c8
          try clear c8b0
          try clear p2
          obtain ⟨s_2, x21_2, x143000_2, x143001_2, x143002_2, rfl, HA, HK2, HO_19, BK142, BK143, HB⟩ := hrel
          cases gk with
          | zero => exact absurd HA.out (by simp [impl_turtle_walkG.l1])
          | succ k2 =>
            have H := HA.out
            clear HA
            simp only [impl_turtle_walkG.l1] at H
            by_cases c12 : x21_2 < (t144.length : Int)
            · rw [if_pos c12] at H
              have c12b0 : decide (x21_2 < (t144.length : Int)) = true := decide_eq_true c12
              clear c12
              by_cases c13 : 0 ≤ x21_2
              · rw [if_pos c13] at H
                have c13b0 : decide (0 ≤ x21_2) = true := decide_eq_true c13
                clear c13
                by_cases c14 : x21_2 < (t144.length : Int)
                · rw [if_pos c14] at H
                  have c14b0 : decide (x21_2 < (t144.length : Int)) = true := decide_eq_true c14
                  clear c14
                  replace H := Option.bind_eq_some_iff.mp H
                  obtain ⟨⟨t149, t150⟩, A150, H⟩ := H
                  replace H : (impl_turtle_walkG.l2 st en k2 s_2 a1 t149 t150 a2 x16_1 t144 (t144.length : Int) x21_2 ((rd_T67 t144 x21_2).f0) 0 x143000_2 x143001_2 x143002_2 ((rd_T67 t144 x21_2).f0) ((rd_T67 t144 x21_2).f1)) = some (r1, r2, r3, r4) := H
                  have A15 := Aside0.mk A150
                  clear A150
                  have H' := Aside0.mk H
                  clear H
                  have p147 : 0 ≤ (x21_2 : Int) := of_decide_eq_true (by first | (with_reducible assumption) | assumption)
                  have q147 : x21_2 < (t144.length : Int) := of_decide_eq_true (by first | (with_reducible assumption) | assumption)
                  obtain ⟨ad147, e147, hx147_0, hx147_1⟩ := at_T67 (Kd.R_reads' HO_19.out).2.2 x21_2 p147 q147
                  cases e147
                  replace p147 := eq_true p147
                  replace q147 := eq_true q147
                  go_wp2_with (first | ((with_reducible refine gate_dst (N := 12) rfl ?_); refine box_event ?hg (N := 12) ?hd (cs := #[.int .i64 0, .int .u8 0]) (t := 67) ?hr ?_; (case hd => rfl); (case hg => rfl); (case hr => first | (go_simp; done) | (go_simp; rfl)); intro gb148 hg w16 hbox hb; have n0_ := Aside0.mk (Kd.R_below (Kd.R_elderB (by (with_reducible repeat (first | apply Kd.R_alloc | apply Kd.R_drewN | apply Kd.R_drew)); exact HO_19.out) gb148 (Nat.le_of_eq hg.symm)) hb); have n1_ := Aside0.mk (blk_below (g := gb142) (o := .cells #[.int .i64 x143000_2, .int .i64 x143001_2, .int .i64 x143002_2] 49 (0, 0)) (by (with_reducible repeat (first | refine blk_drewN ?_ _ | refine blk_drew ?_ | refine blk_alloc ?_ _)); exact BK142.out) hb); have n2_ := Aside0.mk (blk_below (g := gb143) (o := .cells #[.int .i64 0, .int .i64 0, .int .i64 0] 49 (0, 0)) (by (with_reducible repeat (first | refine blk_drewN ?_ _ | refine blk_drew ?_ | refine blk_alloc ?_ _)); exact BK143.out) hb); have n3_ := Aside0.mk (Clo.X_step (c := c) (w := w) (s := s_2) (by repeat (first | (with_reducible first | exact HB.out | apply Clo.X_alloc | apply Clo.X_drewN | apply Clo.X_drew1 | refine Clo.X_set ?_ GE142.out (by repeat (first | exact Clo.Typ.ofT BK142.out | exact Clo.Typ.ofP BK142.out | apply Clo.Typ.set | apply Clo.Typ.alloc | apply Clo.Typ.drewN | apply Clo.Typ.drew)) | refine Clo.X_set ?_ GE143.out (by repeat (first | exact Clo.Typ.ofT BK143.out | exact Clo.Typ.ofP BK143.out | apply Clo.Typ.set | apply Clo.Typ.alloc | apply Clo.Typ.drewN | apply Clo.Typ.drew))) | exact HB.out)) hb); have n4_ := Aside0.mk (hbox); have n5_ := Aside0.mk ((by rw [hg]; exact (Clo.X_size (c := c) (w := w) (s := s_2) (by repeat (first | (with_reducible first | exact HB.out | apply Clo.X_alloc | apply Clo.X_drewN | apply Clo.X_drew1 | refine Clo.X_set ?_ GE142.out (by repeat (first | exact Clo.Typ.ofT BK142.out | exact Clo.Typ.ofP BK142.out | apply Clo.Typ.set | apply Clo.Typ.alloc | apply Clo.Typ.drewN | apply Clo.Typ.drew)) | refine Clo.X_set ?_ GE143.out (by repeat (first | exact Clo.Typ.ofT BK143.out | exact Clo.Typ.ofP BK143.out | apply Clo.Typ.set | apply Clo.Typ.alloc | apply Clo.Typ.drewN | apply Clo.Typ.drew))) | exact HB.out))) : w.heap.size ≤ gb148)); have n6_ := Aside0.mk ((by rw [hg]; exact (Clo.X_size (c := c) (w := w) (s := s_2) (by repeat (first | (with_reducible first | exact HB.out | apply Clo.X_alloc | apply Clo.X_drewN | apply Clo.X_drew1 | refine Clo.X_set ?_ GE142.out (by repeat (first | exact Clo.Typ.ofT BK142.out | exact Clo.Typ.ofP BK142.out | apply Clo.Typ.set | apply Clo.Typ.alloc | apply Clo.Typ.drewN | apply Clo.Typ.drew)) | refine Clo.X_set ?_ GE143.out (by repeat (first | exact Clo.Typ.ofT BK143.out | exact Clo.Typ.ofP BK143.out | apply Clo.Typ.set | apply Clo.Typ.alloc | apply Clo.Typ.drewN | apply Clo.Typ.drew))) | exact HB.out))) : w.heap.size ≤ gb148)); have n7_ := Aside0.mk ((by rw [hg]; exact Nat.ne_of_lt (blk_lt (g := gb142) (o := .cells #[.int .i64 x143000_2, .int .i64 x143001_2, .int .i64 x143002_2] 49 (0, 0)) (by (with_reducible repeat (first | refine blk_drewN ?_ _ | refine blk_drew ?_ | refine blk_alloc ?_ _)); exact BK142.out)) : gb142 ≠ gb148)); have n8_ := Aside0.mk ((by rw [hg]; exact Nat.ne_of_gt (blk_lt (g := gb142) (o := .cells #[.int .i64 x143000_2, .int .i64 x143001_2, .int .i64 x143002_2] 49 (0, 0)) (by (with_reducible repeat (first | refine blk_drewN ?_ _ | refine blk_drew ?_ | refine blk_alloc ?_ _)); exact BK142.out)) : gb148 ≠ gb142)); have n9_ := Aside0.mk ((by rw [hg]; exact Nat.ne_of_lt (blk_lt (g := gb143) (o := .cells #[.int .i64 0, .int .i64 0, .int .i64 0] 49 (0, 0)) (by (with_reducible repeat (first | refine blk_drewN ?_ _ | refine blk_drew ?_ | refine blk_alloc ?_ _)); exact BK143.out)) : gb143 ≠ gb148)); have n10_ := Aside0.mk ((by rw [hg]; exact Nat.ne_of_gt (blk_lt (g := gb143) (o := .cells #[.int .i64 0, .int .i64 0, .int .i64 0] 49 (0, 0)) (by (with_reducible repeat (first | refine blk_drewN ?_ _ | refine blk_drew ?_ | refine blk_alloc ?_ _)); exact BK143.out)) : gb148 ≠ gb143)); clear HO_19; clear BK142; clear BK143; clear HB; have HO_19 := n0_; have BK142 := n1_; have BK143 := n2_; have HB := n3_; have BK148 := n4_; have GW148 := n5_; have GE148 := n6_; have NB142_148 := n7_; have NB148_142 := n8_; have NB143_148 := n9_; have NB148_143 := n10_; clear n0_ n1_ n2_ n3_ n4_ n5_ n6_ n7_ n8_ n9_ n10_; clear hb hbox hg; have hnb17 := NB148_142.out; have hnc17 := NB142_148.out; have hnb18 := NB148_143.out; have hnc18 := NB143_148.out; have hcz19_0 : w16.cell? ⟨gb148, 0, none⟩ = some (.int .i64 0) := (blk_cell BK148.out 0).trans rfl; have hcz19_1 : w16.cell? ⟨gb148, 1, none⟩ = some (.int .u8 0) := (blk_cell BK148.out 1).trans rfl; have hfz19_0 := blk_frozen BK148.out 0; have hfz19_1 := blk_frozen BK148.out 1; have hnb20 := NB142_143.out; have hnc20 := NB143_142.out; have hcz21_0 : w16.cell? ⟨gb142, 0, none⟩ = some (.int .i64 x143000_2) := (blk_cell BK142.out 0).trans rfl; have hcz21_1 : w16.cell? ⟨gb142, 1, none⟩ = some (.int .i64 x143001_2) := (blk_cell BK142.out 1).trans rfl; have hcz21_2 : w16.cell? ⟨gb142, 2, none⟩ = some (.int .i64 x143002_2) := (blk_cell BK142.out 2).trans rfl; have hfz21_0 := blk_frozen BK142.out 0; have hfz21_1 := blk_frozen BK142.out 1; have hfz21_2 := blk_frozen BK142.out 2) | ((with_reducible refine gate_callee (f := 35) rfl ?_); refine goesL_ (some 28) rfl rfl Try.func35 (by kernel_rfl) rfl #[.int .i64 x143002_2] rfl (by (try simp only [List.map_toArray, List.map_cons, List.map_nil]); first | done | rfl | (simp only [List.length_drop, List.length_take]; rfl)) ?_; (with_reducible refine (impl_ahead.calls x143002_2 t149 t150 _ A15.out).mono ?_); rintro e w22 ⟨rfl, hb⟩; refine ⟨_, rfl, ?_⟩; have n0_ := Aside0.mk (Kd.R_below (by (with_reducible repeat (first | apply Kd.R_alloc | apply Kd.R_drewN | apply Kd.R_drew)); exact (Kd.R_mono (Kd.R_far (p := ⟨gb148, 1, none⟩) (Kd.R_far (p := ⟨gb148, 0, none⟩) (Kd.R_mono HO_19.out (fun k_ hk => (⟨hk, hk.2⟩ : _ ∧ k_ ≠ gb148))) (fun _ hk => hk.2) (.int .i64 ((rd_T67 t144 x21_2).f0))) (fun _ hk => hk.2) (.int .u8 ((rd_T67 t144 x21_2).f1))) (fun _ h_ => h_.1))) hb); have n1_ := Aside0.mk (blk_below (g := gb142) (o := .cells #[.int .i64 x143000_2, .int .i64 x143001_2, .int .i64 x143002_2] 49 (0, 0)) (by (with_reducible repeat (first | refine blk_drewN ?_ _ | refine blk_drew ?_ | refine blk_alloc ?_ _)); refine blk_far ?_ NB142_148.out _; (with_reducible repeat (first | refine blk_drewN ?_ _ | refine blk_drew ?_ | refine blk_alloc ?_ _)); refine blk_far ?_ NB142_148.out _; (with_reducible repeat (first | refine blk_drewN ?_ _ | refine blk_drew ?_ | refine blk_alloc ?_ _)); exact BK142.out) hb); have n2_ := Aside0.mk (blk_below (g := gb143) (o := .cells #[.int .i64 0, .int .i64 0, .int .i64 0] 49 (0, 0)) (by (with_reducible repeat (first | refine blk_drewN ?_ _ | refine blk_drew ?_ | refine blk_alloc ?_ _)); refine blk_far ?_ NB143_148.out _; (with_reducible repeat (first | refine blk_drewN ?_ _ | refine blk_drew ?_ | refine blk_alloc ?_ _)); refine blk_far ?_ NB143_148.out _; (with_reducible repeat (first | refine blk_drewN ?_ _ | refine blk_drew ?_ | refine blk_alloc ?_ _)); exact BK143.out) hb); have n3_ := Aside0.mk (blk_below (g := gb148) (o := .cells #[.int .i64 ((rd_T67 t144 x21_2).f0), .int .u8 ((rd_T67 t144 x21_2).f1)] 67 (0, 0)) (by (with_reducible repeat (first | refine blk_drewN ?_ _ | refine blk_drew ?_ | refine blk_alloc ?_ _)); refine blk_put (cs := #[.int .i64 ((rd_T67 t144 x21_2).f0), .int .u8 0]) ?_ 1 _ rfl; (with_reducible repeat (first | refine blk_drewN ?_ _ | refine blk_drew ?_ | refine blk_alloc ?_ _)); refine blk_put (cs := #[.int .i64 0, .int .u8 0]) ?_ 0 _ rfl; (with_reducible repeat (first | refine blk_drewN ?_ _ | refine blk_drew ?_ | refine blk_alloc ?_ _)); exact BK148.out) hb); have n4_ := Aside0.mk (Clo.X_step (c := c) (w := w) (s := s_2) (by repeat (first | (with_reducible first | exact HB.out | apply Clo.X_alloc | apply Clo.X_drewN | apply Clo.X_drew1 | refine Clo.X_set ?_ GE142.out (by repeat (first | exact Clo.Typ.ofT BK142.out | exact Clo.Typ.ofP BK142.out | apply Clo.Typ.set | apply Clo.Typ.alloc | apply Clo.Typ.drewN | apply Clo.Typ.drew)) | refine Clo.X_set ?_ GE143.out (by repeat (first | exact Clo.Typ.ofT BK143.out | exact Clo.Typ.ofP BK143.out | apply Clo.Typ.set | apply Clo.Typ.alloc | apply Clo.Typ.drewN | apply Clo.Typ.drew)) | refine Clo.X_set ?_ GE148.out (by repeat (first | exact Clo.Typ.ofT BK148.out | exact Clo.Typ.ofP BK148.out | apply Clo.Typ.set | apply Clo.Typ.alloc | apply Clo.Typ.drewN | apply Clo.Typ.drew))) | exact HB.out)) hb); clear HO_19; clear BK142; clear BK143; clear BK148; clear HB; have HO_19 := n0_; have BK142 := n1_; have BK143 := n2_; have BK148 := n3_; have HB := n4_; clear n0_ n1_ n2_ n3_ n4_; (try clear hb); (try clear hb2); (try clear hk); (try clear hi); have hcz23_0 : w22.cell? ⟨gb148, 0, none⟩ = some (.int .i64 ((rd_T67 t144 x21_2).f0)) := (blk_cell BK148.out 0).trans rfl; have hcz23_1 : w22.cell? ⟨gb148, 1, none⟩ = some (.int .u8 ((rd_T67 t144 x21_2).f1)) := (blk_cell BK148.out 1).trans rfl; have hfz23_0 := blk_frozen BK148.out 0; have hfz23_1 := blk_frozen BK148.out 1))
                  go_loopg [33] k2 (fun kq v33 w' => ∃ (s_3 : σ) (x33_3 : Int) (x143000_3 : Int) (x143001_3 : Int), v33 = .int .i64 x33_3 ∧ Aside0 (impl_turtle_walkG.l2 st en kq s_3 a1 t149 t150 a2 x16_1 t144 (t144.length : Int) x21_2 ((rd_T67 t144 x21_2).f0) x33_3 x143000_3 x143001_3 x143002_2 ((rd_T67 t144 x21_2).f0) ((rd_T67 t144 x21_2).f1) = some (r1, r2, r3, r4)) ∧ Aside0 (kq ≤ k2) ∧ Aside0 (Kd.R k67 67 w' w.heap.size (fun k_ => k_ ≠ gb148) (.slice (some ad147) t144.length co11) t144) ∧ Aside0 (w'.heap[gb142]? = some (.cells #[.int .i64 x143000_3, .int .i64 x143001_3, .int .i64 x143002_2] 49 (0, 0))) ∧ Aside0 (w'.heap[gb143]? = some (.cells #[.int .i64 0, .int .i64 0, .int .i64 0] 49 (0, 0))) ∧ Aside0 (w'.heap[gb148]? = some (.cells #[.int .i64 ((rd_T67 t144 x21_2).f0), .int .u8 ((rd_T67 t144 x21_2).f1)] 67 (0, 0))) ∧ Aside0 (Clo.X c w s_3 w'))
                  case atStart => exact ⟨s_2, (0), (x143000_2), (x143001_2), (by first | rfl | (simp; done) | (simp [*]; done)), H', ⟨Nat.le_refl _⟩, ⟨by (with_reducible repeat (first | apply Kd.R_alloc | apply Kd.R_drewN | apply Kd.R_drew)); exact Kd.R_mono HO_19.out (fun _ hk => hk.2)⟩, ⟨by (with_reducible repeat (first | refine blk_drewN ?_ _ | refine blk_drew ?_ | refine blk_alloc ?_ _)); exact BK142.out⟩, ⟨by (with_reducible repeat (first | refine blk_drewN ?_ _ | refine blk_drew ?_ | refine blk_alloc ?_ _)); exact BK143.out⟩, ⟨by (with_reducible repeat (first | refine blk_drewN ?_ _ | refine blk_drew ?_ | refine blk_alloc ?_ _)); exact BK148.out⟩, ⟨by repeat (first | (with_reducible first | exact HB.out | apply Clo.X_alloc | apply Clo.X_drewN | apply Clo.X_drew1 | refine Clo.X_set ?_ GE142.out (by repeat (first | exact Clo.Typ.ofT BK142.out | exact Clo.Typ.ofP BK142.out | apply Clo.Typ.set | apply Clo.Typ.alloc | apply Clo.Typ.drewN | apply Clo.Typ.drew)) | refine Clo.X_set ?_ GE143.out (by repeat (first | exact Clo.Typ.ofT BK143.out | exact Clo.Typ.ofP BK143.out | apply Clo.Typ.set | apply Clo.Typ.alloc | apply Clo.Typ.drewN | apply Clo.Typ.drew)) | refine Clo.X_set ?_ GE148.out (by repeat (first | exact Clo.Typ.ofT BK148.out | exact Clo.Typ.ofP BK148.out | apply Clo.Typ.set | apply Clo.Typ.alloc | apply Clo.Typ.drewN | apply Clo.Typ.drew))) | exact HB.out)⟩⟩
                  case round =>
                    clear H'
                    try clear c1
                    try clear p1
                    try clear q1
                    try clear hx1
                    try clear c2
                    try clear p2
                    try clear c3
                    try clear c6
                    try clear c8
                    try clear c8b0
                    try clear c12
                    try clear c12b0
                    try clear c13
                    try clear c13b0
                    try clear c14
                    try clear c14b0
                    try clear p14
                    try clear q14
                    try clear hx14
                    try clear c17
                    try clear c18
                    try clear c20
                    try clear hcz19_0
                    try clear hcz19_1
                    try clear hcz21_0
                    try clear hcz21_1
                    try clear hcz21_2
                    try clear hcz23_0
                    try clear hcz23_1
                    try clear hfz19_0
                    try clear hfz19_1
                    try clear hfz21_0
                    try clear hfz21_1
                    try clear hfz21_2
                    try clear hfz23_0
                    try clear hfz23_1
                    try clear hx147_0
                    try clear hx147_1
                    try clear p147
                    try clear p2
                    try clear q147
                    obtain ⟨s_3, x33_3, x143000_3, x143001_3, rfl, HA, HK3, HO_19, BK142, BK143, BK148, HB⟩ := hrel
                    cases gk with
                    | zero => exact absurd HA.out (by simp [impl_turtle_walkG.l2])
                    | succ k3 =>
                      have H := HA.out
                      clear HA
                      simp only [impl_turtle_walkG.l2] at H
                      by_cases c24 : x33_3 < ((rd_T67 t144 x21_2).f0)
                      · rw [if_pos c24] at H
                        have c24b0 : decide (x33_3 < ((rd_T67 t144 x21_2).f0)) = true := decide_eq_true c24
                        clear c24
                        replace H := Option.bind_eq_some_iff.mp H
                        obtain ⟨s_4, A250, H⟩ := H
                        replace H : (impl_turtle_walkG.l2 st en k3 s_4 a1 t149 t150 a2 x16_1 t144 (t144.length : Int) x21_2 ((rd_T67 t144 x21_2).f0) (wrap64 (x33_3 + 1)) (wrap64 (x143000_3 + t149)) (wrap64 (x143001_3 + t150)) x143002_2 ((rd_T67 t144 x21_2).f0) ((rd_T67 t144 x21_2).f1)) = some (r1, r2, r3, r4) := H
                        have A25 := Aside0.mk A250
                        clear A250
                        have H' := Aside0.mk H
                        clear H
                        have hnb26 := NB142_143.out
                        have hnc26 := NB143_142.out
                        have hnb27 := NB142_148.out
                        have hnc27 := NB148_142.out
                        have hcz28_0 : wr.cell? ⟨gb142, 0, none⟩ = some (.int .i64 x143000_3) := (blk_cell BK142.out 0).trans rfl
                        have hcz28_1 : wr.cell? ⟨gb142, 1, none⟩ = some (.int .i64 x143001_3) := (blk_cell BK142.out 1).trans rfl
                        have hcz28_2 : wr.cell? ⟨gb142, 2, none⟩ = some (.int .i64 x143002_2) := (blk_cell BK142.out 2).trans rfl
                        have hfz28_0 := blk_frozen BK142.out 0
                        have hfz28_1 := blk_frozen BK142.out 1
                        have hfz28_2 := blk_frozen BK142.out 2
                        go_wp2_with (first | (go_at_fn g1; (refine (hc1.out s_3 s_4 (wrap64 (x143000_3 + t149)) (wrap64 (x143001_3 + t150)) _ (by repeat (first | (with_reducible first | exact HB.out | apply Clo.X_alloc | apply Clo.X_drewN | apply Clo.X_drew1 | refine Clo.X_set ?_ GE142.out (by repeat (first | exact Clo.Typ.ofT BK142.out | exact Clo.Typ.ofP BK142.out | apply Clo.Typ.set | apply Clo.Typ.alloc | apply Clo.Typ.drewN | apply Clo.Typ.drew)) | refine Clo.X_set ?_ GE143.out (by repeat (first | exact Clo.Typ.ofT BK143.out | exact Clo.Typ.ofP BK143.out | apply Clo.Typ.set | apply Clo.Typ.alloc | apply Clo.Typ.drewN | apply Clo.Typ.drew)) | refine Clo.X_set ?_ GE148.out (by repeat (first | exact Clo.Typ.ofT BK148.out | exact Clo.Typ.ofP BK148.out | apply Clo.Typ.set | apply Clo.Typ.alloc | apply Clo.Typ.drewN | apply Clo.Typ.drew))) | exact HB.out)) A25.out).mono ?_); rintro e w29 ⟨rfl, hb⟩; have n0_ := Aside0.mk (Clo.R_cf (by (with_reducible repeat (first | apply Kd.R_alloc | apply Kd.R_drewN | apply Kd.R_drew)); exact (Kd.R_mono (Kd.R_far (p := ⟨gb142, 1, none⟩) (Kd.R_far (p := ⟨gb142, 0, none⟩) (Kd.R_types HO_19.out BK142.out (by decide)) (fun _ hk => hk.2) (.int .i64 (wrap64 (x143000_3 + t149)))) (fun _ hk => hk.2) (.int .i64 (wrap64 (x143001_3 + t150)))) (fun _ h_ => h_.1))) hb); have n1_ := Aside0.mk (Clo.blk_cf (g := gb142) (o := .cells #[.int .i64 (wrap64 (x143000_3 + t149)), .int .i64 (wrap64 (x143001_3 + t150)), .int .i64 x143002_2] 49 (0, 0)) (by (with_reducible repeat (first | refine blk_drewN ?_ _ | refine blk_drew ?_ | refine blk_alloc ?_ _)); refine blk_put (cs := #[.int .i64 (wrap64 (x143000_3 + t149)), .int .i64 x143001_3, .int .i64 x143002_2]) ?_ 1 _ rfl; (with_reducible repeat (first | refine blk_drewN ?_ _ | refine blk_drew ?_ | refine blk_alloc ?_ _)); refine blk_put (cs := #[.int .i64 x143000_3, .int .i64 x143001_3, .int .i64 x143002_2]) ?_ 0 _ rfl; (with_reducible repeat (first | refine blk_drewN ?_ _ | refine blk_drew ?_ | refine blk_alloc ?_ _)); exact BK142.out) hb); have n2_ := Aside0.mk (Clo.blk_cf (g := gb143) (o := .cells #[.int .i64 0, .int .i64 0, .int .i64 0] 49 (0, 0)) (by (with_reducible repeat (first | refine blk_drewN ?_ _ | refine blk_drew ?_ | refine blk_alloc ?_ _)); refine blk_far ?_ NB143_142.out _; (with_reducible repeat (first | refine blk_drewN ?_ _ | refine blk_drew ?_ | refine blk_alloc ?_ _)); refine blk_far ?_ NB143_142.out _; (with_reducible repeat (first | refine blk_drewN ?_ _ | refine blk_drew ?_ | refine blk_alloc ?_ _)); exact BK143.out) hb); have n3_ := Aside0.mk (Clo.blk_cf (g := gb148) (o := .cells #[.int .i64 ((rd_T67 t144 x21_2).f0), .int .u8 ((rd_T67 t144 x21_2).f1)] 67 (0, 0)) (by (with_reducible repeat (first | refine blk_drewN ?_ _ | refine blk_drew ?_ | refine blk_alloc ?_ _)); refine blk_far ?_ NB148_142.out _; (with_reducible repeat (first | refine blk_drewN ?_ _ | refine blk_drew ?_ | refine blk_alloc ?_ _)); refine blk_far ?_ NB148_142.out _; (with_reducible repeat (first | refine blk_drewN ?_ _ | refine blk_drew ?_ | refine blk_alloc ?_ _)); exact BK148.out) hb); have n4_ := Aside0.mk (Clo.X_cf (c := c) (w := w) (s := s_3) (by repeat (first | (with_reducible first | exact HB.out | apply Clo.X_alloc | apply Clo.X_drewN | apply Clo.X_drew1 | refine Clo.X_set ?_ GE142.out (by repeat (first | exact Clo.Typ.ofT BK142.out | exact Clo.Typ.ofP BK142.out | apply Clo.Typ.set | apply Clo.Typ.alloc | apply Clo.Typ.drewN | apply Clo.Typ.drew)) | refine Clo.X_set ?_ GE143.out (by repeat (first | exact Clo.Typ.ofT BK143.out | exact Clo.Typ.ofP BK143.out | apply Clo.Typ.set | apply Clo.Typ.alloc | apply Clo.Typ.drewN | apply Clo.Typ.drew)) | refine Clo.X_set ?_ GE148.out (by repeat (first | exact Clo.Typ.ofT BK148.out | exact Clo.Typ.ofP BK148.out | apply Clo.Typ.set | apply Clo.Typ.alloc | apply Clo.Typ.drewN | apply Clo.Typ.drew))) | exact HB.out)) hb); clear HO_19; clear BK142; clear BK143; clear BK148; clear HB; have HO_19 := n0_; have BK142 := n1_; have BK143 := n2_; have BK148 := n3_; have HB := n4_; clear n0_ n1_ n2_ n3_ n4_; (try clear hb); (try clear hb2); (try clear hk); (try clear hi)))
                        go_roundg k3
                        case measure => have := HK1.out; have := HK2.out; have := HK3.out; omega
                        case rel => exact ⟨s_4, (wrap64 (x33_3 + 1)), (wrap64 (x143000_3 + t149)), (wrap64 (x143001_3 + t150)), (by first | rfl | (simp; done) | (simp [*]; done)), H', ⟨by have := HK1.out; have := HK2.out; have := HK3.out; omega⟩, ⟨by (with_reducible repeat (first | apply Kd.R_alloc | apply Kd.R_drewN | apply Kd.R_drew)); exact HO_19.out⟩, ⟨by (with_reducible repeat (first | refine blk_drewN ?_ _ | refine blk_drew ?_ | refine blk_alloc ?_ _)); exact BK142.out⟩, ⟨by (with_reducible repeat (first | refine blk_drewN ?_ _ | refine blk_drew ?_ | refine blk_alloc ?_ _)); exact BK143.out⟩, ⟨by (with_reducible repeat (first | refine blk_drewN ?_ _ | refine blk_drew ?_ | refine blk_alloc ?_ _)); exact BK148.out⟩, ⟨by repeat (first | (with_reducible first | exact HB.out | apply Clo.X_alloc | apply Clo.X_drewN | apply Clo.X_drew1 | refine Clo.X_set ?_ GE142.out (by repeat (first | exact Clo.Typ.ofT BK142.out | exact Clo.Typ.ofP BK142.out | apply Clo.Typ.set | apply Clo.Typ.alloc | apply Clo.Typ.drewN | apply Clo.Typ.drew)) | refine Clo.X_set ?_ GE143.out (by repeat (first | exact Clo.Typ.ofT BK143.out | exact Clo.Typ.ofP BK143.out | apply Clo.Typ.set | apply Clo.Typ.alloc | apply Clo.Typ.drewN | apply Clo.Typ.drew)) | refine Clo.X_set ?_ GE148.out (by repeat (first | exact Clo.Typ.ofT BK148.out | exact Clo.Typ.ofP BK148.out | apply Clo.Typ.set | apply Clo.Typ.alloc | apply Clo.Typ.drewN | apply Clo.Typ.drew))) | exact HB.out)⟩⟩
                      · rw [if_neg c24] at H
                        have c24b0 : decide (x33_3 < ((rd_T67 t144 x21_2).f0)) = false := decide_eq_false c24
                        clear c24
                        replace H := Option.bind_eq_some_iff.mp H
                        obtain ⟨t151, A300, H⟩ := H
                        replace H : ((en s_3 x143000_3 x143001_3).bind fun sN => (impl_turtle_walkG.l1 st en k3 sN a1 a2 x16_1 t144 (t144.length : Int) (wrap64 (x21_2 + 1)) x143000_3 x143001_3 (Int.tmod (wrap64 (x143002_2 + t151)) 4))) = some (r1, r2, r3, r4) := H
                        have A30 := Aside0.mk A300
                        clear A300
                        replace H := Option.bind_eq_some_iff.mp H
                        obtain ⟨s_4, A310, H⟩ := H
                        replace H : (impl_turtle_walkG.l1 st en k3 s_4 a1 a2 x16_1 t144 (t144.length : Int) (wrap64 (x21_2 + 1)) x143000_3 x143001_3 (Int.tmod (wrap64 (x143002_2 + t151)) 4)) = some (r1, r2, r3, r4) := H
                        have A31 := Aside0.mk A310
                        clear A310
                        have H' := Aside0.mk H
                        clear H
                        try go_wp2
                        have n0_ := Aside0.mk (Kd.R_drew HO_19.out)
                        have n1_ := Aside0.mk (blk_drew BK142.out)
                        have n2_ := Aside0.mk (blk_drew BK143.out)
                        have n3_ := Aside0.mk (blk_drew BK148.out)
                        have n4_ := Aside0.mk (Clo.X_drew1 HB.out)
                        clear HO_19
                        clear BK142
                        clear BK143
                        clear BK148
                        clear HB
                        have HO_19 := n0_
                        have BK142 := n1_
                        have BK143 := n2_
                        have BK148 := n3_
                        have HB := n4_
                        clear n0_ n1_ n2_ n3_ n4_
                        refine start_ (n := 9) (S := fun w' => w'.cell? ⟨gb142, 0, none⟩ = some (.int .i64 x143000_3) ∧ w'.cell? ⟨gb142, 1, none⟩ = some (.int .i64 x143001_3) ∧ w'.cell? ⟨gb142, 2, none⟩ = some (.int .i64 x143002_2) ∧ w'.cell? ⟨gb148, 0, none⟩ = some (.int .i64 ((rd_T67 t144 x21_2).f0)) ∧ w'.cell? ⟨gb148, 1, none⟩ = some (.int .u8 ((rd_T67 t144 x21_2).f1))) (ds := [8]) #[false, false, false, false, false, false, false, false, false] (by kernel_rfl) rfl rfl ⟨(blk_cell BK142.out 0).trans rfl, (blk_cell BK142.out 1).trans rfl, (blk_cell BK142.out 2).trans rfl, (blk_cell BK148.out 0).trans rfl, (blk_cell BK148.out 1).trans rfl⟩ (fun hHeld => ?_); refine with_tabW impl_turtle_walkG.tab12 impl_turtle_walkG.bits12 (fun HT_ HW_ => ?_)
                        generalize wr.drew = w32 at HO_19 BK142 BK143 BK148 HB hHeld ⊢
                        refine pure_ (i := 0) (N := some 54) (v := ?_) (a' := ?_) #[true, false, false, false, false, false, false, false, false] rfl rfl (any_of HT_.out (by kernel_rfl)) (fun _ _ _ h => h) (Or.inl ⟨by rfl, ?_⟩) ?_ ?_
                        rotate_left
                        · intro w'
                          go_simp
                          with_reducible rfl
                        rotate_left
                        · simp only [Act.put, List.setIfInBounds_toArray, List.set_cons_zero, List.set_cons_succ, i64_w, i32_w]
                          rfl
                        refine pure_ (i := 2) (N := some 56) (v := ?_) (a' := ?_) #[true, false, true, false, false, false, false, false, false] rfl rfl (any_of HT_.out (by kernel_rfl)) (fun _ _ _ h => h) (Or.inl ⟨by rfl, ?_⟩) ?_ ?_
                        rotate_left
                        · intro w'
                          go_simp
                          with_reducible rfl
                        rotate_left
                        · simp only [Act.put, List.setIfInBounds_toArray, List.set_cons_zero, List.set_cons_succ, i64_w, i32_w]
                          rfl
                        refine take_ (i := 1) (N := some 55) (v := ?_) (a' := ?_) #[true, true, true, false, false, false, false, false, false] rfl rfl (take_ofW HT_.out HW_.out (by kernel_rfl)) (fun _ _ _ h => h) (Or.inl ⟨by rfl, ?_⟩) hHeld ?_ ?_
                        rotate_left
                        · rintro w' ⟨s0, s1, s2, s3, s4⟩
                          go_simp
                          with_reducible rfl
                        rotate_left
                        · simp only [Act.put, List.setIfInBounds_toArray, List.set_cons_zero, List.set_cons_succ, i64_w, i32_w]
                          rfl
                        refine take_ (i := 3) (N := some 57) (v := ?_) (a' := ?_) #[true, true, true, true, false, false, false, false, false] rfl rfl (take_ofW HT_.out HW_.out (by kernel_rfl)) (fun _ _ _ h => h) (Or.inl ⟨by rfl, ?_⟩) hHeld ?_ ?_
                        rotate_left
                        · rintro w' ⟨s0, s1, s2, s3, s4⟩
                          go_simp
                          with_reducible rfl
                        rotate_left
                        · simp only [Act.put, List.setIfInBounds_toArray, List.set_cons_zero, List.set_cons_succ, i64_w, i32_w]
                          rfl
                        refine one_ (i := 4) (N := some 58) #[true, true, true, true, true, false, false, false, false] rfl rfl (one_of HT_.out (by kernel_rfl)) (by decide) (fun K hK => ?_)
                        refine goes_ Try.func36 (by kernel_rfl) rfl #[.int .u8 ((rd_T67 t144 x21_2).f1)] (by rfl) rfl rfl (by (try simp only [List.map_toArray, List.map_cons, List.map_nil]); first | done | rfl | (simp only [List.length_drop, List.length_take]; rfl)) ?_
                        with_reducible refine (impl_quarters.calls ((rd_T67 t144 x21_2).f1) t151 _ A30.out).mono ?_
                        rintro e w' ⟨rfl, ⟨nd, rfl⟩⟩
                        refine ⟨_, rfl, ?_⟩
                        refine hK.out _ _ ⟨(blk_cell BK142.out 0).trans rfl, (blk_cell BK142.out 1).trans rfl, (blk_cell BK142.out 2).trans rfl, (blk_cell BK148.out 0).trans rfl, (blk_cell BK148.out 1).trans rfl⟩ (fun hHeld => ?_)
                        clear hK K
                        refine norm_ (a' := ?_) ?_ ?_
                        rotate_left
                        · show Act.put _ (some 58) _ = _
                          simp only [Act.put, List.setIfInBounds_toArray, List.set_cons_zero, List.set_cons_succ, i64_w, i32_w]
                          rfl
                        refine pure_ (i := 5) (N := some 59) (v := ?_) (a' := ?_) #[true, true, true, true, true, true, false, false, false] rfl rfl (any_of HT_.out (by kernel_rfl)) (fun _ _ _ h => h) (Or.inl ⟨by rfl, ?_⟩) ?_ ?_
                        rotate_left
                        · intro w'
                          go_simp
                          with_reducible rfl
                        rotate_left
                        · simp only [Act.put, List.setIfInBounds_toArray, List.set_cons_zero, List.set_cons_succ, i64_w, i32_w]
                          rfl
                        refine pure_ (i := 6) (N := some 60) (v := ?_) (a' := ?_) #[true, true, true, true, true, true, true, false, false] rfl rfl (any_of HT_.out (by kernel_rfl)) (fun _ _ _ h => h) (Or.inl ⟨by rfl, ?_⟩) ?_ ?_
                        rotate_left
                        · intro w'
                          go_simp
                          with_reducible rfl
                        rotate_left
                        · simp only [Act.put, List.setIfInBounds_toArray, List.set_cons_zero, List.set_cons_succ, i64_w, i32_w]
                          rfl
                        refine pure_ (i := 7) (N := some 61) (v := ?_) (a' := ?_) #[true, true, true, true, true, true, true, true, false] rfl rfl (any_of HT_.out (by kernel_rfl)) (fun _ _ _ h => h) (Or.inl ⟨by rfl, ?_⟩) ?_ ?_
                        rotate_left
                        · intro w'
                          go_simp
                          with_reducible rfl
                        rotate_left
                        · simp only [Act.put, List.setIfInBounds_toArray, List.set_cons_zero, List.set_cons_succ, i64_w, i32_w]
                          rfl
                        refine last_ (i := 8) (N := none) #[true, true, true, true, true, true, true, true, true] rfl rfl (one_of HT_.out (by kernel_rfl)) (by decide) (fun K hK => ?_)
                        have hs33 : w32.cell? ⟨gb142, 2, none⟩ = some (.int .i64 x143002_2) := (blk_cell BK142.out 2).trans rfl
                        have hfs33 := blk_frozen BK142.out 2
                        have hns33_1 := NB143_142.out
                        have hns33_2 := NB148_142.out
                        have hms33_1 := NB142_143.out
                        have hms33_2 := NB142_148.out
                        refine skip_ (w1 := ?_) (by rfl) rfl ?_ ?_
                        rotate_left
                        · go_simp
                          rfl
                        refine hK.out _ _ ?_
                        clear hK K
                        refine done_ (done_of HT_.out (by kernel_rfl)) ?_
                        have hnb34 := NB142_143.out
                        have hnc34 := NB143_142.out
                        have hnb35 := NB142_148.out
                        have hnc35 := NB148_142.out
                        have hcz36_0 : w32.cell? ⟨gb142, 0, none⟩ = some (.int .i64 x143000_3) := (blk_cell BK142.out 0).trans rfl
                        have hcz36_1 : w32.cell? ⟨gb142, 1, none⟩ = some (.int .i64 x143001_3) := (blk_cell BK142.out 1).trans rfl
                        have hcz36_2 : w32.cell? ⟨gb142, 2, none⟩ = some (.int .i64 x143002_2) := (blk_cell BK142.out 2).trans rfl
                        have hfz36_0 := blk_frozen BK142.out 0
                        have hfz36_1 := blk_frozen BK142.out 1
                        have hfz36_2 := blk_frozen BK142.out 2
                        try go_wp2_with (first | (go_at_fn g2; (refine (hc2.out s_3 s_4 x143000_3 x143001_3 _ (by repeat (first | (with_reducible first | exact HB.out | apply Clo.X_alloc | apply Clo.X_drewN | apply Clo.X_drew1 | refine Clo.X_set ?_ GE142.out (by repeat (first | exact Clo.Typ.ofT BK142.out | exact Clo.Typ.ofP BK142.out | apply Clo.Typ.set | apply Clo.Typ.alloc | apply Clo.Typ.drewN | apply Clo.Typ.drew)) | refine Clo.X_set ?_ GE143.out (by repeat (first | exact Clo.Typ.ofT BK143.out | exact Clo.Typ.ofP BK143.out | apply Clo.Typ.set | apply Clo.Typ.alloc | apply Clo.Typ.drewN | apply Clo.Typ.drew)) | refine Clo.X_set ?_ GE148.out (by repeat (first | exact Clo.Typ.ofT BK148.out | exact Clo.Typ.ofP BK148.out | apply Clo.Typ.set | apply Clo.Typ.alloc | apply Clo.Typ.drewN | apply Clo.Typ.drew))) | exact HB.out)) A31.out).mono ?_); rintro e w37 ⟨rfl, hb⟩; have n0_ := Aside0.mk (Clo.R_cf (by (with_reducible repeat (first | apply Kd.R_alloc | apply Kd.R_drewN | apply Kd.R_drew)); exact (Kd.R_mono (Kd.R_far (p := ⟨gb142, 2, none⟩) (Kd.R_types HO_19.out BK142.out (by decide)) (fun _ hk => hk.2) (.int .i64 (Int.tmod (wrap64 (x143002_2 + t151)) 4))) (fun _ h_ => h_.1))) hb); have n1_ := Aside0.mk (Clo.blk_cf (g := gb142) (o := .cells #[.int .i64 x143000_3, .int .i64 x143001_3, .int .i64 (Int.tmod (wrap64 (x143002_2 + t151)) 4)] 49 (0, 0)) (by (with_reducible repeat (first | refine blk_drewN ?_ _ | refine blk_drew ?_ | refine blk_alloc ?_ _)); refine blk_put (cs := #[.int .i64 x143000_3, .int .i64 x143001_3, .int .i64 x143002_2]) ?_ 2 _ rfl; (with_reducible repeat (first | refine blk_drewN ?_ _ | refine blk_drew ?_ | refine blk_alloc ?_ _)); exact BK142.out) hb); have n2_ := Aside0.mk (Clo.blk_cf (g := gb143) (o := .cells #[.int .i64 0, .int .i64 0, .int .i64 0] 49 (0, 0)) (by (with_reducible repeat (first | refine blk_drewN ?_ _ | refine blk_drew ?_ | refine blk_alloc ?_ _)); refine blk_far ?_ NB143_142.out _; (with_reducible repeat (first | refine blk_drewN ?_ _ | refine blk_drew ?_ | refine blk_alloc ?_ _)); exact BK143.out) hb); have n3_ := Aside0.mk (Clo.blk_cf (g := gb148) (o := .cells #[.int .i64 ((rd_T67 t144 x21_2).f0), .int .u8 ((rd_T67 t144 x21_2).f1)] 67 (0, 0)) (by (with_reducible repeat (first | refine blk_drewN ?_ _ | refine blk_drew ?_ | refine blk_alloc ?_ _)); refine blk_far ?_ NB148_142.out _; (with_reducible repeat (first | refine blk_drewN ?_ _ | refine blk_drew ?_ | refine blk_alloc ?_ _)); exact BK148.out) hb); have n4_ := Aside0.mk (Clo.X_cf (c := c) (w := w) (s := s_3) (by repeat (first | (with_reducible first | exact HB.out | apply Clo.X_alloc | apply Clo.X_drewN | apply Clo.X_drew1 | refine Clo.X_set ?_ GE142.out (by repeat (first | exact Clo.Typ.ofT BK142.out | exact Clo.Typ.ofP BK142.out | apply Clo.Typ.set | apply Clo.Typ.alloc | apply Clo.Typ.drewN | apply Clo.Typ.drew)) | refine Clo.X_set ?_ GE143.out (by repeat (first | exact Clo.Typ.ofT BK143.out | exact Clo.Typ.ofP BK143.out | apply Clo.Typ.set | apply Clo.Typ.alloc | apply Clo.Typ.drewN | apply Clo.Typ.drew)) | refine Clo.X_set ?_ GE148.out (by repeat (first | exact Clo.Typ.ofT BK148.out | exact Clo.Typ.ofP BK148.out | apply Clo.Typ.set | apply Clo.Typ.alloc | apply Clo.Typ.drewN | apply Clo.Typ.drew))) | exact HB.out)) hb); clear HO_19; clear BK142; clear BK143; clear BK148; clear HB; have HO_19 := n0_; have BK142 := n1_; have BK143 := n2_; have BK148 := n3_; have HB := n4_; clear n0_ n1_ n2_ n3_ n4_; (try clear hb); (try clear hb2); (try clear hk); (try clear hi)))
                        go_roundg k3
                        case measure => have := HK1.out; have := HK2.out; have := HK3.out; omega
                        case rel => exact ⟨s_4, (wrap64 (x21_2 + 1)), (x143000_3), (x143001_3), (Int.tmod (wrap64 (x143002_2 + t151)) 4), (by first | rfl | (simp; done) | (simp [*]; done)), H', ⟨by have := HK1.out; have := HK2.out; have := HK3.out; omega⟩, ⟨by (with_reducible repeat (first | apply Kd.R_alloc | apply Kd.R_drewN | apply Kd.R_drew)); exact Kd.R_mono HO_19.out (fun _ hk => trivial)⟩, ⟨by (with_reducible repeat (first | refine blk_drewN ?_ _ | refine blk_drew ?_ | refine blk_alloc ?_ _)); exact BK142.out⟩, ⟨by (with_reducible repeat (first | refine blk_drewN ?_ _ | refine blk_drew ?_ | refine blk_alloc ?_ _)); exact BK143.out⟩, ⟨by repeat (first | (with_reducible first | exact HB.out | apply Clo.X_alloc | apply Clo.X_drewN | apply Clo.X_drew1 | refine Clo.X_set ?_ GE142.out (by repeat (first | exact Clo.Typ.ofT BK142.out | exact Clo.Typ.ofP BK142.out | apply Clo.Typ.set | apply Clo.Typ.alloc | apply Clo.Typ.drewN | apply Clo.Typ.drew)) | refine Clo.X_set ?_ GE143.out (by repeat (first | exact Clo.Typ.ofT BK143.out | exact Clo.Typ.ofP BK143.out | apply Clo.Typ.set | apply Clo.Typ.alloc | apply Clo.Typ.drewN | apply Clo.Typ.drew)) | refine Clo.X_set ?_ GE148.out (by repeat (first | exact Clo.Typ.ofT BK148.out | exact Clo.Typ.ofP BK148.out | apply Clo.Typ.set | apply Clo.Typ.alloc | apply Clo.Typ.drewN | apply Clo.Typ.drew))) | exact HB.out)⟩⟩
                · rw [if_neg c14] at H
                  exact absurd H (by simp)
              · rw [if_neg c13] at H
                exact absurd H (by simp)
            · rw [if_neg c12] at H
              have c12b0 : decide (x21_2 < (t144.length : Int)) = false := decide_eq_false c12
              clear c12
              have H' := Aside0.mk H
              clear H
              go_wp2
              go_roundg k2
              case measure => have := HK1.out; have := HK2.out; omega
              case rel => exact ⟨s_2, (wrap64 (x16_1 + 1)), (x143000_2), (x143001_2), (x143002_2), (by first | rfl | (simp; done) | (simp [*]; done)), H', ⟨by have := HK1.out; have := HK2.out; omega⟩, ⟨by (with_reducible repeat (first | refine blk_drewN ?_ _ | refine blk_drew ?_ | refine blk_alloc ?_ _)); exact BK142.out⟩, ⟨by (with_reducible repeat (first | refine blk_drewN ?_ _ | refine blk_drew ?_ | refine blk_alloc ?_ _)); exact BK143.out⟩, ⟨by repeat (first | (with_reducible first | exact HB.out | apply Clo.X_alloc | apply Clo.X_drewN | apply Clo.X_drew1 | refine Clo.X_set ?_ GE142.out (by repeat (first | exact Clo.Typ.ofT BK142.out | exact Clo.Typ.ofP BK142.out | apply Clo.Typ.set | apply Clo.Typ.alloc | apply Clo.Typ.drewN | apply Clo.Typ.drew)) | refine Clo.X_set ?_ GE143.out (by repeat (first | exact Clo.Typ.ofT BK143.out | exact Clo.Typ.ofP BK143.out | apply Clo.Typ.set | apply Clo.Typ.alloc | apply Clo.Typ.drewN | apply Clo.Typ.drew))) | exact HB.out)⟩⟩
      · rw [if_neg c8] at H
        have c8b0 : decide (x16_1 < a2) = false := decide_eq_false c8
        clear c8
        simp only [Option.some.injEq, Prod.mk.injEq] at H
        obtain ⟨rfl, rfl, rfl, rfl⟩ := H
        have hnb38 := NB142_143.out
        have hnc38 := NB143_142.out
        have hcz39_0 : wr.cell? ⟨gb142, 0, none⟩ = some (.int .i64 x143000_1) := (blk_cell BK142.out 0).trans rfl
        have hcz39_1 : wr.cell? ⟨gb142, 1, none⟩ = some (.int .i64 x143001_1) := (blk_cell BK142.out 1).trans rfl
        have hcz39_2 : wr.cell? ⟨gb142, 2, none⟩ = some (.int .i64 x143002_1) := (blk_cell BK142.out 2).trans rfl
        have hfz39_0 := blk_frozen BK142.out 0
        have hfz39_1 := blk_frozen BK142.out 1
        have hfz39_2 := blk_frozen BK142.out 2
        have hcz40_0 : wr.cell? ⟨gb143, 0, none⟩ = some (.int .i64 0) := (blk_cell BK143.out 0).trans rfl
        have hcz40_1 : wr.cell? ⟨gb143, 1, none⟩ = some (.int .i64 0) := (blk_cell BK143.out 1).trans rfl
        have hcz40_2 : wr.cell? ⟨gb143, 2, none⟩ = some (.int .i64 0) := (blk_cell BK143.out 2).trans rfl
        have hfz40_0 := blk_frozen BK143.out 0
        have hfz40_1 := blk_frozen BK143.out 1
        have hfz40_2 := blk_frozen BK143.out 2
        go_wp2
        refine bodyPost_ret (results_cell_row rfl _ _ gb143 49 #[.int .i64 x143000_1, .int .i64 x143001_1, .int .i64 x143002_1] (0, 0) _ rfl (by (with_reducible repeat (first | refine blk_drewN ?_ _ | refine blk_drew ?_ | refine blk_alloc ?_ _)); refine blk_put (cs := #[.int .i64 x143000_1, .int .i64 x143001_1, .int .i64 0]) ?_ 2 _ rfl; (with_reducible repeat (first | refine blk_drewN ?_ _ | refine blk_drew ?_ | refine blk_alloc ?_ _)); refine blk_put (cs := #[.int .i64 x143000_1, .int .i64 0, .int .i64 0]) ?_ 1 _ rfl; (with_reducible repeat (first | refine blk_drewN ?_ _ | refine blk_drew ?_ | refine blk_alloc ?_ _)); refine blk_put (cs := #[.int .i64 0, .int .i64 0, .int .i64 0]) ?_ 0 _ rfl; (with_reducible repeat (first | refine blk_drewN ?_ _ | refine blk_drew ?_ | refine blk_alloc ?_ _)); exact BK143.out) Try.underlying49 rfl (by kernel_rfl)) rfl ?_
        exact ⟨by first | rfl | (simp [errW_none, errW_some] <;> rfl) | (simp [*, errW_none, errW_some] <;> rfl), by repeat (first | (with_reducible first | exact HB.out | apply Clo.X_alloc | apply Clo.X_drewN | apply Clo.X_drew1 | refine Clo.X_set ?_ GE142.out (by repeat (first | exact Clo.Typ.ofT BK142.out | exact Clo.Typ.ofP BK142.out | apply Clo.Typ.set | apply Clo.Typ.alloc | apply Clo.Typ.drewN | apply Clo.Typ.drew)) | refine Clo.X_set ?_ GE143.out (by repeat (first | exact Clo.Typ.ofT BK143.out | exact Clo.Typ.ofP BK143.out | apply Clo.Typ.set | apply Clo.Typ.alloc | apply Clo.Typ.drewN | apply Clo.Typ.drew))) | exact HB.out)⟩
/-! nothing, beside whatever another closure keeps -/
theorem Clo.steps_nothing {σ : Type} (c : Clo σ) (w : World) : Clo.Steps Try.prog c w (fun s _ _ => some s) 25 #[] := by
  intro s s' x y W hX hs
  cases hs
  rw [Array.append_empty]
  refine (impl_nothing.calls x y W rfl).mono ?_
  rintro e W' ⟨rfl, hb⟩
  exact ⟨rfl, ⟨(Clo.X_step hX hb).1, hb.os, hb.tape, hb.output, hb.size, fun k hk _ => hb.block k (Nat.lt_of_lt_of_le hk hX.2.size), fun k o ho _ => blk_below ho hb⟩⟩
/-! with nothing at each step and at each part's end -/
def impl_turtle_walk.nil : Clo Unit := ⟨fun _ _ => True, fun _ => False, fun _ _ _ h _ _ => h⟩
theorem impl_turtle_walk.steps (w : World) : Clo.Steps Try.prog impl_turtle_walk.nil w (fun _ _ _ => some ()) 25 #[] := by
  intro s s' x y W hX _
  rw [Array.append_empty]
  refine (impl_nothing.calls x y W rfl).mono ?_
  rintro e W' ⟨rfl, hb⟩
  exact ⟨rfl, ⟨trivial, hb.os, hb.tape, hb.output, hb.size, fun k hk _ => hb.block k (Nat.lt_of_lt_of_le hk hX.2.size), fun k o ho _ => blk_below ho hb⟩⟩
def impl_turtle_walk.f (k : Nat) (a0_0 : Int) (a0_1 : Int) (a0_2 : Int) (a1 : ByteArray) (a2 : Int) (a3 : Int) (a4 : Int) : Option (Int × Int × Int) := (impl_turtle_walkG.f (fun _ _ _ => some ()) (fun _ _ _ => some ()) k () a0_0 a0_1 a0_2 a1 a2).bind fun r => some (r.1, r.2.1, r.2.2.1)
theorem impl_turtle_walk.mono : ∀ a0 a1 a2 a3 a4 a5 a6 k, LeO (impl_turtle_walk.f k a0 a1 a2 a3 a4 a5 a6) (impl_turtle_walk.f (k + 1) a0 a1 a2 a3 a4 a5 a6) := fun _ _ _ _ _ _ _ _ => LeO.bind (impl_turtle_walkG.mono _ _ _ _ _ _ _ _ _) (fun _ => LeO.refl _)
theorem impl_turtle_walk.calls (k : Nat) (a0_0 : Int) (a0_1 : Int) (a0_2 : Int) (a1 : ByteArray) (a2 : Int) (a3 : Int) (a4 : Int) (r1 : Int) (r2 : Int) (r3 : Int) (w : World) (h : impl_turtle_walk.f k a0_0 a0_1 a0_2 a1 a2 a3 a4 = some (r1, r2, r3)) :
    Calls Try.prog 23 #[.agg #[.int .i64 a0_0, .int .i64 a0_1, .int .i64 a0_2], .string a1, .int .i64 a2, .func (.func 25) #[] #[], .func (.func 25) #[] #[]] w fun e w' => e = .returned (.agg #[.int .i64 r1, .int .i64 r2, .int .i64 r3]) ∧ Below w.heap.size w w' := by
  obtain ⟨⟨q1, q2, q3, q4⟩, hq, h⟩ := Option.bind_eq_some_iff.mp h
  simp only [Option.some.injEq, Prod.mk.injEq] at h
  obtain ⟨rfl, rfl, rfl⟩ := h
  have eg : ∀ args w, (callFunc 25 args).run Try.prog w = .ok (.enter 25 args) w := Go.Proofs.enters_of Try.func25 (by kernel_rfl) rfl
  refine (impl_turtle_walkG.calls impl_turtle_walk.nil (fun _ _ _ => some ()) (fun _ _ _ => some ()) 25 25 #[] #[] eg eg w ⟨impl_turtle_walk.steps w⟩ ⟨impl_turtle_walk.steps w⟩ k () ⟨trivial, ⟨rfl, rfl, rfl, Nat.le_refl _, fun _ _ _ => rfl⟩⟩ a0_0 a0_1 a0_2 a1 a2 q1 q2 q3 q4 hq).mono ?_
  rintro e w' ⟨rfl, hX⟩
  exact ⟨rfl, ⟨hX.2.os, hX.2.tape, hX.2.output, hX.2.size, fun i hi => hX.2.block i hi (fun h => h)⟩⟩

end Go.Proofs.Ytklnfjjpjkphiaa.PD
