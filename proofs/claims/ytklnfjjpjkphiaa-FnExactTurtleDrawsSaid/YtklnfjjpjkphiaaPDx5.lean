-- Printed for this claim by gprint.py, a program of this session round the kit's printer. Lean checks it.
import Derived.Test.YtklnfjjpjkphiaaPDx0
import Derived.Test.YtklnfjjpjkphiaaPDx1
import Derived.Test.YtklnfjjpjkphiaaPDx2
import Derived.Test.YtklnfjjpjkphiaaPDx3
import Derived.Test.YtklnfjjpjkphiaaPDx4
namespace Go.Proofs.Ytklnfjjpjkphiaa.PD
open Go.RowKit Go.Proofs.YtklnfjjpjkphiaaW.PrintWords Go.Proofs.YtklnfjjpjkphiaaW.PrintLast Go.Proofs.YtklnfjjpjkphiaaW.PrintMore
attribute [local go_sem] max2_int min2_int max_two min_two max_three min_three max_four min_four   -- for this text's walks alone
set_option linter.unusedVariables false
set_option linter.unusedSimpArgs false

/-! ### spec_TurtleDraws: function 4 -/
mutual
def spec_TurtleDraws.j0 : Nat → List (List Int) → List Int → Bool → Option (ByteArray × Bool)
  | 0, _, _, _ => none
  | k + 1, x6, x8, x45 => if x45 = true then (some ((⟨#[]⟩ : ByteArray), false)) else (if 2 < (x8.length : Int) then (spec_TurtleDraws.l0 k x6 x8 (⟨#[]⟩ : ByteArray) (rd x8 2)) else (none))
def spec_TurtleDraws.l0 : Nat → List (List Int) → List Int → ByteArray → Int → Option (ByteArray × Bool)
  | 0, _, _, _, _ => none
  | k + 1, x6, x8, x9, x10 => if 3 < (x8.length : Int) then (if x10 ≤ (rd x8 3) then (if 2 < (x8.length : Int) then (if x10 > (rd x8 2) then (if x9.size + 1 ≤ 9223372036854775807 then (spec_TurtleDraws.j2 k x6 x8 (x9 ++ (⟨#[47]⟩ : ByteArray)) x10) else (none)) else (spec_TurtleDraws.j2 k x6 x8 x9 x10)) else (none)) else (some (x9, true))) else (none)
def spec_TurtleDraws.j2 : Nat → List (List Int) → List Int → ByteArray → Int → Option (ByteArray × Bool)
  | 0, _, _, _, _ => none
  | k + 1, x6, x8, x9, x10 => if 0 < (x8.length : Int) then (spec_TurtleDraws.l1 k x6 x8 x9 x10 (rd x8 0)) else (none)
def spec_TurtleDraws.l1 : Nat → List (List Int) → List Int → ByteArray → Int → Int → Option (ByteArray × Bool)
  | 0, _, _, _, _, _ => none
  | k + 1, x6, x8, x9, x10, x11 => if 1 < (x8.length : Int) then (if x11 ≤ (rd x8 1) then (spec_TurtleDraws.l2 k x6 x8 x9 x10 x11 (⟨#[46]⟩ : ByteArray) x6 (x6.length : Int) 0) else (spec_TurtleDraws.l0 k x6 x8 x9 (wrap64 (x10 + 1)))) else (none)
def spec_TurtleDraws.l2 : Nat → List (List Int) → List Int → ByteArray → Int → Int → ByteArray → List (List Int) → Int → Int → Option (ByteArray × Bool)
  | 0, _, _, _, _, _, _, _, _, _ => none
  | k + 1, x6, x8, x9, x10, x11, x12, x73, x74, x75 => if x75 < x74 then (if 0 ≤ x75 then (if x75 < (x73.length : Int) then (if 0 < ((rd_L1 x73 x75).length : Int) then (if (rd (rd_L1 x73 x75) 0) = x11 then (if 1 < ((rd_L1 x73 x75).length : Int) then (if (rd (rd_L1 x73 x75) 1) = x10 then (spec_TurtleDraws.l2 k x6 x8 x9 x10 x11 (⟨#[35]⟩ : ByteArray) x73 x74 (wrap64 (x75 + 1))) else (spec_TurtleDraws.l2 k x6 x8 x9 x10 x11 x12 x73 x74 (wrap64 (x75 + 1)))) else (none)) else (spec_TurtleDraws.l2 k x6 x8 x9 x10 x11 x12 x73 x74 (wrap64 (x75 + 1)))) else (none)) else (none)) else (none)) else (if x9.size + x12.size ≤ 9223372036854775807 then (spec_TurtleDraws.l1 k x6 x8 (x9 ++ x12) x10 (wrap64 (x11 + 1))) else (none))
end
def spec_TurtleDraws.f (k : Nat) (a0 : ByteArray) (a1 : Int) : Option (ByteArray × Bool) := (spec_tuShort.f k a0 a1).bind fun t172 => (if t172 = true then ((spec_tuSteps.f k a0 a1).bind fun t173 => ((spec_tuOnce.f k t173).bind fun bt176 => ((spec_tuBox.f k bt176.1).bind fun t180 => (if 1 < (t180.length : Int) then (if 0 < (t180.length : Int) then (if (wrap64 ((rd t180 1) - (rd t180 0))) ≥ 60 then (spec_TurtleDraws.j0 k bt176.1 t180 true) else (if 3 < (t180.length : Int) then (if 2 < (t180.length : Int) then (spec_TurtleDraws.j0 k bt176.1 t180 (decide ((wrap64 ((rd t180 3) - (rd t180 2))) ≥ 60))) else (none)) else (none))) else (none)) else (none))))) else (some ((⟨#[]⟩ : ByteArray), false)))
theorem spec_TurtleDraws.mono_l : ∀ k, (∀ y0 y1 y2, LeO (spec_TurtleDraws.j0 k y0 y1 y2) (spec_TurtleDraws.j0 (k + 1) y0 y1 y2)) ∧ (∀ y0 y1 y2 y3, LeO (spec_TurtleDraws.l0 k y0 y1 y2 y3) (spec_TurtleDraws.l0 (k + 1) y0 y1 y2 y3)) ∧ (∀ y0 y1 y2 y3, LeO (spec_TurtleDraws.j2 k y0 y1 y2 y3) (spec_TurtleDraws.j2 (k + 1) y0 y1 y2 y3)) ∧ (∀ y0 y1 y2 y3 y4, LeO (spec_TurtleDraws.l1 k y0 y1 y2 y3 y4) (spec_TurtleDraws.l1 (k + 1) y0 y1 y2 y3 y4)) ∧ (∀ y0 y1 y2 y3 y4 y5 y6 y7 y8, LeO (spec_TurtleDraws.l2 k y0 y1 y2 y3 y4 y5 y6 y7 y8) (spec_TurtleDraws.l2 (k + 1) y0 y1 y2 y3 y4 y5 y6 y7 y8))
  | 0 => ⟨fun _ _ _ r h => by simp [spec_TurtleDraws.j0] at h, fun _ _ _ _ r h => by simp [spec_TurtleDraws.l0] at h, fun _ _ _ _ r h => by simp [spec_TurtleDraws.j2] at h, fun _ _ _ _ _ r h => by simp [spec_TurtleDraws.l1] at h, fun _ _ _ _ _ _ _ _ _ r h => by simp [spec_TurtleDraws.l2] at h⟩
  | k + 1 => by
    obtain ⟨ih0, ih1, ih2, ih3, ih4⟩ := spec_TurtleDraws.mono_l k
    refine ⟨?_, ?_, ?_, ?_, ?_⟩
    · intro y0 y1 y2
      unfold spec_TurtleDraws.j0
      repeat' first
      | (with_reducible exact ih0 _ _ _)
      | (with_reducible exact ih1 _ _ _ _)
      | (with_reducible exact ih2 _ _ _ _)
      | (with_reducible exact ih3 _ _ _ _ _)
      | (with_reducible exact ih4 _ _ _ _ _ _ _ _ _)
      | (with_reducible exact spec_tuBox.mono _ _)
      | (with_reducible exact spec_tuOnce.mono _ _)
      | (with_reducible exact spec_tuShort.mono _ _ _)
      | (with_reducible exact spec_tuSteps.mono _ _ _)
      | (with_reducible exact LeO.refl _)
      | (with_reducible exact LeO.none _)
      | (with_reducible refine LeO.ite ?_ ?_)
      | (with_reducible refine LeO.bind ?_ (fun _ => ?_))
      | exact ih0 _ _ _
      | exact ih1 _ _ _ _
      | exact ih2 _ _ _ _
      | exact ih3 _ _ _ _ _
      | exact ih4 _ _ _ _ _ _ _ _ _
      | exact spec_tuBox.mono _ _
      | exact spec_tuOnce.mono _ _
      | exact spec_tuShort.mono _ _ _
      | exact spec_tuSteps.mono _ _ _
      | exact LeO.none _
      | refine LeO.ite ?_ ?_
      | refine LeO.bind ?_ (fun _ => ?_)
    · intro y0 y1 y2 y3
      unfold spec_TurtleDraws.l0
      repeat' first
      | (with_reducible exact ih0 _ _ _)
      | (with_reducible exact ih1 _ _ _ _)
      | (with_reducible exact ih2 _ _ _ _)
      | (with_reducible exact ih3 _ _ _ _ _)
      | (with_reducible exact ih4 _ _ _ _ _ _ _ _ _)
      | (with_reducible exact spec_tuBox.mono _ _)
      | (with_reducible exact spec_tuOnce.mono _ _)
      | (with_reducible exact spec_tuShort.mono _ _ _)
      | (with_reducible exact spec_tuSteps.mono _ _ _)
      | (with_reducible exact LeO.refl _)
      | (with_reducible exact LeO.none _)
      | (with_reducible refine LeO.ite ?_ ?_)
      | (with_reducible refine LeO.bind ?_ (fun _ => ?_))
      | exact ih0 _ _ _
      | exact ih1 _ _ _ _
      | exact ih2 _ _ _ _
      | exact ih3 _ _ _ _ _
      | exact ih4 _ _ _ _ _ _ _ _ _
      | exact spec_tuBox.mono _ _
      | exact spec_tuOnce.mono _ _
      | exact spec_tuShort.mono _ _ _
      | exact spec_tuSteps.mono _ _ _
      | exact LeO.none _
      | refine LeO.ite ?_ ?_
      | refine LeO.bind ?_ (fun _ => ?_)
    · intro y0 y1 y2 y3
      unfold spec_TurtleDraws.j2
      repeat' first
      | (with_reducible exact ih0 _ _ _)
      | (with_reducible exact ih1 _ _ _ _)
      | (with_reducible exact ih2 _ _ _ _)
      | (with_reducible exact ih3 _ _ _ _ _)
      | (with_reducible exact ih4 _ _ _ _ _ _ _ _ _)
      | (with_reducible exact spec_tuBox.mono _ _)
      | (with_reducible exact spec_tuOnce.mono _ _)
      | (with_reducible exact spec_tuShort.mono _ _ _)
      | (with_reducible exact spec_tuSteps.mono _ _ _)
      | (with_reducible exact LeO.refl _)
      | (with_reducible exact LeO.none _)
      | (with_reducible refine LeO.ite ?_ ?_)
      | (with_reducible refine LeO.bind ?_ (fun _ => ?_))
      | exact ih0 _ _ _
      | exact ih1 _ _ _ _
      | exact ih2 _ _ _ _
      | exact ih3 _ _ _ _ _
      | exact ih4 _ _ _ _ _ _ _ _ _
      | exact spec_tuBox.mono _ _
      | exact spec_tuOnce.mono _ _
      | exact spec_tuShort.mono _ _ _
      | exact spec_tuSteps.mono _ _ _
      | exact LeO.none _
      | refine LeO.ite ?_ ?_
      | refine LeO.bind ?_ (fun _ => ?_)
    · intro y0 y1 y2 y3 y4
      unfold spec_TurtleDraws.l1
      repeat' first
      | (with_reducible exact ih0 _ _ _)
      | (with_reducible exact ih1 _ _ _ _)
      | (with_reducible exact ih2 _ _ _ _)
      | (with_reducible exact ih3 _ _ _ _ _)
      | (with_reducible exact ih4 _ _ _ _ _ _ _ _ _)
      | (with_reducible exact spec_tuBox.mono _ _)
      | (with_reducible exact spec_tuOnce.mono _ _)
      | (with_reducible exact spec_tuShort.mono _ _ _)
      | (with_reducible exact spec_tuSteps.mono _ _ _)
      | (with_reducible exact LeO.refl _)
      | (with_reducible exact LeO.none _)
      | (with_reducible refine LeO.ite ?_ ?_)
      | (with_reducible refine LeO.bind ?_ (fun _ => ?_))
      | exact ih0 _ _ _
      | exact ih1 _ _ _ _
      | exact ih2 _ _ _ _
      | exact ih3 _ _ _ _ _
      | exact ih4 _ _ _ _ _ _ _ _ _
      | exact spec_tuBox.mono _ _
      | exact spec_tuOnce.mono _ _
      | exact spec_tuShort.mono _ _ _
      | exact spec_tuSteps.mono _ _ _
      | exact LeO.none _
      | refine LeO.ite ?_ ?_
      | refine LeO.bind ?_ (fun _ => ?_)
    · intro y0 y1 y2 y3 y4 y5 y6 y7 y8
      unfold spec_TurtleDraws.l2
      repeat' first
      | (with_reducible exact ih0 _ _ _)
      | (with_reducible exact ih1 _ _ _ _)
      | (with_reducible exact ih2 _ _ _ _)
      | (with_reducible exact ih3 _ _ _ _ _)
      | (with_reducible exact ih4 _ _ _ _ _ _ _ _ _)
      | (with_reducible exact spec_tuBox.mono _ _)
      | (with_reducible exact spec_tuOnce.mono _ _)
      | (with_reducible exact spec_tuShort.mono _ _ _)
      | (with_reducible exact spec_tuSteps.mono _ _ _)
      | (with_reducible exact LeO.refl _)
      | (with_reducible exact LeO.none _)
      | (with_reducible refine LeO.ite ?_ ?_)
      | (with_reducible refine LeO.bind ?_ (fun _ => ?_))
      | exact ih0 _ _ _
      | exact ih1 _ _ _ _
      | exact ih2 _ _ _ _
      | exact ih3 _ _ _ _ _
      | exact ih4 _ _ _ _ _ _ _ _ _
      | exact spec_tuBox.mono _ _
      | exact spec_tuOnce.mono _ _
      | exact spec_tuShort.mono _ _ _
      | exact spec_tuSteps.mono _ _ _
      | exact LeO.none _
      | refine LeO.ite ?_ ?_
      | refine LeO.bind ?_ (fun _ => ?_)
theorem spec_TurtleDraws.mono : ∀ a0 a1 k, LeO (spec_TurtleDraws.f k a0 a1) (spec_TurtleDraws.f (k + 1) a0 a1) := by
  intro a0 a1 k
  obtain ⟨ih0, ih1, ih2, ih3, ih4⟩ := spec_TurtleDraws.mono_l k
  unfold spec_TurtleDraws.f
  repeat' first
      | (with_reducible exact ih0 _ _ _)
      | (with_reducible exact ih1 _ _ _ _)
      | (with_reducible exact ih2 _ _ _ _)
      | (with_reducible exact ih3 _ _ _ _ _)
      | (with_reducible exact ih4 _ _ _ _ _ _ _ _ _)
      | (with_reducible exact spec_tuBox.mono _ _)
      | (with_reducible exact spec_tuOnce.mono _ _)
      | (with_reducible exact spec_tuShort.mono _ _ _)
      | (with_reducible exact spec_tuSteps.mono _ _ _)
      | (with_reducible exact LeO.refl _)
      | (with_reducible exact LeO.none _)
      | (with_reducible refine LeO.ite ?_ ?_)
      | (with_reducible refine LeO.bind ?_ (fun _ => ?_))
      | exact ih0 _ _ _
      | exact ih1 _ _ _ _
      | exact ih2 _ _ _ _
      | exact ih3 _ _ _ _ _
      | exact ih4 _ _ _ _ _ _ _ _ _
      | exact spec_tuBox.mono _ _
      | exact spec_tuOnce.mono _ _
      | exact spec_tuShort.mono _ _ _
      | exact spec_tuSteps.mono _ _ _
      | exact LeO.none _
      | refine LeO.ite ?_ ?_
      | refine LeO.bind ?_ (fun _ => ?_)
set_option maxHeartbeats 8000000 in
set_option maxRecDepth 100000 in
theorem spec_TurtleDraws.calls (k : Nat) (a0 : ByteArray) (a1 : Int) (r1 : ByteArray) (r2 : Bool) (w : World) (h : spec_TurtleDraws.f k a0 a1 = some (r1, r2)) :
    Calls Try.prog 4 #[.string a0, .int .i64 a1] w fun e w' => e = .returned (.tuple #[.string r1, .bool r2]) ∧ Below w.heap.size w w' := by
  have HB := Aside0.mk (Below.refl w.heap.size w)
  have H : ((spec_tuShort.f k a0 a1).bind fun t172 => (if t172 = true then ((spec_tuSteps.f k a0 a1).bind fun t173 => ((spec_tuOnce.f k t173).bind fun bt176 => ((spec_tuBox.f k bt176.1).bind fun t180 => (if 1 < (t180.length : Int) then (if 0 < (t180.length : Int) then (if (wrap64 ((rd t180 1) - (rd t180 0))) ≥ 60 then (spec_TurtleDraws.j0 k bt176.1 t180 true) else (if 3 < (t180.length : Int) then (if 2 < (t180.length : Int) then (spec_TurtleDraws.j0 k bt176.1 t180 (decide ((wrap64 ((rd t180 3) - (rd t180 2))) ≥ 60))) else (none)) else (none))) else (none)) else (none))))) else (some ((⟨#[]⟩ : ByteArray), false)))) = some (r1, r2) := h
  clear h
  replace H := Option.bind_eq_some_iff.mp H
  obtain ⟨t172, A30, H⟩ := H
  replace H : (if t172 = true then ((spec_tuSteps.f k a0 a1).bind fun t173 => ((spec_tuOnce.f k t173).bind fun bt176 => ((spec_tuBox.f k bt176.1).bind fun t180 => (if 1 < (t180.length : Int) then (if 0 < (t180.length : Int) then (if (wrap64 ((rd t180 1) - (rd t180 0))) ≥ 60 then (spec_TurtleDraws.j0 k bt176.1 t180 true) else (if 3 < (t180.length : Int) then (if 2 < (t180.length : Int) then (spec_TurtleDraws.j0 k bt176.1 t180 (decide ((wrap64 ((rd t180 3) - (rd t180 2))) ≥ 60))) else (none)) else (none))) else (none)) else (none))))) else (some ((⟨#[]⟩ : ByteArray), false))) = some (r1, r2) := H
  have A3 := Aside0.mk A30
  clear A30
  by_cases c4 : t172 = true
  · subst c4
    have H1 : ((spec_tuSteps.f k a0 a1).bind fun t173 => ((spec_tuOnce.f k t173).bind fun bt176 => ((spec_tuBox.f k bt176.1).bind fun t180 => (if 1 < (t180.length : Int) then (if 0 < (t180.length : Int) then (if (wrap64 ((rd t180 1) - (rd t180 0))) ≥ 60 then (spec_TurtleDraws.j0 k bt176.1 t180 true) else (if 3 < (t180.length : Int) then (if 2 < (t180.length : Int) then (spec_TurtleDraws.j0 k bt176.1 t180 (decide ((wrap64 ((rd t180 3) - (rd t180 2))) ≥ 60))) else (none)) else (none))) else (none)) else (none))))) = some (r1, r2) := by rw [if_pos rfl] at H; exact H
    clear H
    have H := H1
    clear H1
    replace H := Option.bind_eq_some_iff.mp H
    obtain ⟨t173, A50, H⟩ := H
    replace H : ((spec_tuOnce.f k t173).bind fun bt176 => ((spec_tuBox.f k bt176.1).bind fun t180 => (if 1 < (t180.length : Int) then (if 0 < (t180.length : Int) then (if (wrap64 ((rd t180 1) - (rd t180 0))) ≥ 60 then (spec_TurtleDraws.j0 k bt176.1 t180 true) else (if 3 < (t180.length : Int) then (if 2 < (t180.length : Int) then (spec_TurtleDraws.j0 k bt176.1 t180 (decide ((wrap64 ((rd t180 3) - (rd t180 2))) ≥ 60))) else (none)) else (none))) else (none)) else (none)))) = some (r1, r2) := H
    have A5 := Aside0.mk A50
    clear A50
    replace H := Option.bind_eq_some_iff.mp H
    obtain ⟨⟨t176, t179⟩, A60, H⟩ := H
    replace H : ((spec_tuBox.f k t176).bind fun t180 => (if 1 < (t180.length : Int) then (if 0 < (t180.length : Int) then (if (wrap64 ((rd t180 1) - (rd t180 0))) ≥ 60 then (spec_TurtleDraws.j0 k t176 t180 true) else (if 3 < (t180.length : Int) then (if 2 < (t180.length : Int) then (spec_TurtleDraws.j0 k t176 t180 (decide ((wrap64 ((rd t180 3) - (rd t180 2))) ≥ 60))) else (none)) else (none))) else (none)) else (none))) = some (r1, r2) := H
    have A6 := Aside0.mk A60
    clear A60
    replace H := Option.bind_eq_some_iff.mp H
    obtain ⟨t180, A70, H⟩ := H
    replace H : (if 1 < (t180.length : Int) then (if 0 < (t180.length : Int) then (if (wrap64 ((rd t180 1) - (rd t180 0))) ≥ 60 then (spec_TurtleDraws.j0 k t176 t180 true) else (if 3 < (t180.length : Int) then (if 2 < (t180.length : Int) then (spec_TurtleDraws.j0 k t176 t180 (decide ((wrap64 ((rd t180 3) - (rd t180 2))) ≥ 60))) else (none)) else (none))) else (none)) else (none)) = some (r1, r2) := H
    have A7 := Aside0.mk A70
    clear A70
    have HC8 := Aside0.mk H
    clear H
    go_enter Try.func4, Try.ntmps4
    go_upto_region 5 with (first | (go_at_call 6; (with_reducible refine (spec_tuShort.calls k a0 a1 true _ A3.out).mono ?_); rintro e w' ⟨rfl, ⟨nd, rfl⟩⟩; (try first | exact ⟨rfl, _, World.drewN_drewN _ _ _⟩ | exact ⟨rfl, _, Eq.trans (World.drewN_drewN _ _ _) (congrArg (World.drewN _) (Nat.add_assoc _ _ _))⟩)) | (go_at_call 8; (with_reducible refine (spec_tuSteps.calls k a0 a1 t173 _ A5.out).mono ?_); rintro e w9 ⟨v174, rfl, ho0, hb⟩; have n0_ := Aside0.mk (Kd.N_lower (Kd.N_mono (ok' := fun k_ => True) ho0 (fun k_ hk_ => trivial)) (below_size (by repeat (first | (with_reducible first | exact HB.out | apply below_alloc | apply pw_below_drewN | apply below_drew1) | exact HB.out)))); have n1_ := Aside0.mk (below_step (by repeat (first | (with_reducible first | exact HB.out | apply below_alloc | apply pw_below_drewN | apply below_drew1) | exact HB.out)) hb); clear HB; have HO175 := n0_; have HB := n1_; clear n0_ n1_; (try clear hb); (try clear hb2); (try clear hk); (try clear hi); (try clear ho0); obtain ⟨Ao10, co10, eo10⟩ := Kd.N_slice HO175.out; subst eo10) | (go_at_call 7; (with_reducible refine (spec_tuOnce.calls k (fun k_ => True) _ _ t173 t176 t179 _ ?side1 A6.out).mono ?_); (case side1 => exact Kd.N_V (HO175.out)); rintro e w11 ⟨v177, rfl, ho0, hb⟩; have n0_ := Aside0.mk (Kd.N_elder' (by (with_reducible repeat (first | apply Kd.N_alloc | apply Kd.N_drewN | apply Kd.N_drew)); exact HO175.out) (Kd.N_base ho0) hb); have n1_ := Aside0.mk (Kd.N_lower (Kd.N_mono (ok' := fun k_ => True) ho0 (fun k_ hk_ => trivial)) (below_size (by repeat (first | (with_reducible first | exact HB.out | apply below_alloc | apply pw_below_drewN | apply below_drew1) | exact HB.out)))); have n2_ := Aside0.mk (below_step (by repeat (first | (with_reducible first | exact HB.out | apply below_alloc | apply pw_below_drewN | apply below_drew1) | exact HB.out)) hb); clear HO175; clear HB; have HO175 := n0_; have HO178 := n1_; have HB := n2_; clear n0_ n1_ n2_; (try clear hb); (try clear hb2); (try clear hk); (try clear hi); (try clear ho0); obtain ⟨Ao12, co12, eo12⟩ := Kd.N_slice HO178.out; subst eo12) | (go_at_call 9; (with_reducible refine (spec_tuBox.calls k _ _ t176 t180 _ ?side1 ?side2 A7.out).mono ?_); (case side1 => repeat (first | exact (Kd.N_reads' HO178.out).2.2 | (with_reducible refine Kd.C_alloc ?_ _) | (with_reducible refine Kd.C_drewN ?_ _) | (with_reducible refine Kd.C_drew ?_))); (case side2 => exact (Kd.N_reads' HO178.out).2.1); rintro e w13 ⟨v181, rfl, ho0, hb⟩; have n0_ := Aside0.mk (Kd.N_elder' (by (with_reducible repeat (first | apply Kd.N_alloc | apply Kd.N_drewN | apply Kd.N_drew)); exact HO175.out) (Kd.R_base ho0) hb); have n1_ := Aside0.mk (Kd.N_elder' (by (with_reducible repeat (first | apply Kd.N_alloc | apply Kd.N_drewN | apply Kd.N_drew)); exact HO178.out) (Kd.R_base ho0) hb); have n2_ := Aside0.mk (Kd.R_lower ho0 (below_size (by repeat (first | (with_reducible first | exact HB.out | apply below_alloc | apply pw_below_drewN | apply below_drew1) | exact HB.out)))); have n3_ := Aside0.mk (below_step (by repeat (first | (with_reducible first | exact HB.out | apply below_alloc | apply pw_below_drewN | apply below_drew1) | exact HB.out)) hb); clear HO175; clear HO178; clear HB; have HO175 := n0_; have HO178 := n1_; have HO182 := n2_; have HB := n3_; clear n0_ n1_ n2_ n3_; (try clear hb); (try clear hb2); (try clear hk); (try clear hi); (try clear ho0)))
    repeat (go_quiet (first | (go_at_call 6; (with_reducible refine (spec_tuShort.calls k a0 a1 true _ A3.out).mono ?_); rintro e w' ⟨rfl, ⟨nd, rfl⟩⟩; (try first | exact ⟨rfl, _, World.drewN_drewN _ _ _⟩ | exact ⟨rfl, _, Eq.trans (World.drewN_drewN _ _ _) (congrArg (World.drewN _) (Nat.add_assoc _ _ _))⟩)) | (go_at_call 8; (with_reducible refine (spec_tuSteps.calls k a0 a1 t173 _ A5.out).mono ?_); rintro e w9 ⟨v174, rfl, ho0, hb⟩; have n0_ := Aside0.mk (Kd.N_lower (Kd.N_mono (ok' := fun k_ => True) ho0 (fun k_ hk_ => trivial)) (below_size (by repeat (first | (with_reducible first | exact HB.out | apply below_alloc | apply pw_below_drewN | apply below_drew1) | exact HB.out)))); have n1_ := Aside0.mk (below_step (by repeat (first | (with_reducible first | exact HB.out | apply below_alloc | apply pw_below_drewN | apply below_drew1) | exact HB.out)) hb); clear HB; have HO175 := n0_; have HB := n1_; clear n0_ n1_; (try clear hb); (try clear hb2); (try clear hk); (try clear hi); (try clear ho0); obtain ⟨Ao10, co10, eo10⟩ := Kd.N_slice HO175.out; subst eo10) | (go_at_call 7; (with_reducible refine (spec_tuOnce.calls k (fun k_ => True) _ _ t173 t176 t179 _ ?side1 A6.out).mono ?_); (case side1 => exact Kd.N_V (HO175.out)); rintro e w11 ⟨v177, rfl, ho0, hb⟩; have n0_ := Aside0.mk (Kd.N_elder' (by (with_reducible repeat (first | apply Kd.N_alloc | apply Kd.N_drewN | apply Kd.N_drew)); exact HO175.out) (Kd.N_base ho0) hb); have n1_ := Aside0.mk (Kd.N_lower (Kd.N_mono (ok' := fun k_ => True) ho0 (fun k_ hk_ => trivial)) (below_size (by repeat (first | (with_reducible first | exact HB.out | apply below_alloc | apply pw_below_drewN | apply below_drew1) | exact HB.out)))); have n2_ := Aside0.mk (below_step (by repeat (first | (with_reducible first | exact HB.out | apply below_alloc | apply pw_below_drewN | apply below_drew1) | exact HB.out)) hb); clear HO175; clear HB; have HO175 := n0_; have HO178 := n1_; have HB := n2_; clear n0_ n1_ n2_; (try clear hb); (try clear hb2); (try clear hk); (try clear hi); (try clear ho0); obtain ⟨Ao12, co12, eo12⟩ := Kd.N_slice HO178.out; subst eo12) | (go_at_call 9; (with_reducible refine (spec_tuBox.calls k _ _ t176 t180 _ ?side1 ?side2 A7.out).mono ?_); (case side1 => repeat (first | exact (Kd.N_reads' HO178.out).2.2 | (with_reducible refine Kd.C_alloc ?_ _) | (with_reducible refine Kd.C_drewN ?_ _) | (with_reducible refine Kd.C_drew ?_))); (case side2 => exact (Kd.N_reads' HO178.out).2.1); rintro e w13 ⟨v181, rfl, ho0, hb⟩; have n0_ := Aside0.mk (Kd.N_elder' (by (with_reducible repeat (first | apply Kd.N_alloc | apply Kd.N_drewN | apply Kd.N_drew)); exact HO175.out) (Kd.R_base ho0) hb); have n1_ := Aside0.mk (Kd.N_elder' (by (with_reducible repeat (first | apply Kd.N_alloc | apply Kd.N_drewN | apply Kd.N_drew)); exact HO178.out) (Kd.R_base ho0) hb); have n2_ := Aside0.mk (Kd.R_lower ho0 (below_size (by repeat (first | (with_reducible first | exact HB.out | apply below_alloc | apply pw_below_drewN | apply below_drew1) | exact HB.out)))); have n3_ := Aside0.mk (below_step (by repeat (first | (with_reducible first | exact HB.out | apply below_alloc | apply pw_below_drewN | apply below_drew1) | exact HB.out)) hb); clear HO175; clear HO178; clear HB; have HO175 := n0_; have HO178 := n1_; have HO182 := n2_; have HB := n3_; clear n0_ n1_ n2_ n3_; (try clear hb); (try clear hb2); (try clear hk); (try clear hi); (try clear ho0))); go_upto_region 5 with (first | (go_at_call 6; (with_reducible refine (spec_tuShort.calls k a0 a1 true _ A3.out).mono ?_); rintro e w' ⟨rfl, ⟨nd, rfl⟩⟩; (try first | exact ⟨rfl, _, World.drewN_drewN _ _ _⟩ | exact ⟨rfl, _, Eq.trans (World.drewN_drewN _ _ _) (congrArg (World.drewN _) (Nat.add_assoc _ _ _))⟩)) | (go_at_call 8; (with_reducible refine (spec_tuSteps.calls k a0 a1 t173 _ A5.out).mono ?_); rintro e w9 ⟨v174, rfl, ho0, hb⟩; have n0_ := Aside0.mk (Kd.N_lower (Kd.N_mono (ok' := fun k_ => True) ho0 (fun k_ hk_ => trivial)) (below_size (by repeat (first | (with_reducible first | exact HB.out | apply below_alloc | apply pw_below_drewN | apply below_drew1) | exact HB.out)))); have n1_ := Aside0.mk (below_step (by repeat (first | (with_reducible first | exact HB.out | apply below_alloc | apply pw_below_drewN | apply below_drew1) | exact HB.out)) hb); clear HB; have HO175 := n0_; have HB := n1_; clear n0_ n1_; (try clear hb); (try clear hb2); (try clear hk); (try clear hi); (try clear ho0); obtain ⟨Ao10, co10, eo10⟩ := Kd.N_slice HO175.out; subst eo10) | (go_at_call 7; (with_reducible refine (spec_tuOnce.calls k (fun k_ => True) _ _ t173 t176 t179 _ ?side1 A6.out).mono ?_); (case side1 => exact Kd.N_V (HO175.out)); rintro e w11 ⟨v177, rfl, ho0, hb⟩; have n0_ := Aside0.mk (Kd.N_elder' (by (with_reducible repeat (first | apply Kd.N_alloc | apply Kd.N_drewN | apply Kd.N_drew)); exact HO175.out) (Kd.N_base ho0) hb); have n1_ := Aside0.mk (Kd.N_lower (Kd.N_mono (ok' := fun k_ => True) ho0 (fun k_ hk_ => trivial)) (below_size (by repeat (first | (with_reducible first | exact HB.out | apply below_alloc | apply pw_below_drewN | apply below_drew1) | exact HB.out)))); have n2_ := Aside0.mk (below_step (by repeat (first | (with_reducible first | exact HB.out | apply below_alloc | apply pw_below_drewN | apply below_drew1) | exact HB.out)) hb); clear HO175; clear HB; have HO175 := n0_; have HO178 := n1_; have HB := n2_; clear n0_ n1_ n2_; (try clear hb); (try clear hb2); (try clear hk); (try clear hi); (try clear ho0); obtain ⟨Ao12, co12, eo12⟩ := Kd.N_slice HO178.out; subst eo12) | (go_at_call 9; (with_reducible refine (spec_tuBox.calls k _ _ t176 t180 _ ?side1 ?side2 A7.out).mono ?_); (case side1 => repeat (first | exact (Kd.N_reads' HO178.out).2.2 | (with_reducible refine Kd.C_alloc ?_ _) | (with_reducible refine Kd.C_drewN ?_ _) | (with_reducible refine Kd.C_drew ?_))); (case side2 => exact (Kd.N_reads' HO178.out).2.1); rintro e w13 ⟨v181, rfl, ho0, hb⟩; have n0_ := Aside0.mk (Kd.N_elder' (by (with_reducible repeat (first | apply Kd.N_alloc | apply Kd.N_drewN | apply Kd.N_drew)); exact HO175.out) (Kd.R_base ho0) hb); have n1_ := Aside0.mk (Kd.N_elder' (by (with_reducible repeat (first | apply Kd.N_alloc | apply Kd.N_drewN | apply Kd.N_drew)); exact HO178.out) (Kd.R_base ho0) hb); have n2_ := Aside0.mk (Kd.R_lower ho0 (below_size (by repeat (first | (with_reducible first | exact HB.out | apply below_alloc | apply pw_below_drewN | apply below_drew1) | exact HB.out)))); have n3_ := Aside0.mk (below_step (by repeat (first | (with_reducible first | exact HB.out | apply below_alloc | apply pw_below_drewN | apply below_drew1) | exact HB.out)) hb); clear HO175; clear HO178; clear HB; have HO175 := n0_; have HO178 := n1_; have HO182 := n2_; have HB := n3_; clear n0_ n1_ n2_ n3_; (try clear hb); (try clear hb2); (try clear hk); (try clear hi); (try clear ho0))))
    (try simp only [Act.put, List.setIfInBounds_toArray, List.set_cons_zero, List.set_cons_succ])
    go_cut [45] (fun v45 wc => ∃ (kq : Nat) (x45_7 : Bool), v45 = .bool x45_7 ∧ Aside0 (spec_TurtleDraws.j0 kq t176 t180 x45_7 = some (r1, r2)) ∧ Aside0 (kq ≤ k) ∧ Aside0 (Kd.N (Kd.slice 3 (Kd.int .i64)) 29 wc w.heap.size (fun k_ => some k_ ≠ (v181 : Value).ownBlock) (.slice Ao12 t176.length co12) t176) ∧ Aside0 (Kd.R (Kd.int .i64) 3 wc w.heap.size (fun _ => True) v181 t180) ∧ Aside0 (Below w.heap.size w wc))
    case first =>
      have H := HC8.out
      clear HC8
      by_cases c14 : 1 < (t180.length : Int)
      · rw [if_pos c14] at H
        have c14b0 : decide (1 < (t180.length : Int)) = true := decide_eq_true c14
        (try (first | rw [hl192_0] at c14b0))
        have c14b1 : decide (1 < t180.length) = true := decide_eq_true (by omega)
        clear c14
        (first | rw [c14b0] | (simp only [i64_w, i32_w]; rw [c14b0]) | skip)
        by_cases c15 : 0 < (t180.length : Int)
        · rw [if_pos c15] at H
          have c15b0 : decide (0 < (t180.length : Int)) = true := decide_eq_true c15
          (try (first | rw [hl192_0] at c15b0))
          have c15b1 : decide (0 < t180.length) = true := decide_eq_true (by omega)
          clear c15
          by_cases c16 : (wrap64 ((rd t180 1) - (rd t180 0))) ≥ 60
          · rw [if_pos c16] at H
            have c16b0 : decide (60 ≤ (wrap64 ((rd t180 1) - (rd t180 0)))) = true := decide_eq_true c16
            clear c16
            have H' := Aside0.mk H
            clear H
            obtain ⟨Ao17, co17, eo17⟩ := Kd.R_slice HO182.out
            subst eo17
            have p183 : 0 ≤ (1 : Int) := (by omega)
            have q183 : 1 < (t180.length : Int) := of_decide_eq_true (by first | (with_reducible assumption) | assumption)
            obtain ⟨ad183, e183, hx183_0⟩ := Kd.at_int (Kd.R_reads' HO182.out).2.2 1 p183 q183
            cases e183
            (try simp only [show (1 : Int).toNat = 1 from rfl, Nat.reduceMul, Nat.reduceEqDiff, Go.Addr.add, ↓reduceIte] at hx183_0)
            have qi183 : (1 < t180.length) = True := eq_true (by omega)
            (try rw [show ((1 : Int)).toNat = 1 from rfl] at hx183_0)
            replace p183 := eq_true p183
            replace q183 := eq_true q183
            have p184 : 0 ≤ (0 : Int) := (by omega)
            have q184 : 0 < (t180.length : Int) := of_decide_eq_true (by first | (with_reducible assumption) | assumption)
            obtain ⟨ad184, e184, hx184_0⟩ := Kd.at_int (Kd.R_reads' HO182.out).2.2 0 p184 q184
            obtain rfl : ad183 = ad184 := (by injection e184)
            have qi184 : (0 < t180.length) = True := eq_true (by omega)
            (try rw [show ((0 : Int)).toNat = 0 from rfl] at hx184_0)
            (try rw [Addr.add_zero'] at hx184_0)
            replace p184 := eq_true p184
            replace q184 := eq_true q184
            go_wp2
            repeat (go_quiet (fail); try go_wp2)
            go_meet
            case rel => exact ⟨_, (true), (by first | rfl | (simp; done) | (simp [*]; done)), H', ⟨by first | omega | exact Nat.le_refl _⟩, ⟨by (with_reducible repeat (first | apply Kd.N_alloc | apply Kd.N_drewN | apply Kd.N_drew)); exact Kd.N_mono HO178.out (fun _ hk => hk.2)⟩, ⟨by (with_reducible repeat (first | apply Kd.R_alloc | apply Kd.R_drewN | apply Kd.R_drew)); exact HO182.out⟩, ⟨by repeat (first | (with_reducible first | exact HB.out | apply below_alloc | apply pw_below_drewN | apply below_drew1) | exact HB.out)⟩⟩
          · rw [if_neg c16] at H
            have c16b0 : decide (60 ≤ (wrap64 ((rd t180 1) - (rd t180 0)))) = false := decide_eq_false c16
            clear c16
            by_cases c18 : 3 < (t180.length : Int)
            · rw [if_pos c18] at H
              have c18b0 : decide (3 < (t180.length : Int)) = true := decide_eq_true c18
              (try (first | rw [hl192_0] at c18b0))
              have c18b1 : decide (3 < t180.length) = true := decide_eq_true (by omega)
              clear c18
              by_cases c19 : 2 < (t180.length : Int)
              · rw [if_pos c19] at H
                have c19b0 : decide (2 < (t180.length : Int)) = true := decide_eq_true c19
                (try (first | rw [hl192_0] at c19b0))
                have c19b1 : decide (2 < t180.length) = true := decide_eq_true (by omega)
                clear c19
                have H' := Aside0.mk H
                clear H
                obtain ⟨Ao20, co20, eo20⟩ := Kd.R_slice HO182.out
                subst eo20
                have p183 : 0 ≤ (1 : Int) := (by omega)
                have q183 : 1 < (t180.length : Int) := of_decide_eq_true (by first | (with_reducible assumption) | assumption)
                obtain ⟨ad183, e183, hx183_0⟩ := Kd.at_int (Kd.R_reads' HO182.out).2.2 1 p183 q183
                cases e183
                (try simp only [show (1 : Int).toNat = 1 from rfl, Nat.reduceMul, Nat.reduceEqDiff, Go.Addr.add, ↓reduceIte] at hx183_0)
                have qi183 : (1 < t180.length) = True := eq_true (by omega)
                (try rw [show ((1 : Int)).toNat = 1 from rfl] at hx183_0)
                replace p183 := eq_true p183
                replace q183 := eq_true q183
                have p184 : 0 ≤ (0 : Int) := (by omega)
                have q184 : 0 < (t180.length : Int) := of_decide_eq_true (by first | (with_reducible assumption) | assumption)
                obtain ⟨ad184, e184, hx184_0⟩ := Kd.at_int (Kd.R_reads' HO182.out).2.2 0 p184 q184
                obtain rfl : ad183 = ad184 := (by injection e184)
                have qi184 : (0 < t180.length) = True := eq_true (by omega)
                (try rw [show ((0 : Int)).toNat = 0 from rfl] at hx184_0)
                (try rw [Addr.add_zero'] at hx184_0)
                replace p184 := eq_true p184
                replace q184 := eq_true q184
                have p185 : 0 ≤ (3 : Int) := (by omega)
                have q185 : 3 < (t180.length : Int) := of_decide_eq_true (by first | (with_reducible assumption) | assumption)
                obtain ⟨ad185, e185, hx185_0⟩ := Kd.at_int (Kd.R_reads' HO182.out).2.2 3 p185 q185
                obtain rfl : ad183 = ad185 := (by injection e185)
                (try simp only [show (3 : Int).toNat = 3 from rfl, Nat.reduceMul, Nat.reduceEqDiff, Go.Addr.add, ↓reduceIte] at hx185_0)
                have qi185 : (3 < t180.length) = True := eq_true (by omega)
                (try rw [show ((3 : Int)).toNat = 3 from rfl] at hx185_0)
                replace p185 := eq_true p185
                replace q185 := eq_true q185
                have p186 : 0 ≤ (2 : Int) := (by omega)
                have q186 : 2 < (t180.length : Int) := of_decide_eq_true (by first | (with_reducible assumption) | assumption)
                obtain ⟨ad186, e186, hx186_0⟩ := Kd.at_int (Kd.R_reads' HO182.out).2.2 2 p186 q186
                obtain rfl : ad183 = ad186 := (by injection e186)
                (try simp only [show (2 : Int).toNat = 2 from rfl, Nat.reduceMul, Nat.reduceEqDiff, Go.Addr.add, ↓reduceIte] at hx186_0)
                have qi186 : (2 < t180.length) = True := eq_true (by omega)
                (try rw [show ((2 : Int)).toNat = 2 from rfl] at hx186_0)
                replace p186 := eq_true p186
                replace q186 := eq_true q186
                go_wp2
                repeat (go_quiet (fail); try go_wp2)
                go_meet
                case rel => exact ⟨_, (decide ((wrap64 ((rd t180 3) - (rd t180 2))) ≥ 60)), (by first | rfl | (simp; done) | (simp [*]; done)), H', ⟨by first | omega | exact Nat.le_refl _⟩, ⟨by (with_reducible repeat (first | apply Kd.N_alloc | apply Kd.N_drewN | apply Kd.N_drew)); exact Kd.N_mono HO178.out (fun _ hk => hk.2)⟩, ⟨by (with_reducible repeat (first | apply Kd.R_alloc | apply Kd.R_drewN | apply Kd.R_drew)); exact HO182.out⟩, ⟨by repeat (first | (with_reducible first | exact HB.out | apply below_alloc | apply pw_below_drewN | apply below_drew1) | exact HB.out)⟩⟩
              · rw [if_neg c19] at H
                exact absurd H (by simp)
            · rw [if_neg c18] at H
              exact absurd H (by simp)
        · rw [if_neg c15] at H
          exact absurd H (by simp)
      · rw [if_neg c14] at H
        exact absurd H (by simp)
    case rest =>
      clear HC8
      try clear c1
      try clear p1
      try clear q1
      try clear hx1
      try clear qi1
      try clear p2
      try clear c4
      try clear p6
      try clear c14
      try clear c14b0
      try clear c14b1
      try clear c15
      try clear c15b0
      try clear c15b1
      try clear c16
      try clear c16b0
      try clear c18
      try clear c18b0
      try clear c18b1
      try clear p18
      try clear q18
      try clear hx18
      try clear qi18
      try clear c19
      try clear c19b0
      try clear c19b1
      try clear hx183_0
      try clear hx184_0
      try clear hx185_0
      try clear hx186_0
      try clear p183
      try clear p184
      try clear p185
      try clear p186
      try clear q183
      try clear q184
      try clear q185
      try clear q186
      obtain ⟨kq, x45_7, rfl, HA, HJ7, HO_6, HO_8, HB⟩ := hcut
      cases kq with
      | zero => exact absurd HA.out (by simp [spec_TurtleDraws.j0])
      | succ kj7 =>
        have H := HA.out
        clear HA
        simp only [spec_TurtleDraws.j0] at H
        by_cases c21 : x45_7 = true
        · subst c21
          have H1 : (some ((⟨#[]⟩ : ByteArray), false)) = some (r1, r2) := by rw [if_pos rfl] at H; exact H
          clear H
          have H := H1
          clear H1
          simp only [Option.some.injEq, Prod.mk.injEq] at H
          obtain ⟨rfl, rfl⟩ := H
          go_wp2
          repeat (go_quiet (fail); try go_wp2)
          go_ret2
          exact ⟨by first | rfl | (simp [errW_none, errW_some] <;> rfl) | (simp [*, errW_none, errW_some] <;> rfl), by repeat (first | (with_reducible first | exact HB.out | apply below_alloc | apply pw_below_drewN | apply below_drew1) | exact HB.out)⟩
        · replace c21 := Bool.eq_false_iff.mpr c21
          subst c21
          have H1 : (if 2 < (t180.length : Int) then (spec_TurtleDraws.l0 kj7 t176 t180 (⟨#[]⟩ : ByteArray) (rd t180 2)) else (none)) = some (r1, r2) := by rw [if_neg (show ¬ (false = true) by decide)] at H; exact H
          clear H
          have H := H1
          clear H1
          by_cases c22 : 2 < (t180.length : Int)
          · rw [if_pos c22] at H
            have c22b0 : decide (2 < (t180.length : Int)) = true := decide_eq_true c22
            (try (first | rw [hl192_0] at c22b0))
            have c22b1 : decide (2 < t180.length) = true := decide_eq_true (by omega)
            clear c22
            have H' := Aside0.mk H
            clear H
            obtain ⟨Ao23, co23, eo23⟩ := Kd.R_slice HO_8.out
            subst eo23
            have p187 : 0 ≤ (2 : Int) := (by omega)
            have q187 : 2 < (t180.length : Int) := of_decide_eq_true (by first | (with_reducible assumption) | assumption)
            obtain ⟨ad187, e187, hx187_0⟩ := Kd.at_int (Kd.R_reads' HO_8.out).2.2 2 p187 q187
            cases e187
            (try simp only [show (2 : Int).toNat = 2 from rfl, Nat.reduceMul, Nat.reduceEqDiff, Go.Addr.add, ↓reduceIte] at hx187_0)
            have qi187 : (2 < t180.length) = True := eq_true (by omega)
            (try rw [show ((2 : Int)).toNat = 2 from rfl] at hx187_0)
            replace p187 := eq_true p187
            replace q187 := eq_true q187
            go_wp2
            repeat (go_quiet (fail); try go_wp2)
            go_loopg [9, 10] kj7 (fun kq v9 v10 w' => ∃ (x9_2 : ByteArray) (x10_2 : Int), v9 = .string x9_2 ∧ v10 = .int .i64 x10_2 ∧ Aside0 (spec_TurtleDraws.l0 kq t176 t180 x9_2 x10_2 = some (r1, r2)) ∧ Aside0 (kq ≤ kj7) ∧ Aside0 (Kd.N (Kd.slice 3 (Kd.int .i64)) 29 w' w.heap.size (fun k_ => some k_ ≠ ((.slice (some ad187) t180.length co23) : Value).ownBlock) (.slice Ao12 t176.length co12) t176) ∧ Aside0 (Kd.R (Kd.int .i64) 3 w' w.heap.size (fun _ => True) (.slice (some ad187) t180.length co23) t180) ∧ Aside0 (Below w.heap.size w w'))
            case atStart => exact ⟨((⟨#[]⟩ : ByteArray)), (rd t180 2), (by first | rfl | (simp; done) | (simp [*]; done)), (by first | rfl | (simp; done) | (simp [*]; done)), H', ⟨Nat.le_refl _⟩, ⟨by (with_reducible repeat (first | apply Kd.N_alloc | apply Kd.N_drewN | apply Kd.N_drew)); exact HO_6.out⟩, ⟨by (with_reducible repeat (first | apply Kd.R_alloc | apply Kd.R_drewN | apply Kd.R_drew)); exact HO_8.out⟩, ⟨by repeat (first | (with_reducible first | exact HB.out | apply below_alloc | apply pw_below_drewN | apply below_drew1) | exact HB.out)⟩⟩
            case round =>
              clear H'
              try clear c1
              try clear p1
              try clear q1
              try clear hx1
              try clear qi1
              try clear c2
              try clear p2
              try clear c4
              try clear p6
              try clear c14
              try clear c14b0
              try clear c14b1
              try clear c15
              try clear c15b0
              try clear c15b1
              try clear c16
              try clear c16b0
              try clear c18
              try clear c18b0
              try clear c18b1
              try clear p18
              try clear q18
              try clear hx18
              try clear qi18
              try clear c19
              try clear c19b0
              try clear c19b1
              try clear c21
              try clear c22
              try clear c22b0
              try clear c22b1
              try clear hx183_0
              try clear hx184_0
              try clear hx185_0
              try clear hx186_0
              try clear hx187_0
              try clear p1
              try clear p18
              try clear p183
              try clear p184
              try clear p185
              try clear p186
              try clear p187
              try clear p2
              try clear p6
              try clear q1
              try clear q18
              try clear q183
              try clear q184
              try clear q185
              try clear q186
              try clear q187
              obtain ⟨x9_2, x10_2, rfl, rfl, HA, HK2, HO_6, HO_8, HB⟩ := hrel
              cases gk with
              | zero => exact absurd HA.out (by simp [spec_TurtleDraws.l0])
              | succ k2 =>
                have H := HA.out
                clear HA
                simp only [spec_TurtleDraws.l0] at H
                by_cases c24 : 3 < (t180.length : Int)
                · rw [if_pos c24] at H
                  have c24b0 : decide (3 < (t180.length : Int)) = true := decide_eq_true c24
                  (try (first | rw [hl192_0] at c24b0))
                  have c24b1 : decide (3 < t180.length) = true := decide_eq_true (by omega)
                  clear c24
                  by_cases c25 : x10_2 ≤ (rd t180 3)
                  · rw [if_pos c25] at H
                    have c25b0 : decide (x10_2 ≤ (rd t180 3)) = true := decide_eq_true c25
                    clear c25
                    by_cases c26 : 2 < (t180.length : Int)
                    · rw [if_pos c26] at H
                      have c26b0 : decide (2 < (t180.length : Int)) = true := decide_eq_true c26
                      (try (first | rw [hl192_0] at c26b0))
                      have c26b1 : decide (2 < t180.length) = true := decide_eq_true (by omega)
                      clear c26
                      have HC27 := Aside0.mk H
                      clear H
                      have p188 : 0 ≤ (3 : Int) := (by omega)
                      have q188 : 3 < (t180.length : Int) := of_decide_eq_true (by first | (with_reducible assumption) | assumption)
                      obtain ⟨ad188, e188, hx188_0⟩ := Kd.at_int (Kd.R_reads' HO_8.out).2.2 3 p188 q188
                      obtain rfl : ad187 = ad188 := (by injection e188)
                      (try simp only [show (3 : Int).toNat = 3 from rfl, Nat.reduceMul, Nat.reduceEqDiff, Go.Addr.add, ↓reduceIte] at hx188_0)
                      have qi188 : (3 < t180.length) = True := eq_true (by omega)
                      (try rw [show ((3 : Int)).toNat = 3 from rfl] at hx188_0)
                      replace p188 := eq_true p188
                      replace q188 := eq_true q188
                      have p189 : 0 ≤ (2 : Int) := (by omega)
                      have q189 : 2 < (t180.length : Int) := of_decide_eq_true (by first | (with_reducible assumption) | assumption)
                      obtain ⟨ad189, e189, hx189_0⟩ := Kd.at_int (Kd.R_reads' HO_8.out).2.2 2 p189 q189
                      obtain rfl : ad187 = ad189 := (by injection e189)
                      (try simp only [show (2 : Int).toNat = 2 from rfl, Nat.reduceMul, Nat.reduceEqDiff, Go.Addr.add, ↓reduceIte] at hx189_0)
                      have qi189 : (2 < t180.length) = True := eq_true (by omega)
                      (try rw [show ((2 : Int)).toNat = 2 from rfl] at hx189_0)
                      replace p189 := eq_true p189
                      replace q189 := eq_true q189
                      go_upto_if 60 with (fail)
                      repeat (go_quiet (fail); go_upto_if 60 with (fail))
                      go_cut [9] (fun v9 wc => ∃ (kq : Nat) (x9_26 : ByteArray), v9 = .string x9_26 ∧ Aside0 (spec_TurtleDraws.j2 kq t176 t180 x9_26 x10_2 = some (r1, r2)) ∧ Aside0 (kq ≤ k2) ∧ Aside0 (Kd.N (Kd.slice 3 (Kd.int .i64)) 29 wc w.heap.size (fun k_ => some k_ ≠ ((.slice (some ad187) t180.length co23) : Value).ownBlock) (.slice Ao12 t176.length co12) t176) ∧ Aside0 (Kd.R (Kd.int .i64) 3 wc w.heap.size (fun _ => True) (.slice (some ad187) t180.length co23) t180) ∧ Aside0 (Below w.heap.size w wc))
                      case first =>
                        have H := HC27.out
                        clear HC27
                        by_cases c28 : x10_2 > (rd t180 2)
                        · rw [if_pos c28] at H
                          have c28b0 : decide ((rd t180 2) < x10_2) = true := decide_eq_true c28
                          clear c28
                          (first | rw [c28b0] | (simp only [i64_w, i32_w]; rw [c28b0]) | skip)
                          by_cases c29 : x9_2.size + 1 ≤ 9223372036854775807
                          · rw [if_pos c29] at H
                            have c29b0 := eq_true c29
                            have c29b1 : decide (x9_2.size + 1 ≤ 9223372036854775807) = true := decide_eq_true c29
                            try have c29b2 : (9223372036854775807 < x9_2.size + 1) = False := eq_false (Nat.not_lt.2 c29)
                            have H' := Aside0.mk H
                            clear H
                            go_wp2
                            repeat (go_quiet (fail); try go_wp2)
                            go_meet
                            case rel => exact ⟨_, (x9_2 ++ (⟨#[47]⟩ : ByteArray)), (by first | rfl | (simp; done) | (simp [*]; done)), H', ⟨by have := HJ7.out; have := HK2.out; first | omega | exact Nat.le_refl _⟩, ⟨by (with_reducible repeat (first | apply Kd.N_alloc | apply Kd.N_drewN | apply Kd.N_drew)); exact HO_6.out⟩, ⟨by (with_reducible repeat (first | apply Kd.R_alloc | apply Kd.R_drewN | apply Kd.R_drew)); exact HO_8.out⟩, ⟨by repeat (first | (with_reducible first | exact HB.out | apply below_alloc | apply pw_below_drewN | apply below_drew1) | exact HB.out)⟩⟩
                          · rw [if_neg c29] at H
                            exact absurd H (by simp)
                        · rw [if_neg c28] at H
                          have c28b0 : decide ((rd t180 2) < x10_2) = false := decide_eq_false c28
                          clear c28
                          (first | rw [c28b0] | (simp only [i64_w, i32_w]; rw [c28b0]) | skip)
                          have H' := Aside0.mk H
                          clear H
                          go_wp2
                          repeat (go_quiet (fail); try go_wp2)
                          go_meet
                          case rel => exact ⟨_, (x9_2), (by first | rfl | (simp; done) | (simp [*]; done)), H', ⟨by have := HJ7.out; have := HK2.out; first | omega | exact Nat.le_refl _⟩, ⟨by (with_reducible repeat (first | apply Kd.N_alloc | apply Kd.N_drewN | apply Kd.N_drew)); exact HO_6.out⟩, ⟨by (with_reducible repeat (first | apply Kd.R_alloc | apply Kd.R_drewN | apply Kd.R_drew)); exact HO_8.out⟩, ⟨by repeat (first | (with_reducible first | exact HB.out | apply below_alloc | apply pw_below_drewN | apply below_drew1) | exact HB.out)⟩⟩
                      case rest =>
                        clear HC27
                        try clear c1
                        try clear p1
                        try clear q1
                        try clear hx1
                        try clear qi1
                        try clear c2
                        try clear p2
                        try clear c4
                        try clear p6
                        try clear c14
                        try clear c14b0
                        try clear c14b1
                        try clear c15
                        try clear c15b0
                        try clear c15b1
                        try clear c16
                        try clear c16b0
                        try clear c18
                        try clear c18b0
                        try clear c18b1
                        try clear p18
                        try clear q18
                        try clear hx18
                        try clear qi18
                        try clear c19
                        try clear c19b0
                        try clear c19b1
                        try clear c21
                        try clear c22
                        try clear c22b0
                        try clear c22b1
                        try clear c24
                        try clear c24b0
                        try clear c24b1
                        try clear c25
                        try clear c25b0
                        try clear c26
                        try clear c26b0
                        try clear c26b1
                        try clear c28
                        try clear c28b0
                        try clear c29
                        try clear c29b0
                        try clear c29b1
                        try clear c29b2
                        try clear hx183_0
                        try clear hx184_0
                        try clear hx185_0
                        try clear hx186_0
                        try clear hx187_0
                        try clear hx188_0
                        try clear hx189_0
                        try clear p1
                        try clear p18
                        try clear p183
                        try clear p184
                        try clear p185
                        try clear p186
                        try clear p187
                        try clear p188
                        try clear p189
                        try clear p2
                        try clear p6
                        try clear q1
                        try clear q18
                        try clear q183
                        try clear q184
                        try clear q185
                        try clear q186
                        try clear q187
                        try clear q188
                        try clear q189
                        obtain ⟨kq, x9_26, rfl, HA, HJ26, HO_6, HO_8, HB⟩ := hcut
                        cases kq with
                        | zero => exact absurd HA.out (by simp [spec_TurtleDraws.j2])
                        | succ kj26 =>
                          have H := HA.out
                          clear HA
                          simp only [spec_TurtleDraws.j2] at H
                          by_cases c30 : 0 < (t180.length : Int)
                          · rw [if_pos c30] at H
                            have c30b0 : decide (0 < (t180.length : Int)) = true := decide_eq_true c30
                            (try (first | rw [hl192_0] at c30b0))
                            have c30b1 : decide (0 < t180.length) = true := decide_eq_true (by omega)
                            clear c30
                            have H' := Aside0.mk H
                            clear H
                            have p190 : 0 ≤ (0 : Int) := (by omega)
                            have q190 : 0 < (t180.length : Int) := of_decide_eq_true (by first | (with_reducible assumption) | assumption)
                            obtain ⟨ad190, e190, hx190_0⟩ := Kd.at_int (Kd.R_reads' HO_8.out).2.2 0 p190 q190
                            obtain rfl : ad187 = ad190 := (by injection e190)
                            have qi190 : (0 < t180.length) = True := eq_true (by omega)
                            (try rw [show ((0 : Int)).toNat = 0 from rfl] at hx190_0)
                            (try rw [Addr.add_zero'] at hx190_0)
                            replace p190 := eq_true p190
                            replace q190 := eq_true q190
                            go_wp2
                            repeat (go_quiet (fail); try go_wp2)
                            go_loopg [9, 11] kj26 (fun kq v9 v11 w' => ∃ (x9_4 : ByteArray) (x11_4 : Int), v9 = .string x9_4 ∧ v11 = .int .i64 x11_4 ∧ Aside0 (spec_TurtleDraws.l1 kq t176 t180 x9_4 x10_2 x11_4 = some (r1, r2)) ∧ Aside0 (kq ≤ kj26) ∧ Aside0 (Kd.N (Kd.slice 3 (Kd.int .i64)) 29 w' w.heap.size (fun k_ => some k_ ≠ ((.slice (some ad187) t180.length co23) : Value).ownBlock) (.slice Ao12 t176.length co12) t176) ∧ Aside0 (Kd.R (Kd.int .i64) 3 w' w.heap.size (fun _ => True) (.slice (some ad187) t180.length co23) t180) ∧ Aside0 (Below w.heap.size w w'))
                            case atStart => exact ⟨(x9_26), (rd t180 0), (by first | rfl | (simp; done) | (simp [*]; done)), (by first | rfl | (simp; done) | (simp [*]; done)), H', ⟨Nat.le_refl _⟩, ⟨by (with_reducible repeat (first | apply Kd.N_alloc | apply Kd.N_drewN | apply Kd.N_drew)); exact HO_6.out⟩, ⟨by (with_reducible repeat (first | apply Kd.R_alloc | apply Kd.R_drewN | apply Kd.R_drew)); exact HO_8.out⟩, ⟨by repeat (first | (with_reducible first | exact HB.out | apply below_alloc | apply pw_below_drewN | apply below_drew1) | exact HB.out)⟩⟩
                            case round =>
                              clear H'
                              try clear c1
                              try clear p1
                              try clear q1
                              try clear hx1
                              try clear qi1
                              try clear c2
                              try clear p2
                              try clear c3
                              try clear c4
                              try clear p6
                              try clear c14
                              try clear c14b0
                              try clear c14b1
                              try clear c15
                              try clear c15b0
                              try clear c15b1
                              try clear c16
                              try clear c16b0
                              try clear c18
                              try clear c18b0
                              try clear c18b1
                              try clear p18
                              try clear q18
                              try clear hx18
                              try clear qi18
                              try clear c19
                              try clear c19b0
                              try clear c19b1
                              try clear p19
                              try clear q19
                              try clear hx19
                              try clear qi19
                              try clear c21
                              try clear c22
                              try clear c22b0
                              try clear c22b1
                              try clear c24
                              try clear c24b0
                              try clear c24b1
                              try clear c25
                              try clear c25b0
                              try clear c26
                              try clear c26b0
                              try clear c26b1
                              try clear c28
                              try clear c28b0
                              try clear c29
                              try clear c29b0
                              try clear c29b1
                              try clear c29b2
                              try clear c30
                              try clear c30b0
                              try clear c30b1
                              try clear hx183_0
                              try clear hx184_0
                              try clear hx185_0
                              try clear hx186_0
                              try clear hx187_0
                              try clear hx188_0
                              try clear hx189_0
                              try clear hx190_0
                              try clear p1
                              try clear p18
                              try clear p183
                              try clear p184
                              try clear p185
                              try clear p186
                              try clear p187
                              try clear p188
                              try clear p189
                              try clear p190
                              try clear p2
                              try clear p6
                              try clear q1
                              try clear q18
                              try clear q183
                              try clear q184
                              try clear q185
                              try clear q186
                              try clear q187
                              try clear q188
                              try clear q189
                              try clear q190
                              obtain ⟨x9_4, x11_4, rfl, rfl, HA, HK4, HO_6, HO_8, HB⟩ := hrel
                              cases gk with
                              | zero => exact absurd HA.out (by simp [spec_TurtleDraws.l1])
                              | succ k4 =>
                                have H := HA.out
                                clear HA
                                simp only [spec_TurtleDraws.l1] at H
                                by_cases c31 : 1 < (t180.length : Int)
                                · rw [if_pos c31] at H
                                  have c31b0 : decide (1 < (t180.length : Int)) = true := decide_eq_true c31
                                  (try (first | rw [hl192_0] at c31b0))
                                  have c31b1 : decide (1 < t180.length) = true := decide_eq_true (by omega)
                                  clear c31
                                  by_cases c32 : x11_4 ≤ (rd t180 1)
                                  · rw [if_pos c32] at H
                                    have c32b0 : decide (x11_4 ≤ (rd t180 1)) = true := decide_eq_true c32
                                    clear c32
                                    have H' := Aside0.mk H
                                    clear H
                                    have p191 : 0 ≤ (1 : Int) := (by omega)
                                    have q191 : 1 < (t180.length : Int) := of_decide_eq_true (by first | (with_reducible assumption) | assumption)
                                    obtain ⟨ad191, e191, hx191_0⟩ := Kd.at_int (Kd.R_reads' HO_8.out).2.2 1 p191 q191
                                    obtain rfl : ad187 = ad191 := (by injection e191)
                                    (try simp only [show (1 : Int).toNat = 1 from rfl, Nat.reduceMul, Nat.reduceEqDiff, Go.Addr.add, ↓reduceIte] at hx191_0)
                                    have qi191 : (1 < t180.length) = True := eq_true (by omega)
                                    (try rw [show ((1 : Int)).toNat = 1 from rfl] at hx191_0)
                                    replace p191 := eq_true p191
                                    replace q191 := eq_true q191
                                    go_wp2
                                    repeat (go_quiet (fail); try go_wp2)
                                    go_loopg [12, 75] k4 (fun kq v12 v75 w' => ∃ (x12_5 : ByteArray) (x75_5 : Int), v12 = .string x12_5 ∧ v75 = .int .i64 x75_5 ∧ Aside0 (spec_TurtleDraws.l2 kq t176 t180 x9_4 x10_2 x11_4 x12_5 t176 (t176.length : Int) x75_5 = some (r1, r2)) ∧ Aside0 (kq ≤ k4) ∧ Aside0 (Kd.N (Kd.slice 3 (Kd.int .i64)) 29 w' w.heap.size (fun k_ => some k_ ≠ ((.slice (some ad187) t180.length co23) : Value).ownBlock) (.slice Ao12 t176.length co12) t176) ∧ Aside0 (Kd.R (Kd.int .i64) 3 w' w.heap.size (fun _ => True) (.slice (some ad187) t180.length co23) t180) ∧ Aside0 (Kd.N (Kd.slice 3 (Kd.int .i64)) 29 w' w.heap.size (fun k_ => some k_ ≠ ((.slice (some ad187) t180.length co23) : Value).ownBlock) (.slice Ao12 t176.length co12) t176) ∧ Aside0 (Below w.heap.size w w'))
                                    case atStart => exact ⟨((⟨#[46]⟩ : ByteArray)), (0), (by first | rfl | (simp; done) | (simp [*]; done)), (by first | rfl | (simp; done) | (simp [*]; done)), H', ⟨Nat.le_refl _⟩, ⟨by (with_reducible repeat (first | apply Kd.N_alloc | apply Kd.N_drewN | apply Kd.N_drew)); exact HO_6.out⟩, ⟨by (with_reducible repeat (first | apply Kd.R_alloc | apply Kd.R_drewN | apply Kd.R_drew)); exact HO_8.out⟩, ⟨by (with_reducible repeat (first | apply Kd.N_alloc | apply Kd.N_drewN | apply Kd.N_drew)); exact HO_6.out⟩, ⟨by repeat (first | (with_reducible first | exact HB.out | apply below_alloc | apply pw_below_drewN | apply below_drew1) | exact HB.out)⟩⟩
                                    case round =>
                                      clear H'
                                      try clear c1
                                      try clear p1
                                      try clear q1
                                      try clear hx1
                                      try clear qi1
                                      try clear c2
                                      try clear p2
                                      try clear c3
                                      try clear c4
                                      try clear p6
                                      try clear c14
                                      try clear c14b0
                                      try clear c14b1
                                      try clear c15
                                      try clear c15b0
                                      try clear c15b1
                                      try clear c16
                                      try clear c16b0
                                      try clear c18
                                      try clear c18b0
                                      try clear c18b1
                                      try clear p18
                                      try clear q18
                                      try clear hx18
                                      try clear qi18
                                      try clear c19
                                      try clear c19b0
                                      try clear c19b1
                                      try clear p19
                                      try clear q19
                                      try clear hx19
                                      try clear qi19
                                      try clear c21
                                      try clear c22
                                      try clear c22b0
                                      try clear c22b1
                                      try clear c24
                                      try clear c24b0
                                      try clear c24b1
                                      try clear c25
                                      try clear c25b0
                                      try clear c26
                                      try clear c26b0
                                      try clear c26b1
                                      try clear c28
                                      try clear c28b0
                                      try clear c29
                                      try clear c29b0
                                      try clear c29b1
                                      try clear c29b2
                                      try clear c30
                                      try clear c30b0
                                      try clear c30b1
                                      try clear c31
                                      try clear c31b0
                                      try clear c31b1
                                      try clear c32
                                      try clear c32b0
                                      try clear hx183_0
                                      try clear hx184_0
                                      try clear hx185_0
                                      try clear hx186_0
                                      try clear hx187_0
                                      try clear hx188_0
                                      try clear hx189_0
                                      try clear hx190_0
                                      try clear hx191_0
                                      try clear p1
                                      try clear p18
                                      try clear p183
                                      try clear p184
                                      try clear p185
                                      try clear p186
                                      try clear p187
                                      try clear p188
                                      try clear p189
                                      try clear p19
                                      try clear p190
                                      try clear p191
                                      try clear p2
                                      try clear p6
                                      try clear q1
                                      try clear q18
                                      try clear q183
                                      try clear q184
                                      try clear q185
                                      try clear q186
                                      try clear q187
                                      try clear q188
                                      try clear q189
                                      try clear q19
                                      try clear q190
                                      try clear q191
                                      obtain ⟨x12_5, x75_5, rfl, rfl, HA, HK5, HO_6, HO_8, HO_73, HB⟩ := hrel
                                      cases gk with
                                      | zero => exact absurd HA.out (by simp [spec_TurtleDraws.l2])
                                      | succ k5 =>
                                        have H := HA.out
                                        clear HA
                                        simp only [spec_TurtleDraws.l2] at H
                                        by_cases c33 : x75_5 < (t176.length : Int)
                                        · rw [if_pos c33] at H
                                          have c33b0 : decide (x75_5 < (t176.length : Int)) = true := decide_eq_true c33
                                          (try (first | rw [hl192_0] at c33b0))
                                          clear c33
                                          by_cases c34 : 0 ≤ x75_5
                                          · rw [if_pos c34] at H
                                            have c34b0 : decide (0 ≤ x75_5) = true := decide_eq_true c34
                                            clear c34
                                            by_cases c35 : x75_5 < (t176.length : Int)
                                            · rw [if_pos c35] at H
                                              have c35b0 : decide (x75_5 < (t176.length : Int)) = true := decide_eq_true c35
                                              (try (first | rw [hl192_0] at c35b0))
                                              clear c35
                                              by_cases c36 : 0 < ((rd_L1 t176 x75_5).length : Int)
                                              · rw [if_pos c36] at H
                                                have c36b0 : decide (0 < ((rd_L1 t176 x75_5).length : Int)) = true := decide_eq_true c36
                                                (try (first | rw [hl192_0] at c36b0))
                                                have c36b1 : decide (0 < (rd_L1 t176 x75_5).length) = true := decide_eq_true (by omega)
                                                clear c36
                                                by_cases c37 : (rd (rd_L1 t176 x75_5) 0) = x11_4
                                                · rw [if_pos c37] at H
                                                  have c37b0 : ((rd (rd_L1 t176 x75_5) 0) == x11_4) = true := beq_iff_eq.mpr c37
                                                  have c37b1 : ((rd (rd_L1 t176 x75_5) 0) != x11_4) = false := bne_eq_false_iff_eq.mpr c37
                                                  clear c37
                                                  by_cases c38 : 1 < ((rd_L1 t176 x75_5).length : Int)
                                                  · rw [if_pos c38] at H
                                                    have c38b0 : decide (1 < ((rd_L1 t176 x75_5).length : Int)) = true := decide_eq_true c38
                                                    (try (first | rw [hl192_0] at c38b0))
                                                    have c38b1 : decide (1 < (rd_L1 t176 x75_5).length) = true := decide_eq_true (by omega)
                                                    clear c38
                                                    by_cases c39 : (rd (rd_L1 t176 x75_5) 1) = x10_2
                                                    · rw [if_pos c39] at H
                                                      have c39b0 : ((rd (rd_L1 t176 x75_5) 1) == x10_2) = true := beq_iff_eq.mpr c39
                                                      have c39b1 : ((rd (rd_L1 t176 x75_5) 1) != x10_2) = false := bne_eq_false_iff_eq.mpr c39
                                                      clear c39
                                                      have H' := Aside0.mk H
                                                      clear H
                                                      have p192 : 0 ≤ (x75_5 : Int) := of_decide_eq_true (by first | (with_reducible assumption) | assumption)
                                                      have q192 : x75_5 < (t176.length : Int) := of_decide_eq_true (by first | (with_reducible assumption) | assumption)
                                                      obtain ⟨ad192, A192_0, c192_0, e192, hx192_0, hl192_0, hi192_0⟩ := at_L1 (Kd.N_reads' HO_73.out).2.2 x75_5 p192 q192
                                                      cases e192
                                                      obtain ⟨ce192, hce192, hMe192, hcc192⟩ := Kd.N_get HO_73.out [] x75_5 p192 (by first | exact q192 | exact of_decide_eq_true (by first | (with_reducible assumption) | assumption) | (have e_ := (Kd.N_reads' HO_73.out).1; omega))
                                                      obtain ⟨ua192_0, uc192_0, rfl, ul192_0, ge192_0⟩ := Kd.FK_slice_open hMe192
                                                      have hv192_0 := hcc192 0 _ rfl
                                                      rw [Nat.add_zero, show ((Kd.slice 3 (Kd.int .i64))).sz = 1 from rfl, Nat.mul_one] at hv192_0
                                                      replace hv192_0 := Option.some.inj (hv192_0.symm.trans hx192_0)
                                                      injection hv192_0 with hva_ hvn_ hvc_
                                                      rw [hva_] at ge192_0
                                                      rw [hvc_] at ul192_0
                                                      have HL192_0 := Aside0.mk (show Kd.V (Kd.int .i64) 3 _ w.heap.size _ _ (rd_L1 t176 x75_5) from Kd.V_mk ul192_0 ge192_0)
                                                      clear hva_ hvn_ hvc_ ge192_0 ul192_0
                                                      clear hcc192 hce192
                                                      have HR192_0 := Aside0.mk hi192_0
                                                      have HC192_0 := Aside0.mk hl192_0
                                                      clear hi192_0 hl192_0
                                                      replace p192 := eq_true p192
                                                      replace q192 := eq_true q192
                                                      have p193 : 0 ≤ (0 : Int) := (by omega)
                                                      have q193 : 0 < ((rd_L1 t176 x75_5).length : Int) := of_decide_eq_true (by first | (with_reducible assumption) | assumption)
                                                      obtain ⟨ad193, e193, hx193_0⟩ := Kd.at_int (by repeat (first | (with_reducible exact HR192_0.out) | (with_reducible refine Kd.C_alloc ?_ _) | (with_reducible refine Kd.C_drewN ?_ _) | (with_reducible refine Kd.C_drew ?_) | exact HR192_0.out)) 0 p193 q193
                                                      cases e193
                                                      have qi193 : (0 < (rd_L1 t176 x75_5).length) = True := eq_true (by omega)
                                                      (try rw [show ((0 : Int)).toNat = 0 from rfl] at hx193_0)
                                                      (try rw [Addr.add_zero'] at hx193_0)
                                                      replace p193 := eq_true p193
                                                      replace q193 := eq_true q193
                                                      have p194 : 0 ≤ (1 : Int) := (by omega)
                                                      have q194 : 1 < ((rd_L1 t176 x75_5).length : Int) := of_decide_eq_true (by first | (with_reducible assumption) | assumption)
                                                      obtain ⟨ad194, e194, hx194_0⟩ := Kd.at_int (by repeat (first | (with_reducible exact HR192_0.out) | (with_reducible refine Kd.C_alloc ?_ _) | (with_reducible refine Kd.C_drewN ?_ _) | (with_reducible refine Kd.C_drew ?_) | exact HR192_0.out)) 1 p194 q194
                                                      obtain rfl : ad193 = ad194 := (by injection e194)
                                                      (try simp only [show (1 : Int).toNat = 1 from rfl, Nat.reduceMul, Nat.reduceEqDiff, Go.Addr.add, ↓reduceIte] at hx194_0)
                                                      have qi194 : (1 < (rd_L1 t176 x75_5).length) = True := eq_true (by omega)
                                                      (try rw [show ((1 : Int)).toNat = 1 from rfl] at hx194_0)
                                                      replace p194 := eq_true p194
                                                      replace q194 := eq_true q194
                                                      go_wp2
                                                      repeat (go_quiet (fail); try go_wp2)
                                                      go_roundg k5
                                                      case measure => have := HJ7.out; have := HK2.out; have := HJ26.out; have := HK4.out; have := HK5.out; omega
                                                      case rel => exact ⟨((⟨#[35]⟩ : ByteArray)), (wrap64 (x75_5 + 1)), (by first | rfl | (simp; done) | (simp [*]; done)), (by first | rfl | (simp; done) | (simp [*]; done)), H', ⟨by have := HJ7.out; have := HK2.out; have := HJ26.out; have := HK4.out; have := HK5.out; omega⟩, ⟨by (with_reducible repeat (first | apply Kd.N_alloc | apply Kd.N_drewN | apply Kd.N_drew)); exact HO_6.out⟩, ⟨by (with_reducible repeat (first | apply Kd.R_alloc | apply Kd.R_drewN | apply Kd.R_drew)); exact HO_8.out⟩, ⟨by (with_reducible repeat (first | apply Kd.N_alloc | apply Kd.N_drewN | apply Kd.N_drew)); exact HO_73.out⟩, ⟨by repeat (first | (with_reducible first | exact HB.out | apply below_alloc | apply pw_below_drewN | apply below_drew1) | exact HB.out)⟩⟩
                                                    · rw [if_neg c39] at H
                                                      have c39b0 : ((rd (rd_L1 t176 x75_5) 1) == x10_2) = false := beq_eq_false_iff_ne.mpr c39
                                                      have c39b1 : ((rd (rd_L1 t176 x75_5) 1) != x10_2) = true := bne_iff_ne.mpr c39
                                                      have H' := Aside0.mk H
                                                      clear H
                                                      have p192 : 0 ≤ (x75_5 : Int) := of_decide_eq_true (by first | (with_reducible assumption) | assumption)
                                                      have q192 : x75_5 < (t176.length : Int) := of_decide_eq_true (by first | (with_reducible assumption) | assumption)
                                                      obtain ⟨ad192, A192_0, c192_0, e192, hx192_0, hl192_0, hi192_0⟩ := at_L1 (Kd.N_reads' HO_73.out).2.2 x75_5 p192 q192
                                                      cases e192
                                                      obtain ⟨ce192, hce192, hMe192, hcc192⟩ := Kd.N_get HO_73.out [] x75_5 p192 (by first | exact q192 | exact of_decide_eq_true (by first | (with_reducible assumption) | assumption) | (have e_ := (Kd.N_reads' HO_73.out).1; omega))
                                                      obtain ⟨ua192_0, uc192_0, rfl, ul192_0, ge192_0⟩ := Kd.FK_slice_open hMe192
                                                      have hv192_0 := hcc192 0 _ rfl
                                                      rw [Nat.add_zero, show ((Kd.slice 3 (Kd.int .i64))).sz = 1 from rfl, Nat.mul_one] at hv192_0
                                                      replace hv192_0 := Option.some.inj (hv192_0.symm.trans hx192_0)
                                                      injection hv192_0 with hva_ hvn_ hvc_
                                                      rw [hva_] at ge192_0
                                                      rw [hvc_] at ul192_0
                                                      have HL192_0 := Aside0.mk (show Kd.V (Kd.int .i64) 3 _ w.heap.size _ _ (rd_L1 t176 x75_5) from Kd.V_mk ul192_0 ge192_0)
                                                      clear hva_ hvn_ hvc_ ge192_0 ul192_0
                                                      clear hcc192 hce192
                                                      have HR192_0 := Aside0.mk hi192_0
                                                      have HC192_0 := Aside0.mk hl192_0
                                                      clear hi192_0 hl192_0
                                                      replace p192 := eq_true p192
                                                      replace q192 := eq_true q192
                                                      have p193 : 0 ≤ (0 : Int) := (by omega)
                                                      have q193 : 0 < ((rd_L1 t176 x75_5).length : Int) := of_decide_eq_true (by first | (with_reducible assumption) | assumption)
                                                      obtain ⟨ad193, e193, hx193_0⟩ := Kd.at_int (by repeat (first | (with_reducible exact HR192_0.out) | (with_reducible refine Kd.C_alloc ?_ _) | (with_reducible refine Kd.C_drewN ?_ _) | (with_reducible refine Kd.C_drew ?_) | exact HR192_0.out)) 0 p193 q193
                                                      cases e193
                                                      have qi193 : (0 < (rd_L1 t176 x75_5).length) = True := eq_true (by omega)
                                                      (try rw [show ((0 : Int)).toNat = 0 from rfl] at hx193_0)
                                                      (try rw [Addr.add_zero'] at hx193_0)
                                                      replace p193 := eq_true p193
                                                      replace q193 := eq_true q193
                                                      have p194 : 0 ≤ (1 : Int) := (by omega)
                                                      have q194 : 1 < ((rd_L1 t176 x75_5).length : Int) := of_decide_eq_true (by first | (with_reducible assumption) | assumption)
                                                      obtain ⟨ad194, e194, hx194_0⟩ := Kd.at_int (by repeat (first | (with_reducible exact HR192_0.out) | (with_reducible refine Kd.C_alloc ?_ _) | (with_reducible refine Kd.C_drewN ?_ _) | (with_reducible refine Kd.C_drew ?_) | exact HR192_0.out)) 1 p194 q194
                                                      obtain rfl : ad193 = ad194 := (by injection e194)
                                                      (try simp only [show (1 : Int).toNat = 1 from rfl, Nat.reduceMul, Nat.reduceEqDiff, Go.Addr.add, ↓reduceIte] at hx194_0)
                                                      have qi194 : (1 < (rd_L1 t176 x75_5).length) = True := eq_true (by omega)
                                                      (try rw [show ((1 : Int)).toNat = 1 from rfl] at hx194_0)
                                                      replace p194 := eq_true p194
                                                      replace q194 := eq_true q194
                                                      go_wp2
                                                      repeat (go_quiet (fail); try go_wp2)
                                                      go_roundg k5
                                                      case measure => have := HJ7.out; have := HK2.out; have := HJ26.out; have := HK4.out; have := HK5.out; omega
                                                      case rel => exact ⟨(x12_5), (wrap64 (x75_5 + 1)), (by first | rfl | (simp; done) | (simp [*]; done)), (by first | rfl | (simp; done) | (simp [*]; done)), H', ⟨by have := HJ7.out; have := HK2.out; have := HJ26.out; have := HK4.out; have := HK5.out; omega⟩, ⟨by (with_reducible repeat (first | apply Kd.N_alloc | apply Kd.N_drewN | apply Kd.N_drew)); exact HO_6.out⟩, ⟨by (with_reducible repeat (first | apply Kd.R_alloc | apply Kd.R_drewN | apply Kd.R_drew)); exact HO_8.out⟩, ⟨by (with_reducible repeat (first | apply Kd.N_alloc | apply Kd.N_drewN | apply Kd.N_drew)); exact HO_73.out⟩, ⟨by repeat (first | (with_reducible first | exact HB.out | apply below_alloc | apply pw_below_drewN | apply below_drew1) | exact HB.out)⟩⟩
                                                  · rw [if_neg c38] at H
                                                    exact absurd H (by simp)
                                                · rw [if_neg c37] at H
                                                  have c37b0 : ((rd (rd_L1 t176 x75_5) 0) == x11_4) = false := beq_eq_false_iff_ne.mpr c37
                                                  have c37b1 : ((rd (rd_L1 t176 x75_5) 0) != x11_4) = true := bne_iff_ne.mpr c37
                                                  have H' := Aside0.mk H
                                                  clear H
                                                  have p192 : 0 ≤ (x75_5 : Int) := of_decide_eq_true (by first | (with_reducible assumption) | assumption)
                                                  have q192 : x75_5 < (t176.length : Int) := of_decide_eq_true (by first | (with_reducible assumption) | assumption)
                                                  obtain ⟨ad192, A192_0, c192_0, e192, hx192_0, hl192_0, hi192_0⟩ := at_L1 (Kd.N_reads' HO_73.out).2.2 x75_5 p192 q192
                                                  cases e192
                                                  obtain ⟨ce192, hce192, hMe192, hcc192⟩ := Kd.N_get HO_73.out [] x75_5 p192 (by first | exact q192 | exact of_decide_eq_true (by first | (with_reducible assumption) | assumption) | (have e_ := (Kd.N_reads' HO_73.out).1; omega))
                                                  obtain ⟨ua192_0, uc192_0, rfl, ul192_0, ge192_0⟩ := Kd.FK_slice_open hMe192
                                                  have hv192_0 := hcc192 0 _ rfl
                                                  rw [Nat.add_zero, show ((Kd.slice 3 (Kd.int .i64))).sz = 1 from rfl, Nat.mul_one] at hv192_0
                                                  replace hv192_0 := Option.some.inj (hv192_0.symm.trans hx192_0)
                                                  injection hv192_0 with hva_ hvn_ hvc_
                                                  rw [hva_] at ge192_0
                                                  rw [hvc_] at ul192_0
                                                  have HL192_0 := Aside0.mk (show Kd.V (Kd.int .i64) 3 _ w.heap.size _ _ (rd_L1 t176 x75_5) from Kd.V_mk ul192_0 ge192_0)
                                                  clear hva_ hvn_ hvc_ ge192_0 ul192_0
                                                  clear hcc192 hce192
                                                  have HR192_0 := Aside0.mk hi192_0
                                                  have HC192_0 := Aside0.mk hl192_0
                                                  clear hi192_0 hl192_0
                                                  replace p192 := eq_true p192
                                                  replace q192 := eq_true q192
                                                  have p193 : 0 ≤ (0 : Int) := (by omega)
                                                  have q193 : 0 < ((rd_L1 t176 x75_5).length : Int) := of_decide_eq_true (by first | (with_reducible assumption) | assumption)
                                                  obtain ⟨ad193, e193, hx193_0⟩ := Kd.at_int (by repeat (first | (with_reducible exact HR192_0.out) | (with_reducible refine Kd.C_alloc ?_ _) | (with_reducible refine Kd.C_drewN ?_ _) | (with_reducible refine Kd.C_drew ?_) | exact HR192_0.out)) 0 p193 q193
                                                  cases e193
                                                  have qi193 : (0 < (rd_L1 t176 x75_5).length) = True := eq_true (by omega)
                                                  (try rw [show ((0 : Int)).toNat = 0 from rfl] at hx193_0)
                                                  (try rw [Addr.add_zero'] at hx193_0)
                                                  replace p193 := eq_true p193
                                                  replace q193 := eq_true q193
                                                  go_wp2
                                                  repeat (go_quiet (fail); try go_wp2)
                                                  go_roundg k5
                                                  case measure => have := HJ7.out; have := HK2.out; have := HJ26.out; have := HK4.out; have := HK5.out; omega
                                                  case rel => exact ⟨(x12_5), (wrap64 (x75_5 + 1)), (by first | rfl | (simp; done) | (simp [*]; done)), (by first | rfl | (simp; done) | (simp [*]; done)), H', ⟨by have := HJ7.out; have := HK2.out; have := HJ26.out; have := HK4.out; have := HK5.out; omega⟩, ⟨by (with_reducible repeat (first | apply Kd.N_alloc | apply Kd.N_drewN | apply Kd.N_drew)); exact HO_6.out⟩, ⟨by (with_reducible repeat (first | apply Kd.R_alloc | apply Kd.R_drewN | apply Kd.R_drew)); exact HO_8.out⟩, ⟨by (with_reducible repeat (first | apply Kd.N_alloc | apply Kd.N_drewN | apply Kd.N_drew)); exact HO_73.out⟩, ⟨by repeat (first | (with_reducible first | exact HB.out | apply below_alloc | apply pw_below_drewN | apply below_drew1) | exact HB.out)⟩⟩
                                              · rw [if_neg c36] at H
                                                exact absurd H (by simp)
                                            · rw [if_neg c35] at H
                                              exact absurd H (by simp)
                                          · rw [if_neg c34] at H
                                            exact absurd H (by simp)
                                        · rw [if_neg c33] at H
                                          have c33b0 : decide (x75_5 < (t176.length : Int)) = false := decide_eq_false c33
                                          (try (first | rw [hl192_0] at c33b0))
                                          clear c33
                                          by_cases c40 : x9_4.size + x12_5.size ≤ 9223372036854775807
                                          · rw [if_pos c40] at H
                                            have c40b0 := eq_true c40
                                            have c40b1 : decide (x9_4.size + x12_5.size ≤ 9223372036854775807) = true := decide_eq_true c40
                                            try have c40b2 : (9223372036854775807 < x9_4.size + x12_5.size) = False := eq_false (Nat.not_lt.2 c40)
                                            have H' := Aside0.mk H
                                            clear H
                                            go_wp2
                                            repeat (go_quiet (fail); try go_wp2)
                                            go_roundg k5
                                            case measure => have := HJ7.out; have := HK2.out; have := HJ26.out; have := HK4.out; have := HK5.out; omega
                                            case rel => exact ⟨(x9_4 ++ x12_5), (wrap64 (x11_4 + 1)), (by first | rfl | (simp; done) | (simp [*]; done)), (by first | rfl | (simp; done) | (simp [*]; done)), H', ⟨by have := HJ7.out; have := HK2.out; have := HJ26.out; have := HK4.out; have := HK5.out; omega⟩, ⟨by (with_reducible repeat (first | apply Kd.N_alloc | apply Kd.N_drewN | apply Kd.N_drew)); exact HO_6.out⟩, ⟨by (with_reducible repeat (first | apply Kd.R_alloc | apply Kd.R_drewN | apply Kd.R_drew)); exact HO_8.out⟩, ⟨by repeat (first | (with_reducible first | exact HB.out | apply below_alloc | apply pw_below_drewN | apply below_drew1) | exact HB.out)⟩⟩
                                          · rw [if_neg c40] at H
                                            exact absurd H (by simp)
                                  · rw [if_neg c32] at H
                                    have c32b0 : decide (x11_4 ≤ (rd t180 1)) = false := decide_eq_false c32
                                    clear c32
                                    have H' := Aside0.mk H
                                    clear H
                                    have p191 : 0 ≤ (1 : Int) := (by omega)
                                    have q191 : 1 < (t180.length : Int) := of_decide_eq_true (by first | (with_reducible assumption) | assumption)
                                    obtain ⟨ad191, e191, hx191_0⟩ := Kd.at_int (Kd.R_reads' HO_8.out).2.2 1 p191 q191
                                    obtain rfl : ad187 = ad191 := (by injection e191)
                                    (try simp only [show (1 : Int).toNat = 1 from rfl, Nat.reduceMul, Nat.reduceEqDiff, Go.Addr.add, ↓reduceIte] at hx191_0)
                                    have qi191 : (1 < t180.length) = True := eq_true (by omega)
                                    (try rw [show ((1 : Int)).toNat = 1 from rfl] at hx191_0)
                                    replace p191 := eq_true p191
                                    replace q191 := eq_true q191
                                    go_wp2
                                    repeat (go_quiet (fail); try go_wp2)
                                    go_roundg k4
                                    case measure => have := HJ7.out; have := HK2.out; have := HJ26.out; have := HK4.out; omega
                                    case rel => exact ⟨(x9_4), (wrap64 (x10_2 + 1)), (by first | rfl | (simp; done) | (simp [*]; done)), (by first | rfl | (simp; done) | (simp [*]; done)), H', ⟨by have := HJ7.out; have := HK2.out; have := HJ26.out; have := HK4.out; omega⟩, ⟨by (with_reducible repeat (first | apply Kd.N_alloc | apply Kd.N_drewN | apply Kd.N_drew)); exact HO_6.out⟩, ⟨by (with_reducible repeat (first | apply Kd.R_alloc | apply Kd.R_drewN | apply Kd.R_drew)); exact HO_8.out⟩, ⟨by repeat (first | (with_reducible first | exact HB.out | apply below_alloc | apply pw_below_drewN | apply below_drew1) | exact HB.out)⟩⟩
                                · rw [if_neg c31] at H
                                  exact absurd H (by simp)
                          · rw [if_neg c30] at H
                            exact absurd H (by simp)
                    · rw [if_neg c26] at H
                      exact absurd H (by simp)
                  · rw [if_neg c25] at H
                    have c25b0 : decide (x10_2 ≤ (rd t180 3)) = false := decide_eq_false c25
                    clear c25
                    simp only [Option.some.injEq, Prod.mk.injEq] at H
                    obtain ⟨rfl, rfl⟩ := H
                    have p188 : 0 ≤ (3 : Int) := (by omega)
                    have q188 : 3 < (t180.length : Int) := of_decide_eq_true (by first | (with_reducible assumption) | assumption)
                    obtain ⟨ad188, e188, hx188_0⟩ := Kd.at_int (Kd.R_reads' HO_8.out).2.2 3 p188 q188
                    obtain rfl : ad187 = ad188 := (by injection e188)
                    (try simp only [show (3 : Int).toNat = 3 from rfl, Nat.reduceMul, Nat.reduceEqDiff, Go.Addr.add, ↓reduceIte] at hx188_0)
                    have qi188 : (3 < t180.length) = True := eq_true (by omega)
                    (try rw [show ((3 : Int)).toNat = 3 from rfl] at hx188_0)
                    replace p188 := eq_true p188
                    replace q188 := eq_true q188
                    go_wp2
                    repeat (go_quiet (fail); try go_wp2)
                    go_ret2
                    exact ⟨by first | rfl | (simp [errW_none, errW_some] <;> rfl) | (simp [*, errW_none, errW_some] <;> rfl), by repeat (first | (with_reducible first | exact HB.out | apply below_alloc | apply pw_below_drewN | apply below_drew1) | exact HB.out)⟩
                · rw [if_neg c24] at H
                  exact absurd H (by simp)
          · rw [if_neg c22] at H
            exact absurd H (by simp)
  · replace c4 := Bool.eq_false_iff.mpr c4
    subst c4
    have H1 : (some ((⟨#[]⟩ : ByteArray), false)) = some (r1, r2) := by rw [if_neg (show ¬ (false = true) by decide)] at H; exact H
    clear H
    have H := H1
    clear H1
    simp only [Option.some.injEq, Prod.mk.injEq] at H
    obtain ⟨rfl, rfl⟩ := H
    go_enter Try.func4, Try.ntmps4
    go_wp2_with (first | (go_at_call 6; (with_reducible refine (spec_tuShort.calls k a0 a1 false _ A3.out).mono ?_); rintro e w' ⟨rfl, ⟨nd, rfl⟩⟩; (try first | exact ⟨rfl, _, World.drewN_drewN _ _ _⟩ | exact ⟨rfl, _, Eq.trans (World.drewN_drewN _ _ _) (congrArg (World.drewN _) (Nat.add_assoc _ _ _))⟩)))
    repeat (go_quiet (first | (go_at_call 6; (with_reducible refine (spec_tuShort.calls k a0 a1 false _ A3.out).mono ?_); rintro e w' ⟨rfl, ⟨nd, rfl⟩⟩; (try first | exact ⟨rfl, _, World.drewN_drewN _ _ _⟩ | exact ⟨rfl, _, Eq.trans (World.drewN_drewN _ _ _) (congrArg (World.drewN _) (Nat.add_assoc _ _ _))⟩))); try go_wp2_with (first | (go_at_call 6; (with_reducible refine (spec_tuShort.calls k a0 a1 false _ A3.out).mono ?_); rintro e w' ⟨rfl, ⟨nd, rfl⟩⟩; (try first | exact ⟨rfl, _, World.drewN_drewN _ _ _⟩ | exact ⟨rfl, _, Eq.trans (World.drewN_drewN _ _ _) (congrArg (World.drewN _) (Nat.add_assoc _ _ _))⟩))))
    go_ret2
    exact ⟨by first | rfl | (simp [errW_none, errW_some] <;> rfl) | (simp [*, errW_none, errW_some] <;> rfl), by repeat (first | (with_reducible first | exact HB.out | apply below_alloc | apply pw_below_drewN | apply below_drew1) | exact HB.out)⟩

end Go.Proofs.Ytklnfjjpjkphiaa.PD
