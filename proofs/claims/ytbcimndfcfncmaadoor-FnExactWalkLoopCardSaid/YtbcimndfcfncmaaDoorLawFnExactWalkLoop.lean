/- The law FnExactWalkLoop: for every argument the call of laws.FnExactWalkLoop returns true, and each argument reads behind the call as it read before. No condition. -/
import Derived.Test.YtbcimndfcfncmaaDoorRows
import Derived.Test.YtbcimndfcfncmaaDoorPLx6
import Derived.Test.YtbcimndfcfncmaaDoorLPuRLoop
import Derived.Test.YtbcimndfcfncmaaDoorOp
import Derived.WalkKit
import Derived.ProofKit
import Derived.OpenShut
import Derived.ShutString
import Derived.ChangeOld
import Derived.Below
import Derived.SizedLaws
import Derived.Carry
import Derived.WideShapes
import Derived.Test.YtbcimndfcfncmaaDoorTie
import Derived.Test.YtbcimndfcfncmaaDoorCards
import Derived.LaidMore
import Derived.Lay
import Derived.SevenTiedAt
import Derived.Stop.Joined
namespace Go.Proofs.YtbcimndfcfncmaaDoor.fnExactWalkLoop
open Go.ChangeShapes Go.WideShapes Go.ChangeAt Go.RowKit Go.Proofs.YtbcimndfcfncmaaDoor.Op Go.Proofs.YtbcimndfcfncmaaDoor.PL Go.Proofs.YtbcimndfcfncmaaDoorW.PrintWords Go.Proofs.YtbcimndfcfncmaaDoorW.PrintLast
open Go.ChangeMaps (open_string shut_string)
set_option linter.unusedVariables false
theorem own : ownKnob Tryd.prog.godebug = none := by kernel_rfl
theorem laidOut : laidOutB Tryd.prog = true := by kernel_rfl
set_option maxRecDepth 100000 in
theorem lifted (os : Os) (started : os.Started) (H : Type) (enc : TypeId × Value → H) :
    ReturnsInHanded {} Tryd.checked os 3 .any (fun w args => (Rows.fnExactWalkLoopSpec.pre enc Tryd.prog Tryd.f3 Rows.fnExactWalkLoopRow.domain false w args ∧ laidMetH Tryd.prog Rows.fnExactWalkLoopRow.laid w) ∧ sizedMet enc Tryd.prog Tryd.f3 (OpenSpec.ofChange Rows.fnExactWalkLoopSpec) false w args) (Rows.fnExactWalkLoopSpec.post enc Tryd.prog Tryd.f3 false true false false) := by
  refine returnsInHanded_of_change_and (C := Tryd.checked) (X := fun w _ => laidMetH Tryd.prog Rows.fnExactWalkLoopRow.laid w) (fun _ _ _ hh h => h.of_heap hh) own started (by kernel_rfl) Tryd.func3
    (ChangeSpec.witness_shaped (enc := enc) (C := Tryd.checked) (os := os) (X := fun w _ => laidMetH Tryd.prog Rows.fnExactWalkLoopRow.laid w) false (World.laidAll Tryd.prog os Rows.fnExactWalkLoopRow.laid) #[.agg #[.slice none 0 0, .slice none 0 0], .int .i64 0] 8 (World.laidAll_os _ _ _) (World.shaped_of_ZipB (by kernel_rfl) (by kernel_rfl)) (by kernel_rfl) (by kernel_rfl) (by kernel_rfl)
      (by rw [MakeChecks.laidMetH_plain _ _ _ (by kernel_rfl)]; exact laidMet_laidAll _ (by kernel_rfl) (by kernel_rfl))) ?_
  intro W base args ds gs before hval0 hW hcnd hsz0 hL _
  have hval : ∀ (j : Nat) t v, Tryd.f3.params[j]? = some t → args[j]? = some v → Value.okWide Tryd.prog W .any base t v := hval0
  have hW' := hW
  obtain ⟨p, q, hA0, hV, rfl, hfz, hnd⟩ := hW
  have hA : DataW.TrodAll enc Tryd.prog W 0 (fun _ => true) true Tryd.f3.params.toList args.toList ds p := hA0
  rw [Tryd.params3] at hA hval
  obtain ⟨v0, vs0, d0, ds0, p0, q0, hargs, rfl, rfl, h0, r0⟩ := trodAll_cons hA
  obtain ⟨v1, vs1, d1, ds1, p1, q1, rfl, rfl, rfl, h1, r1⟩ := trodAll_cons r0
  obtain ⟨rfl, rfl, rfl⟩ := trodAll_nil r1
  obtain rfl : args = #[v0, v1] := by cases args; simp_all
  obtain ⟨rfl, rfl⟩ := trodVars_none hV
  have k0 := h0
  have lt0 : ∀ x ∈ p0, x.block < W.heap.size := by obtain ⟨m, hm⟩ := k0; exact DataW.trod_lt m _ _ _ hm
  obtain ⟨cs0, b0, hv0, hK0, hg0⟩ := open_struct_arg (d := (Kd.pair (Kd.slice 23 (Kd.slice 3 (Kd.int .i64))) (Kd.slice 3 (Kd.int .i64)))) Tryd.underlying25 (opens_struct (n := 2) (ts := [22, 23]) (os := [(0, 1), (1, 1)]) Tryd.underlying25 (by kernel_rfl) (by kernel_rfl) (by kernel_rfl) (opensF_cons (opens_slice Tryd.underlying22 (opens_slice Tryd.underlying23 (opens_int Tryd.underlying3) (by kernel_rfl)) (by kernel_rfl)) (opensF_one (opens_slice Tryd.underlying23 (opens_int Tryd.underlying3) (by kernel_rfl)))) (fun cs h => by match cs, h with | [c0, c1], _ => rfl)) (hval 0 25 v0 rfl rfl) h0
  obtain ⟨l0_0, l0_1⟩ := b0
  obtain ⟨_, _, rfl, ⟨A0_0, c0_0, rfl, hl0_0, hc0_0⟩, ⟨A0_1, c0_1, rfl, hl0_1, hc0_1⟩⟩ := hK0
  obtain rfl : v0 = .agg #[.slice A0_0 l0_0.length c0_0, .slice A0_1 l0_1.length c0_1] := hv0
  have k1 := h1
  have lt1 : ∀ x ∈ p1, x.block < W.heap.size := by obtain ⟨m, hm⟩ := k1; exact DataW.trod_lt m _ _ _ hm
  obtain ⟨a1, rfl, rfl, rfl, hg1⟩ := open_int Tryd.underlying3 (hval 1 3 v1 rfl rfl) h1
  obtain ⟨k, hk⟩ := Pure.FnExactWalkLoop l0_0 l0_1 a1 hg0 hg1
  refine (laws_FnExactWalkLoop.calls k _ _ l0_0 _ _ l0_1 a1 true W hc0_0 hl0_0 hc0_1 hl0_1 hk).mono fun e W' ⟨he, bel0⟩ => ?_
  have bel : Below W.heap.size W W' := bel0
  subst he
  exact ⟨_, rfl, _, _, _, [], _, [], hW', trodAll_mk1 (shut_bool Tryd.underlying4 _), (trodAll_cons_mk (Below.trod laidOut (by kernel_rfl) (of_decide_eq_true (by kernel_rfl)) k0 bel lt0) (trodAll_cons_mk (Below.trod laidOut (by kernel_rfl) (of_decide_eq_true (by kernel_rfl)) k1 bel lt1) trodAll_mk0)), rfl, bel.frame _, fun h => by cases h⟩
theorem over : Rows.fnExactWalkLoopRow.holds Tryd.pinned (OpenSpec.ofChange Rows.fnExactWalkLoopSpec) :=
  OpenClaim.holds_of_wide 3 Tryd.f3 rfl rfl rfl rfl rfl rfl rfl ⟨rfl, rfl, rfl, rfl, rfl⟩ rfl rfl rfl rfl rfl (by kernel_rfl) Tryd.func3 (by kernel_rfl)
    (of_decide_eq_true (by kernel_rfl)) (by unfold Func.isWrapper; first | (rw [if_pos (by decide +kernel)]; kernel_rfl) | (rw [if_neg (by decide +kernel)]; exact ⟨rfl, rfl⟩))
    (fun os started H enc _ => lifted os started H enc)
theorem proved : Rows.FnExactWalkLoopSaid := over
theorem card_holds : Rows.FnExactWalkLoopCardSaid :=
  Claim7.holds_tied_plain_at .later [] [.data, .data, .data] true (true, "5e8e975d58baba9a0e1dcb8562e90aaaea7ce10e2ebc05df0e94ae4f49ff686b") false proved (fun _ h => by cases h) (by kernel_rfl) (fun _ h => by cases h) fnExactWalkLoop_row_tie rfl ⟨rfl, rfl⟩ (by kernel_rfl) rfl
    (fun f fn hf hfn => by
      obtain rfl : f = 3 := Option.some.inj ((show Tryd.prog.funcNamed "loop.example/g01276/laws.FnExactWalkLoop" = some 3 by kernel_rfl).symm.trans hf) |>.symm
      obtain rfl : fn = Tryd.f3 := (Option.some.inj (Tryd.func3.symm.trans hfn)).symm
      exact ⟨by kernel_rfl, fun j t ht => by
        rw [Tryd.params3] at ht
        have hm : t ∈ [25, 3] := by simpa using Array.mem_of_getElem? ht
        have hall : ([25, 3].all fun u => !Tryd.prog.wantsStandIn u) = true := by kernel_rfl
        exact (show Tryd.prog.wantsStandIn t = false by simpa using List.all_eq_true.1 hall t hm)⟩)
    (by kernel_rfl)
#print axioms card_holds
end Go.Proofs.YtbcimndfcfncmaaDoor.fnExactWalkLoop
namespace Go.Proofs.YtbcimndfcfncmaaDoor
/-- The row, under a short name, for the claim. -/
theorem fnExactWalkLoop_holds : Rows.FnExactWalkLoopCardSaid := fnExactWalkLoop.card_holds
end Go.Proofs.YtbcimndfcfncmaaDoor
