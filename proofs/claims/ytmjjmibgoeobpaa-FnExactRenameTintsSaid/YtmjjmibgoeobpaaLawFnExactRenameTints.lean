/- The law FnExactRenameTints: for every argument the call of laws.FnExactRenameTints returns true, and each argument reads behind the call as it read before. No condition. -/
import Derived.Test.YtmjjmibgoeobpaaRows
import Derived.Test.YtmjjmibgoeobpaaPUx9
import Derived.Test.YtmjjmibgoeobpaaUPuRent
import Derived.Test.YtmjjmibgoeobpaaOp
import Derived.WalkKit
import Derived.ProofKit
import Derived.OpenShut
import Derived.ShutString
import Derived.ChangeOld
import Derived.Below
import Derived.SizedLaws
import Derived.Carry
import Derived.WideShapes
namespace Go.Proofs.Ytmjjmibgoeobpaa.fnExactRenameTints
open Go.ChangeShapes Go.WideShapes Go.ChangeAt Go.RowKit Go.Proofs.Ytmjjmibgoeobpaa.Op Go.Proofs.Ytmjjmibgoeobpaa.PU Go.Proofs.YtmjjmibgoeobpaaW.PrintWords Go.Proofs.YtmjjmibgoeobpaaW.PrintLast
open Go.ChangeMaps (open_string shut_string)
set_option linter.unusedVariables false
theorem own : ownKnob Try.prog.godebug = none := by kernel_rfl
theorem laidOut : laidOutB Try.prog = true := by kernel_rfl
set_option maxRecDepth 100000 in
theorem lifted (os : Os) (started : os.Started) (H : Type) (enc : TypeId × Value → H) :
    ReturnsInHanded {} Try.checked os 4 .any (Rows.fnExactRenameTintsSpec.pre6 enc Try.prog Try.f4 Rows.fnExactRenameTintsRow.domain false) (Rows.fnExactRenameTintsSpec.post enc Try.prog Try.f4 false true false false) := by
  refine returnsInHanded_of_change_sized (C := Try.checked) own started (by kernel_rfl) Try.func4
    (ChangeSpec.witness6 (enc := enc) (C := Try.checked) false ⟨#[], #[.agg #[.int .i64 0, .int .i64 0, .slice none 0 0], .slice none 0 0], []⟩ 8 (by kernel_rfl) (by kernel_rfl) (by kernel_rfl) (by kernel_rfl)) ?_
  intro W base args ds gs before hval0 hW hcnd hsz0 _
  have hval : ∀ (j : Nat) t v, Try.f4.params[j]? = some t → args[j]? = some v → Value.okWide Try.prog W .any base t v := hval0
  have hW' := hW
  obtain ⟨p, q, hA0, hV, rfl, hfz, hnd⟩ := hW
  have hA : DataW.TrodAll enc Try.prog W 0 (fun _ => true) true Try.f4.params.toList args.toList ds p := hA0
  rw [Try.params4] at hA hval
  obtain ⟨v0, vs0, d0, ds0, p0, q0, hargs, rfl, rfl, h0, r0⟩ := trodAll_cons hA
  obtain ⟨v1, vs1, d1, ds1, p1, q1, rfl, rfl, rfl, h1, r1⟩ := trodAll_cons r0
  obtain ⟨rfl, rfl, rfl⟩ := trodAll_nil r1
  obtain rfl : args = #[v0, v1] := by cases args; simp_all
  obtain ⟨rfl, rfl⟩ := trodVars_none hV
  have k0 := h0
  have lt0 : ∀ x ∈ p0, x.block < W.heap.size := by obtain ⟨m, hm⟩ := k0; exact DataW.trod_lt m _ _ _ hm
  obtain ⟨cs0, b0, hv0, hK0, hg0⟩ := open_struct_arg (d := (Kd.pair (Kd.int .i64) (Kd.pair (Kd.int .i64) (Kd.slice 57 k57)))) Try.underlying24 (opens_struct (n := 3) (ts := [3, 3, 22]) (os := [(0, 1), (1, 1), (2, 1)]) Try.underlying24 (by kernel_rfl) (by kernel_rfl) (by kernel_rfl) (opensF_cons (opens_int Try.underlying3) (opensF_cons (opens_int Try.underlying3) (opensF_one (opens_slice Try.underlying22 (opens_iso _ (fun x => (⟨x.1, x.2.1, x.2.2⟩ : S57)) (fun _ => rfl) (opens_struct (n := 3) (ts := [3, 9, 3]) (os := [(0, 1), (1, 1), (2, 1)]) Try.underlying57 (by kernel_rfl) (by kernel_rfl) (by kernel_rfl) (opensF_cons (opens_int Try.underlying3) (opensF_cons (opens_string Try.underlying9) (opensF_one (opens_int Try.underlying3)))) (fun cs h => by match cs, h with | [c0, c1, c2], _ => rfl))) (by kernel_rfl))))) (fun cs h => by match cs, h with | [c0, c1, c2], _ => rfl)) (hval 0 24 v0 rfl rfl) h0
  obtain ⟨a0_0, a0_1, l0_2⟩ := b0
  obtain ⟨_, _, rfl, rfl, ⟨_, _, rfl, rfl, ⟨A0_2, c0_2, rfl, hl0_2, hc0_2⟩⟩⟩ := hK0
  obtain rfl : v0 = .agg #[.int .i64 a0_0, .int .i64 a0_1, .slice A0_2 l0_2.length c0_2] := hv0
  have k1 := h1
  have lt1 : ∀ x ∈ p1, x.block < W.heap.size := by obtain ⟨m, hm⟩ := k1; exact DataW.trod_lt m _ _ _ hm
  obtain ⟨A1, c1, l1, hv1, hl1, hc1, hg1⟩ := open_slice_arg (d := (Kd.int .i64)) Try.underlying25 (opens_int Try.underlying3) (by kernel_rfl) (hval 1 25 v1 rfl rfl) h1
  obtain rfl := hv1
  obtain ⟨k, hk⟩ := Pure.FnExactRenameTints a0_0 a0_1 l0_2 l1 hg0 hg1
  refine (laws_FnExactRenameTints.calls k a0_0 a0_1 _ _ l0_2 _ _ l1 true W hc0_2 hl0_2 hc1 hl1 hk).mono fun e W' ⟨he, bel0⟩ => ?_
  have bel : Below W.heap.size W W' := bel0
  subst he
  exact ⟨_, rfl, _, _, _, [], _, [], hW', trodAll_mk1 (shut_bool Try.underlying4 _), (trodAll_cons_mk (Below.trod laidOut (by kernel_rfl) (of_decide_eq_true (by kernel_rfl)) k0 bel lt0) (trodAll_cons_mk (Below.trod laidOut (by kernel_rfl) (of_decide_eq_true (by kernel_rfl)) k1 bel lt1) trodAll_mk0)), rfl, bel.frame _, fun h => by cases h⟩
theorem over : Rows.fnExactRenameTintsRow.holds Try.pinned (OpenSpec.ofChange Rows.fnExactRenameTintsSpec) :=
  OpenClaim.holds_of_wide 4 Try.f4 rfl rfl rfl rfl rfl rfl rfl ⟨rfl, rfl, rfl, rfl, rfl⟩ rfl rfl rfl rfl rfl (by kernel_rfl) Try.func4 (by kernel_rfl)
    (of_decide_eq_true (by kernel_rfl)) (by unfold Func.isWrapper; first | (rw [if_pos (by decide +kernel)]; kernel_rfl) | (rw [if_neg (by decide +kernel)]; exact ⟨rfl, rfl⟩))
    (fun os started H enc _ => lifted os started H enc)
theorem proved : Rows.FnExactRenameTintsSaid := over
#print axioms proved
end Go.Proofs.Ytmjjmibgoeobpaa.fnExactRenameTints
namespace Go.Proofs.Ytmjjmibgoeobpaa
/-- The row, under a short name, for the claim. -/
theorem fnExactRenameTints_holds : Rows.FnExactRenameTintsSaid := fnExactRenameTints.proved
end Go.Proofs.Ytmjjmibgoeobpaa
