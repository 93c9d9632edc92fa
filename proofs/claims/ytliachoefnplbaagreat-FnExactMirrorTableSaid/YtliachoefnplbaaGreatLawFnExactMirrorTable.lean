/- The law FnExactMirrorTable: for every argument the call of laws.FnExactMirrorTable returns true, and each argument reads behind the call as it read before. No condition. -/
import Derived.Test.YtliachoefnplbaaGreatRows
import Derived.Test.YtliachoefnplbaaGreatPMx7
import Derived.Test.YtliachoefnplbaaGreatMPuMirror
import Derived.Test.YtliachoefnplbaaGreatOp
import Derived.WalkKit
import Derived.ProofKit
import Derived.OpenShut
import Derived.ShutString
import Derived.ChangeOld
import Derived.Below
import Derived.SizedLaws
import Derived.Carry
import Derived.WideShapes
namespace Go.Proofs.YtliachoefnplbaaGreat.fnExactMirrorTable
open Go.ChangeShapes Go.WideShapes Go.ChangeAt Go.RowKit Go.Proofs.YtliachoefnplbaaGreat.Op Go.Proofs.YtliachoefnplbaaGreat.PM Go.Proofs.YtliachoefnplbaaGreatW.PrintWords Go.Proofs.YtliachoefnplbaaGreatW.PrintLast
open Go.ChangeMaps (open_string shut_string)
set_option linter.unusedVariables false
theorem own : ownKnob Tryz.prog.godebug = none := by kernel_rfl
theorem laidOut : laidOutB Tryz.prog = true := by kernel_rfl
set_option maxRecDepth 100000 in
theorem lifted (os : Os) (started : os.Started) (H : Type) (enc : TypeId × Value → H) :
    ReturnsInHanded {} Tryz.checked os 3 .any (Rows.fnExactMirrorTableSpec.pre6 enc Tryz.prog Tryz.f3 Rows.fnExactMirrorTableRow.domain false) (Rows.fnExactMirrorTableSpec.post enc Tryz.prog Tryz.f3 false true false false) := by
  refine returnsInHanded_of_change_sized (C := Tryz.checked) own started (by kernel_rfl) Tryz.func3
    (ChangeSpec.witness6 (enc := enc) (C := Tryz.checked) false ⟨#[], #[.agg #[.int .i64 0, .int .i64 0, .slice none 0 0]], []⟩ 8 (by kernel_rfl) (by kernel_rfl) (by kernel_rfl) (by kernel_rfl)) ?_
  intro W base args ds gs before hval0 hW hcnd hsz0 _
  have hval : ∀ (j : Nat) t v, Tryz.f3.params[j]? = some t → args[j]? = some v → Value.okWide Tryz.prog W .any base t v := hval0
  have hW' := hW
  obtain ⟨p, q, hA0, hV, rfl, hfz, hnd⟩ := hW
  have hA : DataW.TrodAll enc Tryz.prog W 0 (fun _ => true) true Tryz.f3.params.toList args.toList ds p := hA0
  rw [Tryz.params3] at hA hval
  obtain ⟨v0, vs0, d0, ds0, p0, q0, hargs, rfl, rfl, h0, r0⟩ := trodAll_cons hA
  obtain ⟨rfl, rfl, rfl⟩ := trodAll_nil r0
  obtain rfl : args = #[v0] := by cases args; simp_all
  obtain ⟨rfl, rfl⟩ := trodVars_none hV
  have k0 := h0
  have lt0 : ∀ x ∈ p0, x.block < W.heap.size := by obtain ⟨m, hm⟩ := k0; exact DataW.trod_lt m _ _ _ hm
  obtain ⟨cs0, b0, hv0, hK0, hg0⟩ := open_struct_arg (d := (Kd.pair (Kd.int .i64) (Kd.pair (Kd.int .i64) (Kd.slice 45 k45)))) Tryz.underlying24 (opens_struct (n := 3) (ts := [3, 3, 22]) (os := [(0, 1), (1, 1), (2, 1)]) Tryz.underlying24 (by kernel_rfl) (by kernel_rfl) (by kernel_rfl) (opensF_cons (opens_int Tryz.underlying3) (opensF_cons (opens_int Tryz.underlying3) (opensF_one (opens_slice Tryz.underlying22 (opens_iso _ (fun x => (⟨x.1, x.2.1, x.2.2⟩ : S45)) (fun _ => rfl) (opens_struct (n := 3) (ts := [3, 9, 3]) (os := [(0, 1), (1, 1), (2, 1)]) Tryz.underlying45 (by kernel_rfl) (by kernel_rfl) (by kernel_rfl) (opensF_cons (opens_int Tryz.underlying3) (opensF_cons (opens_string Tryz.underlying9) (opensF_one (opens_int Tryz.underlying3)))) (fun cs h => by match cs, h with | [c0, c1, c2], _ => rfl))) (by kernel_rfl))))) (fun cs h => by match cs, h with | [c0, c1, c2], _ => rfl)) (hval 0 24 v0 rfl rfl) h0
  obtain ⟨a0_0, a0_1, l0_2⟩ := b0
  obtain ⟨_, _, rfl, rfl, ⟨_, _, rfl, rfl, ⟨A0_2, c0_2, rfl, hl0_2, hc0_2⟩⟩⟩ := hK0
  obtain rfl : v0 = .agg #[.int .i64 a0_0, .int .i64 a0_1, .slice A0_2 l0_2.length c0_2] := hv0
  obtain ⟨k, hk⟩ := Pure.FnExactMirrorTable a0_0 a0_1 l0_2 hg0
  refine (laws_FnExactMirrorTable.calls k a0_0 a0_1 _ _ l0_2 true W hc0_2 hl0_2 hk).mono fun e W' ⟨he, bel0⟩ => ?_
  have bel : Below W.heap.size W W' := bel0
  subst he
  exact ⟨_, rfl, _, _, _, [], _, [], hW', trodAll_mk1 (shut_bool Tryz.underlying4 _), (trodAll_cons_mk (Below.trod laidOut (by kernel_rfl) (of_decide_eq_true (by kernel_rfl)) k0 bel lt0) trodAll_mk0), rfl, bel.frame _, fun h => by cases h⟩
theorem over : Rows.fnExactMirrorTableRow.holds Tryz.pinned (OpenSpec.ofChange Rows.fnExactMirrorTableSpec) :=
  OpenClaim.holds_of_wide 3 Tryz.f3 rfl rfl rfl rfl rfl rfl rfl ⟨rfl, rfl, rfl, rfl, rfl⟩ rfl rfl rfl rfl rfl (by kernel_rfl) Tryz.func3 (by kernel_rfl)
    (of_decide_eq_true (by kernel_rfl)) (by unfold Func.isWrapper; first | (rw [if_pos (by decide +kernel)]; kernel_rfl) | (rw [if_neg (by decide +kernel)]; exact ⟨rfl, rfl⟩))
    (fun os started H enc _ => lifted os started H enc)
theorem proved : Rows.FnExactMirrorTableSaid := over
#print axioms proved
end Go.Proofs.YtliachoefnplbaaGreat.fnExactMirrorTable
namespace Go.Proofs.YtliachoefnplbaaGreat
/-- The row, under a short name, for the claim. -/
theorem fnExactMirrorTable_holds : Rows.FnExactMirrorTableSaid := fnExactMirrorTable.proved
end Go.Proofs.YtliachoefnplbaaGreat
