/- The plain laws of EatLine and WormAfter: for every worm, taste and number of steps the program's answer is the reference's. No condition. -/
import Derived.Test.YtgifhfkpfgpagaaPCx7
import Derived.Test.YtgifhfkpfgpagaaCPuEat
namespace Go.Proofs.Ytgifhfkpfgpagaa.Pure
open Go.RowKit Go.Proofs.Ytgifhfkpfgpagaa Go.Proofs.Ytgifhfkpfgpagaa.PC Go.Proofs.YtgifhfkpfgpagaaW.PrintWords Go.Proofs.YtgifhfkpfgpagaaW.PrintLast
set_option linter.unusedVariables false
set_option linter.unusedSimpArgs false

theorem eatline_both (w h : Int) (r d : ByteArray) (x y v : Int) (s : ByteArray) (hr : r.size ≤ 9223372036854775807) (hd : d.size ≤ 9223372036854775807) (hl : s.size ≤ 9223372036854775807) :
    ∃ res, Ev (fun k => spec_EatLine.f k w h r d x y v s) res ∧ Ev (fun k => impl_EatLine.f k w h r d x y v s) res := by
  obtain ⟨b, ⟨K1, e1⟩, ⟨K2, e2⟩, hb⟩ := asked_both w h r d x y v s hr hd
  cases b with
  | false =>
    refine ⟨(0, 0, (⟨#[]⟩ : ByteArray), (⟨#[]⟩ : ByteArray), 0, 0, 0, false), ⟨K1, fun k hk => ?_⟩, Pl.ev_unf ⟨K2, fun k hk => ?_⟩⟩
    · have e1 := e1 k hk
      simp (disch := omega) only [↓reduceIte, Pl.lt_t, Pl.lt_f, Pl.le_t, Pl.le_f, Pl.ge_t, Pl.ge_f, Pl.gt_t, Pl.gt_f, Pl.eq_t, Pl.eq_f, Pl.nlt_t, Pl.nle_t, Pl.w64, Option.bind_some, Bool.false_eq_true, decide_eq_true_eq, spec_EatLine.f, ↓Pl.bnd e1, e1]
    · have e2 := e2 (k + 1) (by omega)
      simp (disch := omega) only [↓reduceIte, Pl.lt_t, Pl.lt_f, Pl.le_t, Pl.le_f, Pl.ge_t, Pl.ge_f, Pl.gt_t, Pl.gt_f, Pl.eq_t, Pl.eq_f, Pl.nlt_t, Pl.nle_t, Pl.w64, Option.bind_some, Bool.false_eq_true, decide_eq_true_eq, impl_EatLine.f, impl_WormAfter.f, ↓Pl.bnd e2, e2, impl_WormAfter.j0]
  | true =>
    obtain ⟨g, hs, _⟩ := hb rfl
    have l1 := within_t (a := 1) (b := 0) (c := 100) (by omega) (by omega)
    obtain ⟨o, f1, f2, ho⟩ := eat_both g hs hl
    cases o with
    | none =>
      have ns := eq_true no_sign
      refine ⟨(0, 0, (⟨#[]⟩ : ByteArray), (⟨#[]⟩ : ByteArray), 0, 0, 0, false), ⟨K1, fun k hk => ?_⟩, Pl.ev_of (K2 + 3) fun k hk => ?_⟩
      · have e1 := e1 k hk
        simp (disch := omega) only [↓reduceIte, Pl.lt_t, Pl.lt_f, Pl.le_t, Pl.le_f, Pl.ge_t, Pl.ge_f, Pl.gt_t, Pl.gt_f, Pl.eq_t, Pl.eq_f, Pl.nlt_t, Pl.nle_t, Pl.w64, Option.bind_some, Bool.false_eq_true, decide_eq_true_eq, spec_EatLine.f, ↓Pl.bnd e1, e1, ↓Pl.bnd f1, f1, eatS, ns]
      · have e2 := e2 k (by omega)
        obtain ⟨q, rfl⟩ : ∃ q, k = q + 3 := ⟨k - 3, by omega⟩
        simp (disch := omega) only [↓reduceIte, Pl.lt_t, Pl.lt_f, Pl.le_t, Pl.le_f, Pl.ge_t, Pl.ge_f, Pl.gt_t, Pl.gt_f, Pl.eq_t, Pl.eq_f, Pl.nlt_t, Pl.nle_t, Pl.w64, Option.bind_some, Bool.false_eq_true, decide_eq_true_eq, impl_EatLine.f, impl_WormAfter.f, ↓Pl.bnd e2, e2, ↓Pl.bnd l1, l1, impl_WormAfter.j0, impl_WormAfter.l0, Bool.not_true, ↓Pl.bnd f2, f2, eatI]
    | some p =>
      obtain ⟨j, a⟩ := p
      obtain ⟨j0, j1, a0, a3, _⟩ := ho j a rfl
      have ns := eq_false (one_sign j0 j1)
      refine ⟨(w, h, setR r w h (y * w + x) a (48 + 0), setD d w h (y * w + x) a (48 + 0), (x + dx a) % w, (y + dy a) % h, a, true), ⟨K1, fun k hk => ?_⟩, Pl.ev_of (K2 + 3) fun k hk => ?_⟩
      · have e1 := e1 k hk
        simp (disch := omega) only [↓reduceIte, Pl.lt_t, Pl.lt_f, Pl.le_t, Pl.le_f, Pl.ge_t, Pl.ge_f, Pl.gt_t, Pl.gt_f, Pl.eq_t, Pl.eq_f, Pl.nlt_t, Pl.nle_t, Pl.w64, Option.bind_some, Bool.false_eq_true, decide_eq_true_eq, spec_EatLine.f, ↓Pl.bnd e1, e1, ↓Pl.bnd f1, f1, eatS, ns]
      · have e2 := e2 k (by omega)
        obtain ⟨q, rfl⟩ : ∃ q, k = q + 3 := ⟨k - 3, by omega⟩
        simp (disch := omega) only [↓reduceIte, Pl.lt_t, Pl.lt_f, Pl.le_t, Pl.le_f, Pl.ge_t, Pl.ge_f, Pl.gt_t, Pl.gt_f, Pl.eq_t, Pl.eq_f, Pl.nlt_t, Pl.nle_t, Pl.w64, Option.bind_some, Bool.false_eq_true, decide_eq_true_eq, impl_EatLine.f, impl_WormAfter.f, ↓Pl.bnd e2, e2, ↓Pl.bnd l1, l1, impl_WormAfter.j0, impl_WormAfter.l0, Bool.not_true, ↓Pl.bnd f2, f2, eatI]

theorem FnExactEatLine (a0_0 : Int) (a0_1 : Int) (a0_2 : ByteArray) (a0_3 : ByteArray) (a0_4 : Int) (a0_5 : Int) (a0_6 : Int) (a1 : ByteArray) (h0 : ((Lit.int .i64 a0_0).wf = true) ∧ ((Lit.int .i64 a0_1).wf = true) ∧ (a0_2.size ≤ maxLen) ∧ (a0_3.size ≤ maxLen) ∧ ((Lit.int .i64 a0_4).wf = true) ∧ ((Lit.int .i64 a0_5).wf = true) ∧ ((Lit.int .i64 a0_6).wf = true)) (h1 : a1.size ≤ maxLen) : ∃ k, laws_FnExactEatLine.f k a0_0 a0_1 a0_2 a0_3 a0_4 a0_5 a0_6 a1 = some true := by
  obtain ⟨_, _, hr, hd, _⟩ := h0
  have hr := Pl.le_max hr
  have hd := Pl.le_max hd
  have hl := Pl.le_max h1
  by_cases hs1 : (a1.size : Int) ≤ 1048576
  · by_cases hs : (a0_2.size : Int) + a0_3.size ≤ 1048576
    · have s1 := sz_small (w := a0_0) (h := a0_1) (x := a0_4) (y := a0_5) (way := a0_6) hs
      obtain ⟨⟨r1, r2, r3, r4, r5, r6, r7, r8⟩, ⟨K1, e1⟩, ⟨K2, e2⟩⟩ := eatline_both a0_0 a0_1 a0_2 a0_3 a0_4 a0_5 a0_6 a1 hr hd hl
      refine ⟨K1 + K2, ?_⟩
      have e1 := e1 (K1 + K2) (by omega)
      have e2 := e2 (K1 + K2) (by omega)
      have e3 := eqWorm_self r1 r2 r3 r4 r5 r6 r7
      simp (disch := omega) only [↓reduceIte, Pl.lt_t, Pl.lt_f, Pl.le_t, Pl.le_f, Pl.ge_t, Pl.ge_f, Pl.gt_t, Pl.gt_f, Pl.eq_t, Pl.eq_f, Pl.nlt_t, Pl.nle_t, Pl.w64, Option.bind_some, Bool.false_eq_true, decide_eq_true_eq, laws_FnExactEatLine.f, ↓Pl.bnd s1, s1, laws_toWorm.f, ↓Pl.bnd e1, e1, ↓Pl.bnd e2, e2, ↓Pl.bnd e3, e3, bne_self_eq_false]
    · refine ⟨0, ?_⟩
      simp (disch := omega) only [↓reduceIte, Pl.lt_t, Pl.lt_f, Pl.le_t, Pl.le_f, Pl.ge_t, Pl.ge_f, Pl.gt_t, Pl.gt_f, Pl.eq_t, Pl.eq_f, Pl.nlt_t, Pl.nle_t, Pl.w64, Option.bind_some, Bool.false_eq_true, decide_eq_true_eq, laws_FnExactEatLine.f, sz_big]
  · refine ⟨0, ?_⟩
    simp (disch := omega) only [↓reduceIte, Pl.lt_t, Pl.lt_f, Pl.le_t, Pl.le_f, Pl.ge_t, Pl.ge_f, Pl.gt_t, Pl.gt_f, Pl.eq_t, Pl.eq_f, Pl.nlt_t, Pl.nle_t, Pl.w64, Option.bind_some, Bool.false_eq_true, decide_eq_true_eq, laws_FnExactEatLine.f]

end Go.Proofs.Ytgifhfkpfgpagaa.Pure
