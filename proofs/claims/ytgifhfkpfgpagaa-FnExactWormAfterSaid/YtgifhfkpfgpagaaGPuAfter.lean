/- The plain laws of EatLine and WormAfter: for every worm, taste and number of steps the program's answer is the reference's. No condition. -/
import Derived.Test.YtgifhfkpfgpagaaPGx8
import Derived.Test.YtgifhfkpfgpagaaGPuEat
namespace Go.Proofs.Ytgifhfkpfgpagaa.Pure
open Go.RowKit Go.Proofs.Ytgifhfkpfgpagaa Go.Proofs.Ytgifhfkpfgpagaa.PG Go.Proofs.YtgifhfkpfgpagaaW.PrintWords Go.Proofs.YtgifhfkpfgpagaaW.PrintLast
set_option linter.unusedVariables false
set_option linter.unusedSimpArgs false

theorem after_l {s : ByteArray} (hs : ∀ j : Int, 0 ≤ j → j < s.size → bt s j < 128) (hl : s.size ≤ 9223372036854775807) (n : Nat) :
    ∀ {w h : Int} {r d : ByteArray} {x y v : Int} (g : StW w h r d x y v) (m t : Int), m.toNat = n → 0 ≤ m → m ≤ t → t ≤ 100 →
      ∃ res, Ev (fun k => spec_WormAfter.l0 k s m w h r d x y v) res ∧ Ev (fun k => impl_WormAfter.l0 k s t (t - m) w h r d x y v) res := by
  induction n with
  | zero =>
    intro w h r d x y v g m t hm m0 mt t1
    refine ⟨(w, h, r, d, x, y, v, true), Pl.ev_unf ⟨0, fun k _ => ?_⟩, Pl.ev_unf ⟨0, fun k _ => ?_⟩⟩
    · simp (disch := omega) only [↓reduceIte, Pl.lt_t, Pl.lt_f, Pl.le_t, Pl.le_f, Pl.ge_t, Pl.ge_f, Pl.gt_t, Pl.gt_f, Pl.eq_t, Pl.eq_f, Pl.nlt_t, Pl.nle_t, Pl.w64, Option.bind_some, Bool.false_eq_true, decide_eq_true_eq, spec_WormAfter.l0]
    · simp (disch := omega) only [↓reduceIte, Pl.lt_t, Pl.lt_f, Pl.le_t, Pl.le_f, Pl.ge_t, Pl.ge_f, Pl.gt_t, Pl.gt_f, Pl.eq_t, Pl.eq_f, Pl.nlt_t, Pl.nle_t, Pl.w64, Option.bind_some, Bool.false_eq_true, decide_eq_true_eq, impl_WormAfter.l0]
  | succ n ih =>
    intro w h r d x y v g m t hm m0 mt t1
    obtain ⟨o, e1, e2, ho⟩ := eat_both g hs hl
    cases o with
    | none =>
      have ns := eq_true no_sign
      refine ⟨(0, 0, (⟨#[]⟩ : ByteArray), (⟨#[]⟩ : ByteArray), 0, 0, 0, false), Pl.ev_unf ⟨0, fun k _ => ?_⟩, Pl.ev_unf ⟨0, fun k _ => ?_⟩⟩
      · simp (disch := omega) only [↓reduceIte, Pl.lt_t, Pl.lt_f, Pl.le_t, Pl.le_f, Pl.ge_t, Pl.ge_f, Pl.gt_t, Pl.gt_f, Pl.eq_t, Pl.eq_f, Pl.nlt_t, Pl.nle_t, Pl.w64, Option.bind_some, Bool.false_eq_true, decide_eq_true_eq, spec_WormAfter.l0, ↓Pl.bnd e1, e1, eatS, ns]
      · simp (disch := omega) only [↓reduceIte, Pl.lt_t, Pl.lt_f, Pl.le_t, Pl.le_f, Pl.ge_t, Pl.ge_f, Pl.gt_t, Pl.gt_f, Pl.eq_t, Pl.eq_f, Pl.nlt_t, Pl.nle_t, Pl.w64, Option.bind_some, Bool.false_eq_true, decide_eq_true_eq, impl_WormAfter.l0, ↓Pl.bnd e2, e2, eatI]
    | some p =>
      obtain ⟨j, a⟩ := p
      obtain ⟨j0, j1, a0, a3, _⟩ := ho j a rfl
      have ns := eq_false (one_sign j0 j1)
      have g' := st_eat (n := y * w + x) (c := 48 + 0) g a0 a3
      obtain ⟨res, ⟨K1, f1⟩, ⟨K2, f2⟩⟩ := ih g' (m - 1) t (by omega) (by omega) (by omega) t1
      refine ⟨res, Pl.ev_unf ⟨K1, fun k hk => ?_⟩, Pl.ev_unf ⟨K2, fun k hk => ?_⟩⟩
      · have f := f1 k hk
        simp (disch := omega) only [↓reduceIte, Pl.lt_t, Pl.lt_f, Pl.le_t, Pl.le_f, Pl.ge_t, Pl.ge_f, Pl.gt_t, Pl.gt_f, Pl.eq_t, Pl.eq_f, Pl.nlt_t, Pl.nle_t, Pl.w64, Option.bind_some, Bool.false_eq_true, decide_eq_true_eq, spec_WormAfter.l0, ↓Pl.bnd e1, e1, eatS, ns, f]
      · have f := f2 k hk
        rw [show t - (m - 1) = t - m + 1 by omega] at f
        simp (disch := omega) only [↓reduceIte, Pl.lt_t, Pl.lt_f, Pl.le_t, Pl.le_f, Pl.ge_t, Pl.ge_f, Pl.gt_t, Pl.gt_f, Pl.eq_t, Pl.eq_f, Pl.nlt_t, Pl.nle_t, Pl.w64, Option.bind_some, Bool.false_eq_true, decide_eq_true_eq, impl_WormAfter.l0, ↓Pl.bnd e2, e2, eatI, f]

theorem after_both (w h : Int) (r d : ByteArray) (x y v : Int) (s : ByteArray) (m : Int) (hr : r.size ≤ 9223372036854775807) (hd : d.size ≤ 9223372036854775807) (hl : s.size ≤ 9223372036854775807) :
    ∃ res, Ev (fun k => spec_WormAfter.f k w h r d x y v s m) res ∧ Ev (fun k => impl_WormAfter.f k w h r d x y v s m) res := by
  obtain ⟨b, ⟨K1, e1⟩, ⟨K2, e2⟩, hb⟩ := asked_both w h r d x y v s hr hd
  have no : (0, 0, (⟨#[]⟩ : ByteArray), (⟨#[]⟩ : ByteArray), 0, 0, 0, false) = ((0, 0, (⟨#[]⟩ : ByteArray), (⟨#[]⟩ : ByteArray), 0, 0, 0, false) : Int × Int × ByteArray × ByteArray × Int × Int × Int × Bool) := rfl
  cases b with
  | false =>
    refine ⟨(0, 0, (⟨#[]⟩ : ByteArray), (⟨#[]⟩ : ByteArray), 0, 0, 0, false), Pl.ev_unf ⟨K1, fun k hk => ?_⟩, Pl.ev_unf ⟨K2, fun k hk => ?_⟩⟩
    · have e1 := e1 (k + 1) (by omega)
      simp (disch := omega) only [↓reduceIte, Pl.lt_t, Pl.lt_f, Pl.le_t, Pl.le_f, Pl.ge_t, Pl.ge_f, Pl.gt_t, Pl.gt_f, Pl.eq_t, Pl.eq_f, Pl.nlt_t, Pl.nle_t, Pl.w64, Option.bind_some, Bool.false_eq_true, decide_eq_true_eq, spec_WormAfter.f, ↓Pl.bnd e1, e1, spec_WormAfter.j0]
    · have e2 := e2 (k + 1) (by omega)
      simp (disch := omega) only [↓reduceIte, Pl.lt_t, Pl.lt_f, Pl.le_t, Pl.le_f, Pl.ge_t, Pl.ge_f, Pl.gt_t, Pl.gt_f, Pl.eq_t, Pl.eq_f, Pl.nlt_t, Pl.nle_t, Pl.w64, Option.bind_some, Bool.false_eq_true, decide_eq_true_eq, impl_WormAfter.f, ↓Pl.bnd e2, e2, impl_WormAfter.j0]
  | true =>
    obtain ⟨g, hs, _⟩ := hb rfl
    by_cases c : 0 ≤ m ∧ m ≤ 100
    · obtain ⟨res, ⟨K3, f1⟩, ⟨K4, f2⟩⟩ := after_l hs hl _ g m m rfl c.1 (Int.le_refl _) c.2
      rw [Int.sub_self] at f2
      refine ⟨res, Pl.ev_unf ⟨K1 + K3, fun k hk => ?_⟩, Pl.ev_unf ⟨K2 + K4, fun k hk => ?_⟩⟩
      · have e1 := e1 (k + 1) (by omega)
        have f := f1 k (by omega)
        have l1 := l1In_t c.1 c.2
        simp (disch := omega) only [↓reduceIte, Pl.lt_t, Pl.lt_f, Pl.le_t, Pl.le_f, Pl.ge_t, Pl.ge_f, Pl.gt_t, Pl.gt_f, Pl.eq_t, Pl.eq_f, Pl.nlt_t, Pl.nle_t, Pl.w64, Option.bind_some, Bool.false_eq_true, decide_eq_true_eq, spec_WormAfter.f, ↓Pl.bnd e1, e1, ↓Pl.bnd l1, l1, spec_WormAfter.j0, Bool.not_true, f]
      · have e2 := e2 (k + 1) (by omega)
        have f := f2 k (by omega)
        have l1 := within_t c.1 c.2
        simp (disch := omega) only [↓reduceIte, Pl.lt_t, Pl.lt_f, Pl.le_t, Pl.le_f, Pl.ge_t, Pl.ge_f, Pl.gt_t, Pl.gt_f, Pl.eq_t, Pl.eq_f, Pl.nlt_t, Pl.nle_t, Pl.w64, Option.bind_some, Bool.false_eq_true, decide_eq_true_eq, impl_WormAfter.f, ↓Pl.bnd e2, e2, ↓Pl.bnd l1, l1, impl_WormAfter.j0, Bool.not_true, f]
    · refine ⟨(0, 0, (⟨#[]⟩ : ByteArray), (⟨#[]⟩ : ByteArray), 0, 0, 0, false), Pl.ev_unf ⟨K1, fun k hk => ?_⟩, Pl.ev_unf ⟨K2, fun k hk => ?_⟩⟩
      · have e1 := e1 (k + 1) (by omega)
        have l1 := l1In_f (a := m) (b := 0) (c := 100) (by omega)
        simp (disch := omega) only [↓reduceIte, Pl.lt_t, Pl.lt_f, Pl.le_t, Pl.le_f, Pl.ge_t, Pl.ge_f, Pl.gt_t, Pl.gt_f, Pl.eq_t, Pl.eq_f, Pl.nlt_t, Pl.nle_t, Pl.w64, Option.bind_some, Bool.false_eq_true, decide_eq_true_eq, spec_WormAfter.f, ↓Pl.bnd e1, e1, ↓Pl.bnd l1, l1, spec_WormAfter.j0, Bool.not_false]
      · have e2 := e2 (k + 1) (by omega)
        have l1 := within_f (a := m) (b := 0) (c := 100) (by omega)
        simp (disch := omega) only [↓reduceIte, Pl.lt_t, Pl.lt_f, Pl.le_t, Pl.le_f, Pl.ge_t, Pl.ge_f, Pl.gt_t, Pl.gt_f, Pl.eq_t, Pl.eq_f, Pl.nlt_t, Pl.nle_t, Pl.w64, Option.bind_some, Bool.false_eq_true, decide_eq_true_eq, impl_WormAfter.f, ↓Pl.bnd e2, e2, ↓Pl.bnd l1, l1, impl_WormAfter.j0, Bool.not_false]

theorem FnExactWormAfter (a0_0 : Int) (a0_1 : Int) (a0_2 : ByteArray) (a0_3 : ByteArray) (a0_4 : Int) (a0_5 : Int) (a0_6 : Int) (a1 : ByteArray) (a2 : Int) (h0 : ((Lit.int .i64 a0_0).wf = true) ∧ ((Lit.int .i64 a0_1).wf = true) ∧ (a0_2.size ≤ maxLen) ∧ (a0_3.size ≤ maxLen) ∧ ((Lit.int .i64 a0_4).wf = true) ∧ ((Lit.int .i64 a0_5).wf = true) ∧ ((Lit.int .i64 a0_6).wf = true)) (h1 : a1.size ≤ maxLen) (h2 : (Lit.int .i64 a2).wf = true) : ∃ k, laws_FnExactWormAfter.f k a0_0 a0_1 a0_2 a0_3 a0_4 a0_5 a0_6 a1 a2 = some true := by
  obtain ⟨_, _, hr, hd, _⟩ := h0
  have hr := Pl.le_max hr
  have hd := Pl.le_max hd
  have hl := Pl.le_max h1
  by_cases hs1 : (a1.size : Int) ≤ 1048576
  · by_cases hs : (a0_2.size : Int) + a0_3.size ≤ 1048576
    · have s1 := sz_small (w := a0_0) (h := a0_1) (x := a0_4) (y := a0_5) (way := a0_6) hs
      obtain ⟨⟨r1, r2, r3, r4, r5, r6, r7, r8⟩, ⟨K1, e1⟩, ⟨K2, e2⟩⟩ := after_both a0_0 a0_1 a0_2 a0_3 a0_4 a0_5 a0_6 a1 a2 hr hd hl
      refine ⟨K1 + K2, ?_⟩
      have e1 := e1 (K1 + K2) (by omega)
      have e2 := e2 (K1 + K2) (by omega)
      have e3 := eqWorm_self r1 r2 r3 r4 r5 r6 r7
      simp (disch := omega) only [↓reduceIte, Pl.lt_t, Pl.lt_f, Pl.le_t, Pl.le_f, Pl.ge_t, Pl.ge_f, Pl.gt_t, Pl.gt_f, Pl.eq_t, Pl.eq_f, Pl.nlt_t, Pl.nle_t, Pl.w64, Option.bind_some, Bool.false_eq_true, decide_eq_true_eq, laws_FnExactWormAfter.f, ↓Pl.bnd s1, s1, laws_toWorm.f, ↓Pl.bnd e1, e1, ↓Pl.bnd e2, e2, ↓Pl.bnd e3, e3, bne_self_eq_false]
    · refine ⟨0, ?_⟩
      simp (disch := omega) only [↓reduceIte, Pl.lt_t, Pl.lt_f, Pl.le_t, Pl.le_f, Pl.ge_t, Pl.ge_f, Pl.gt_t, Pl.gt_f, Pl.eq_t, Pl.eq_f, Pl.nlt_t, Pl.nle_t, Pl.w64, Option.bind_some, Bool.false_eq_true, decide_eq_true_eq, laws_FnExactWormAfter.f, sz_big]
  · refine ⟨0, ?_⟩
    simp (disch := omega) only [↓reduceIte, Pl.lt_t, Pl.lt_f, Pl.le_t, Pl.le_f, Pl.ge_t, Pl.ge_f, Pl.gt_t, Pl.gt_f, Pl.eq_t, Pl.eq_f, Pl.nlt_t, Pl.nle_t, Pl.w64, Option.bind_some, Bool.false_eq_true, decide_eq_true_eq, laws_FnExactWormAfter.f]

end Go.Proofs.Ytgifhfkpfgpagaa.Pure
