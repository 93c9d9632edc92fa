/- The plain law of FreshWorm: for every size the program's answer is the reference's. No condition. -/
import Derived.Test.YtgifhfkpfgpagaaPLx1
import Derived.Test.YtgifhfkpfgpagaaLPuWorm
import Derived.Test.YtgifhfkpfgpagaaLPuWorm2
namespace Go.Proofs.Ytgifhfkpfgpagaa.Pure
open Go.RowKit Go.Proofs.Ytgifhfkpfgpagaa Go.Proofs.Ytgifhfkpfgpagaa.PL Go.Proofs.YtgifhfkpfgpagaaW.PrintWords Go.Proofs.YtgifhfkpfgpagaaW.PrintLast
set_option linter.unusedVariables false
set_option linter.unusedSimpArgs false

theorem ones_l (n : Nat) : ∀ (m : Int) (s : ByteArray), m.toNat = n → 0 ≤ m → s.size + n ≤ 1000 → Ev (fun k => spec_wmOnes.l0 k m s) (s ++ (⟨(Lib.repeatL [49] n).toArray⟩ : ByteArray)) := by
  induction n with
  | zero =>
    intro m s hm m0 hs
    refine Pl.ev_unf ⟨0, fun k _ => ?_⟩
    simp (disch := omega) only [↓reduceIte, Pl.lt_t, Pl.lt_f, Pl.le_t, Pl.le_f, Pl.ge_t, Pl.ge_f, Pl.gt_t, Pl.gt_f, Pl.eq_t, Pl.eq_f, Pl.nlt_t, Pl.nle_t, Pl.w64, Option.bind_some, Bool.false_eq_true, decide_eq_true_eq, spec_wmOnes.l0]
    congr 1
    exact (ByteArray.append_empty).symm
  | succ n ih =>
    intro m s hm m0 hs
    obtain ⟨K, f⟩ := ih (m - 1) (s ++ (⟨#[49]⟩ : ByteArray)) (by omega) (by omega) (by rw [ByteArray.size_append]; show s.size + 1 + n ≤ 1000; omega)
    refine Pl.ev_unf ⟨K, fun k hk => ?_⟩
    have f := f k hk
    simp (disch := omega) only [↓reduceIte, Pl.lt_t, Pl.lt_f, Pl.le_t, Pl.le_f, Pl.ge_t, Pl.ge_f, Pl.gt_t, Pl.gt_f, Pl.eq_t, Pl.eq_f, Pl.nlt_t, Pl.nle_t, Pl.w64, Option.bind_some, Bool.false_eq_true, decide_eq_true_eq, spec_wmOnes.l0, f]
    congr 1
    apply Pl.ba_ext
    simp [Lib.repeatL]

theorem FnExactFreshWorm (a0 : Int) (a1 : Int) (h0 : (Lit.int .i64 a0).wf = true) (h1 : (Lit.int .i64 a1).wf = true) : ∃ k, laws_FnExactFreshWorm.f k a0 a1 = some true := by
  by_cases g0 : 3 ≤ a0 ∧ a0 ≤ 6
  · by_cases g1 : 3 ≤ a1 ∧ a1 ≤ 6
    · obtain ⟨m0, m1⟩ := Pl.mul_in (a := a0) (b := a1) (A := 6) (B := 6) (by omega) g0.2 (by omega) g1.2
      obtain ⟨K, f⟩ := ones_l (a0 * a1).toNat (a0 * a1) (⟨#[]⟩ : ByteArray) rfl (by omega) (by show 0 + _ ≤ 1000; omega)
      have f : spec_wmOnes.l0 (K + 1) (a0 * a1) (⟨#[]⟩ : ByteArray) = _ := f (K + 1) (by omega)
      have e1 := l1In_t g0.1 g0.2
      have e2 := l1In_t g1.1 g1.2
      have e3 := isGrid_t g0.1 g0.2 g1.1 g1.2
      have e4 : strings_Repeat.f (⟨#[49]⟩ : ByteArray) (a0 * a1) = some ((⟨#[]⟩ : ByteArray) ++ (⟨(Lib.repeatL [49] (a0 * a1).toNat).toArray⟩ : ByteArray)) := by
        unfold strings_Repeat.f
        rw [if_pos m0, if_pos (by omega), if_pos (by show 1 * _ ≤ _; omega)]
        congr 1
        first | done | (apply Pl.ba_ext; simp; done) | (apply Pl.ba_ext)
      have ew : wrap64 (a0 * a1) = a0 * a1 := Pl.w64 (by omega) (by omega)
      generalize (⟨#[]⟩ : ByteArray) ++ (⟨(Lib.repeatL [49] (a0 * a1).toNat).toArray⟩ : ByteArray) = s at f e4
      have e5 := eqWorm_self a0 a1 s s 0 0 0
      refine ⟨K + 2, ?_⟩
      simp only [laws_FnExactFreshWorm.f, spec_FreshWorm.f, impl_FreshWorm.f]
      rw [Pl.bnd e1, if_pos rfl, Pl.bnd e2, spec_FreshWorm.j0]
      simp only [Bool.not_true, Bool.false_eq_true, if_false, ew, spec_wmOnes.f]
      rw [f, e3, e4]
      simp only [Option.bind_some, if_true]
      rw [Pl.bnd e5]
      simp
    · have e1 := l1In_t g0.1 g0.2
      have e2 := l1In_f (a := a1) (b := 3) (c := 6) (by omega)
      have e3 := isGrid_f (w := a0) (h := a1) (by omega)
      have e5 := eqWorm_self 0 0 (⟨#[]⟩ : ByteArray) (⟨#[]⟩ : ByteArray) 0 0 0
      refine ⟨1, ?_⟩
      simp (disch := omega) only [↓reduceIte, Pl.lt_t, Pl.lt_f, Pl.le_t, Pl.le_f, Pl.ge_t, Pl.ge_f, Pl.gt_t, Pl.gt_f, Pl.eq_t, Pl.eq_f, Pl.nlt_t, Pl.nle_t, Pl.w64, Option.bind_some, Bool.false_eq_true, decide_eq_true_eq, laws_FnExactFreshWorm.f, spec_FreshWorm.f, impl_FreshWorm.f, ↓Pl.bnd e1, e1, ↓Pl.bnd e2, e2, ↓Pl.bnd e3, e3, spec_FreshWorm.j0, Bool.not_false, ↓Pl.bnd e5, e5, bne_self_eq_false]
  · have e1 := l1In_f (a := a0) (b := 3) (c := 6) (by omega)
    have e3 := isGrid_f (w := a0) (h := a1) (by omega)
    have e5 := eqWorm_self 0 0 (⟨#[]⟩ : ByteArray) (⟨#[]⟩ : ByteArray) 0 0 0
    refine ⟨1, ?_⟩
    simp (disch := omega) only [↓reduceIte, Pl.lt_t, Pl.lt_f, Pl.le_t, Pl.le_f, Pl.ge_t, Pl.ge_f, Pl.gt_t, Pl.gt_f, Pl.eq_t, Pl.eq_f, Pl.nlt_t, Pl.nle_t, Pl.w64, Option.bind_some, Bool.false_eq_true, decide_eq_true_eq, laws_FnExactFreshWorm.f, spec_FreshWorm.f, impl_FreshWorm.f, ↓Pl.bnd e1, e1, ↓Pl.bnd e3, e3, spec_FreshWorm.j0, ↓Pl.bnd e5, e5, bne_self_eq_false]

end Go.Proofs.Ytgifhfkpfgpagaa.Pure
