/- Plain lemmas: the program's WalkAfter answers as the reference's. No condition. -/
import Derived.Test.YtbcimndfcfncmaaPWx1
import Derived.Test.YtbcimndfcfncmaaPWx2
import Derived.Test.YtbcimndfcfncmaaPWx3
import Derived.Test.YtbcimndfcfncmaaPWx4
import Derived.Test.YtbcimndfcfncmaaWPuRoute
namespace Go.Proofs.Ytbcimndfcfncmaa.Pure
open Go.RowKit Go.Proofs.Ytbcimndfcfncmaa Go.Proofs.Ytbcimndfcfncmaa.PW Go.Proofs.YtbcimndfcfncmaaW.PrintWords Go.Proofs.YtbcimndfcfncmaaW.PrintLast
set_option linter.unusedVariables false
set_option linter.unusedSimpArgs false

theorem walkl_both {l : List (List Int)} {a2 : Int} (h2 : a2 ≤ 3000) (n : Nat) : ∀ (B now : Int) (m : List Int), (a2 - B).toNat = n → 0 ≤ B → B ≤ a2 → Good l m → 0 ≤ now → now < l.length →
    ∃ (now' : Int) (m' : List Int), Good l m' ∧ Ev (fun k => spec_WalkAfter.l0 k now (a2 - B) l m) (l, m', now', true) ∧ Ev (fun k => impl_WalkAfter.l0 k now a2 B l m) (l, m', now', true) := by
  induction n with
  | zero =>
    intro B now m hn h0 h1 hg n0 n1
    refine ⟨now, m, hg, Pl.ev_unf ⟨0, fun k _ => ?_⟩, Pl.ev_unf ⟨0, fun k _ => ?_⟩⟩
    · rw [spec_WalkAfter.l0, if_neg (by omega)]
    · rw [impl_WalkAfter.l0, if_neg (by omega)]
  | succ n ih =>
    intro B now m hn h0 h1 hg n0 n1
    obtain ⟨b, m1, s1, s2, hg1, b0, b1⟩ := step_both hg n0 n1
    obtain ⟨now', m', g', ⟨K, f⟩, ⟨K2, f2⟩⟩ := ih (B + 1) b m1 (by omega) (by omega) (by omega) hg1 b0 b1
    have w1 : wrap64 (a2 - B - 1) = a2 - (B + 1) := by rw [Pl.w64 (by omega) (by omega)]; omega
    have w2 : wrap64 (B + 1) = B + 1 := Pl.w64 (by omega) (by omega)
    refine ⟨now', m', g', Pl.ev_unf ⟨K, fun k hk => ?_⟩, Pl.ev_unf ⟨K2, fun k hk => ?_⟩⟩
    · rw [spec_WalkAfter.l0, if_pos (by omega), s1, Option.bind_some, w1]
      exact f k hk
    · rw [impl_WalkAfter.l0, if_pos (by omega), s2, Option.bind_some, w2]
      exact f2 k hk
theorem walkafter_both {l : List (List Int)} {m : List Int} (hr : ∀ e ∈ l, e.length ≤ 1048576) (hl : l.length ≤ 1048576) (hm : m.length ≤ 1048576) (a1 a2 : Int) :
    ∃ (L : List (List Int)) (M : List Int) (v : Int) (b : Bool), (Good L M ∨ (L = [] ∧ M = [])) ∧ Ev (fun k => spec_WalkAfter.f k l m a1 a2) (L, M, v, b) ∧ Ev (fun k => impl_WalkAfter.f k l m a1 a2) (L, M, v, b) := by
  obtain ⟨g, ⟨K1, f1⟩, ⟨K2, f2⟩, hg⟩ := good_both hr hl hm
  have wn : wrap64 ((l.length : Int) - 1) = l.length - 1 := Pl.w64 (by omega) (by omega)
  obtain ⟨p, hp⟩ : ∃ p, p = (decide (0 ≤ a1) && decide (a1 ≤ (l.length : Int) - 1)) := ⟨_, rfl⟩
  obtain ⟨t, ht⟩ : ∃ t, t = (decide (0 ≤ a2) && decide (a2 ≤ 3000)) := ⟨_, rfl⟩
  have e1 : ([a1] : List Int).all (fun n => decide (0 ≤ n) && decide (n ≤ (l.length : Int) - 1)) = p := by rw [hp]; simp
  have hS : ∀ k, K1 ≤ k → spec_roWalk.f k l m a1 a2 = some (g && p && t) := fun k hk => by
    have f1 := f1 k hk
    dsimp only at f1
    rw [spec_roWalk.f, spec_roNode.f, f1, Option.bind_some, wn, in_val, ← hp, in_val, ← ht]
    cases g <;> cases p <;> cases t <;> rfl
  have hI : ∀ k, K2 ≤ k → impl_isWalk.f k l m a1 a2 = some (g && p && t) := fun k hk => by
    have f2 := f2 k hk
    dsimp only at f2
    rw [impl_isWalk.f, impl_isNode.f, f2, Option.bind_some, wn, impl_areWithin.f, e1, within_val, ← ht]
    cases g <;> cases p <;> cases t <;> rfl
  by_cases c : (g && p && t) = true
  · rw [c] at hS hI
    simp only [Bool.and_eq_true] at c
    obtain ⟨⟨c1, c2⟩, c3⟩ := c
    have G := hg c1
    have hp' := hp.symm.trans c2
    have ht' := ht.symm.trans c3
    simp only [Bool.and_eq_true, decide_eq_true_eq] at hp' ht'
    obtain ⟨⟨K3, f3⟩, ⟨K4, f4⟩⟩ := own_both G
    obtain ⟨v, M, G', ⟨K5, f5⟩, ⟨K6, f6⟩⟩ := walkl_both (l := l) (a2 := a2) ht'.2 _ 0 a1 m rfl (by omega) ht'.1 G hp'.1 (by omega)
    rw [Int.sub_zero] at f5
    refine ⟨l, M, v, true, .inl G', ⟨K1 + K3 + K5, fun k hk => ?_⟩, ⟨K2 + K4 + K6, fun k hk => ?_⟩⟩
    · have f3 := f3 k (by omega)
      have f5 := f5 k (by omega)
      dsimp only at f3 f5 ⊢
      rw [spec_WalkAfter.f, hS k (by omega), Option.bind_some, if_pos rfl, f3, Option.bind_some]
      exact f5
    · have f4 := f4 k (by omega)
      have f6 := f6 k (by omega)
      dsimp only at f4 f6 ⊢
      rw [impl_WalkAfter.f, hI k (by omega), Option.bind_some, if_pos rfl, f4, Option.bind_some]
      exact f6
  · have c' : (g && p && t) = false := by simpa using c
    rw [c'] at hS hI
    refine ⟨[], [], 0, false, .inr ⟨rfl, rfl⟩, ⟨K1, fun k hk => ?_⟩, ⟨K2, fun k hk => ?_⟩⟩
    · dsimp only
      rw [spec_WalkAfter.f, hS k hk, Option.bind_some, if_neg (by simp)]
    · dsimp only
      rw [impl_WalkAfter.f, hI k hk, Option.bind_some, if_neg (by simp)]

end Go.Proofs.Ytbcimndfcfncmaa.Pure
