/- The plain law of CrossesOf: for every text and number the program's count of points passed more than once (a range over its map) is the reference's. No condition. -/
import Derived.Test.YtkfbnjjlmmcbjaaPCx3
import Derived.Test.YtkfbnjjlmmcbjaaPCx6
import Derived.Test.YtkfbnjjlmmcbjaaCPuPass
namespace Go.Proofs.Ytkfbnjjlmmcbjaa.Pure
open Go.RowKit Go.Proofs.Ytkfbnjjlmmcbjaa Go.Proofs.Ytkfbnjjlmmcbjaa.PC Go.Proofs.YtkfbnjjlmmcbjaaW.PrintWords Go.Proofs.YtkfbnjjlmmcbjaaW.PrintLast
set_option linter.unusedVariables false
set_option linter.unusedSimpArgs false

theorem crosses_both (s : ByteArray) (m : Int) (hs : s.size ≤ 9223372036854775000) : ∃ r, Ev (fun k => spec_CrossesOf.f k s m) r ∧ Ev (fun k => impl_CrossesOf.f k s m) r := by
  obtain ⟨b, ⟨K1, e1⟩, ⟨K2, e2⟩, hb⟩ := short_both s m hs
  cases b with
  | false =>
    refine ⟨(0, false), ⟨K1, fun k hk => ?_⟩, ⟨K2, fun k hk => ?_⟩⟩
    · have e1 := e1 k hk
      dsimp only at e1 ⊢
      rw [spec_CrossesOf.f, e1, Option.bind_some, if_neg (by simp)]
    · have e2 := e2 k hk
      dsimp only at e2 ⊢
      rw [impl_CrossesOf.f, e2, Option.bind_some, if_neg (by simp)]
  | true =>
    obtain ⟨g, m0, m1⟩ := hb rfl
    have hl := passed_len g m0 m1
    obtain ⟨K3, e3⟩ := tuSteps_val g m0 m1
    obtain ⟨K4, e4⟩ := once_val (P := passed s m) (by omega)
    obtain ⟨K5, e5⟩ := passes_val g m0 m1
    have hd : Dis (foldU [] (passed s m)) := foldU_dis _ (by simp [Dis])
    have hl2 := foldU_len (passed s m) []
    refine ⟨(crossed (foldU [] (passed s m)), true), ⟨K1 + K3 + K4, fun k hk => ?_⟩, ⟨K2 + K5, fun k hk => ?_⟩⟩
    · have e1 := e1 k (by omega)
      have e3 := e3 k (by omega)
      have e4 := e4 k (by omega)
      dsimp only at e1 e3 e4 ⊢
      rw [spec_CrossesOf.f, e1, Option.bind_some, if_pos rfl, e3, Option.bind_some, e4, Option.bind_some]
    · have e2 := e2 k (by omega)
      have e5 := e5 k (by omega)
      dsimp only at e2 e5 ⊢
      rw [impl_CrossesOf.f, e2, Option.bind_some, if_pos rfl, e5, Option.bind_some, if_pos ⟨hd, by simp at hl2; omega⟩]
      rfl
theorem FnExactCrossesOf (a0 : ByteArray) (a1 : Int) (h0 : a0.size ≤ maxLen) (h1 : (Lit.int .i64 a1).wf = true) : ∃ k, laws_FnExactCrossesOf.f k a0 a1 = some true := by
  by_cases s0 : (a0.size : Int) ≤ 1048576
  · obtain ⟨⟨r1, r2⟩, ⟨K1, e1⟩, ⟨K2, e2⟩⟩ := crosses_both a0 a1 (by omega)
    refine ⟨K1 + K2, ?_⟩
    have e1 := e1 (K1 + K2) (by omega)
    have e2 := e2 (K1 + K2) (by omega)
    dsimp only at e1 e2
    rw [laws_FnExactCrossesOf.f, if_neg (by omega), e1, Option.bind_some, e2, Option.bind_some]
    dsimp only
    rw [if_pos rfl, bne_self_eq_false, if_neg (by simp)]
  · refine ⟨0, ?_⟩
    rw [laws_FnExactCrossesOf.f, if_pos (by omega)]

end Go.Proofs.Ytkfbnjjlmmcbjaa.Pure
