/- The plain law of RowOf: for every table, state and tint the program's answer is the reference's. No condition. -/
import Derived.Test.YtanecddhfdlnlaaPAx2
import Derived.Test.YtanecddhfdlnlaaPAx4
import Derived.Test.YtanecddhfdlnlaaPuTab
namespace Go.Proofs.Ytanecddhfdlnlaa.Pure
open Go.RowKit Go.Proofs.Ytanecddhfdlnlaa Go.Proofs.Ytanecddhfdlnlaa.PA Go.Proofs.YtanecddhfdlnlaaW.PrintWords Go.Proofs.YtanecddhfdlnlaaW.PrintLast
set_option linter.unusedVariables false
set_option linter.unusedSimpArgs false

theorem state_val (a0 a1 : Int) (l : List R1) (s : Int) (h1 : 1 ≤ a0) (h2 : a0 ≤ 4) : impl_Table_isState.f a0 a1 l s = some (decide (0 ≤ s) && decide (s ≤ a0 - 1)) := by
  rw [impl_IsTable.state, Pl.w64 (by omega) (by omega)]
theorem tint_val (a0 a1 : Int) (l : List R1) (s : Int) (h1 : 1 ≤ a1) (h2 : a1 ≤ 4) : impl_Table_isTint.f a0 a1 l s = some (decide (0 ≤ s) && decide (s ≤ a1 - 1)) := by
  rw [impl_IsTable.tint, Pl.w64 (by omega) (by omega)]
theorem place {a0 a1 s t : Int} (h0 : a0 ≤ 4) (h2 : 1 ≤ a1) (h3 : a1 ≤ 4) (s0 : 0 ≤ s) (s1 : s ≤ a0 - 1) (t0 : 0 ≤ t) (t1 : t ≤ a1 - 1) : wrap64 (wrap64 (s * a1) + t) = s * a1 + t ∧ 0 ≤ s * a1 + t ∧ s * a1 + t < a0 * a1 := by
  obtain ⟨q0, q1⟩ := Pl.mul_in (a := s) (b := a1) (A := 4) (B := 4) s0 (by omega) (by omega) h3
  have q2 : (s + 1) * a1 ≤ a0 * a1 := Int.mul_le_mul_of_nonneg_right (by omega) (by omega)
  have q3 : (s + 1) * a1 = s * a1 + a1 := by rw [Int.add_mul, Int.one_mul]
  rw [Pl.w64 (n := s * a1) (by omega) (by omega), Pl.w64 (by omega) (by omega)]
  omega
theorem rowOf_both {l : List R1} (hl : l.length ≤ 1048576) (a0 a1 s t : Int) : ∃ r, Ev (fun k => spec_RowOf.f k a0 a1 l s t) r ∧ impl_RowOf.f a0 a1 l s t = some r := by
  obtain ⟨⟨K, f⟩, g⟩ := tab_both hl a0 a1
  by_cases hb : tabB a0 a1 l = true
  · obtain ⟨d0, d1, d2, d3, d4, _⟩ := tab_dims hb
    rw [hb] at f g
    have w0 : wrap64 (a0 - 1) = a0 - 1 := Pl.w64 (by omega) (by omega)
    have w1 : wrap64 (a1 - 1) = a1 - 1 := Pl.w64 (by omega) (by omega)
    by_cases cs : 0 ≤ s ∧ s ≤ a0 - 1
    · have es : (decide (0 ≤ s) && decide (s ≤ a0 - 1)) = true := by simp [cs]
      by_cases ct : 0 ≤ t ∧ t ≤ a1 - 1
      · have et : (decide (0 ≤ t) && decide (t ≤ a1 - 1)) = true := by simp [ct]
        obtain ⟨p0, p1, p2⟩ := place d1 d2 d3 cs.1 cs.2 ct.1 ct.2
        refine ⟨((rd_T27 l (s * a1 + t)).f0, (rd_T27 l (s * a1 + t)).f1, (rd_T27 l (s * a1 + t)).f2, true), ⟨K, fun k hk => ?_⟩, ?_⟩
        rotate_left
        · rw [impl_RowOf.f, g, Option.bind_some, if_pos rfl, state_val a0 a1 l s d0 d1, es, Option.bind_some, if_pos rfl, tint_val a0 a1 l t d2 d3, et, Option.bind_some, if_pos rfl, impl_Table_row.f, p0, if_pos p1, if_pos (by omega), Option.bind_some]
        · have f : spec_taGood.f k a0 a1 l = some true := f k hk
          dsimp only
          rw [spec_RowOf.f, f, Option.bind_some, if_pos rfl, in_val, w0, es, Option.bind_some, if_pos rfl, in_val, w1, et, Option.bind_some, if_pos rfl, p0, if_pos p1, if_pos (by omega)]
      · have et : (decide (0 ≤ t) && decide (t ≤ a1 - 1)) = false := by simp; omega
        refine ⟨(0, (⟨#[]⟩ : ByteArray), 0, false), ⟨K, fun k hk => ?_⟩, ?_⟩
        rotate_left
        · rw [impl_RowOf.f, g, Option.bind_some, if_pos rfl, state_val a0 a1 l s d0 d1, es, Option.bind_some, if_pos rfl, tint_val a0 a1 l t d2 d3, et, Option.bind_some, if_neg (by simp)]
        · have f : spec_taGood.f k a0 a1 l = some true := f k hk
          dsimp only
          rw [spec_RowOf.f, f, Option.bind_some, if_pos rfl, in_val, w0, es, Option.bind_some, if_pos rfl, in_val, w1, et, Option.bind_some, if_neg (by simp)]
    · have es : (decide (0 ≤ s) && decide (s ≤ a0 - 1)) = false := by simp; omega
      refine ⟨(0, (⟨#[]⟩ : ByteArray), 0, false), ⟨K, fun k hk => ?_⟩, ?_⟩
      rotate_left
      · rw [impl_RowOf.f, g, Option.bind_some, if_pos rfl, state_val a0 a1 l s d0 d1, es, Option.bind_some, if_neg (by simp)]
      · have f : spec_taGood.f k a0 a1 l = some true := f k hk
        dsimp only
        rw [spec_RowOf.f, f, Option.bind_some, if_pos rfl, in_val, w0, es, Option.bind_some, if_neg (by simp)]
  · rw [Bool.not_eq_true] at hb
    rw [hb] at f g
    refine ⟨(0, (⟨#[]⟩ : ByteArray), 0, false), ⟨K, fun k hk => ?_⟩, ?_⟩
    rotate_left
    · rw [impl_RowOf.f, g, Option.bind_some, if_neg (by simp)]
    · have f : spec_taGood.f k a0 a1 l = some false := f k hk
      dsimp only
      rw [spec_RowOf.f, f, Option.bind_some, if_neg (by simp)]
theorem FnExactRowOf (a0_0 : Int) (a0_1 : Int) (l0_2 : List (S85)) (a1 : Int) (a2 : Int) (h0 : ((Lit.int .i64 a0_0).wf = true) ∧ ((Lit.int .i64 a0_1).wf = true) ∧ (l0_2.length ≤ 9223372036854775807 ∧ ∀ e_ ∈ l0_2, ((Lit.int .i64 e_.f0).wf = true) ∧ (e_.f1.size ≤ maxLen) ∧ ((Lit.int .i64 e_.f2).wf = true))) (h1 : (Lit.int .i64 a1).wf = true) (h2 : (Lit.int .i64 a2).wf = true) : ∃ k, laws_FnExactRowOf.f k a0_0 a0_1 l0_2 a1 a2 = some true := by
  obtain ⟨_, _, hl, he⟩ := h0
  obtain ⟨v, ⟨K1, f1⟩, v0, v1, hv⟩ := szTable_val (l := l0_2) (fun e h => Pl.le_max (he e h).2.1) hl a0_0 a0_1
  by_cases c : v < 0
  · refine ⟨K1, ?_⟩
    have f1 : laws_szTable.f K1 a0_0 a0_1 l0_2 1048576 = some v := f1 K1 (Nat.le_refl _)
    rw [laws_FnExactRowOf.f, f1, Option.bind_some, if_pos c]
  · have hl' := hv (by omega)
    obtain ⟨K2, f2⟩ := toTable_val hl' a0_0 a0_1
    have hm : (l0_2.map cv).length ≤ 1048576 := by rw [List.length_map]; exact hl'
    obtain ⟨r, ⟨K3, f3⟩, f4⟩ := rowOf_both hm a0_0 a0_1 a1 a2
    obtain ⟨K5, f5⟩ := eqTable_self hm a0_0 a0_1
    obtain ⟨K, hK⟩ : ∃ K, K = K1 + K2 + K3 + K5 := ⟨_, rfl⟩
    have g1 : laws_szTable.f (K + 1) a0_0 a0_1 l0_2 1048576 = some v := f1 (K + 1) (by omega)
    have g2 : laws_toTable.f (K + 1) a0_0 a0_1 l0_2 = some (a0_0, a0_1, l0_2.map cv) := f2 (K + 1) (by omega)
    have i2 : laws_toTable.f K a0_0 a0_1 l0_2 = some (a0_0, a0_1, l0_2.map cv) := f2 K (by omega)
    have g3 : spec_RowOf.f (K + 1) a0_0 a0_1 (l0_2.map cv) a1 a2 = some r := f3 (K + 1) (by omega)
    have i5 : laws_eqTable.f K a0_0 a0_1 (l0_2.map cv) a0_0 a0_1 (l0_2.map cv) = some true := f5 K (by omega)
    refine ⟨K + 1, ?_⟩
    rw [laws_FnExactRowOf.f, g1, Option.bind_some, if_neg c, g2]
    simp only [Option.bind_some]
    rw [g3, f4]
    simp only [Option.bind_some]
    rw [eqRow_self, Option.bind_some, if_pos rfl, bne_self_eq_false, laws_FnExactRowOf.j0, if_neg (by simp), i2]
    simp only [Option.bind_some]
    rw [i5, Option.bind_some, if_pos rfl]

end Go.Proofs.Ytanecddhfdlnlaa.Pure
