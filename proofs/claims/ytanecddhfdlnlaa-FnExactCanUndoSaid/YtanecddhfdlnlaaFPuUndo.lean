/- The plain law of CanUndo: for every table the program's answer (each row is the first of its paint and next) is the reference's (no two rows alike). No condition. -/
import Derived.Test.YtanecddhfdlnlaaPFx3
import Derived.Test.YtanecddhfdlnlaaPFx4
import Derived.Test.YtanecddhfdlnlaaFPuTab
namespace Go.Proofs.Ytanecddhfdlnlaa.Pure
open Go.RowKit Go.Proofs.Ytanecddhfdlnlaa Go.Proofs.Ytanecddhfdlnlaa.PF Go.Proofs.YtanecddhfdlnlaaW.PrintWords Go.Proofs.YtanecddhfdlnlaaW.PrintLast
set_option linter.unusedVariables false
set_option linter.unusedSimpArgs false

theorem idx_le {α : Type} (eq : α → α → Bool) (x : α) : ∀ (zs : List α) (i j : Nat) (hj : j < zs.length), eq x zs[j] = true → (i : Int) ≤ Lib.idxByFrom eq x zs i ∧ Lib.idxByFrom eq x zs i ≤ ((i + j : Nat) : Int)
  | [], _, j, hj, _ => absurd hj (Nat.not_lt_zero _)
  | y :: r, i, j, hj, h => by
    rw [Lib.idxByFrom]
    by_cases c : eq x y = true
    · rw [if_pos c]
      omega
    · rw [if_neg c]
      match j, hj, h with
      | 0, _, h => exact absurd h c
      | j + 1, hj, h =>
        have := idx_le eq x r (i + 1) j (by simpa using hj) (by simpa using h)
        omega
theorem idx_eq {α : Type} (eq : α → α → Bool) (x : α) : ∀ (zs : List α) (i n : Nat) (hn : n < zs.length), eq x zs[n] = true → (∀ j (hj : j < n), eq x (zs[j]'(by omega)) = false) → Lib.idxByFrom eq x zs i = ((i + n : Nat) : Int)
  | [], _, n, hn, _, _ => absurd hn (Nat.not_lt_zero _)
  | y :: r, i, n, hn, h, hj => by
    rw [Lib.idxByFrom]
    match n, hn, h, hj with
    | 0, _, h, _ =>
      rw [if_pos (by simpa using h)]
      rfl
    | n + 1, hn, h, hj =>
      have h0 := hj 0 (by omega)
      rw [if_neg (by simpa using h0), idx_eq eq x r (i + 1) n (by simpa using hn) (by simpa using h) (fun j q => by simpa using hj (j + 1) (by omega))]
      omega
def dupB (p q : Int) (l : List R1) : Bool := l.any (fun y => (p == y.f0) && (q == y.f2))
theorem undo_l1 {L : List R1} (hL : L.length ≤ 1048576) {T : List R1} (hT : T.length ≤ 1048576) {a0 a1 i : Int} {b : Bool} (hi : wrap64 (i + 1) = i + 1) (hb : Ev (fun k => spec_taUndo.l0 k L L.length (i + 1) a0 a1 L) b) (p q : Int) (s : ByteArray) (n : Nat) : ∀ j : Int, ((T.length : Int) - j).toNat = n → 0 ≤ j → j ≤ T.length → Ev (fun k => spec_taUndo.l1 k L L.length i T T.length j a0 a1 L p s q) (!(dupB p q (T.drop j.toNat)) && b) := by
  induction n with
  | zero =>
    intro j hn h0 h1
    obtain ⟨K, f⟩ := hb
    have e : T.drop j.toNat = [] := List.drop_eq_nil_of_le (by omega)
    refine Pl.ev_unf ⟨K, fun k hk => ?_⟩
    rw [spec_taUndo.l1, if_neg (by omega), e, hi]
    exact f k hk
  | succ n ih =>
    intro j hn h0 h1
    obtain ⟨K, f⟩ := ih (j + 1) (by omega) (by omega) (by omega)
    have w1 : wrap64 (j + 1) = j + 1 := Pl.w64 (by omega) (by omega)
    have e : T.drop j.toNat = rd_T27 T j :: T.drop (j + 1).toNat := by
      rw [List.drop_eq_getElem_cons (by omega), rd1 (by omega), show (j + 1).toNat = j.toNat + 1 by omega]
    refine Pl.ev_unf ⟨K, fun k hk => ?_⟩
    have f : spec_taUndo.l1 k L L.length i T T.length (j + 1) a0 a1 L p s q = some (!(dupB p q (T.drop (j + 1).toNat)) && b) := f k hk
    have ed : dupB p q (T.drop j.toNat) = (((p == (rd_T27 T j).f0) && (q == (rd_T27 T j).f2)) || dupB p q (T.drop (j + 1).toNat)) := by
      rw [e]
      rfl
    rw [spec_taUndo.l1, if_pos (by omega), if_pos h0, if_pos (by omega), w1, f, ed]
    by_cases c1 : p = (rd_T27 T j).f0
    · rw [if_pos c1, beq_iff_eq.mpr c1]
      by_cases c2 : q = (rd_T27 T j).f2
      · rw [if_pos c2, beq_iff_eq.mpr c2]
        rfl
      · rw [if_neg c2, beq_eq_false_iff_ne.mpr c2]
        rfl
    · rw [if_neg c1, beq_eq_false_iff_ne.mpr c1]
      rfl
theorem before_val {L : List R1} {i : Int} (h0 : 0 ≤ i) (h1 : i < L.length) (a0 a1 : Int) : ∃ r, impl_Table_before.f a0 a1 L (rd_T27 L i).f0 (rd_T27 L i).f2 = some r ∧ (r = i ↔ dupB (rd_T27 L i).f0 (rd_T27 L i).f2 (L.take i.toNat) = false) := by
  refine ⟨_, by rw [impl_Table_before.f, if_pos (by omega)], ?_⟩
  have hi : i.toNat < L.length := by omega
  rw [rd1 hi]
  by_cases c : dupB L[i.toNat].f0 L[i.toNat].f2 (L.take i.toNat) = true
  · refine ⟨fun h => ?_, fun h => by rw [c] at h; cases h⟩
    unfold dupB at c
    obtain ⟨y, hy, he⟩ := List.any_eq_true.mp c
    obtain ⟨j, hj, rfl⟩ := List.getElem_of_mem hy
    rw [List.length_take] at hj
    rw [List.getElem_take] at he
    rw [Bool.and_eq_true, beq_iff_eq, beq_iff_eq] at he
    have := idx_le (fun (_ y : R1) => impl_Table_before.hit L[i.toNat].f0 L[i.toNat].f2 y) z27 L 0 j (by omega) (by
      show ((L[j].f0 == L[i.toNat].f0) && (L[j].f2 == L[i.toNat].f2)) = true
      rw [he.1, he.2]
      simp)
    have h' : Lib.idxByFrom (fun (_ y : R1) => impl_Table_before.hit L[i.toNat].f0 L[i.toNat].f2 y) z27 L 0 = i := h
    omega
  · rw [Bool.not_eq_true] at c
    refine ⟨fun _ => c, fun _ => ?_⟩
    rw [idx_eq (fun (_ y : R1) => impl_Table_before.hit L[i.toNat].f0 L[i.toNat].f2 y) z27 L 0 i.toNat hi (by
      show ((L[i.toNat].f0 == L[i.toNat].f0) && (L[i.toNat].f2 == L[i.toNat].f2)) = true
      simp) (fun j hj => ?_)]
    · omega
    · show ((L[j].f0 == L[i.toNat].f0) && (L[j].f2 == L[i.toNat].f2)) = false
      unfold dupB at c
      have := List.any_eq_false.mp c L[j] (List.mem_take_iff_getElem.mpr ⟨j, by omega, rfl⟩)
      rw [Bool.not_eq_true] at this
      rw [← this, Bool.beq_comm (a := L[j].f0), Bool.beq_comm (a := L[j].f2)]
theorem undo_both {L : List R1} (hL : L.length ≤ 1048576) (a0 a1 : Int) (n : Nat) : ∀ i : Int, ((L.length : Int) - i).toNat = n → 0 ≤ i → i ≤ L.length → ∃ b, Ev (fun k => spec_taUndo.l0 k L L.length i a0 a1 L) b ∧ Ev (fun k => impl_Table_canUndo.l0 k L L.length i a0 a1 L) b := by
  induction n with
  | zero =>
    intro i hn h0 h1
    refine ⟨true, Pl.ev_unf ⟨0, fun k _ => ?_⟩, Pl.ev_unf ⟨0, fun k _ => ?_⟩⟩
    · rw [spec_taUndo.l0, if_neg (by omega)]
    · rw [impl_Table_canUndo.l0, if_neg (by omega)]
  | succ n ih =>
    intro i hn h0 h1
    obtain ⟨b, hs, ⟨K2, f2⟩⟩ := ih (i + 1) (by omega) (by omega) (by omega)
    have w1 : wrap64 (i + 1) = i + 1 := Pl.w64 (by omega) (by omega)
    have ht : (L.take i.toNat).length = i.toNat := by rw [List.length_take]; omega
    obtain ⟨K1, f1⟩ := undo_l1 hL (T := L.take i.toNat) (by omega) w1 hs (rd_T27 L i).f0 (rd_T27 L i).f2 (rd_T27 L i).f1 _ 0 rfl (by omega) (by omega)
    rw [Int.toNat_zero, List.drop_zero] at f1
    obtain ⟨r, hr, hri⟩ := before_val h0 (by omega) a0 a1 (L := L)
    refine ⟨!(dupB (rd_T27 L i).f0 (rd_T27 L i).f2 (L.take i.toNat)) && b, Pl.ev_unf ⟨K1, fun k hk => ?_⟩, Pl.ev_unf ⟨K2, fun k hk => ?_⟩⟩
    · rw [spec_taUndo.l0, if_pos (by omega), if_pos h0, if_pos (by omega), if_pos (by omega), Option.bind_some]
      exact f1 k hk
    · have f2 : impl_Table_canUndo.l0 k L L.length (i + 1) a0 a1 L = some b := f2 k hk
      rw [impl_Table_canUndo.l0, if_pos (by omega), if_pos h0, if_pos (by omega), hr, Option.bind_some, w1, f2]
      by_cases c : r = i
      · rw [if_pos c, hri.1 c]
        rfl
      · rw [if_neg c]
        cases hd : dupB (rd_T27 L i).f0 (rd_T27 L i).f2 (L.take i.toNat) with
        | true => rfl
        | false => exact absurd (hri.2 hd) c
theorem canUndo_both {l : List R1} (hl : l.length ≤ 1048576) (a0 a1 : Int) : ∃ r, Ev (fun k => spec_CanUndo.f k a0 a1 l) r ∧ Ev (fun k => impl_CanUndo.f k a0 a1 l) r := by
  obtain ⟨⟨K, f⟩, g⟩ := tab_both hl a0 a1
  obtain ⟨b, ⟨K1, f1⟩, ⟨K2, f2⟩⟩ := undo_both hl a0 a1 _ 0 rfl (by omega) (by omega)
  generalize tabB a0 a1 l = T at f g
  refine ⟨(T && b, T), ⟨K + K1, fun k hk => ?_⟩, ⟨K2, fun k hk => ?_⟩⟩
  · have f : spec_taGood.f k a0 a1 l = some T := f k (by omega)
    have f1 : spec_taUndo.l0 k l l.length 0 a0 a1 l = some b := f1 k (by omega)
    dsimp only
    rw [spec_CanUndo.f, f, Option.bind_some, spec_taUndo.f, f1]
    cases T <;> rfl
  · have f2 : impl_Table_canUndo.l0 k l l.length 0 a0 a1 l = some b := f2 k (by omega)
    dsimp only
    rw [impl_CanUndo.f, g, Option.bind_some, impl_Table_canUndo.f, f2]
    cases T <;> rfl
theorem FnExactCanUndo (a0_0 : Int) (a0_1 : Int) (l0_2 : List (S85)) (h0 : ((Lit.int .i64 a0_0).wf = true) ∧ ((Lit.int .i64 a0_1).wf = true) ∧ (l0_2.length ≤ 9223372036854775807 ∧ ∀ e_ ∈ l0_2, ((Lit.int .i64 e_.f0).wf = true) ∧ (e_.f1.size ≤ maxLen) ∧ ((Lit.int .i64 e_.f2).wf = true))) : ∃ k, laws_FnExactCanUndo.f k a0_0 a0_1 l0_2 = some true := by
  obtain ⟨_, _, hl, he⟩ := h0
  obtain ⟨v, ⟨K1, f1⟩, v0, v1, hv⟩ := szTable_val (l := l0_2) (fun e h => Pl.le_max (he e h).2.1) hl a0_0 a0_1
  by_cases c : v < 0
  · refine ⟨K1, ?_⟩
    have f1 : laws_szTable.f K1 a0_0 a0_1 l0_2 1048576 = some v := f1 K1 (Nat.le_refl _)
    rw [laws_FnExactCanUndo.f, f1, Option.bind_some, if_pos c]
  · have hl' := hv (by omega)
    obtain ⟨K2, f2⟩ := toTable_val hl' a0_0 a0_1
    have hm : (l0_2.map cv).length ≤ 1048576 := by rw [List.length_map]; exact hl'
    obtain ⟨r, ⟨K3, f3⟩, ⟨K4, f4⟩⟩ := canUndo_both hm a0_0 a0_1
    obtain ⟨K5, f5⟩ := eqTable_self hm a0_0 a0_1
    obtain ⟨K, hK⟩ : ∃ K, K = K1 + K2 + K3 + K4 + K5 := ⟨_, rfl⟩
    have g1 : laws_szTable.f (K + 1) a0_0 a0_1 l0_2 1048576 = some v := f1 (K + 1) (by omega)
    have g2 : laws_toTable.f (K + 1) a0_0 a0_1 l0_2 = some (a0_0, a0_1, l0_2.map cv) := f2 (K + 1) (by omega)
    have i2 : laws_toTable.f K a0_0 a0_1 l0_2 = some (a0_0, a0_1, l0_2.map cv) := f2 K (by omega)
    have g3 : spec_CanUndo.f (K + 1) a0_0 a0_1 (l0_2.map cv) = some r := f3 (K + 1) (by omega)
    have g4 : impl_CanUndo.f (K + 1) a0_0 a0_1 (l0_2.map cv) = some r := f4 (K + 1) (by omega)
    have i5 : laws_eqTable.f K a0_0 a0_1 (l0_2.map cv) a0_0 a0_1 (l0_2.map cv) = some true := f5 K (by omega)
    refine ⟨K + 1, ?_⟩
    rw [laws_FnExactCanUndo.f, g1, Option.bind_some, if_neg c, g2]
    simp only [Option.bind_some]
    rw [g3, g4]
    simp only [Option.bind_some]
    rw [bne_self_eq_false, if_neg (by simp), bne_self_eq_false, laws_FnExactCanUndo.j0, if_neg (by simp), i2]
    simp only [Option.bind_some]
    rw [i5, Option.bind_some, if_pos rfl]

end Go.Proofs.Ytanecddhfdlnlaa.Pure
