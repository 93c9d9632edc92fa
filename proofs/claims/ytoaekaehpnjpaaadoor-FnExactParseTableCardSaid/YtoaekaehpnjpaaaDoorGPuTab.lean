/- Plain lemmas: tables of rows: laid out by the law, told good by the reference and by the program alike. No condition. -/
import Derived.Test.YtoaekaehpnjpaaaDoorPGx1
import Derived.Test.YtoaekaehpnjpaaaDoorPGx2
import Derived.Test.YtoaekaehpnjpaaaDoorPGx6
import Derived.Test.YtoaekaehpnjpaaaDoorPGx7
import Derived.Test.YtoaekaehpnjpaaaDoorPl
namespace Go.Proofs.YtoaekaehpnjpaaaDoor.Pure
open Go.RowKit Go.Proofs.YtoaekaehpnjpaaaDoor Go.Proofs.YtoaekaehpnjpaaaDoor.PG Go.Proofs.YtoaekaehpnjpaaaDoorW.PrintWords Go.Proofs.YtoaekaehpnjpaaaDoorW.PrintLast
set_option linter.unusedVariables false
set_option linter.unusedSimpArgs false

abbrev R1 := S36
theorem rd1 {l : List R1} {i : Int} (h : i.toNat < l.length) : rd_T36 l i = l[i.toNat] := by
  simp [rd_T36, List.getD_eq_getElem?_getD, List.getElem?_eq_getElem h]
theorem rd1_set {l : List R1} {i j : Int} {v : R1} (hi : 0 ≤ i) (hl : i < l.length) (hj : 0 ≤ j) : rd_T36 (l.set i.toNat v) j = if j = i then v else rd_T36 l j := by
  unfold rd_T36
  rw [List.getD_eq_getElem?_getD, List.getD_eq_getElem?_getD, List.getElem?_set]
  by_cases e : j = i
  · subst e
    rw [if_pos rfl, if_pos (by omega), if_pos rfl]
    rfl
  · rw [if_neg (by omega), if_neg e]
theorem eqRow_self (a : Int) (b : ByteArray) (c : Int) : laws_eqRow.f a b c a b c = some true := by
  rw [laws_eqRow.f, if_pos rfl, if_pos rfl, if_pos rfl]
theorem eqRowS_l0 {l : List R1} (hl : l.length ≤ 1048576) (n : Nat) : ∀ i : Int, ((l.length : Int) - i).toNat = n → 0 ≤ i → i ≤ l.length → Ev (fun k => laws_eqRowS.l0 k l l i) true := by
  induction n with
  | zero =>
    intro i hn h0 h1
    refine Pl.ev_unf ⟨0, fun k _ => ?_⟩
    rw [laws_eqRowS.l0, if_neg (by omega)]
  | succ n ih =>
    intro i hn h0 h1
    obtain ⟨K, f⟩ := ih (i + 1) (by omega) (by omega) (by omega)
    have w1 : wrap64 (i + 1) = i + 1 := Pl.w64 (by omega) (by omega)
    refine Pl.ev_unf ⟨K, fun k hk => ?_⟩
    rw [laws_eqRowS.l0, if_pos (by omega), if_pos h0, if_pos (by omega), eqRow_self, Option.bind_some, if_pos rfl, w1]
    exact f k hk
theorem eqTable_self {l : List R1} (hl : l.length ≤ 1048576) (a0 a1 : Int) : Ev (fun k => laws_eqTable.f k a0 a1 l a0 a1 l) true := by
  obtain ⟨K, f⟩ := eqRowS_l0 hl _ 0 rfl (by omega) (by omega)
  refine ⟨K, fun k hk => ?_⟩
  have f : laws_eqRowS.l0 k l l 0 = some true := f k hk
  dsimp only
  rw [laws_eqTable.f, if_pos rfl, if_pos rfl, laws_eqRowS.f, if_pos rfl, f, Option.bind_some, if_pos rfl]
theorem in_val (a b c : Int) : spec_l1In.f a b c = some (decide (b ≤ a) && decide (a ≤ c)) := by
  rw [spec_l1In.f]
  by_cases h : a ≥ b
  · rw [if_pos h, decide_eq_true (show b ≤ a from h), Bool.true_and]
  · rw [if_neg h, decide_eq_false (show ¬ b ≤ a from h), Bool.false_and]
theorem within_val (a b c : Int) : impl_within.f a b c = some (decide (b ≤ a) && decide (a ≤ c)) := by
  rw [impl_within.f]
  by_cases h : b ≤ a
  · rw [if_pos h, decide_eq_true h, Bool.true_and]
  · rw [if_neg h, decide_eq_false h, Bool.false_and]
def signB (t : ByteArray) : Bool := decide (0 ≤ Lib.indexByte (⟨#[76, 82, 78, 85]⟩ : ByteArray).data.toList (t.data.toList.getD 0 0))
theorem sign_val (t : ByteArray) : Ev (fun k => spec_taSign.f k t) (decide (t.size = 1) && signB t) := by
  by_cases h : t.size = 1
  · refine ⟨2, fun k hk => ?_⟩
    obtain ⟨q, rfl⟩ : ∃ q, k = q + 2 := ⟨k - 2, by omega⟩
    dsimp only
    rw [spec_taSign.f, if_pos (by omega), decide_eq_true h, Bool.true_and, spec_woRule.f, in_val, h, show (decide ((1 : Int) ≤ ((1 : Nat) : Int)) && decide (((1 : Nat) : Int) ≤ 6)) = true from by decide, Option.bind_some, if_pos rfl, spec_woRule.l0, if_pos (by omega), if_pos (by omega), show wrap64 (0 + 1) = 1 from Pl.w64 (by omega) (by omega)]
    have hl : spec_woRule.l0 (q + 1) t 1 = some true := by
      rw [spec_woRule.l0, if_neg (by omega)]
    rw [hl]
    obtain ⟨⟨l⟩⟩ := t
    match l, h with
    | [c], _ =>
      have eb : bt (⟨#[c]⟩ : ByteArray) 0 = (c.toNat : Int) := rfl
      have es : signB (⟨#[c]⟩ : ByteArray) = decide (0 ≤ Lib.indexByte [76, 82, 78, 85] c) := rfl
      rw [eb, es]
      have en : ∀ n : UInt8, c ≠ n → ¬ ((c.toNat : Int) = (n.toNat : Int)) := fun n hn e => hn (UInt8.toNat_inj.1 (by omega))
      by_cases c1 : c = 76
      · subst c1; rfl
      · by_cases c2 : c = 82
        · subst c2; rfl
        · by_cases c3 : c = 78
          · subst c3; rfl
          · by_cases c4 : c = 85
            · subst c4; rfl
            · have n1 : ((76 : UInt8) == c) = false := by simpa using fun h => c1 h.symm
              have n2 : ((82 : UInt8) == c) = false := by simpa using fun h => c2 h.symm
              have n3 : ((78 : UInt8) == c) = false := by simpa using fun h => c3 h.symm
              have n4 : ((85 : UInt8) == c) = false := by simpa using fun h => c4 h.symm
              have e : Lib.indexByte [76, 82, 78, 85] c = -1 := by
                simp [Lib.indexByte, n1, n2, n3, n4]
              rw [e, if_neg (show ¬ ((c.toNat : Int) = 76) from en 76 c1), if_neg (show ¬ ((c.toNat : Int) = 82) from en 82 c2), if_neg (show ¬ ((c.toNat : Int) = 78) from en 78 c3), if_neg (show ¬ ((c.toNat : Int) = 85) from en 85 c4)]
              rfl
  · refine ⟨0, fun k _ => ?_⟩
    dsimp only
    rw [spec_taSign.f, if_neg (by omega), decide_eq_false h, Bool.false_and]
theorem good_l0 {l : List R1} (hl : l.length ≤ 1048576) (a0 a1 : Int) (n : Nat) : ∀ i : Int, ((l.length : Int) - i).toNat = n → 0 ≤ i → i ≤ l.length → Ev (fun k => spec_taGood.l0 k l l.length i a0 a1 l) ((l.drop i.toNat).all (impl_IsTable.ok a0 a1)) := by
  induction n with
  | zero =>
    intro i hn h0 h1
    have e : l.drop i.toNat = [] := List.drop_eq_nil_of_le (by omega)
    refine Pl.ev_unf ⟨0, fun k _ => ?_⟩
    rw [spec_taGood.l0, if_neg (by omega), e]
    rfl
  | succ n ih =>
    intro i hn h0 h1
    obtain ⟨K, f⟩ := ih (i + 1) (by omega) (by omega) (by omega)
    have w1 : wrap64 (i + 1) = i + 1 := Pl.w64 (by omega) (by omega)
    have e : l.drop i.toNat = rd_T36 l i :: l.drop (i + 1).toNat := by
      rw [List.drop_eq_getElem_cons (by omega), rd1 (by omega), show (i + 1).toNat = i.toNat + 1 by omega]
    rw [e, List.all_cons]
    obtain ⟨K2, g⟩ := sign_val (rd_T36 l i).f1
    refine Pl.ev_unf ⟨K + K2, fun k hk => ?_⟩
    have g : spec_taSign.f k (rd_T36 l i).f1 = some (decide ((rd_T36 l i).f1.size = 1) && signB (rd_T36 l i).f1) := g k (by omega)
    have f : spec_taGood.l0 k l l.length (i + 1) a0 a1 l = some ((l.drop (i + 1).toNat).all (impl_IsTable.ok a0 a1)) := f k (by omega)
    have ho : impl_IsTable.ok a0 a1 (rd_T36 l i) = ((decide (0 ≤ (rd_T36 l i).f0) && decide ((rd_T36 l i).f0 ≤ wrap64 (a1 - 1))) && ((decide (0 ≤ (rd_T36 l i).f2) && decide ((rd_T36 l i).f2 ≤ wrap64 (a0 - 1))) && (decide ((rd_T36 l i).f1.size = 1) && signB (rd_T36 l i).f1))) := rfl
    rw [spec_taGood.l0, if_pos (by omega), if_pos h0, if_pos (by omega), in_val, Option.bind_some, g, in_val, w1, f, ho]
    generalize (decide (0 ≤ (rd_T36 l i).f0) && decide ((rd_T36 l i).f0 ≤ wrap64 (a1 - 1))) = p
    generalize (decide (0 ≤ (rd_T36 l i).f2) && decide ((rd_T36 l i).f2 ≤ wrap64 (a0 - 1))) = q
    generalize (decide ((rd_T36 l i).f1.size = 1) && signB (rd_T36 l i).f1) = r
    cases p <;> cases q <;> cases r <;> rfl
def tabB (a0 a1 : Int) (l : List R1) : Bool := ((decide (1 ≤ a0) && decide (a0 ≤ 4)) && (decide (1 ≤ a1) && decide (a1 ≤ 4))) && (decide ((l.length : Int) = a0 * a1) && l.all (impl_IsTable.ok a0 a1))
theorem tab_dims {a0 a1 : Int} {l : List R1} (h : tabB a0 a1 l = true) : 1 ≤ a0 ∧ a0 ≤ 4 ∧ 1 ≤ a1 ∧ a1 ≤ 4 ∧ (l.length : Int) = a0 * a1 ∧ l.all (impl_IsTable.ok a0 a1) = true := by
  unfold tabB at h
  simp only [Bool.and_eq_true, decide_eq_true_eq] at h
  exact ⟨h.1.1.1, h.1.1.2, h.1.2.1, h.1.2.2, h.2.1, h.2.2⟩
theorem shape_val (a0 a1 : Int) : impl_isShape.f a0 a1 = some ((decide (1 ≤ a0) && decide (a0 ≤ 4)) && (decide (1 ≤ a1) && decide (a1 ≤ 4))) := by
  rw [impl_isShape.f, within_val, Option.bind_some, within_val]
  generalize (decide (1 ≤ a0) && decide (a0 ≤ 4)) = p
  generalize (decide (1 ≤ a1) && decide (a1 ≤ 4)) = q
  cases p <;> rfl
theorem tab_both {l : List R1} (hl : l.length ≤ 1048576) (a0 a1 : Int) : Ev (fun k => spec_taGood.f k a0 a1 l) (tabB a0 a1 l) ∧ impl_IsTable.f a0 a1 l = some (tabB a0 a1 l) := by
  by_cases c0 : 1 ≤ a0 ∧ a0 ≤ 4
  · by_cases c1 : 1 ≤ a1 ∧ a1 ≤ 4
    · obtain ⟨q0, q1⟩ := Pl.mul_in (a := a0) (b := a1) (A := 4) (B := 4) (by omega) c0.2 (by omega) c1.2
      have qp := Int.mul_pos (a := a0) (b := a1) (by omega) (by omega)
      have w1 : wrap64 (a0 * a1) = a0 * a1 := Pl.w64 (by omega) (by omega)
      have e0 : (decide (1 ≤ a0) && decide (a0 ≤ 4)) = true := by simp [c0]
      have e1 : (decide (1 ≤ a1) && decide (a1 ≤ 4)) = true := by simp [c1]
      obtain ⟨K, f⟩ := good_l0 hl a0 a1 _ 0 rfl (by omega) (by omega)
      rw [Int.toNat_zero, List.drop_zero] at f
      unfold tabB
      rw [e0, e1]
      by_cases c2 : (l.length : Int) = a0 * a1
      · refine ⟨⟨K + 1, fun k hk => ?_⟩, ?_⟩
        · obtain ⟨q, rfl⟩ : ∃ q, k = q + 1 := ⟨k - 1, by omega⟩
          dsimp only
          rw [spec_taGood.f, in_val, e0, Option.bind_some, if_pos rfl, in_val, e1, Option.bind_some, if_pos rfl, w1, spec_taGood.j0, if_neg (by simp [c2]), decide_eq_true c2, Bool.true_and, Bool.true_and, Bool.true_and]
          exact f q (by omega)
        · rw [impl_IsTable.f, shape_val, e0, e1, Option.bind_some, if_pos (by rfl), w1, if_pos c2, decide_eq_true c2, decide_eq_true (show 0 < l.length by omega)]
          rfl
      · refine ⟨⟨1, fun k hk => ?_⟩, ?_⟩
        · obtain ⟨q, rfl⟩ : ∃ q, k = q + 1 := ⟨k - 1, by omega⟩
          dsimp only
          rw [spec_taGood.f, in_val, e0, Option.bind_some, if_pos rfl, in_val, e1, Option.bind_some, if_pos rfl, w1, spec_taGood.j0, if_pos (by simp [c2]), decide_eq_false c2]
          rfl
        · rw [impl_IsTable.f, shape_val, e0, e1, Option.bind_some, if_pos (by rfl), w1, if_neg c2, decide_eq_false c2]
          rfl
    · have e1 : (decide (1 ≤ a1) && decide (a1 ≤ 4)) = false := by simp; omega
      unfold tabB
      have e0 : (decide (1 ≤ a0) && decide (a0 ≤ 4)) = true := by simp [c0]
      rw [e0, e1]
      refine ⟨⟨1, fun k hk => ?_⟩, ?_⟩
      · obtain ⟨q, rfl⟩ : ∃ q, k = q + 1 := ⟨k - 1, by omega⟩
        dsimp only
        rw [spec_taGood.f, in_val, e0, Option.bind_some, if_pos rfl, in_val, e1, Option.bind_some, if_neg (by simp), spec_taGood.j0, if_pos rfl]
        rfl
      · rw [impl_IsTable.f, shape_val, e0, e1, Option.bind_some, if_neg (by simp)]
        rfl
  · have e0 : (decide (1 ≤ a0) && decide (a0 ≤ 4)) = false := by simp; omega
    unfold tabB
    rw [e0]
    refine ⟨⟨1, fun k hk => ?_⟩, ?_⟩
    · obtain ⟨q, rfl⟩ : ∃ q, k = q + 1 := ⟨k - 1, by omega⟩
      dsimp only
      rw [spec_taGood.f, in_val, e0, Option.bind_some, if_neg (by simp), spec_taGood.j0, if_pos rfl]
      rfl
    · rw [impl_IsTable.f, shape_val, e0, Option.bind_some, if_neg (by simp)]
      rfl

end Go.Proofs.YtoaekaehpnjpaaaDoor.Pure
