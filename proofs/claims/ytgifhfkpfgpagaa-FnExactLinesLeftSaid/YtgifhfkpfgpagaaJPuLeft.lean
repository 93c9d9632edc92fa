/- The plain law of LinesLeft: for every worm the program's answer is the reference's. No condition. -/
import Derived.Test.YtgifhfkpfgpagaaPJx2
import Derived.Test.YtgifhfkpfgpagaaJPuWorm
namespace Go.Proofs.Ytgifhfkpfgpagaa.Pure
open Go.RowKit Go.Proofs.Ytgifhfkpfgpagaa Go.Proofs.Ytgifhfkpfgpagaa.PJ Go.Proofs.YtgifhfkpfgpagaaW.PrintWords Go.Proofs.YtgifhfkpfgpagaaW.PrintLast
set_option linter.unusedVariables false
set_option linter.unusedSimpArgs false

theorem count_l {s : ByteArray} (hl : s.size ≤ 1000000) (n : Nat) : ∀ i acc : Int, ((s.size : Int) - i).toNat = n → 0 ≤ i → i ≤ s.size → 0 ≤ acc → acc ≤ i →
    Ev (fun k => spec_wmCount.l0 k s acc i) (acc + (((bytesOf s).drop i.toNat).count 49 : Nat)) := by
  induction n with
  | zero =>
    intro i acc hn h0 h1 a0 a1
    refine Pl.ev_unf ⟨0, fun k _ => ?_⟩
    have e : (bytesOf s).drop i.toNat = [] := List.drop_eq_nil_of_le (by rw [bytesOf_length]; omega)
    rw [e]
    simp (disch := omega) only [↓reduceIte, Pl.lt_t, Pl.lt_f, Pl.le_t, Pl.le_f, Pl.ge_t, Pl.ge_f, Pl.gt_t, Pl.gt_f, Pl.eq_t, Pl.eq_f, Pl.nlt_t, Pl.nle_t, Pl.w64, Option.bind_some, Bool.false_eq_true, decide_eq_true_eq, spec_wmCount.l0]
    simp
  | succ n ih =>
    intro i acc hn h0 h1 a0 a1
    have hi : i.toNat < (bytesOf s).length := by rw [bytesOf_length]; omega
    have e : (bytesOf s).drop i.toNat = bt s i :: (bytesOf s).drop (i + 1).toNat := by
      rw [List.drop_eq_getElem_cons hi, Pl.bt_rd, Pl.rd_get hi, show (i + 1).toNat = i.toNat + 1 by omega]
    rw [e, List.count_cons]
    by_cases c : bt s i = 49
    · obtain ⟨K, f⟩ := ih (i + 1) (acc + 1) (by omega) (by omega) (by omega) (by omega) (by omega)
      refine Pl.ev_unf ⟨K, fun k hk => ?_⟩
      have f := f k hk
      simp (disch := omega) only [↓reduceIte, Pl.lt_t, Pl.lt_f, Pl.le_t, Pl.le_f, Pl.ge_t, Pl.ge_f, Pl.gt_t, Pl.gt_f, Pl.eq_t, Pl.eq_f, Pl.nlt_t, Pl.nle_t, Pl.w64, Option.bind_some, Bool.false_eq_true, decide_eq_true_eq, spec_wmCount.l0, f]
      rw [if_pos (by rw [c]; rfl)]
      congr 1
      omega
    · obtain ⟨K, f⟩ := ih (i + 1) acc (by omega) (by omega) (by omega) (by omega) (by omega)
      refine Pl.ev_unf ⟨K, fun k hk => ?_⟩
      have f := f k hk
      simp (disch := omega) only [↓reduceIte, Pl.lt_t, Pl.lt_f, Pl.le_t, Pl.le_f, Pl.ge_t, Pl.ge_f, Pl.gt_t, Pl.gt_f, Pl.eq_t, Pl.eq_f, Pl.nlt_t, Pl.nle_t, Pl.w64, Option.bind_some, Bool.false_eq_true, decide_eq_true_eq, spec_wmCount.l0, c, f]
      rw [if_neg (by simpa using c)]
      rfl

theorem count_bytes (l : List UInt8) : (l.map (fun b => (b.toNat : Int))).count 49 = l.count 49 := by
  induction l with
  | nil => rfl
  | cons b l ih =>
    rw [List.map_cons, List.count_cons, List.count_cons, ih]
    congr 1
    by_cases c : b = 49
    · subst c
      rfl
    · have c' : ¬ ((b.toNat : Int) = 49) := fun h => c (UInt8.toNat_inj.1 (by show b.toNat = 49; omega))
      rw [if_neg (by simpa using c'), if_neg (by simpa using c)]

theorem count_both {r d : ByteArray} : Lib.countByte (r ++ d).data.toList 49 = ((bytesOf r).count 49 : Nat) + ((bytesOf d).count 49 : Nat) := by
  have e : ∀ s : ByteArray, (bytesOf s).count 49 = s.data.toList.count 49 := fun s => count_bytes _
  rw [e, e, ByteArray.toList_data_append, Lib.countByte, List.count_append]

theorem FnExactLinesLeft (a0_0 : Int) (a0_1 : Int) (a0_2 : ByteArray) (a0_3 : ByteArray) (a0_4 : Int) (a0_5 : Int) (a0_6 : Int) (h0 : ((Lit.int .i64 a0_0).wf = true) ∧ ((Lit.int .i64 a0_1).wf = true) ∧ (a0_2.size ≤ maxLen) ∧ (a0_3.size ≤ maxLen) ∧ ((Lit.int .i64 a0_4).wf = true) ∧ ((Lit.int .i64 a0_5).wf = true) ∧ ((Lit.int .i64 a0_6).wf = true)) : ∃ k, laws_FnExactLinesLeft.f k a0_0 a0_1 a0_2 a0_3 a0_4 a0_5 a0_6 = some true := by
  obtain ⟨_, _, hr, hd, _⟩ := h0
  have hr := Pl.le_max hr
  have hd := Pl.le_max hd
  by_cases hs : (a0_2.size : Int) + a0_3.size ≤ 1048576
  · have s1 := sz_small (w := a0_0) (h := a0_1) (x := a0_4) (y := a0_5) (way := a0_6) hs
    obtain ⟨b, ⟨K1, e1⟩, ⟨K2, e2⟩, hb⟩ := good_both a0_0 a0_1 a0_2 a0_3 a0_4 a0_5 a0_6 hr hd
    cases b with
    | false =>
      refine ⟨K1 + K2, ?_⟩
      have e1 := e1 (K1 + K2) (by omega)
      have e2 := e2 (K1 + K2) (by omega)
      simp (disch := omega) only [↓reduceIte, Pl.lt_t, Pl.lt_f, Pl.le_t, Pl.le_f, Pl.ge_t, Pl.ge_f, Pl.gt_t, Pl.gt_f, Pl.eq_t, Pl.eq_f, Pl.nlt_t, Pl.nle_t, Pl.w64, Option.bind_some, Bool.false_eq_true, decide_eq_true_eq, laws_FnExactLinesLeft.f, ↓Pl.bnd s1, s1, laws_toWorm.f, spec_LinesLeft.f, impl_LinesLeft.f, ↓Pl.bnd e1, e1, ↓Pl.bnd e2, e2, bne_self_eq_false]
    | true =>
      have g := hb.1 rfl
      obtain ⟨m0, m1⟩ := Pl.mul_in (a := a0_0) (b := a0_1) (A := 6) (B := 6) (by have := g.w3; omega) g.w6 (by have := g.h3; omega) g.h6
      have rs := g.rs
      have ds := g.ds
      obtain ⟨K3, e3⟩ := count_l (s := a0_2) (by omega) _ 0 0 rfl (by omega) (by omega) (by omega) (by omega)
      obtain ⟨K4, e4⟩ := count_l (s := a0_3) (by omega) _ 0 0 rfl (by omega) (by omega) (by omega) (by omega)
      refine ⟨K1 + K2 + K3 + K4, ?_⟩
      have e1 := e1 (K1 + K2 + K3 + K4) (by omega)
      have e2 := e2 (K1 + K2 + K3 + K4) (by omega)
      have e3 := e3 (K1 + K2 + K3 + K4) (by omega)
      have e4 := e4 (K1 + K2 + K3 + K4) (by omega)
      simp only [Int.toNat_zero, List.drop_zero, Int.zero_add] at e3 e4
      have c1 : (bytesOf a0_2).count 49 ≤ (bytesOf a0_2).length := List.count_le_length
      have c2 : (bytesOf a0_3).count 49 ≤ (bytesOf a0_3).length := List.count_le_length
      rw [bytesOf_length] at c1 c2
      have hw : wrap64 (((bytesOf a0_2).count 49 : Nat) + ((bytesOf a0_3).count 49 : Nat) : Int) = ((bytesOf a0_2).count 49 : Nat) + ((bytesOf a0_3).count 49 : Nat) := Pl.w64 (by omega) (by omega)
      have ec : strings_Count.f (a0_2 ++ a0_3) (⟨#[49]⟩ : ByteArray) = some (((bytesOf a0_2).count 49 : Nat) + ((bytesOf a0_3).count 49 : Nat) : Int) := by
        unfold strings_Count.f
        rw [if_pos (show (⟨#[49]⟩ : ByteArray).size = 1 from rfl)]
        show some (Lib.countByte (a0_2 ++ a0_3).data.toList 49 : Int) = _
        rw [count_both, Int.natCast_add]
      clear hb m0 m1
      simp (disch := omega) only [↓reduceIte, Pl.lt_t, Pl.lt_f, Pl.le_t, Pl.le_f, Pl.ge_t, Pl.ge_f, Pl.gt_t, Pl.gt_f, Pl.eq_t, Pl.eq_f, Pl.nlt_t, Pl.nle_t, Pl.w64, Option.bind_some, Bool.false_eq_true, decide_eq_true_eq, laws_FnExactLinesLeft.f, ↓Pl.bnd s1, s1, laws_toWorm.f, spec_LinesLeft.f, impl_LinesLeft.f, spec_wmCount.f, ↓Pl.bnd e1, e1, ↓Pl.bnd e2, e2, ↓Pl.bnd e3, e3, ↓Pl.bnd e4, e4, ↓Pl.bnd ec, ec, hw, bne_self_eq_false]
  · refine ⟨0, ?_⟩
    simp (disch := omega) only [↓reduceIte, Pl.lt_t, Pl.lt_f, Pl.le_t, Pl.le_f, Pl.ge_t, Pl.ge_f, Pl.gt_t, Pl.gt_f, Pl.eq_t, Pl.eq_f, Pl.nlt_t, Pl.nle_t, Pl.w64, Option.bind_some, Bool.false_eq_true, decide_eq_true_eq, laws_FnExactLinesLeft.f, sz_big]

end Go.Proofs.Ytgifhfkpfgpagaa.Pure
