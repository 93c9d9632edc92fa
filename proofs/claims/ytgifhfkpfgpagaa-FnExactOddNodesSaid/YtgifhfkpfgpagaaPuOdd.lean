/- The plain laws of IsWorm, LinesAt and OddNodes: for every worm the program's answer is the reference's. No condition. -/
import Derived.Test.YtgifhfkpfgpagaaPAx3
import Derived.Test.YtgifhfkpfgpagaaPAx5
import Derived.Test.YtgifhfkpfgpagaaPAx7
import Derived.Test.YtgifhfkpfgpagaaPuWorm
import Derived.Test.YtgifhfkpfgpagaaPuInts
namespace Go.Proofs.Ytgifhfkpfgpagaa.Pure
open Go.RowKit Go.Proofs.Ytgifhfkpfgpagaa Go.Proofs.Ytgifhfkpfgpagaa.PA Go.Proofs.YtgifhfkpfgpagaaW.PrintWords Go.Proofs.YtgifhfkpfgpagaaW.PrintLast
set_option linter.unusedVariables false
set_option linter.unusedSimpArgs false

theorem FnExactIsWorm (a0_0 : Int) (a0_1 : Int) (a0_2 : ByteArray) (a0_3 : ByteArray) (a0_4 : Int) (a0_5 : Int) (a0_6 : Int) (h0 : ((Lit.int .i64 a0_0).wf = true) ∧ ((Lit.int .i64 a0_1).wf = true) ∧ (a0_2.size ≤ maxLen) ∧ (a0_3.size ≤ maxLen) ∧ ((Lit.int .i64 a0_4).wf = true) ∧ ((Lit.int .i64 a0_5).wf = true) ∧ ((Lit.int .i64 a0_6).wf = true)) : ∃ k, laws_FnExactIsWorm.f k a0_0 a0_1 a0_2 a0_3 a0_4 a0_5 a0_6 = some true := by
  obtain ⟨_, _, hr, hd, _⟩ := h0
  have hr := Pl.le_max hr
  have hd := Pl.le_max hd
  by_cases hs : (a0_2.size : Int) + a0_3.size ≤ 1048576
  · have s1 := sz_small (w := a0_0) (h := a0_1) (x := a0_4) (y := a0_5) (way := a0_6) hs
    obtain ⟨b, ⟨K1, e1⟩, ⟨K2, e2⟩, _⟩ := good_both a0_0 a0_1 a0_2 a0_3 a0_4 a0_5 a0_6 hr hd
    refine ⟨K1 + K2, ?_⟩
    have e1 := e1 (K1 + K2) (by omega)
    have e2 := e2 (K1 + K2) (by omega)
    simp (disch := omega) only [↓reduceIte, Pl.lt_t, Pl.lt_f, Pl.le_t, Pl.le_f, Pl.ge_t, Pl.ge_f, Pl.gt_t, Pl.gt_f, Pl.eq_t, Pl.eq_f, Pl.nlt_t, Pl.nle_t, Pl.w64, Option.bind_some, Bool.false_eq_true, decide_eq_true_eq, laws_FnExactIsWorm.f, ↓Pl.bnd s1, s1, laws_toWorm.f, spec_IsWorm.f, ↓Pl.bnd e1, e1, ↓Pl.bnd e2, e2, bne_self_eq_false]
  · refine ⟨0, ?_⟩
    simp (disch := omega) only [↓reduceIte, Pl.lt_t, Pl.lt_f, Pl.le_t, Pl.le_f, Pl.ge_t, Pl.ge_f, Pl.gt_t, Pl.gt_f, Pl.eq_t, Pl.eq_f, Pl.nlt_t, Pl.nle_t, Pl.w64, Option.bind_some, Bool.false_eq_true, decide_eq_true_eq, laws_FnExactIsWorm.f, sz_big]

def b2i (b : Bool) : Int := if b = true then 1 else 0
def cnt (r d : ByteArray) (w h n : Int) : Int := b2i (lineB r d w h n 0) + b2i (lineB r d w h n 1) + b2i (lineB r d w h n 2) + b2i (lineB r d w h n 3)
theorem bit_val (b : Bool) : impl_bit.f b = some (b2i b) := by cases b <;> rfl
theorem wmAt_step {r d : ByteArray} {w h wx wy way x y t v : Int} (k : Nat) (hw : 1 ≤ w) (hw' : w ≤ 1000) (hh : 1 ≤ h) (hh' : h ≤ 1000) (hr : (r.size : Int) = w * h) (hd : (d.size : Int) = w * h) (x0 : 0 ≤ x) (xw : x < w) (y0 : 0 ≤ y) (yh : y < h) (v0 : 0 ≤ v) (v3 : v ≤ 3) (t0 : 0 ≤ t) (t3 : t ≤ 100) :
    spec_wmAt.l0 (k + 1) x y t v w h r d wx wy way = spec_wmAt.l0 k x y (t + b2i (lineB r d w h (y * w + x) v)) (v + 1) w h r d wx wy way := by
  have e := has_val (wx := wx) (wy := wy) (way := way) (v := v) hw hw' hh hh' hr hd x0 xw y0 yh v0 v3
  clear hr hd
  generalize lineB r d w h (y * w + x) v = b at *
  cases b <;> simp (disch := omega) only [↓reduceIte, Pl.lt_t, Pl.lt_f, Pl.le_t, Pl.le_f, Pl.ge_t, Pl.ge_f, Pl.gt_t, Pl.gt_f, Pl.eq_t, Pl.eq_f, Pl.nlt_t, Pl.nle_t, Pl.w64, Option.bind_some, Bool.false_eq_true, decide_eq_true_eq, spec_wmAt.l0, e, b2i, Int.add_zero]
theorem b2i_in (b : Bool) : 0 ≤ b2i b ∧ b2i b ≤ 1 := by cases b <;> simp [b2i]
theorem wmAt_val {r d : ByteArray} {w h wx wy way x y : Int} (hw : 1 ≤ w) (hw' : w ≤ 1000) (hh : 1 ≤ h) (hh' : h ≤ 1000) (hr : (r.size : Int) = w * h) (hd : (d.size : Int) = w * h) (x0 : 0 ≤ x) (xw : x < w) (y0 : 0 ≤ y) (yh : y < h) :
    Ev (fun k => spec_wmAt.f k w h r d wx wy way x y) (cnt r d w h (y * w + x)) := by
  refine ⟨5, fun k hk => ?_⟩
  obtain ⟨m, rfl⟩ : ∃ m, k = m + 5 := ⟨k - 5, by omega⟩
  have i0 := b2i_in (lineB r d w h (y * w + x) 0)
  have i1 := b2i_in (lineB r d w h (y * w + x) (0 + 1))
  have i2 := b2i_in (lineB r d w h (y * w + x) (0 + 1 + 1))
  have i3 := b2i_in (lineB r d w h (y * w + x) 3)
  show spec_wmAt.l0 (m + 4 + 1) x y 0 0 w h r d wx wy way = _
  rw [wmAt_step (m + 3 + 1) hw hw' hh hh' hr hd x0 xw y0 yh (by omega) (by omega) (by omega) (by omega), wmAt_step (m + 2 + 1) hw hw' hh hh' hr hd x0 xw y0 yh (by omega) (by omega) (by omega) (by omega), wmAt_step (m + 1 + 1) hw hw' hh hh' hr hd x0 xw y0 yh (by omega) (by omega) (by omega) (by omega), wmAt_step (m + 1) hw hw' hh hh' hr hd x0 xw y0 yh (by omega) (by omega) (by omega) (by omega), spec_wmAt.l0, if_neg (by omega), Int.zero_add]
  rfl
theorem linesAt_step {r d : ByteArray} {w h wx wy way n t v : Int} (k : Nat) (hw : 1 ≤ w) (hw' : w ≤ 1000) (hh : 1 ≤ h) (hh' : h ≤ 1000) (hr : (r.size : Int) = w * h) (hd : (d.size : Int) = w * h) (n0 : 0 ≤ n) (nw : n < w * h) (v0 : 0 ≤ v) (v3 : v ≤ 3) (t0 : 0 ≤ t) (t3 : t ≤ 100) :
    impl_Worm_linesAt.l0 (k + 1) n t v w h r d wx wy way = impl_Worm_linesAt.l0 k n (t + b2i (lineB r d w h n v)) (v + 1) w h r d wx wy way := by
  have e := there_val (x := wx) (y := wy) (way := way) (v := v) hw hw' hh hh' hr hd n0 nw v0 v3
  have i := b2i_in (lineB r d w h n v)
  clear hr hd
  simp (disch := omega) only [↓reduceIte, Pl.lt_t, Pl.lt_f, Pl.le_t, Pl.le_f, Pl.ge_t, Pl.ge_f, Pl.gt_t, Pl.gt_f, Pl.eq_t, Pl.eq_f, Pl.nlt_t, Pl.nle_t, Pl.w64, Option.bind_some, Bool.false_eq_true, decide_eq_true_eq, impl_Worm_linesAt.l0, e, bit_val]
theorem linesAt_val {r d : ByteArray} {w h wx wy way n : Int} (hw : 1 ≤ w) (hw' : w ≤ 1000) (hh : 1 ≤ h) (hh' : h ≤ 1000) (hr : (r.size : Int) = w * h) (hd : (d.size : Int) = w * h) (n0 : 0 ≤ n) (nw : n < w * h) :
    Ev (fun k => impl_Worm_linesAt.f k w h r d wx wy way n) (cnt r d w h n) := by
  refine ⟨5, fun k hk => ?_⟩
  obtain ⟨m, rfl⟩ : ∃ m, k = m + 5 := ⟨k - 5, by omega⟩
  have i0 := b2i_in (lineB r d w h n 0)
  have i1 := b2i_in (lineB r d w h n (0 + 1))
  have i2 := b2i_in (lineB r d w h n (0 + 1 + 1))
  have i3 := b2i_in (lineB r d w h n 3)
  show impl_Worm_linesAt.l0 (m + 4 + 1) n 0 0 w h r d wx wy way = _
  rw [linesAt_step (m + 3 + 1) hw hw' hh hh' hr hd n0 nw (by omega) (by omega) (by omega) (by omega), linesAt_step (m + 2 + 1) hw hw' hh hh' hr hd n0 nw (by omega) (by omega) (by omega) (by omega), linesAt_step (m + 1 + 1) hw hw' hh hh' hr hd n0 nw (by omega) (by omega) (by omega) (by omega), linesAt_step (m + 1) hw hw' hh hh' hr hd n0 nw (by omega) (by omega) (by omega) (by omega), impl_Worm_linesAt.l0, if_neg (by omega), Int.zero_add]
  rfl

set_option maxHeartbeats 4000000 in
theorem FnExactLinesAt (a0_0 : Int) (a0_1 : Int) (a0_2 : ByteArray) (a0_3 : ByteArray) (a0_4 : Int) (a0_5 : Int) (a0_6 : Int) (a1 : Int) (a2 : Int) (h0 : ((Lit.int .i64 a0_0).wf = true) ∧ ((Lit.int .i64 a0_1).wf = true) ∧ (a0_2.size ≤ maxLen) ∧ (a0_3.size ≤ maxLen) ∧ ((Lit.int .i64 a0_4).wf = true) ∧ ((Lit.int .i64 a0_5).wf = true) ∧ ((Lit.int .i64 a0_6).wf = true)) (h1 : (Lit.int .i64 a1).wf = true) (h2 : (Lit.int .i64 a2).wf = true) : ∃ k, laws_FnExactLinesAt.f k a0_0 a0_1 a0_2 a0_3 a0_4 a0_5 a0_6 a1 a2 = some true := by
  obtain ⟨_, _, hr, hd, _⟩ := h0
  have hr := Pl.le_max hr
  have hd := Pl.le_max hd
  by_cases hs : (a0_2.size : Int) + a0_3.size ≤ 1048576
  · have s1 := sz_small (w := a0_0) (h := a0_1) (x := a0_4) (y := a0_5) (way := a0_6) hs
    obtain ⟨b, ⟨K1, e1⟩, ⟨K2, e2⟩, hb⟩ := good_both a0_0 a0_1 a0_2 a0_3 a0_4 a0_5 a0_6 hr hd
    cases b with
    | false =>
      refine ⟨K1 + K2, ?_⟩
      have e1 := e1 (K1 + K2) (by omega)
      have e2 := e2 (K1 + K2) (by omega)
      simp (disch := omega) only [↓reduceIte, Pl.lt_t, Pl.lt_f, Pl.le_t, Pl.le_f, Pl.ge_t, Pl.ge_f, Pl.gt_t, Pl.gt_f, Pl.eq_t, Pl.eq_f, Pl.nlt_t, Pl.nle_t, Pl.w64, Option.bind_some, Bool.false_eq_true, decide_eq_true_eq, laws_FnExactLinesAt.f, ↓Pl.bnd s1, s1, laws_toWorm.f, spec_LinesAt.f, impl_LinesAt.f, ↓Pl.bnd e1, e1, ↓Pl.bnd e2, e2, bne_self_eq_false]
    | true =>
      obtain ⟨g1, g2, g3, g4, grs, gds, grb, gdb, x0, xw, y0, yh, v0, v3⟩ := hb.1 rfl
      by_cases c1 : 0 ≤ a1 ∧ a1 ≤ a0_0 - 1
      · by_cases c2 : 0 ≤ a2 ∧ a2 ≤ a0_1 - 1
        · obtain ⟨K3, e3⟩ := wmAt_val (wx := a0_4) (wy := a0_5) (way := a0_6) (w := a0_0) (h := a0_1) (x := a1) (y := a2) (by omega) (by omega) (by omega) (by omega) grs gds c1.1 (by omega) c2.1 (by omega)
          have n1 := Pl.node_lt (x := a1) (y := a2) (w := a0_0) (h := a0_1) c1.1 (by omega) c2.1 (by omega)
          obtain ⟨m0, m1⟩ := Pl.mul_in (a := a2) (b := a0_0) (A := 1000) (B := 1000) c2.1 (by omega) (by omega) (by omega)
          obtain ⟨K4, e4⟩ := linesAt_val (wx := a0_4) (wy := a0_5) (way := a0_6) (w := a0_0) (h := a0_1) (n := a2 * a0_0 + a1) (by omega) (by omega) (by omega) (by omega) grs gds n1.1 n1.2
          refine ⟨K1 + K2 + K3 + K4, ?_⟩
          have e1 := e1 (K1 + K2 + K3 + K4) (by omega)
          have e2 := e2 (K1 + K2 + K3 + K4) (by omega)
          have e3 := e3 (K1 + K2 + K3 + K4) (by omega)
          have e4 := e4 (K1 + K2 + K3 + K4) (by omega)
          have e5 : impl_isAnt.f a0_0 a0_1 a1 a2 0 = some true := by
            rw [isAnt_val (by omega) (by omega) (by omega) (by omega), decide_eq_true (by omega)]
          simp (disch := omega) only [↓reduceIte, Pl.lt_t, Pl.lt_f, Pl.le_t, Pl.le_f, Pl.ge_t, Pl.ge_f, Pl.gt_t, Pl.gt_f, Pl.eq_t, Pl.eq_f, Pl.nlt_t, Pl.nle_t, Pl.w64, Option.bind_some, Bool.false_eq_true, decide_eq_true_eq, laws_FnExactLinesAt.f, ↓Pl.bnd s1, s1, laws_toWorm.f, spec_LinesAt.f, impl_LinesAt.f, ↓Pl.bnd e1, e1, ↓Pl.bnd e2, e2, ↓Pl.bnd e3, e3, ↓Pl.bnd e4, e4, ↓Pl.bnd e5, e5, l1In_t, bne_self_eq_false]
        · have e5 : impl_isAnt.f a0_0 a0_1 a1 a2 0 = some false := by
            rw [isAnt_val (by omega) (by omega) (by omega) (by omega), decide_eq_false (by omega)]
          refine ⟨K1 + K2, ?_⟩
          have e1 := e1 (K1 + K2) (by omega)
          have e2 := e2 (K1 + K2) (by omega)
          simp (disch := omega) only [↓reduceIte, Pl.lt_t, Pl.lt_f, Pl.le_t, Pl.le_f, Pl.ge_t, Pl.ge_f, Pl.gt_t, Pl.gt_f, Pl.eq_t, Pl.eq_f, Pl.nlt_t, Pl.nle_t, Pl.w64, Option.bind_some, Bool.false_eq_true, decide_eq_true_eq, laws_FnExactLinesAt.f, ↓Pl.bnd s1, s1, laws_toWorm.f, spec_LinesAt.f, impl_LinesAt.f, ↓Pl.bnd e1, e1, ↓Pl.bnd e2, e2, ↓Pl.bnd e5, e5, l1In_t, l1In_f, bne_self_eq_false]
      · have e5 : impl_isAnt.f a0_0 a0_1 a1 a2 0 = some false := by
          rw [isAnt_val (by omega) (by omega) (by omega) (by omega), decide_eq_false (by omega)]
        refine ⟨K1 + K2, ?_⟩
        have e1 := e1 (K1 + K2) (by omega)
        have e2 := e2 (K1 + K2) (by omega)
        simp (disch := omega) only [↓reduceIte, Pl.lt_t, Pl.lt_f, Pl.le_t, Pl.le_f, Pl.ge_t, Pl.ge_f, Pl.gt_t, Pl.gt_f, Pl.eq_t, Pl.eq_f, Pl.nlt_t, Pl.nle_t, Pl.w64, Option.bind_some, Bool.false_eq_true, decide_eq_true_eq, laws_FnExactLinesAt.f, ↓Pl.bnd s1, s1, laws_toWorm.f, spec_LinesAt.f, impl_LinesAt.f, ↓Pl.bnd e1, e1, ↓Pl.bnd e2, e2, ↓Pl.bnd e5, e5, l1In_f, bne_self_eq_false]
  · refine ⟨0, ?_⟩
    simp (disch := omega) only [↓reduceIte, Pl.lt_t, Pl.lt_f, Pl.le_t, Pl.le_f, Pl.ge_t, Pl.ge_f, Pl.gt_t, Pl.gt_f, Pl.eq_t, Pl.eq_f, Pl.nlt_t, Pl.nle_t, Pl.w64, Option.bind_some, Bool.false_eq_true, decide_eq_true_eq, laws_FnExactLinesAt.f, sz_big]

theorem odd_l0 {r d : ByteArray} {w h x y way : Int} (hw : 1 ≤ w) (hw' : w ≤ 1000) (hh : 1 ≤ h) (hh' : h ≤ 1000) (hr : (r.size : Int) = w * h) (hd : (d.size : Int) = w * h) (hs : (r.size : Int) ≤ 1000000) (n : Nat) :
    ∀ (i : Int) (acc : List Int), (r.size - i).toNat = n → 0 ≤ i → i ≤ r.size → (acc.length : Int) ≤ i →
      ∃ res : List Int, Ev (fun k => spec_OddNodes.l0 k acc i w h r d x y way) (res, true) ∧ Ev (fun k => impl_OddNodes.l0 k acc r.size i w h r d x y way) (res, true) ∧ (res.length : Int) ≤ r.size := by
  induction n with
  | zero =>
    intro i acc hn h0 h1 ha
    refine ⟨acc, Pl.ev_unf ⟨0, fun k _ => ?_⟩, Pl.ev_unf ⟨0, fun k _ => ?_⟩, by omega⟩
    · simp (disch := omega) only [↓reduceIte, Pl.lt_t, Pl.lt_f, Pl.le_t, Pl.le_f, Pl.ge_t, Pl.ge_f, Pl.gt_t, Pl.gt_f, Pl.eq_t, Pl.eq_f, Pl.nlt_t, Pl.nle_t, Pl.w64, Option.bind_some, Bool.false_eq_true, decide_eq_true_eq, spec_OddNodes.l0]
    · simp (disch := omega) only [↓reduceIte, Pl.lt_t, Pl.lt_f, Pl.le_t, Pl.le_f, Pl.ge_t, Pl.ge_f, Pl.gt_t, Pl.gt_f, Pl.eq_t, Pl.eq_f, Pl.nlt_t, Pl.nle_t, Pl.w64, Option.bind_some, Bool.false_eq_true, decide_eq_true_eq, impl_OddNodes.l0]
  | succ n ih =>
    intro i acc hn h0 h1 ha
    have q := Pl.node_at (n := i) (w := w) (h := h) (by omega) h0 (by omega)
    obtain ⟨q0, q1, q2, q3, q4⟩ := q
    obtain ⟨K1, e1⟩ := wmAt_val (wx := x) (wy := y) (way := way) hw hw' hh hh' hr hd q0 q1 q2 q3
    obtain ⟨K2, e2⟩ := linesAt_val (wx := x) (wy := y) (way := way) hw hw' hh hh' hr hd h0 (by omega)
    rw [q4] at e1
    have t0 : Int.tmod i w = i % w := Pl.tmod_nn h0
    have t1 : Int.tdiv i w = i / w := Pl.tdiv_nn h0
    by_cases c : Int.tmod (cnt r d w h i) 2 = 1
    · obtain ⟨res, ⟨K3, e3⟩, ⟨K4, e4⟩, hl⟩ := ih (i + 1) (acc ++ [i]) (by omega) (by omega) (by omega) (by simp; omega)
      refine ⟨res, Pl.ev_unf ⟨K1 + K3, fun k hk => ?_⟩, Pl.ev_unf ⟨K2 + K4, fun k hk => ?_⟩, hl⟩
      · have e1 := e1 k (by omega)
        have e3 := e3 k (by omega)
        simp (disch := omega) only [↓reduceIte, Pl.lt_t, Pl.lt_f, Pl.le_t, Pl.le_f, Pl.ge_t, Pl.ge_f, Pl.gt_t, Pl.gt_f, Pl.eq_t, Pl.eq_f, Pl.nlt_t, Pl.nle_t, Pl.w64, Option.bind_some, Bool.false_eq_true, decide_eq_true_eq, spec_OddNodes.l0, t0, t1, e1, c, e3]
      · have e2 := e2 k (by omega)
        have e4 := e4 k (by omega)
        simp (disch := omega) only [↓reduceIte, Pl.lt_t, Pl.lt_f, Pl.le_t, Pl.le_f, Pl.ge_t, Pl.ge_f, Pl.gt_t, Pl.gt_f, Pl.eq_t, Pl.eq_f, Pl.nlt_t, Pl.nle_t, Pl.w64, Option.bind_some, Bool.false_eq_true, decide_eq_true_eq, impl_OddNodes.l0, e2, c, e4]
    · obtain ⟨res, ⟨K3, e3⟩, ⟨K4, e4⟩, hl⟩ := ih (i + 1) acc (by omega) (by omega) (by omega) (by omega)
      refine ⟨res, Pl.ev_unf ⟨K1 + K3, fun k hk => ?_⟩, Pl.ev_unf ⟨K2 + K4, fun k hk => ?_⟩, hl⟩
      · have e1 := e1 k (by omega)
        have e3 := e3 k (by omega)
        simp (disch := omega) only [↓reduceIte, Pl.lt_t, Pl.lt_f, Pl.le_t, Pl.le_f, Pl.ge_t, Pl.ge_f, Pl.gt_t, Pl.gt_f, Pl.eq_t, Pl.eq_f, Pl.nlt_t, Pl.nle_t, Pl.w64, Option.bind_some, Bool.false_eq_true, decide_eq_true_eq, spec_OddNodes.l0, t0, t1, e1, c, e3]
      · have e2 := e2 k (by omega)
        have e4 := e4 k (by omega)
        simp (disch := omega) only [↓reduceIte, Pl.lt_t, Pl.lt_f, Pl.le_t, Pl.le_f, Pl.ge_t, Pl.ge_f, Pl.gt_t, Pl.gt_f, Pl.eq_t, Pl.eq_f, Pl.nlt_t, Pl.nle_t, Pl.w64, Option.bind_some, Bool.false_eq_true, decide_eq_true_eq, impl_OddNodes.l0, e2, c, e4]

set_option maxHeartbeats 4000000 in
theorem FnExactOddNodes (a0_0 : Int) (a0_1 : Int) (a0_2 : ByteArray) (a0_3 : ByteArray) (a0_4 : Int) (a0_5 : Int) (a0_6 : Int) (h0 : ((Lit.int .i64 a0_0).wf = true) ∧ ((Lit.int .i64 a0_1).wf = true) ∧ (a0_2.size ≤ maxLen) ∧ (a0_3.size ≤ maxLen) ∧ ((Lit.int .i64 a0_4).wf = true) ∧ ((Lit.int .i64 a0_5).wf = true) ∧ ((Lit.int .i64 a0_6).wf = true)) : ∃ k, laws_FnExactOddNodes.f k a0_0 a0_1 a0_2 a0_3 a0_4 a0_5 a0_6 = some true := by
  obtain ⟨_, _, hr, hd, _⟩ := h0
  have hr := Pl.le_max hr
  have hd := Pl.le_max hd
  by_cases hs : (a0_2.size : Int) + a0_3.size ≤ 1048576
  · have s1 := sz_small (w := a0_0) (h := a0_1) (x := a0_4) (y := a0_5) (way := a0_6) hs
    obtain ⟨b, ⟨K1, e1⟩, ⟨K2, e2⟩, hb⟩ := good_both a0_0 a0_1 a0_2 a0_3 a0_4 a0_5 a0_6 hr hd
    have both : ∃ (res : List Int) (c : Bool), Ev (fun k => spec_OddNodes.f k a0_0 a0_1 a0_2 a0_3 a0_4 a0_5 a0_6) (res, c) ∧ Ev (fun k => impl_OddNodes.f k a0_0 a0_1 a0_2 a0_3 a0_4 a0_5 a0_6) (res, c) ∧ res.length ≤ 100000000 := by
      cases b with
      | false =>
        refine ⟨[], false, ⟨K1, fun k hk => ?_⟩, ⟨K2, fun k hk => ?_⟩, by simp⟩
        · have e1 := e1 k hk
          simp (disch := omega) only [↓reduceIte, Pl.lt_t, Pl.lt_f, Pl.le_t, Pl.le_f, Pl.ge_t, Pl.ge_f, Pl.gt_t, Pl.gt_f, Pl.eq_t, Pl.eq_f, Pl.nlt_t, Pl.nle_t, Pl.w64, Option.bind_some, Bool.false_eq_true, decide_eq_true_eq, spec_OddNodes.f, e1]
        · have e2 := e2 k hk
          simp (disch := omega) only [↓reduceIte, Pl.lt_t, Pl.lt_f, Pl.le_t, Pl.le_f, Pl.ge_t, Pl.ge_f, Pl.gt_t, Pl.gt_f, Pl.eq_t, Pl.eq_f, Pl.nlt_t, Pl.nle_t, Pl.w64, Option.bind_some, Bool.false_eq_true, decide_eq_true_eq, impl_OddNodes.f, e2]
      | true =>
        obtain ⟨g1, g2, g3, g4, grs, gds, grb, gdb, x0, xw, y0, yh, v0, v3⟩ := hb.1 rfl
        obtain ⟨res, ⟨K3, e3⟩, ⟨K4, e4⟩, hl⟩ := odd_l0 (x := a0_4) (y := a0_5) (way := a0_6) (w := a0_0) (h := a0_1) (by omega) (by omega) (by omega) (by omega) grs gds (by omega) _ 0 [] rfl (by omega) (by omega) (by simp)
        refine ⟨res, true, ⟨K1 + K3, fun k hk => ?_⟩, ⟨K2 + K4, fun k hk => ?_⟩, by omega⟩
        · have e1 := e1 k (by omega)
          have e3 := e3 k (by omega)
          simp (disch := omega) only [↓reduceIte, Pl.lt_t, Pl.lt_f, Pl.le_t, Pl.le_f, Pl.ge_t, Pl.ge_f, Pl.gt_t, Pl.gt_f, Pl.eq_t, Pl.eq_f, Pl.nlt_t, Pl.nle_t, Pl.w64, Option.bind_some, Bool.false_eq_true, decide_eq_true_eq, spec_OddNodes.f, e1, e3]
        · have e2 := e2 k (by omega)
          have e4 := e4 k (by omega)
          simp (disch := omega) only [↓reduceIte, Pl.lt_t, Pl.lt_f, Pl.le_t, Pl.le_f, Pl.ge_t, Pl.ge_f, Pl.gt_t, Pl.gt_f, Pl.eq_t, Pl.eq_f, Pl.nlt_t, Pl.nle_t, Pl.w64, Option.bind_some, Bool.false_eq_true, decide_eq_true_eq, impl_OddNodes.f, e2, e4]
    obtain ⟨res, c, ⟨K3, e3⟩, ⟨K4, e4⟩, hl⟩ := both
    obtain ⟨K5, e5⟩ := eqIntS_self (l := res) (by omega)
    obtain ⟨l', ⟨K6, e6⟩, ⟨K7, e7⟩, hl'⟩ := mark_held (a := 1) (l := res) (by omega) (by omega) (by omega)
    refine ⟨K3 + K4 + K5 + K6 + K7 + 2, ?_⟩
    have f3 := e3 (K3 + K4 + K5 + K6 + K7 + 2) (by omega)
    have f4 := e4 (K3 + K4 + K5 + K6 + K7 + 2) (by omega)
    have f5 := e5 (K3 + K4 + K5 + K6 + K7 + 2) (by omega)
    have g4 := e4 (K3 + K4 + K5 + K6 + K7 + 1) (by omega)
    have g5 := e5 (K3 + K4 + K5 + K6 + K7 + 1) (by omega)
    have g6 := e6 (K3 + K4 + K5 + K6 + K7 + 1) (by omega)
    have g7 := e7 (K3 + K4 + K5 + K6 + K7 + 1) (by omega)
    have i7 := e7 (K3 + K4 + K5 + K6 + K7) (by omega)
    clear e3 e4 e5 e6 e7 hb e1 e2
    simp (disch := omega) only [↓reduceIte, Pl.lt_t, Pl.lt_f, Pl.le_t, Pl.le_f, Pl.ge_t, Pl.ge_f, Pl.gt_t, Pl.gt_f, Pl.eq_t, Pl.eq_f, Pl.nlt_t, Pl.nle_t, Pl.w64, Option.bind_some, Bool.false_eq_true, decide_eq_true_eq, laws_FnExactOddNodes.f, laws_FnExactOddNodes.j0, laws_FnExactOddNodes.j1, ↓Pl.bnd s1, s1, laws_toWorm.f, ↓Pl.bnd f3, f3, ↓Pl.bnd f4, f4, ↓Pl.bnd f5, f5, ↓Pl.bnd g4, g4, ↓Pl.bnd g5, g5, ↓Pl.bnd g6, g6, ↓Pl.bnd g7, g7, ↓Pl.bnd i7, i7, bne_self_eq_false]
  · refine ⟨0, ?_⟩
    simp (disch := omega) only [↓reduceIte, Pl.lt_t, Pl.lt_f, Pl.le_t, Pl.le_f, Pl.ge_t, Pl.ge_f, Pl.gt_t, Pl.gt_f, Pl.eq_t, Pl.eq_f, Pl.nlt_t, Pl.nle_t, Pl.w64, Option.bind_some, Bool.false_eq_true, decide_eq_true_eq, laws_FnExactOddNodes.f, sz_big]

end Go.Proofs.Ytgifhfkpfgpagaa.Pure
