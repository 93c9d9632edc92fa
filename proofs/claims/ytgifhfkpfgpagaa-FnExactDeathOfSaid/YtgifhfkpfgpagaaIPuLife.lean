/- The plain laws of LifeOf, MealsOfWorm and DeathOf: for every worm and taste the program's answer is the reference's. No condition. -/
import Derived.Test.YtgifhfkpfgpagaaPIx3
import Derived.Test.YtgifhfkpfgpagaaPIx7
import Derived.Test.YtgifhfkpfgpagaaPIx8
import Derived.Test.YtgifhfkpfgpagaaIPuEat
namespace Go.Proofs.Ytgifhfkpfgpagaa.Pure
open Go.RowKit Go.Proofs.Ytgifhfkpfgpagaa Go.Proofs.Ytgifhfkpfgpagaa.PI Go.Proofs.YtgifhfkpfgpagaaW.PrintWords Go.Proofs.YtgifhfkpfgpagaaW.PrintLast
set_option linter.unusedVariables false
set_option linter.unusedSimpArgs false

def lines (r d : ByteArray) : Nat := (bytesOf r).count 49 + (bytesOf d).count 49
theorem setB_count {s : ByteArray} {k : Int} (h0 : 0 ≤ k) (h1 : k < s.size) (hb : bt s k = 49) : (bytesOf (setB s k (48 + 0))).count 49 + 1 = (bytesOf s).count 49 := by
  have hl : k.toNat < (bytesOf s).length := by rw [bytesOf_length]; omega
  have hg : (bytesOf s)[k.toNat] = 49 := by rw [← Pl.rd_get hl, ← Pl.bt_rd]; exact hb
  rw [setB_bytes (by omega) (by omega), List.count_set hl]
  have hm : 0 < (bytesOf s).count 49 := List.count_pos_iff.2 (by rw [← hg]; exact List.getElem_mem hl)
  simp [hg]
  omega
theorem lines_eat {w h : Int} {r d : ByteArray} {x y v a : Int} (g : StW w h r d x y v) (a0 : 0 ≤ a) (a3 : a ≤ 3) (hb : lineB r d w h (y * w + x) a = true) :
    lines (setR r w h (y * w + x) a (48 + 0)) (setD d w h (y * w + x) a (48 + 0)) + 1 = lines r d := by
  obtain ⟨w3, w6, h3, h6, rs, ds, x0, xw, y0, yh, v0, v3⟩ := g
  have n1 := Pl.node_lt x0 xw y0 yh
  have b0 := bnode_in (w := w) (h := h) (n := y * w + x) (v := 0) (by omega) (by omega)
  have b3 := bnode_in (w := w) (h := h) (n := y * w + x) (v := 3) (by omega) (by omega)
  unfold lines
  rcases way_cases a0 a3 with rfl | rfl | rfl | rfl
  · have e := setB_count (s := d) b0.1 (by omega) (by simpa [lineB] using hb)
    rw [show setR r w h (y * w + x) 0 (48 + 0) = r from rfl, show setD d w h (y * w + x) 0 (48 + 0) = setB d (bnode w h (y * w + x) 0) (48 + 0) from rfl]
    omega
  · have e := setB_count (s := r) n1.1 (by omega) (by simpa [lineB] using hb)
    rw [show setR r w h (y * w + x) 1 (48 + 0) = setB r (y * w + x) (48 + 0) from rfl, show setD d w h (y * w + x) 1 (48 + 0) = d from rfl]
    omega
  · have e := setB_count (s := d) n1.1 (by omega) (by simpa [lineB] using hb)
    rw [show setR r w h (y * w + x) 2 (48 + 0) = r from rfl, show setD d w h (y * w + x) 2 (48 + 0) = setB d (y * w + x) (48 + 0) from rfl]
    omega
  · have e := setB_count (s := r) b3.1 (by omega) (by simpa [lineB] using hb)
    rw [show setR r w h (y * w + x) 3 (48 + 0) = setB r (bnode w h (y * w + x) 3) (48 + 0) from rfl, show setD d w h (y * w + x) 3 (48 + 0) = d from rfl]
    omega
theorem bytes_one {s : ByteArray} {j : Int} (h0 : 0 ≤ j) (h1 : j < s.size) : bytesOf (s.extract j.toNat (j + 1).toNat) = [bt s j] := by
  have hl : j.toNat < (bytesOf s).length := by rw [bytesOf_length]; omega
  rw [Pl.bytesOf_extract, Pl.bt_rd, Pl.rd_get hl, show (j + 1).toNat = j.toNat + 1 by omega, List.drop_take, List.drop_eq_getElem_cons hl, show j.toNat + 1 - j.toNat = 1 by omega]
  rfl

theorem life_l {s : ByteArray} (hs : ∀ j : Int, 0 ≤ j → j < s.size → bt s j < 128) (hl : s.size ≤ 9223372036854775807) (n : Nat) :
    ∀ {w h : Int} {r d : ByteArray} {x y v : Int} (g : StW w h r d x y v) (sg : ByteArray) (track : List Int), lines r d = n → sg.size + n ≤ 1000 → track.length + n ≤ 1000 →
      ∃ (q1 q2 : Int) (q3 q4 : ByteArray) (q5 q6 q7 : Int) (q8 : ByteArray) (q9 : List Int), Ev (fun k => spec_wmLife.l0 k s sg track w h r d x y v) (q1, q2, q3, q4, q5, q6, q7, q8, q9) ∧
        Ev (fun k => impl_Worm_life.l0 k s track (bytesOf sg) w h r d x y v) (q1, q2, q3, q4, q5, q6, q7, q9, q8) := by
  induction n with
  | zero =>
    intro w h r d x y v g sg track hn h1 h2
    obtain ⟨o, e1, e2, ho⟩ := eat_both g hs hl
    cases o with
    | none =>
      have ns := eq_true no_sign
      have sb := Pl.strOf_bytesOf sg
      refine ⟨w, h, r, d, x, y, v, sg, track, Pl.ev_unf ⟨0, fun k _ => ?_⟩, Pl.ev_unf ⟨0, fun k _ => ?_⟩⟩
      · simp (disch := omega) only [↓reduceIte, Pl.lt_t, Pl.lt_f, Pl.le_t, Pl.le_f, Pl.ge_t, Pl.ge_f, Pl.gt_t, Pl.gt_f, Pl.eq_t, Pl.eq_f, Pl.nlt_t, Pl.nle_t, Pl.w64, Option.bind_some, Bool.false_eq_true, decide_eq_true_eq, spec_wmLife.l0, ↓Pl.bnd e1, e1, eatS, ns]
      · simp (disch := omega) only [↓reduceIte, Pl.lt_t, Pl.lt_f, Pl.le_t, Pl.le_f, Pl.ge_t, Pl.ge_f, Pl.gt_t, Pl.gt_f, Pl.eq_t, Pl.eq_f, Pl.nlt_t, Pl.nle_t, Pl.w64, Option.bind_some, Bool.false_eq_true, decide_eq_true_eq, impl_Worm_life.l0, ↓Pl.bnd e2, e2, eatI, sb]
    | some p =>
      obtain ⟨j, a⟩ := p
      obtain ⟨j0, j1, a0, a3, hb⟩ := ho j a rfl
      have := lines_eat g a0 a3 hb
      omega
  | succ n ih =>
    intro w h r d x y v g sg track hn h1 h2
    obtain ⟨o, e1, e2, ho⟩ := eat_both g hs hl
    cases o with
    | none =>
      have ns := eq_true no_sign
      have sb := Pl.strOf_bytesOf sg
      refine ⟨w, h, r, d, x, y, v, sg, track, Pl.ev_unf ⟨0, fun k _ => ?_⟩, Pl.ev_unf ⟨0, fun k _ => ?_⟩⟩
      · simp (disch := omega) only [↓reduceIte, Pl.lt_t, Pl.lt_f, Pl.le_t, Pl.le_f, Pl.ge_t, Pl.ge_f, Pl.gt_t, Pl.gt_f, Pl.eq_t, Pl.eq_f, Pl.nlt_t, Pl.nle_t, Pl.w64, Option.bind_some, Bool.false_eq_true, decide_eq_true_eq, spec_wmLife.l0, ↓Pl.bnd e1, e1, eatS, ns]
      · simp (disch := omega) only [↓reduceIte, Pl.lt_t, Pl.lt_f, Pl.le_t, Pl.le_f, Pl.ge_t, Pl.ge_f, Pl.gt_t, Pl.gt_f, Pl.eq_t, Pl.eq_f, Pl.nlt_t, Pl.nle_t, Pl.w64, Option.bind_some, Bool.false_eq_true, decide_eq_true_eq, impl_Worm_life.l0, ↓Pl.bnd e2, e2, eatI, sb]
    | some p =>
      obtain ⟨j, a⟩ := p
      obtain ⟨j0, j1, a0, a3, hb⟩ := ho j a rfl
      have hle := lines_eat g a0 a3 hb
      have ns := eq_false (one_sign j0 j1)
      have g' := st_eat (n := y * w + x) (c := 48 + 0) g a0 a3
      have hsz : (s.extract j.toNat (j + 1).toNat).size = 1 := by rw [ByteArray.size_extract]; omega
      have hbo := bytes_one j0 j1
      have w3 := g.w3
      have w6 := g.w6
      have h6 := g.h6
      have en := node_val (r := setR r w h (y * w + x) a (48 + 0)) (d := setD d w h (y * w + x) a (48 + 0)) (v := a) (w := w) (h := h) (by omega) (by omega) (by omega) g'.x0 g'.xw g'.y0 g'.yh
      obtain ⟨m0, m1⟩ := Pl.mul_in (a := (y + dy a) % h) (b := w) (A := 6) (B := 6) g'.y0 (by have := g'.yh; omega) (by omega) w6
      have hx0 := g'.x0
      have hxw := g'.xw
      obtain ⟨q1, q2, q3, q4, q5, q6, q7, q8, q9, ⟨K1, f1⟩, ⟨K2, f2⟩⟩ := ih g' (sg ++ s.extract j.toNat (j + 1).toNat) (track ++ [(y + dy a) % h * w + (x + dx a) % w]) (by omega) (by rw [ByteArray.size_append]; omega) (by rw [List.length_append, List.length_cons, List.length_nil]; omega)
      rw [Pl.bytesOf_append, hbo] at f2
      have hlb : (bytesOf sg).length = sg.size := bytesOf_length sg
      refine ⟨q1, q2, q3, q4, q5, q6, q7, q8, q9, Pl.ev_unf ⟨K1, fun k hk => ?_⟩, Pl.ev_unf ⟨K2, fun k hk => ?_⟩⟩
      · have f := f1 k hk
        simp (disch := omega) only [↓reduceIte, Pl.lt_t, Pl.lt_f, Pl.le_t, Pl.le_f, Pl.ge_t, Pl.ge_f, Pl.gt_t, Pl.gt_f, Pl.eq_t, Pl.eq_f, Pl.nlt_t, Pl.nle_t, Pl.w64, Option.bind_some, Bool.false_eq_true, decide_eq_true_eq, spec_wmLife.l0, ↓Pl.bnd e1, e1, eatS, ns, f]
      · have f := f2 k hk
        simp (disch := omega) only [↓reduceIte, Pl.lt_t, Pl.lt_f, Pl.le_t, Pl.le_f, Pl.ge_t, Pl.ge_f, Pl.gt_t, Pl.gt_f, Pl.eq_t, Pl.eq_f, Pl.nlt_t, Pl.nle_t, Pl.w64, Option.bind_some, Bool.false_eq_true, decide_eq_true_eq, impl_Worm_life.l0, ↓Pl.bnd e2, e2, eatI, ↓Pl.bnd en, en, List.length_cons, List.length_nil, f]

theorem life_both {w h : Int} {r d : ByteArray} {x y v : Int} {s : ByteArray} (g : StW w h r d x y v) (hs : ∀ j : Int, 0 ≤ j → j < s.size → bt s j < 128) (hl : s.size ≤ 9223372036854775807) :
    ∃ (q1 q2 : Int) (q3 q4 : ByteArray) (q5 q6 q7 : Int) (q8 : ByteArray) (q9 : List Int), Ev (fun k => spec_wmLife.f k w h r d x y v s) (q1, q2, q3, q4, q5, q6, q7, q8, q9) ∧ Ev (fun k => impl_Worm_life.f k w h r d x y v s) (q1, q2, q3, q4, q5, q6, q7, q9, q8) := by
  have w3 := g.w3
  have w6 := g.w6
  have h6 := g.h6
  have h3 := g.h3
  obtain ⟨m0, m1⟩ := Pl.mul_in (a := w) (b := h) (A := 6) (B := 6) (by omega) w6 (by omega) h6
  obtain ⟨n0, n1⟩ := Pl.mul_in (a := y) (b := w) (A := 6) (B := 6) g.y0 (by have := g.yh; omega) (by omega) w6
  have hx0 := g.x0
  have hxw := g.xw
  have hlr : lines r d ≤ 72 := by
    have c1 : (bytesOf r).count 49 ≤ (bytesOf r).length := List.count_le_length
    have c2 : (bytesOf d).count 49 ≤ (bytesOf d).length := List.count_le_length
    rw [bytesOf_length] at c1 c2
    have := g.rs
    have := g.ds
    unfold lines
    omega
  have en := node_val (r := r) (d := d) (v := v) (w := w) (h := h) (by omega) (by omega) (by omega) g.x0 g.xw g.y0 g.yh
  obtain ⟨q1, q2, q3, q4, q5, q6, q7, q8, q9, ⟨K1, f1⟩, ⟨K2, f2⟩⟩ := life_l hs hl _ g (⟨#[]⟩ : ByteArray) [y * w + x] rfl (by show 0 + _ ≤ 1000; omega) (by show 1 + _ ≤ 1000; omega)
  refine ⟨q1, q2, q3, q4, q5, q6, q7, q8, q9, ⟨K1, fun k hk => ?_⟩, ⟨K2, fun k hk => ?_⟩⟩
  · have f := f1 k hk
    simp (disch := omega) only [↓reduceIte, Pl.lt_t, Pl.lt_f, Pl.le_t, Pl.le_f, Pl.ge_t, Pl.ge_f, Pl.gt_t, Pl.gt_f, Pl.eq_t, Pl.eq_f, Pl.nlt_t, Pl.nle_t, Pl.w64, Option.bind_some, Bool.false_eq_true, decide_eq_true_eq, spec_wmLife.f, f]
  · have f : impl_Worm_life.l0 k s [y * w + x] [] w h r d x y v = _ := f2 k hk
    simp (disch := omega) only [↓reduceIte, Pl.lt_t, Pl.lt_f, Pl.le_t, Pl.le_f, Pl.ge_t, Pl.ge_f, Pl.gt_t, Pl.gt_f, Pl.eq_t, Pl.eq_f, Pl.nlt_t, Pl.nle_t, Pl.w64, Option.bind_some, Bool.false_eq_true, decide_eq_true_eq, impl_Worm_life.f, ↓Pl.bnd en, en, f]

theorem death_both (w h : Int) (r d : ByteArray) (x y v : Int) (s : ByteArray) (hr : r.size ≤ 9223372036854775807) (hd : d.size ≤ 9223372036854775807) (hl : s.size ≤ 9223372036854775807) :
    ∃ res, Ev (fun k => spec_DeathOf.f k w h r d x y v s) res ∧ Ev (fun k => impl_DeathOf.f k w h r d x y v s) res := by
  obtain ⟨b, ⟨K1, e1⟩, ⟨K2, e2⟩, hb⟩ := asked_both w h r d x y v s hr hd
  cases b with
  | false =>
    refine ⟨(0, 0, (⟨#[]⟩ : ByteArray), (⟨#[]⟩ : ByteArray), 0, 0, 0, false), ⟨K1, fun k hk => ?_⟩, ⟨K2, fun k hk => ?_⟩⟩
    · have e1 := e1 k hk
      simp (disch := omega) only [↓reduceIte, Pl.lt_t, Pl.lt_f, Pl.le_t, Pl.le_f, Pl.ge_t, Pl.ge_f, Pl.gt_t, Pl.gt_f, Pl.eq_t, Pl.eq_f, Pl.nlt_t, Pl.nle_t, Pl.w64, Option.bind_some, Bool.false_eq_true, decide_eq_true_eq, spec_DeathOf.f, ↓Pl.bnd e1, e1]
    · have e2 := e2 k hk
      simp (disch := omega) only [↓reduceIte, Pl.lt_t, Pl.lt_f, Pl.le_t, Pl.le_f, Pl.ge_t, Pl.ge_f, Pl.gt_t, Pl.gt_f, Pl.eq_t, Pl.eq_f, Pl.nlt_t, Pl.nle_t, Pl.w64, Option.bind_some, Bool.false_eq_true, decide_eq_true_eq, impl_DeathOf.f, ↓Pl.bnd e2, e2]
  | true =>
    obtain ⟨g, hs, _⟩ := hb rfl
    obtain ⟨q1, q2, q3, q4, q5, q6, q7, q8, q9, ⟨K3, f1⟩, ⟨K4, f2⟩⟩ := life_both g hs hl
    refine ⟨(q1, q2, q3, q4, q5, q6, q7, true), ⟨K1 + K3, fun k hk => ?_⟩, ⟨K2 + K4, fun k hk => ?_⟩⟩
    · have e1 := e1 k (by omega)
      have f1 := f1 k (by omega)
      simp (disch := omega) only [↓reduceIte, Pl.lt_t, Pl.lt_f, Pl.le_t, Pl.le_f, Pl.ge_t, Pl.ge_f, Pl.gt_t, Pl.gt_f, Pl.eq_t, Pl.eq_f, Pl.nlt_t, Pl.nle_t, Pl.w64, Option.bind_some, Bool.false_eq_true, decide_eq_true_eq, spec_DeathOf.f, ↓Pl.bnd e1, e1, ↓Pl.bnd f1, f1]
    · have e2 := e2 k (by omega)
      have f2 := f2 k (by omega)
      simp (disch := omega) only [↓reduceIte, Pl.lt_t, Pl.lt_f, Pl.le_t, Pl.le_f, Pl.ge_t, Pl.ge_f, Pl.gt_t, Pl.gt_f, Pl.eq_t, Pl.eq_f, Pl.nlt_t, Pl.nle_t, Pl.w64, Option.bind_some, Bool.false_eq_true, decide_eq_true_eq, impl_DeathOf.f, ↓Pl.bnd e2, e2, ↓Pl.bnd f2, f2]

theorem FnExactDeathOf (a0_0 : Int) (a0_1 : Int) (a0_2 : ByteArray) (a0_3 : ByteArray) (a0_4 : Int) (a0_5 : Int) (a0_6 : Int) (a1 : ByteArray) (h0 : ((Lit.int .i64 a0_0).wf = true) ∧ ((Lit.int .i64 a0_1).wf = true) ∧ (a0_2.size ≤ maxLen) ∧ (a0_3.size ≤ maxLen) ∧ ((Lit.int .i64 a0_4).wf = true) ∧ ((Lit.int .i64 a0_5).wf = true) ∧ ((Lit.int .i64 a0_6).wf = true)) (h1 : a1.size ≤ maxLen) : ∃ k, laws_FnExactDeathOf.f k a0_0 a0_1 a0_2 a0_3 a0_4 a0_5 a0_6 a1 = some true := by
  obtain ⟨_, _, hr, hd, _⟩ := h0
  have hr := Pl.le_max hr
  have hd := Pl.le_max hd
  have hl := Pl.le_max h1
  by_cases hs1 : (a1.size : Int) ≤ 1048576
  · by_cases hs : (a0_2.size : Int) + a0_3.size ≤ 1048576
    · have s1 := sz_small (w := a0_0) (h := a0_1) (x := a0_4) (y := a0_5) (way := a0_6) hs
      obtain ⟨⟨r1, r2, r3, r4, r5, r6, r7, r8⟩, ⟨K1, e1⟩, ⟨K2, e2⟩⟩ := death_both a0_0 a0_1 a0_2 a0_3 a0_4 a0_5 a0_6 a1 hr hd hl
      refine ⟨K1 + K2, ?_⟩
      have e1 := e1 (K1 + K2) (by omega)
      have e2 := e2 (K1 + K2) (by omega)
      have e3 := eqWorm_self r1 r2 r3 r4 r5 r6 r7
      simp (disch := omega) only [↓reduceIte, Pl.lt_t, Pl.lt_f, Pl.le_t, Pl.le_f, Pl.ge_t, Pl.ge_f, Pl.gt_t, Pl.gt_f, Pl.eq_t, Pl.eq_f, Pl.nlt_t, Pl.nle_t, Pl.w64, Option.bind_some, Bool.false_eq_true, decide_eq_true_eq, laws_FnExactDeathOf.f, ↓Pl.bnd s1, s1, laws_toWorm.f, ↓Pl.bnd e1, e1, ↓Pl.bnd e2, e2, ↓Pl.bnd e3, e3, bne_self_eq_false]
    · refine ⟨0, ?_⟩
      simp (disch := omega) only [↓reduceIte, Pl.lt_t, Pl.lt_f, Pl.le_t, Pl.le_f, Pl.ge_t, Pl.ge_f, Pl.gt_t, Pl.gt_f, Pl.eq_t, Pl.eq_f, Pl.nlt_t, Pl.nle_t, Pl.w64, Option.bind_some, Bool.false_eq_true, decide_eq_true_eq, laws_FnExactDeathOf.f, sz_big]
  · refine ⟨0, ?_⟩
    simp (disch := omega) only [↓reduceIte, Pl.lt_t, Pl.lt_f, Pl.le_t, Pl.le_f, Pl.ge_t, Pl.ge_f, Pl.gt_t, Pl.gt_f, Pl.eq_t, Pl.eq_f, Pl.nlt_t, Pl.nle_t, Pl.w64, Option.bind_some, Bool.false_eq_true, decide_eq_true_eq, laws_FnExactDeathOf.f]

end Go.Proofs.Ytgifhfkpfgpagaa.Pure
