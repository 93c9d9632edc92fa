/- The plain laws of GiveBack and PiecesLeft: for every worm the program's answer is the reference's. No condition. -/
import Derived.Test.YtgifhfkpfgpagaaPBx7
import Derived.Test.YtgifhfkpfgpagaaBPuWorm2
namespace Go.Proofs.Ytgifhfkpfgpagaa.Pure
open Go.RowKit Go.Proofs.Ytgifhfkpfgpagaa Go.Proofs.Ytgifhfkpfgpagaa.PB Go.Proofs.YtgifhfkpfgpagaaW.PrintWords Go.Proofs.YtgifhfkpfgpagaaW.PrintLast
set_option linter.unusedVariables false
set_option linter.unusedSimpArgs false

def left (s : List Bool) : Nat := s.count false
theorem rdOf_get {s : List Bool} {i : Int} (h : i.toNat < s.length) : rdOf false s i = s[i.toNat] := by
  simp [rdOf, List.getD_eq_getElem?_getD, List.getElem?_eq_getElem h]
theorem left_set {s : List Bool} {i : Int} (h : i.toNat < s.length) (hf : rdOf false s i = false) : left (s.set i.toNat true) + 1 = left s := by
  rw [rdOf_get h] at hf
  unfold left
  rw [List.count_set h]
  have hm : 0 < s.count false := List.count_pos_iff.2 (by rw [← hf]; exact List.getElem_mem h)
  simp [hf]
  omega

structure Inv (w h : Int) (s : List Bool) (q : List Int) (j : Int) : Prop where
  len : (s.length : Int) = w * h
  qin : ∀ n ∈ q, 0 ≤ n ∧ n < w * h
  j0 : 0 ≤ j
  tot : (q.length : Int) + left s ≤ w * h

set_option maxHeartbeats 4000000 in
theorem pieces_l {r d : ByteArray} {w h x y v : Int} (hw : 1 ≤ w) (hw' : w ≤ 1000) (hh : 1 ≤ h) (hh' : h ≤ 1000) (hr : (r.size : Int) = w * h) (hd : (d.size : Int) = w * h) (n : Nat) :
    ∀ (i : Int) (s : List Bool) (c : Int), (w * h - i).toNat = n → 0 ≤ i → i ≤ w * h → (s.length : Int) = w * h → 0 ≤ c → c ≤ i →
      ∃ res, Ev (fun k => spec_PiecesLeft.l0 k s c (w * h) i w h r d x y v) res ∧ Ev (fun k => impl_PiecesLeft.l0 k s c (w * h) i w h r d x y v) res := by
  have big := (Pl.mul_in (a := w) (b := h) (A := 1000) (B := 1000) (by omega) hw' (by omega) hh').2
  induction n with
  | zero =>
    intro i s c hn h0 h1 hl c0 c1
    refine ⟨(c, true), Pl.ev_unf ⟨0, fun k _ => ?_⟩, Pl.ev_unf ⟨0, fun k _ => ?_⟩⟩
    · simp (disch := omega) only [↓reduceIte, Pl.lt_t, Pl.lt_f, Pl.le_t, Pl.le_f, Pl.ge_t, Pl.ge_f, Pl.gt_t, Pl.gt_f, Pl.eq_t, Pl.eq_f, Pl.nlt_t, Pl.nle_t, Pl.w64, Option.bind_some, Bool.false_eq_true, decide_eq_true_eq, spec_PiecesLeft.l0]
    · simp (disch := omega) only [↓reduceIte, Pl.lt_t, Pl.lt_f, Pl.le_t, Pl.le_f, Pl.ge_t, Pl.ge_f, Pl.gt_t, Pl.gt_f, Pl.eq_t, Pl.eq_f, Pl.nlt_t, Pl.nle_t, Pl.w64, Option.bind_some, Bool.false_eq_true, decide_eq_true_eq, impl_PiecesLeft.l0]
  | succ n ih =>
    intro i s c hn h0 h1 hl c0 c1
    by_cases hseen : rdOf false s i = true
    · obtain ⟨res, ⟨K1, e1⟩, ⟨K2, e2⟩⟩ := ih (i + 1) s c (by omega) (by omega) (by omega) hl c0 (by omega)
      refine ⟨res, Pl.ev_unf ⟨K1, fun k hk => ?_⟩, Pl.ev_unf ⟨K2, fun k hk => ?_⟩⟩
      · have e := e1 k hk
        simp (disch := omega) only [↓reduceIte, Pl.lt_t, Pl.lt_f, Pl.le_t, Pl.le_f, Pl.ge_t, Pl.ge_f, Pl.gt_t, Pl.gt_f, Pl.eq_t, Pl.eq_f, Pl.nlt_t, Pl.nle_t, Pl.w64, Option.bind_some, Bool.false_eq_true, decide_eq_true_eq, spec_PiecesLeft.l0, hseen, e]
      · have e := e2 k hk
        simp (disch := omega) only [↓reduceIte, Pl.lt_t, Pl.lt_f, Pl.le_t, Pl.le_f, Pl.ge_t, Pl.ge_f, Pl.gt_t, Pl.gt_f, Pl.eq_t, Pl.eq_f, Pl.nlt_t, Pl.nle_t, Pl.w64, Option.bind_some, Bool.false_eq_true, decide_eq_true_eq, impl_PiecesLeft.l0, hseen, e]
    · have hseen' : rdOf false s i = false := by simpa using hseen
      -- the search from a node: by what is left
      have search : ∀ (m : Nat) (s : List Bool) (q : List Int) (j : Int), ((q.length : Int) + left s - j).toNat = m → Inv w h s q j →
          ∃ res, Ev (fun k => spec_PiecesLeft.l1 k s (c + 1) q j (w * h) i w h r d x y v) res ∧ Ev (fun k => impl_PiecesLeft.l1 k s (c + 1) q j (w * h) i w h r d x y v) res := by
        intro m
        induction m with
        | zero =>
          intro s q j hm hi
          obtain ⟨i1, i2, i3, i4⟩ := hi
          obtain ⟨res, ⟨K1, e1⟩, ⟨K2, e2⟩⟩ := ih (i + 1) s (c + 1) (by omega) (by omega) (by omega) i1 (by omega) (by omega)
          refine ⟨res, Pl.ev_unf ⟨K1, fun k hk => ?_⟩, Pl.ev_unf ⟨K2, fun k hk => ?_⟩⟩
          · have e := e1 k hk
            simp (disch := omega) only [↓reduceIte, Pl.lt_t, Pl.lt_f, Pl.le_t, Pl.le_f, Pl.ge_t, Pl.ge_f, Pl.gt_t, Pl.gt_f, Pl.eq_t, Pl.eq_f, Pl.nlt_t, Pl.nle_t, Pl.w64, Option.bind_some, Bool.false_eq_true, decide_eq_true_eq, spec_PiecesLeft.l1, e]
          · have e := e2 k hk
            simp (disch := omega) only [↓reduceIte, Pl.lt_t, Pl.lt_f, Pl.le_t, Pl.le_f, Pl.ge_t, Pl.ge_f, Pl.gt_t, Pl.gt_f, Pl.eq_t, Pl.eq_f, Pl.nlt_t, Pl.nle_t, Pl.w64, Option.bind_some, Bool.false_eq_true, decide_eq_true_eq, impl_PiecesLeft.l1, e]
        | succ m ihm =>
          intro s q j hm hi
          obtain ⟨i1, i2, i3, i4⟩ := hi
          by_cases hj : j < (q.length : Int)
          · -- the four ways
            have ways : ∀ (t : Nat) (s : List Bool) (q : List Int) (u : Int), (4 - u).toNat = t → 0 ≤ u → u ≤ 4 → j < (q.length : Int) → ((q.length : Int) + left s - j).toNat = m + 1 → Inv w h s q j →
                ∃ res, Ev (fun k => spec_PiecesLeft.l2 k s (c + 1) q j u (w * h) i w h r d x y v) res ∧ Ev (fun k => impl_PiecesLeft.l2 k s (c + 1) q j (w * h) i u w h r d x y v) res := by
              intro t
              induction t with
              | zero =>
                intro s q u ht u0 u4 hj hm hi
                obtain ⟨i1, i2, i3, i4⟩ := hi
                obtain ⟨res, ⟨K1, e1⟩, ⟨K2, e2⟩⟩ := ihm s q (j + 1) (by omega) ⟨i1, i2, by omega, i4⟩
                refine ⟨res, Pl.ev_unf ⟨K1, fun k hk => ?_⟩, Pl.ev_unf ⟨K2, fun k hk => ?_⟩⟩
                · have e := e1 k hk
                  simp (disch := omega) only [↓reduceIte, Pl.lt_t, Pl.lt_f, Pl.le_t, Pl.le_f, Pl.ge_t, Pl.ge_f, Pl.gt_t, Pl.gt_f, Pl.eq_t, Pl.eq_f, Pl.nlt_t, Pl.nle_t, Pl.w64, Option.bind_some, Bool.false_eq_true, decide_eq_true_eq, spec_PiecesLeft.l2, e]
                · have e := e2 k hk
                  simp (disch := omega) only [↓reduceIte, Pl.lt_t, Pl.lt_f, Pl.le_t, Pl.le_f, Pl.ge_t, Pl.ge_f, Pl.gt_t, Pl.gt_f, Pl.eq_t, Pl.eq_f, Pl.nlt_t, Pl.nle_t, Pl.w64, Option.bind_some, Bool.false_eq_true, decide_eq_true_eq, impl_PiecesLeft.l2, e]
              | succ t iht =>
                intro s q u ht u0 u4 hj hm hi
                obtain ⟨i1, i2, i3, i4⟩ := hi
                have nq : 0 ≤ rd q j ∧ rd q j < w * h := by
                  rw [Pl.rd_get (by omega)]
                  exact i2 _ (List.getElem_mem _)
                generalize hnd : rd q j = nd at nq
                obtain ⟨a0, a1, a2, a3, a4⟩ := Pl.node_at (by omega : 0 < w) nq.1 nq.2
                have eh := has_val (wx := x) (wy := y) (way := v) (v := u) hw hw' hh hh' hr hd a0 a1 a2 a3 u0 (by omega)
                rw [a4] at eh
                have eg := go_val (w := w) (h := h) (r := r) (d := d) (wv := v) (v := u) (b := 1) hw hw' hh hh' a0 a1 a2 a3 u0 (by omega) (.inl rfl)
                simp only [Int.one_mul] at eg
                have eb := beside_val (r := r) (d := d) (x := x) (y := y) (way := v) (v := u) hw hw' hh hh' nq.1 nq.2 u0 (by omega)
                have et := there_val (x := x) (y := y) (way := v) (v := u) hw hw' hh hh' hr hd nq.1 nq.2 u0 (by omega)
                have bi := bnode_in (w := w) (h := h) (n := nd) (v := u) hw hh
                have t1 : Int.tmod nd w = nd % w := Pl.tmod_nn nq.1
                have t2 : wrap64 (Int.tdiv nd w) = nd / w := by rw [Pl.tdiv_nn nq.1, Pl.w64 (by omega) (by omega)]
                have y0 := Pl.mod_lo (a := nd / w + dy u) (b := h) (by omega)
                have y1 := Pl.mod_hi (a := nd / w + dy u) (b := h) (by omega)
                have x0 := Pl.mod_lo (a := nd % w + dx u) (b := w) (by omega)
                have x1 := Pl.mod_hi (a := nd % w + dx u) (b := w) (by omega)
                obtain ⟨m0, m1⟩ := Pl.mul_in (a := (nd / w + dy u) % h) (b := w) (A := 1000) (B := 1000) y0 (by omega) (by omega) hw'
                have t3 : (nd / w + dy u) % h * w + (nd % w + dx u) % w = bnode w h nd u := rfl
                generalize hbn : bnode w h nd u = bn at *
                cases hl : lineB r d w h nd u with
                | false =>
                  rw [hl] at eh et
                  obtain ⟨res, ⟨K1, e1⟩, ⟨K2, e2⟩⟩ := iht s q (u + 1) (by omega) (by omega) (by omega) hj hm ⟨i1, i2, i3, i4⟩
                  refine ⟨res, Pl.ev_unf ⟨K1, fun k hk => ?_⟩, Pl.ev_unf ⟨K2, fun k hk => ?_⟩⟩
                  · have e := e1 k hk
                    clear hr hd
                    simp (disch := omega) only [↓reduceIte, Pl.lt_t, Pl.lt_f, Pl.le_t, Pl.le_f, Pl.ge_t, Pl.ge_f, Pl.gt_t, Pl.gt_f, Pl.eq_t, Pl.eq_f, Pl.nlt_t, Pl.nle_t, Pl.w64, Option.bind_some, Bool.false_eq_true, decide_eq_true_eq, spec_PiecesLeft.l2, hnd, t1, t2, ↓Pl.bnd eh, eh, e]
                  · have e := e2 k hk
                    clear hr hd
                    simp (disch := omega) only [↓reduceIte, Pl.lt_t, Pl.lt_f, Pl.le_t, Pl.le_f, Pl.ge_t, Pl.ge_f, Pl.gt_t, Pl.gt_f, Pl.eq_t, Pl.eq_f, Pl.nlt_t, Pl.nle_t, Pl.w64, Option.bind_some, Bool.false_eq_true, decide_eq_true_eq, impl_PiecesLeft.l2, hnd, ↓Pl.bnd eb, eb, ↓Pl.bnd et, et, e]
                | true =>
                  rw [hl] at eh et
                  by_cases hs : rdOf false s bn = true
                  · obtain ⟨res, ⟨K1, e1⟩, ⟨K2, e2⟩⟩ := iht s q (u + 1) (by omega) (by omega) (by omega) hj hm ⟨i1, i2, i3, i4⟩
                    refine ⟨res, Pl.ev_unf ⟨K1, fun k hk => ?_⟩, Pl.ev_unf ⟨K2, fun k hk => ?_⟩⟩
                    · have e := e1 k hk
                      clear hr hd
                      simp (disch := omega) only [↓reduceIte, Pl.lt_t, Pl.lt_f, Pl.le_t, Pl.le_f, Pl.ge_t, Pl.ge_f, Pl.gt_t, Pl.gt_f, Pl.eq_t, Pl.eq_f, Pl.nlt_t, Pl.nle_t, Pl.w64, Option.bind_some, Bool.false_eq_true, decide_eq_true_eq, spec_PiecesLeft.l2, hnd, t1, t2, t3, ↓Pl.bnd eh, eh, ↓Pl.bnd eg, eg, hs, e]
                    · have e := e2 k hk
                      clear hr hd
                      simp (disch := omega) only [↓reduceIte, Pl.lt_t, Pl.lt_f, Pl.le_t, Pl.le_f, Pl.ge_t, Pl.ge_f, Pl.gt_t, Pl.gt_f, Pl.eq_t, Pl.eq_f, Pl.nlt_t, Pl.nle_t, Pl.w64, Option.bind_some, Bool.false_eq_true, decide_eq_true_eq, impl_PiecesLeft.l2, hnd, ↓Pl.bnd eb, eb, ↓Pl.bnd et, et, hs, e]
                  · have hs' : rdOf false s bn = false := by simpa using hs
                    have hls := left_set (s := s) (i := bn) (by omega) hs'
                    obtain ⟨res, ⟨K1, e1⟩, ⟨K2, e2⟩⟩ := iht (s.set bn.toNat true) (q ++ [bn]) (u + 1) (by omega) (by omega) (by omega) (by simp; omega) (by simp only [List.length_append, List.length_cons, List.length_nil]; omega)
                      ⟨by simpa using i1, fun z hz => (List.mem_append.1 hz).elim (fun hz => i2 z hz) (fun hz => by rw [List.mem_singleton.1 hz]; exact bi), i3, by simp only [List.length_append, List.length_cons, List.length_nil]; omega⟩
                    refine ⟨res, Pl.ev_unf ⟨K1, fun k hk => ?_⟩, Pl.ev_unf ⟨K2, fun k hk => ?_⟩⟩
                    · have e := e1 k hk
                      clear hr hd
                      simp (disch := omega) only [↓reduceIte, Pl.lt_t, Pl.lt_f, Pl.le_t, Pl.le_f, Pl.ge_t, Pl.ge_f, Pl.gt_t, Pl.gt_f, Pl.eq_t, Pl.eq_f, Pl.nlt_t, Pl.nle_t, Pl.w64, Option.bind_some, Bool.false_eq_true, decide_eq_true_eq, spec_PiecesLeft.l2, hnd, t1, t2, t3, ↓Pl.bnd eh, eh, ↓Pl.bnd eg, eg, hs', e]
                    · have e := e2 k hk
                      clear hr hd
                      simp (disch := omega) only [↓reduceIte, Pl.lt_t, Pl.lt_f, Pl.le_t, Pl.le_f, Pl.ge_t, Pl.ge_f, Pl.gt_t, Pl.gt_f, Pl.eq_t, Pl.eq_f, Pl.nlt_t, Pl.nle_t, Pl.w64, Option.bind_some, Bool.false_eq_true, decide_eq_true_eq, impl_PiecesLeft.l2, hnd, ↓Pl.bnd eb, eb, ↓Pl.bnd et, et, hs', e]
            obtain ⟨res, ⟨K1, e1⟩, ⟨K2, e2⟩⟩ := ways 4 s q 0 rfl (by omega) (by omega) hj hm ⟨i1, i2, i3, i4⟩
            refine ⟨res, Pl.ev_unf ⟨K1, fun k hk => ?_⟩, Pl.ev_unf ⟨K2, fun k hk => ?_⟩⟩
            · have e := e1 k hk
              simp (disch := omega) only [↓reduceIte, Pl.lt_t, Pl.lt_f, Pl.le_t, Pl.le_f, Pl.ge_t, Pl.ge_f, Pl.gt_t, Pl.gt_f, Pl.eq_t, Pl.eq_f, Pl.nlt_t, Pl.nle_t, Pl.w64, Option.bind_some, Bool.false_eq_true, decide_eq_true_eq, spec_PiecesLeft.l1, e]
            · have e := e2 k hk
              simp (disch := omega) only [↓reduceIte, Pl.lt_t, Pl.lt_f, Pl.le_t, Pl.le_f, Pl.ge_t, Pl.ge_f, Pl.gt_t, Pl.gt_f, Pl.eq_t, Pl.eq_f, Pl.nlt_t, Pl.nle_t, Pl.w64, Option.bind_some, Bool.false_eq_true, decide_eq_true_eq, impl_PiecesLeft.l1, e]
          · obtain ⟨res, ⟨K1, e1⟩, ⟨K2, e2⟩⟩ := ih (i + 1) s (c + 1) (by omega) (by omega) (by omega) i1 (by omega) (by omega)
            refine ⟨res, Pl.ev_unf ⟨K1, fun k hk => ?_⟩, Pl.ev_unf ⟨K2, fun k hk => ?_⟩⟩
            · have e := e1 k hk
              simp (disch := omega) only [↓reduceIte, Pl.lt_t, Pl.lt_f, Pl.le_t, Pl.le_f, Pl.ge_t, Pl.ge_f, Pl.gt_t, Pl.gt_f, Pl.eq_t, Pl.eq_f, Pl.nlt_t, Pl.nle_t, Pl.w64, Option.bind_some, Bool.false_eq_true, decide_eq_true_eq, spec_PiecesLeft.l1, e]
            · have e := e2 k hk
              simp (disch := omega) only [↓reduceIte, Pl.lt_t, Pl.lt_f, Pl.le_t, Pl.le_f, Pl.ge_t, Pl.ge_f, Pl.gt_t, Pl.gt_f, Pl.eq_t, Pl.eq_f, Pl.nlt_t, Pl.nle_t, Pl.w64, Option.bind_some, Bool.false_eq_true, decide_eq_true_eq, impl_PiecesLeft.l1, e]
      have hls := left_set (s := s) (i := i) (by omega) hseen'
      have hle : left s ≤ s.length := List.count_le_length
      obtain ⟨res, ⟨K1, e1⟩, ⟨K2, e2⟩⟩ := search _ (s.set i.toNat true) [i] 0 rfl ⟨by simpa using hl, fun z hz => by rw [List.mem_singleton.1 hz]; omega, by omega, by simp only [List.length_cons, List.length_nil]; omega⟩
      refine ⟨res, Pl.ev_unf ⟨K1, fun k hk => ?_⟩, Pl.ev_unf ⟨K2, fun k hk => ?_⟩⟩
      · have e := e1 k hk
        simp (disch := omega) only [↓reduceIte, Pl.lt_t, Pl.lt_f, Pl.le_t, Pl.le_f, Pl.ge_t, Pl.ge_f, Pl.gt_t, Pl.gt_f, Pl.eq_t, Pl.eq_f, Pl.nlt_t, Pl.nle_t, Pl.w64, Option.bind_some, Bool.false_eq_true, decide_eq_true_eq, spec_PiecesLeft.l0, hseen', e]
      · have e := e2 k hk
        simp (disch := omega) only [↓reduceIte, Pl.lt_t, Pl.lt_f, Pl.le_t, Pl.le_f, Pl.ge_t, Pl.ge_f, Pl.gt_t, Pl.gt_f, Pl.eq_t, Pl.eq_f, Pl.nlt_t, Pl.nle_t, Pl.w64, Option.bind_some, Bool.false_eq_true, decide_eq_true_eq, impl_PiecesLeft.l0, hseen', e]

theorem FnExactPiecesLeft (a0_0 : Int) (a0_1 : Int) (a0_2 : ByteArray) (a0_3 : ByteArray) (a0_4 : Int) (a0_5 : Int) (a0_6 : Int) (h0 : ((Lit.int .i64 a0_0).wf = true) ∧ ((Lit.int .i64 a0_1).wf = true) ∧ (a0_2.size ≤ maxLen) ∧ (a0_3.size ≤ maxLen) ∧ ((Lit.int .i64 a0_4).wf = true) ∧ ((Lit.int .i64 a0_5).wf = true) ∧ ((Lit.int .i64 a0_6).wf = true)) : ∃ k, laws_FnExactPiecesLeft.f k a0_0 a0_1 a0_2 a0_3 a0_4 a0_5 a0_6 = some true := by
  obtain ⟨_, _, hr, hd, _⟩ := h0
  have hr := Pl.le_max hr
  have hd := Pl.le_max hd
  by_cases hs : (a0_2.size : Int) + a0_3.size ≤ 1048576
  · have s1 := sz_small (w := a0_0) (h := a0_1) (x := a0_4) (y := a0_5) (way := a0_6) hs
    obtain ⟨b, ⟨K1, e1⟩, ⟨K2, e2⟩, hb⟩ := good_both a0_0 a0_1 a0_2 a0_3 a0_4 a0_5 a0_6 hr hd
    have both : ∃ res, Ev (fun k => spec_PiecesLeft.f k a0_0 a0_1 a0_2 a0_3 a0_4 a0_5 a0_6) res ∧ Ev (fun k => impl_PiecesLeft.f k a0_0 a0_1 a0_2 a0_3 a0_4 a0_5 a0_6) res := by
      cases b with
      | false =>
        refine ⟨(0, false), ⟨K1, fun k hk => ?_⟩, ⟨K2, fun k hk => ?_⟩⟩
        · have e1 := e1 k hk
          simp (disch := omega) only [↓reduceIte, Pl.lt_t, Pl.lt_f, Pl.le_t, Pl.le_f, Pl.ge_t, Pl.ge_f, Pl.gt_t, Pl.gt_f, Pl.eq_t, Pl.eq_f, Pl.nlt_t, Pl.nle_t, Pl.w64, Option.bind_some, Bool.false_eq_true, decide_eq_true_eq, spec_PiecesLeft.f, ↓Pl.bnd e1, e1]
        · have e2 := e2 k hk
          simp (disch := omega) only [↓reduceIte, Pl.lt_t, Pl.lt_f, Pl.le_t, Pl.le_f, Pl.ge_t, Pl.ge_f, Pl.gt_t, Pl.gt_f, Pl.eq_t, Pl.eq_f, Pl.nlt_t, Pl.nle_t, Pl.w64, Option.bind_some, Bool.false_eq_true, decide_eq_true_eq, impl_PiecesLeft.f, ↓Pl.bnd e2, e2]
      | true =>
        obtain ⟨g1, g2, g3, g4, grs, gds, grb, gdb, x0, xw, y0, yh, v0, v3⟩ := hb.1 rfl
        have hlen : ((List.replicate ((a0_2.size : Int) : Int).toNat false).length : Int) = a0_0 * a0_1 := by rw [List.length_replicate]; omega
        have m0 := (Pl.mul_in (a := a0_0) (b := a0_1) (A := 6) (B := 6) (by omega) g2 (by omega) g4)
        obtain ⟨res, ⟨K3, e3⟩, ⟨K4, e4⟩⟩ := pieces_l (x := a0_4) (y := a0_5) (v := a0_6) (w := a0_0) (h := a0_1) (by omega) (by omega) (by omega) (by omega) grs gds _ 0 (List.replicate ((a0_2.size : Int) : Int).toNat false) 0 rfl (by omega) (by omega) hlen (by omega) (by omega)
        refine ⟨res, ⟨K1 + K3, fun k hk => ?_⟩, ⟨K2 + K4, fun k hk => ?_⟩⟩
        · have e1 := e1 k (by omega)
          have e3 := e3 k (by omega)
          simp only [spec_PiecesLeft.f]
          rw [Pl.bnd e1, if_pos rfl, if_pos (by omega), if_pos (by omega), Option.bind_some, hlen]
          exact e3
        · have e2 := e2 k (by omega)
          have e4 := e4 k (by omega)
          simp only [impl_PiecesLeft.f]
          rw [Pl.bnd e2, if_pos rfl, if_pos (by omega), if_pos (by omega), Option.bind_some, hlen]
          exact e4
    obtain ⟨⟨r1, r2⟩, ⟨K3, e3⟩, ⟨K4, e4⟩⟩ := both
    refine ⟨K3 + K4, ?_⟩
    have e3 := e3 (K3 + K4) (by omega)
    have e4 := e4 (K3 + K4) (by omega)
    clear e1 e2 hb
    simp (disch := omega) only [↓reduceIte, Pl.lt_t, Pl.lt_f, Pl.le_t, Pl.le_f, Pl.ge_t, Pl.ge_f, Pl.gt_t, Pl.gt_f, Pl.eq_t, Pl.eq_f, Pl.nlt_t, Pl.nle_t, Pl.w64, Option.bind_some, Bool.false_eq_true, decide_eq_true_eq, laws_FnExactPiecesLeft.f, ↓Pl.bnd s1, s1, laws_toWorm.f, ↓Pl.bnd e3, e3, ↓Pl.bnd e4, e4, bne_self_eq_false]
  · refine ⟨0, ?_⟩
    simp (disch := omega) only [↓reduceIte, Pl.lt_t, Pl.lt_f, Pl.le_t, Pl.le_f, Pl.ge_t, Pl.ge_f, Pl.gt_t, Pl.gt_f, Pl.eq_t, Pl.eq_f, Pl.nlt_t, Pl.nle_t, Pl.w64, Option.bind_some, Bool.false_eq_true, decide_eq_true_eq, laws_FnExactPiecesLeft.f, sz_big]

end Go.Proofs.Ytgifhfkpfgpagaa.Pure
