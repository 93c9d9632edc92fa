/- The plain laws of GiveBack and PiecesLeft: for every worm the program's answer is the reference's. No condition. -/
import Derived.Test.YtgifhfkpfgpagaaPEx6
import Derived.Test.YtgifhfkpfgpagaaEPuWorm2
namespace Go.Proofs.Ytgifhfkpfgpagaa.Pure
open Go.RowKit Go.Proofs.Ytgifhfkpfgpagaa Go.Proofs.Ytgifhfkpfgpagaa.PE Go.Proofs.YtgifhfkpfgpagaaW.PrintWords Go.Proofs.YtgifhfkpfgpagaaW.PrintLast
set_option linter.unusedVariables false
set_option linter.unusedSimpArgs false

theorem give_both (w h : Int) (r d : ByteArray) (x y v a : Int) (hr : r.size ≤ 9223372036854775807) (hd : d.size ≤ 9223372036854775807) :
    ∃ res, Ev (fun k => spec_GiveBack.f k w h r d x y v a) res ∧ Ev (fun k => impl_GiveBack.f k w h r d x y v a) res := by
  obtain ⟨b, ⟨K1, e1⟩, ⟨K2, e2⟩, hb⟩ := good_both w h r d x y v hr hd
  have fail : ∀ k, spec_GiveBack.j0 (k + 1) a true w h r d x y v = some (0, 0, (⟨#[]⟩ : ByteArray), (⟨#[]⟩ : ByteArray), 0, 0, 0, false) := fun k => by simp only [spec_GiveBack.j0, if_true]
  have fail' : ∀ k, impl_GiveBack.j0 (k + 1) a true w h r d x y v = some (0, 0, (⟨#[]⟩ : ByteArray), (⟨#[]⟩ : ByteArray), 0, 0, 0, false) := fun k => by simp only [impl_GiveBack.j0, if_true]
  cases b with
  | false =>
    refine ⟨?res1, Pl.ev_unf ⟨K1, fun k hk => ?gs1⟩, Pl.ev_unf ⟨K2, fun k hk => ?gi1⟩⟩
    case gi1 =>
      have e := e2 (k + 1) (by omega)
      simp only [impl_GiveBack.f]
      rw [Pl.bnd e, if_neg (by simp), fail']
    case gs1 =>
      have e := e1 (k + 1) (by omega)
      simp only [spec_GiveBack.f]
      rw [Pl.bnd e, if_neg (by simp), fail]
  | true =>
    obtain ⟨g1, g2, g3, g4, grs, gds, grb, gdb, x0, xw, y0, yh, v0, v3⟩ := hb.1 rfl
    clear hb grb gdb hr hd
    by_cases c1 : 0 ≤ a ∧ a ≤ 3
    · have l1 : spec_l1In.f a 0 3 = some true := l1In_t c1.1 c1.2
      have l2 : impl_isWay.f a = some true := by rw [isWay_val, decide_eq_true c1]
      have hop := opp_way v0 v3
      by_cases c2 : a = (v + 2) % 4
      · have c2' : (a == (v + 2) % 4) = true := by rw [c2]; exact beq_self_eq_true _
        refine ⟨?res2, Pl.ev_unf ⟨K1, fun k hk => ?gs2⟩, Pl.ev_unf ⟨K2, fun k hk => ?gi2⟩⟩
        case gi2 =>
          have e := e2 (k + 1) (by omega)
          simp only [impl_GiveBack.f]
          rw [Pl.bnd e, if_pos rfl, Pl.bnd l2, if_pos rfl, hop, c2', fail']
        case gs2 =>
          have e := e1 (k + 1) (by omega)
          simp only [spec_GiveBack.f]
          rw [Pl.bnd e, if_pos rfl, Pl.bnd l1, if_pos rfl, hop, if_pos c2, fail]
      · have c2' : (a == (v + 2) % 4) = false := beq_eq_false_iff_ne.mpr c2
        have n1 := Pl.node_lt x0 xw y0 yh
        have o0 : 0 ≤ (v + 2) % 4 := by omega
        have o3 : (v + 2) % 4 ≤ 3 := by omega
        have hs : (r.size : Int) ≤ 1000000 := by
          obtain ⟨m0, m1⟩ := Pl.mul_in (a := w) (b := h) (A := 6) (B := 6) (by omega) g2 (by omega) g4
          omega
        have eh := has_val (wx := x) (wy := y) (way := v) (v := (v + 2) % 4) (w := w) (h := h) (by omega) (by omega) (by omega) (by omega) grs gds x0 xw y0 yh o0 o3
        have en := node_val (r := r) (d := d) (v := v) (w := w) (h := h) (by omega) (by omega) (by omega) x0 xw y0 yh
        have eb := beside_val (r := r) (d := d) (x := x) (y := y) (way := v) (n := y * w + x) (v := (v + 2) % 4) (w := w) (h := h) (by omega) (by omega) (by omega) (by omega) n1.1 n1.2 o0 o3
        have b1 := bnode_in (w := w) (h := h) (n := y * w + x) (v := (v + 2) % 4) (by omega) (by omega)
        have et := there_val (x := x) (y := y) (way := v) (n := bnode w h (y * w + x) ((v + 2) % 4)) (v := v) (w := w) (h := h) (by omega) (by omega) (by omega) (by omega) grs gds b1.1 b1.2 v0 v3
        rw [line_back (by omega) (by omega) n1.1 n1.2 v0 v3] at et
        have em := made_val (wx := x) (wy := y) (wv := v) (n := bnode w h (y * w + x) ((v + 2) % 4)) (v := v) (t := 1) (w := w) (h := h) (by omega) (by omega) (by omega) (by omega) grs gds b1.1 b1.2 v0 v3 (by omega) (by omega)
        rw [setR_back (by omega) (by omega) n1.1 n1.2 v0 v3, setD_back (by omega) (by omega) n1.1 n1.2 v0 v3] at em
        have es := set_val (wx := x) (wy := y) (wv := v) (v := (v + 2) % 4) (c := 48 + 1) (u := 49) (w := w) (h := h) (by omega) (by omega) (by omega) (by omega) grs gds hs x0 xw y0 yh o0 o3 rfl
        have eg := go_val (w := w) (h := h) (r := setR r w h (y * w + x) ((v + 2) % 4) (48 + 1)) (d := setD d w h (y * w + x) ((v + 2) % 4) (48 + 1)) (wv := v) (v := v) (b := -1) (by omega) (by omega) (by omega) (by omega) x0 xw y0 yh v0 v3 (.inr rfl)
        have p1 : Int.tmod (bnode w h (y * w + x) ((v + 2) % 4)) w = (x + -1 * dx v) % w := by
          rw [Pl.tmod_nn b1.1, bnode_mod (by omega), Pl.node_mod x0 xw]
          congr 1
          rcases way_cases v0 v3 with rfl | rfl | rfl | rfl <;> rfl
        have p2 : wrap64 (Int.tdiv (bnode w h (y * w + x) ((v + 2) % 4)) w) = (y + -1 * dy v) % h := by
          have q0 := Pl.mod_lo (a := y + dy ((v + 2) % 4)) (b := h) (by omega)
          have q1 := Pl.mod_hi (a := y + dy ((v + 2) % 4)) (b := h) (by omega)
          rw [Pl.tdiv_nn b1.1, bnode_div (by omega), Pl.node_div x0 xw, Pl.w64 (by omega) (by omega)]
          congr 1
          rcases way_cases v0 v3 with rfl | rfl | rfl | rfl <;> rfl
        cases hl : lineB r d w h (y * w + x) ((v + 2) % 4) with
        | true =>
          rw [hl] at eh et
          refine ⟨?res3, Pl.ev_unf ⟨K1, fun k hk => ?gs3⟩, Pl.ev_unf ⟨K2, fun k hk => ?gi3⟩⟩
          case gi3 =>
            have e := e2 (k + 1) (by omega)
            simp only [impl_GiveBack.f]
            rw [Pl.bnd e, if_pos rfl, Pl.bnd l2, if_pos rfl, hop, c2', impl_GiveBack.j0, if_neg (by simp), Pl.bnd en, hop, Pl.bnd eb, Pl.bnd et, if_pos rfl]
          case gs3 =>
            have e := e1 (k + 1) (by omega)
            simp only [spec_GiveBack.f]
            rw [Pl.bnd e, if_pos rfl, Pl.bnd l1, if_pos rfl, hop, if_neg c2, Pl.bnd eh, fail]
        | false =>
          rw [hl] at eh et
          refine ⟨?res4, Pl.ev_unf ⟨K1, fun k hk => ?gs4⟩, Pl.ev_unf ⟨K2, fun k hk => ?gi4⟩⟩
          case gi4 =>
            have e := e2 (k + 1) (by omega)
            simp only [impl_GiveBack.f]
            rw [Pl.bnd e, if_pos rfl, Pl.bnd l2, if_pos rfl, hop, c2', impl_GiveBack.j0, if_neg (by simp), Pl.bnd en, hop, Pl.bnd eb, Pl.bnd et, if_neg (by simp), Pl.bnd em, if_neg (by omega), p1, p2]
          case gs4 =>
            have e := e1 (k + 1) (by omega)
            simp only [spec_GiveBack.f]
            rw [Pl.bnd e, if_pos rfl, Pl.bnd l1, if_pos rfl, hop, if_neg c2, Pl.bnd eh, spec_GiveBack.j0, if_neg (by simp), hop, Pl.bnd es]
            dsimp only
            rw [Pl.bnd eg]
    · have l1 : spec_l1In.f a 0 3 = some false := l1In_f (by omega)
      have l2 : impl_isWay.f a = some false := by rw [isWay_val, decide_eq_false c1]
      refine ⟨?res5, Pl.ev_unf ⟨K1, fun k hk => ?gs5⟩, Pl.ev_unf ⟨K2, fun k hk => ?gi5⟩⟩
      case gi5 =>
        have e := e2 (k + 1) (by omega)
        simp only [impl_GiveBack.f]
        rw [Pl.bnd e, if_pos rfl, Pl.bnd l2, if_neg (by simp), fail']
      case gs5 =>
        have e := e1 (k + 1) (by omega)
        simp only [spec_GiveBack.f]
        rw [Pl.bnd e, if_pos rfl, Pl.bnd l1, if_neg (by simp), fail]

theorem FnExactGiveBack (a0_0 : Int) (a0_1 : Int) (a0_2 : ByteArray) (a0_3 : ByteArray) (a0_4 : Int) (a0_5 : Int) (a0_6 : Int) (a1 : Int) (h0 : ((Lit.int .i64 a0_0).wf = true) ∧ ((Lit.int .i64 a0_1).wf = true) ∧ (a0_2.size ≤ maxLen) ∧ (a0_3.size ≤ maxLen) ∧ ((Lit.int .i64 a0_4).wf = true) ∧ ((Lit.int .i64 a0_5).wf = true) ∧ ((Lit.int .i64 a0_6).wf = true)) (h1 : (Lit.int .i64 a1).wf = true) : ∃ k, laws_FnExactGiveBack.f k a0_0 a0_1 a0_2 a0_3 a0_4 a0_5 a0_6 a1 = some true := by
  obtain ⟨_, _, hr, hd, _⟩ := h0
  have hr := Pl.le_max hr
  have hd := Pl.le_max hd
  by_cases hs : (a0_2.size : Int) + a0_3.size ≤ 1048576
  · have s1 := sz_small (w := a0_0) (h := a0_1) (x := a0_4) (y := a0_5) (way := a0_6) hs
    obtain ⟨⟨r1, r2, r3, r4, r5, r6, r7, r8⟩, ⟨K1, e1⟩, ⟨K2, e2⟩⟩ := give_both a0_0 a0_1 a0_2 a0_3 a0_4 a0_5 a0_6 a1 hr hd
    refine ⟨K1 + K2, ?_⟩
    have e1 := e1 (K1 + K2) (by omega)
    have e2 := e2 (K1 + K2) (by omega)
    have e3 := eqWorm_self r1 r2 r3 r4 r5 r6 r7
    simp (disch := omega) only [↓reduceIte, Pl.lt_t, Pl.lt_f, Pl.le_t, Pl.le_f, Pl.ge_t, Pl.ge_f, Pl.gt_t, Pl.gt_f, Pl.eq_t, Pl.eq_f, Pl.nlt_t, Pl.nle_t, Pl.w64, Option.bind_some, Bool.false_eq_true, decide_eq_true_eq, laws_FnExactGiveBack.f, ↓Pl.bnd s1, s1, laws_toWorm.f, ↓Pl.bnd e1, e1, ↓Pl.bnd e2, e2, ↓Pl.bnd e3, e3, bne_self_eq_false]
  · refine ⟨0, ?_⟩
    simp (disch := omega) only [↓reduceIte, Pl.lt_t, Pl.lt_f, Pl.le_t, Pl.le_f, Pl.ge_t, Pl.ge_f, Pl.gt_t, Pl.gt_f, Pl.eq_t, Pl.eq_f, Pl.nlt_t, Pl.nle_t, Pl.w64, Option.bind_some, Bool.false_eq_true, decide_eq_true_eq, laws_FnExactGiveBack.f, sz_big]

/-! pieces -/
def left (s : List Bool) : Nat := s.count false
theorem rdOf_get {s : List Bool} {i : Int} (h : i.toNat < s.length) : rdOf false s i = s[i.toNat] := by
  simp [rdOf, List.getD_eq_getElem?_getD, List.getElem?_eq_getElem h]
theorem left_set {s : List Bool} {i : Int} (h : i.toNat < s.length) (hf : rdOf false s i = false) : left (s.set i.toNat true) + 1 = left s := by
  rw [rdOf_get h] at hf
  unfold left
  rw [List.count_set h]
  have hm : 0 < s.count false := List.count_pos_iff.2 (by rw [← hf]; exact List.getElem_mem h)
  simp [hf]
  omega

structure Inv (w h : Int) (s : List Bool) (q : List Int) (j : Int) : Prop where
  len : (s.length : Int) = w * h
  qin : ∀ n ∈ q, 0 ≤ n ∧ n < w * h
  j0 : 0 ≤ j
  tot : (q.length : Int) + left s ≤ w * h

end Go.Proofs.Ytgifhfkpfgpagaa.Pure
