/- Plain lemmas: how a worm's node and lines change, as both sides compute it. No program in sight. No condition. -/
import Derived.Test.YtgifhfkpfgpagaaPIx1
import Derived.Test.YtgifhfkpfgpagaaPIx3
import Derived.Test.YtgifhfkpfgpagaaPIx4
import Derived.Test.YtgifhfkpfgpagaaPIx6
import Derived.Test.YtgifhfkpfgpagaaIPuWorm
namespace Go.Proofs.Ytgifhfkpfgpagaa.Pure
open Go.RowKit Go.Proofs.Ytgifhfkpfgpagaa Go.Proofs.Ytgifhfkpfgpagaa.PI Go.Proofs.YtgifhfkpfgpagaaW.PrintWords Go.Proofs.YtgifhfkpfgpagaaW.PrintLast
set_option linter.unusedVariables false
set_option linter.unusedSimpArgs false

theorem eqWorm_self (w h : Int) (r d : ByteArray) (x y v : Int) : laws_eqWorm.f w h r d x y v w h r d x y v = some true := by
  simp [laws_eqWorm.f]
theorem node_val {w h : Int} {r d : ByteArray} {x y v : Int} (hw : 1 ≤ w) (hw' : w ≤ 1000) (hh' : h ≤ 1000) (x0 : 0 ≤ x) (xw : x < w) (y0 : 0 ≤ y) (yh : y < h) : impl_Worm_node.f w h r d x y v = some (y * w + x) := by
  simp only [impl_Worm_node.f, impl_Worm_world.f, Option.bind_some]
  rw [at_val hw hw' hh' x0 xw y0 yh]
  rfl
theorem add0_mod {a m : Int} (h0 : 0 ≤ a) (h1 : a < m) : (a + 0) % m = a := by rw [Int.add_zero, Int.emod_eq_of_lt h0 h1]
theorem go_val {w h : Int} {r d : ByteArray} {x y wv v b : Int} (hw : 1 ≤ w) (hw' : w ≤ 1000) (hh : 1 ≤ h) (hh' : h ≤ 1000) (x0 : 0 ≤ x) (xw : x < w) (y0 : 0 ≤ y) (yh : y < h) (v0 : 0 ≤ v) (v3 : v ≤ 3) (hb : b = 1 ∨ b = -1) :
    spec_wmGo.f w h r d x y wv v b = some (w, h, r, d, (x + b * dx v) % w, (y + b * dy v) % h, wv) := by
  have b0 : -1 ≤ b ∧ b ≤ 1 := by omega
  rcases way_cases v0 v3 with rfl | rfl | rfl | rfl
  · have e1 : b * dx 0 = 0 := by show b * 0 = 0; omega
    have e2 : y + b * dy 0 = y - b := by show y + b * (-1) = y - b; omega
    rw [e1, e2, add0_mod x0 xw]
    simp (disch := omega) only [↓reduceIte, Pl.lt_t, Pl.lt_f, Pl.le_t, Pl.le_f, Pl.ge_t, Pl.ge_f, Pl.gt_t, Pl.gt_f, Pl.eq_t, Pl.eq_f, Pl.nlt_t, Pl.nle_t, Pl.w64, Option.bind_some, Bool.false_eq_true, decide_eq_true_eq, spec_wmGo.f, l1Mod_val]
  · have e1 : x + b * dx 1 = x + b := by show x + b * 1 = x + b; omega
    have e2 : b * dy 1 = 0 := by show b * 0 = 0; omega
    rw [e1, e2, add0_mod y0 yh]
    simp (disch := omega) only [↓reduceIte, Pl.lt_t, Pl.lt_f, Pl.le_t, Pl.le_f, Pl.ge_t, Pl.ge_f, Pl.gt_t, Pl.gt_f, Pl.eq_t, Pl.eq_f, Pl.nlt_t, Pl.nle_t, Pl.w64, Option.bind_some, Bool.false_eq_true, decide_eq_true_eq, spec_wmGo.f, l1Mod_val]
  · have e1 : b * dx 2 = 0 := by show b * 0 = 0; omega
    have e2 : y + b * dy 2 = y + b := by show y + b * 1 = y + b; omega
    rw [e1, e2, add0_mod x0 xw]
    simp (disch := omega) only [↓reduceIte, Pl.lt_t, Pl.lt_f, Pl.le_t, Pl.le_f, Pl.ge_t, Pl.ge_f, Pl.gt_t, Pl.gt_f, Pl.eq_t, Pl.eq_f, Pl.nlt_t, Pl.nle_t, Pl.w64, Option.bind_some, Bool.false_eq_true, decide_eq_true_eq, spec_wmGo.f, l1Mod_val]
  · have e1 : x + b * dx 3 = x - b := by show x + b * (-1) = x - b; omega
    have e2 : b * dy 3 = 0 := by show b * 0 = 0; omega
    rw [e1, e2, add0_mod y0 yh]
    simp (disch := omega) only [↓reduceIte, Pl.lt_t, Pl.lt_f, Pl.le_t, Pl.le_f, Pl.ge_t, Pl.ge_f, Pl.gt_t, Pl.gt_f, Pl.eq_t, Pl.eq_f, Pl.nlt_t, Pl.nle_t, Pl.w64, Option.bind_some, Bool.false_eq_true, decide_eq_true_eq, spec_wmGo.f, l1Mod_val]

/-- a text with one sign turned -/
def setB (s : ByteArray) (k c : Int) : ByteArray := strOfNums ((bytesOf s).set k.toNat c)
theorem setB_size (s : ByteArray) (k c : Int) : (setB s k c).size = s.size := by
  unfold setB
  rw [strOfNums_size, List.length_set, bytesOf_length]
theorem setB_bytes {s : ByteArray} {k c : Int} (h0 : 0 ≤ c) (h1 : c ≤ 255) : bytesOf (setB s k c) = (bytesOf s).set k.toNat c := by
  refine Pl.bytesOf_strOf fun n hn => ?_
  rcases List.mem_or_eq_of_mem_set hn with hn | rfl
  · exact Pl.bytesOf_range hn
  · exact ⟨h0, h1⟩
theorem cut_set {s : ByteArray} {k c : Int} {u : UInt8} (h0 : 0 ≤ k) (h1 : k < s.size) (hu : (u.toNat : Int) = c) :
    s.extract 0 k.toNat ++ (⟨#[u]⟩ : ByteArray) ++ s.extract (k + 1).toNat s.size = setB s k c := by
  have hc : 0 ≤ c ∧ c ≤ 255 := by have := u.toNat_lt; omega
  rw [← Pl.bytesOf_inj, setB_bytes hc.1 hc.2, Pl.bytesOf_append, Pl.bytesOf_append, Pl.bytesOf_extract, Pl.bytesOf_extract]
  have hl : k.toNat < (bytesOf s).length := by rw [bytesOf_length]; omega
  rw [List.set_eq_take_append_cons_drop, if_pos hl, List.drop_zero, List.take_of_length_le (show (bytesOf s).length ≤ s.size by rw [bytesOf_length]; exact Nat.le_refl _), show (k + 1).toNat = k.toNat + 1 by omega, List.append_assoc]
  congr 1
  rw [show bytesOf (⟨#[u]⟩ : ByteArray) = [c] by simp [bytesOf, hu]]
  rfl
theorem painted_val {s : ByteArray} {k t : Int} (h0 : 0 ≤ k) (h1 : k < s.size) (t0 : 0 ≤ t) (t9 : t ≤ 9) : impl_painted.f s k t = some (setB s k (48 + t)) := by
  unfold impl_painted.f
  rw [if_pos h0, if_pos h1, Pl.w64 (by omega) (by omega), Int.emod_eq_of_lt (by omega) (by omega)]
  rfl
def setR (r : ByteArray) (w h n v c : Int) : ByteArray := if v = 1 then setB r n c else if v = 3 then setB r (bnode w h n 3) c else r
def setD (d : ByteArray) (w h n v c : Int) : ByteArray := if v = 0 then setB d (bnode w h n 0) c else if v = 2 then setB d n c else d
theorem setR_size (r : ByteArray) (w h n v c : Int) : (setR r w h n v c).size = r.size := by
  unfold setR
  split
  · exact setB_size _ _ _
  · split
    · exact setB_size _ _ _
    · rfl
theorem setD_size (d : ByteArray) (w h n v c : Int) : (setD d w h n v c).size = d.size := by
  unfold setD
  split
  · exact setB_size _ _ _
  · split
    · exact setB_size _ _ _
    · rfl
theorem made_val {r d : ByteArray} {w h wx wy wv n v t : Int} (hw : 1 ≤ w) (hw' : w ≤ 1000) (hh : 1 ≤ h) (hh' : h ≤ 1000) (hr : (r.size : Int) = w * h) (hd : (d.size : Int) = w * h) (n0 : 0 ≤ n) (nw : n < w * h) (v0 : 0 ≤ v) (v3 : v ≤ 3) (t0 : 0 ≤ t) (t9 : t ≤ 9) :
    impl_Worm_made.f w h r d wx wy wv n v t = some (w, h, setR r w h n v (48 + t), setD d w h n v (48 + t), wx, wy, wv) := by
  have b0 := bnode_in (w := w) (h := h) (n := n) (v := 0) hw hh
  have b3 := bnode_in (w := w) (h := h) (n := n) (v := 3) hw hh
  have e0 := beside_val (r := r) (d := d) (x := wx) (y := wy) (way := wv) (v := 0) hw hw' hh hh' n0 nw (by omega) (by omega)
  have e3 := beside_val (r := r) (d := d) (x := wx) (y := wy) (way := wv) (v := 3) hw hw' hh hh' n0 nw (by omega) (by omega)
  have p0 := painted_val (s := d) (k := bnode w h n 0) b0.1 (by omega) t0 t9
  have p1 := painted_val (s := r) (k := n) n0 (by omega) t0 t9
  have p2 := painted_val (s := d) (k := n) n0 (by omega) t0 t9
  have p3 := painted_val (s := r) (k := bnode w h n 3) b3.1 (by omega) t0 t9
  clear hr hd
  rcases way_cases v0 v3 with rfl | rfl | rfl | rfl <;> simp (disch := omega) only [↓reduceIte, Pl.lt_t, Pl.lt_f, Pl.le_t, Pl.le_f, Pl.ge_t, Pl.ge_f, Pl.gt_t, Pl.gt_f, Pl.eq_t, Pl.eq_f, Pl.nlt_t, Pl.nle_t, Pl.w64, Option.bind_some, Bool.false_eq_true, decide_eq_true_eq, impl_Worm_made.f, impl_Worm_line.f, e0, e3, p0, p1, p2, p3, setR, setD]
theorem set_val {r d : ByteArray} {w h wx wy wv x y v c : Int} {u : UInt8} (hw : 1 ≤ w) (hw' : w ≤ 1000) (hh : 1 ≤ h) (hh' : h ≤ 1000) (hr : (r.size : Int) = w * h) (hd : (d.size : Int) = w * h) (hs : (r.size : Int) ≤ 1000000) (x0 : 0 ≤ x) (xw : x < w) (y0 : 0 ≤ y) (yh : y < h) (v0 : 0 ≤ v) (v3 : v ≤ 3) (hu : (u.toNat : Int) = c) :
    spec_wmSet.f w h r d wx wy wv x y v (⟨#[u]⟩ : ByteArray) = some (w, h, setR r w h (y * w + x) v c, setD d w h (y * w + x) v c, wx, wy, wv) := by
  have b0 := bnode_in (w := w) (h := h) (n := y * w + x) (v := 0) hw hh
  have b3 := bnode_in (w := w) (h := h) (n := y * w + x) (v := 3) hw hh
  have n1 := Pl.node_lt x0 xw y0 yh
  obtain ⟨m0, m1⟩ := Pl.mul_in (a := y) (b := w) (A := 1000) (B := 1000) y0 (by omega) (by omega) hw'
  have e0 : bnode w h (y * w + x) 0 = (y - 1) % h * w + x := by
    unfold bnode
    rw [Pl.node_div x0 xw, Pl.node_mod x0 xw]
    show (y + -1) % h * w + (x + 0) % w = _
    rw [add0_mod x0 xw]
    rfl
  have e3 : bnode w h (y * w + x) 3 = y * w + (x - 1) % w := by
    unfold bnode
    rw [Pl.node_div x0 xw, Pl.node_mod x0 xw]
    show (y + 0) % h * w + (x + -1) % w = _
    rw [add0_mod y0 yh]
    rfl
  have c0 := cut_set (s := d) (k := (y - 1) % h * w + x) (u := u) (c := c) (by omega) (by omega) hu
  have c1 := cut_set (s := r) (k := y * w + x) (u := u) (c := c) (by omega) (by omega) hu
  have c2 := cut_set (s := d) (k := y * w + x) (u := u) (c := c) (by omega) (by omega) hu
  have c3 := cut_set (s := r) (k := y * w + (x - 1) % w) (u := u) (c := c) (by omega) (by omega) hu
  have hsz : (⟨#[u]⟩ : ByteArray).size = 1 := rfl
  have t0 := Pl.mod_lo (a := y - 1) (b := h) (by omega)
  have t1 := Pl.mod_hi (a := y - 1) (b := h) (by omega)
  have t2 := Pl.mod_lo (a := x - 1) (b := w) (by omega)
  have t3 := Pl.mod_hi (a := x - 1) (b := w) (by omega)
  obtain ⟨q0, q1⟩ := Pl.mul_in (a := (y - 1) % h) (b := w) (A := 1000) (B := 1000) t0 (by omega) (by omega) hw'
  rw [e0] at b0
  rw [e3] at b3
  rcases way_cases v0 v3 with rfl | rfl | rfl | rfl
  · have l : spec_wmLine.f w h r d wx wy wv x y 0 = some (true, (y - 1) % h * w + x) := by simp (disch := omega) only [↓reduceIte, Pl.lt_t, Pl.lt_f, Pl.le_t, Pl.le_f, Pl.ge_t, Pl.ge_f, Pl.gt_t, Pl.gt_f, Pl.eq_t, Pl.eq_f, Pl.nlt_t, Pl.nle_t, Pl.w64, Option.bind_some, Bool.false_eq_true, decide_eq_true_eq, spec_wmLine.f, l1Mod_val]
    unfold spec_wmSet.f
    rw [l]
    simp only [Option.bind_some]
    rw [if_pos trivial, if_pos (by omega), if_pos (by omega), if_pos (by omega), c0, setR, setD, if_neg (by omega), if_neg (by omega), if_pos rfl, e0]
  · have l : spec_wmLine.f w h r d wx wy wv x y 1 = some (false, y * w + x) := by simp (disch := omega) only [↓reduceIte, Pl.lt_t, Pl.lt_f, Pl.le_t, Pl.le_f, Pl.ge_t, Pl.ge_f, Pl.gt_t, Pl.gt_f, Pl.eq_t, Pl.eq_f, Pl.nlt_t, Pl.nle_t, Pl.w64, Option.bind_some, Bool.false_eq_true, decide_eq_true_eq, spec_wmLine.f]
    unfold spec_wmSet.f
    rw [l]
    simp only [Option.bind_some]
    rw [if_neg (by simp), if_pos (by omega), if_pos (by omega), if_pos (by omega), c1, setR, setD, if_pos rfl, if_neg (by omega), if_neg (by omega)]
  · have l : spec_wmLine.f w h r d wx wy wv x y 2 = some (true, y * w + x) := by simp (disch := omega) only [↓reduceIte, Pl.lt_t, Pl.lt_f, Pl.le_t, Pl.le_f, Pl.ge_t, Pl.ge_f, Pl.gt_t, Pl.gt_f, Pl.eq_t, Pl.eq_f, Pl.nlt_t, Pl.nle_t, Pl.w64, Option.bind_some, Bool.false_eq_true, decide_eq_true_eq, spec_wmLine.f]
    unfold spec_wmSet.f
    rw [l]
    simp only [Option.bind_some]
    rw [if_pos trivial, if_pos (by omega), if_pos (by omega), if_pos (by omega), c2, setR, setD, if_neg (by omega), if_neg (by omega), if_neg (by omega), if_pos rfl]
  · have l : spec_wmLine.f w h r d wx wy wv x y 3 = some (false, y * w + (x - 1) % w) := by simp (disch := omega) only [↓reduceIte, Pl.lt_t, Pl.lt_f, Pl.le_t, Pl.le_f, Pl.ge_t, Pl.ge_f, Pl.gt_t, Pl.gt_f, Pl.eq_t, Pl.eq_f, Pl.nlt_t, Pl.nle_t, Pl.w64, Option.bind_some, Bool.false_eq_true, decide_eq_true_eq, spec_wmLine.f, l1Mod_val]
    unfold spec_wmSet.f
    rw [l]
    simp only [Option.bind_some]
    rw [if_neg (by simp), if_pos (by omega), if_pos (by omega), if_pos (by omega), c3, setR, setD, if_neg (by omega), if_pos rfl, if_neg (by omega), if_neg (by omega), e3]

/-! there and back -/
theorem up_down {y h : Int} (y0 : 0 ≤ y) (yh : y < h) : ((y + 1) % h + -1) % h = y := by
  by_cases e : y + 1 = h
  · rw [e, Int.emod_self]
    have : (0 + -1 : Int) % h = (0 + -1 + h) % h := (Int.add_emod_right _ _).symm
    rw [this, Int.emod_eq_of_lt (by omega) (by omega)]
    omega
  · rw [Int.emod_eq_of_lt (a := y + 1) (by omega) (by omega), Int.emod_eq_of_lt (by omega) (by omega)]
    omega
theorem bnode_div {w h n v : Int} (hw : 1 ≤ w) : bnode w h n v / w = (n / w + dy v) % h := by
  unfold bnode
  exact Pl.node_div (Pl.mod_lo (by omega)) (Pl.mod_hi (by omega))
theorem bnode_mod {w h n v : Int} (hw : 1 ≤ w) : bnode w h n v % w = (n % w + dx v) % w := by
  unfold bnode
  exact Pl.node_mod (Pl.mod_lo (by omega)) (Pl.mod_hi (by omega))
theorem back_2 {w h n : Int} (hw : 1 ≤ w) (hh : 1 ≤ h) (n0 : 0 ≤ n) (nw : n < w * h) : bnode w h (bnode w h n 2) 0 = n := by
  obtain ⟨a0, a1, a2, a3, a4⟩ := Pl.node_at (by omega : 0 < w) n0 nw
  have e : bnode w h (bnode w h n 2) 0 = ((bnode w h n 2) / w + -1) % h * w + ((bnode w h n 2) % w + 0) % w := rfl
  rw [e, bnode_div hw, bnode_mod hw]
  show ((n / w + 1) % h + -1) % h * w + ((n % w + 0) % w + 0) % w = n
  rw [up_down a2 a3, add0_mod a0 a1, add0_mod a0 a1]
  exact a4
theorem back_1 {w h n : Int} (hw : 1 ≤ w) (hh : 1 ≤ h) (n0 : 0 ≤ n) (nw : n < w * h) : bnode w h (bnode w h n 1) 3 = n := by
  obtain ⟨a0, a1, a2, a3, a4⟩ := Pl.node_at (by omega : 0 < w) n0 nw
  have e : bnode w h (bnode w h n 1) 3 = ((bnode w h n 1) / w + 0) % h * w + ((bnode w h n 1) % w + -1) % w := rfl
  rw [e, bnode_div hw, bnode_mod hw]
  show ((n / w + 0) % h + 0) % h * w + ((n % w + 1) % w + -1) % w = n
  rw [up_down a0 a1, add0_mod a2 a3, add0_mod a2 a3]
  exact a4
theorem opp_way {v : Int} (v0 : 0 ≤ v) (v3 : v ≤ 3) : Int.tmod (wrap64 (v + 2)) 4 = (v + 2) % 4 := by
  rw [Pl.w64 (by omega) (by omega), Pl.tmod_nn (by omega)]
/-- the line behind, told from the node behind -/
theorem line_back {r d : ByteArray} {w h n v : Int} (hw : 1 ≤ w) (hh : 1 ≤ h) (n0 : 0 ≤ n) (nw : n < w * h) (v0 : 0 ≤ v) (v3 : v ≤ 3) :
    lineB r d w h (bnode w h n ((v + 2) % 4)) v = lineB r d w h n ((v + 2) % 4) := by
  have e2 := back_2 hw hh n0 nw
  have e1 := back_1 hw hh n0 nw
  rcases way_cases v0 v3 with rfl | rfl | rfl | rfl
  · show lineB r d w h (bnode w h n 2) 0 = lineB r d w h n 2
    unfold lineB
    rw [if_pos rfl, if_neg (by omega), if_neg (by omega), if_pos rfl, e2]
  · show lineB r d w h (bnode w h n 3) 1 = lineB r d w h n 3
    unfold lineB
    rw [if_neg (by omega), if_pos rfl, if_neg (by omega), if_neg (by omega), if_neg (by omega)]
  · show lineB r d w h (bnode w h n 0) 2 = lineB r d w h n 0
    unfold lineB
    rw [if_neg (by omega), if_neg (by omega), if_pos rfl, if_pos rfl]
  · show lineB r d w h (bnode w h n 1) 3 = lineB r d w h n 1
    unfold lineB
    rw [if_neg (by omega), if_neg (by omega), if_neg (by omega), if_neg (by omega), if_pos rfl, e1]
theorem setR_back {r : ByteArray} {w h n v c : Int} (hw : 1 ≤ w) (hh : 1 ≤ h) (n0 : 0 ≤ n) (nw : n < w * h) (v0 : 0 ≤ v) (v3 : v ≤ 3) :
    setR r w h (bnode w h n ((v + 2) % 4)) v c = setR r w h n ((v + 2) % 4) c := by
  have e1 := back_1 hw hh n0 nw
  rcases way_cases v0 v3 with rfl | rfl | rfl | rfl
  · show setR r w h (bnode w h n 2) 0 c = setR r w h n 2 c
    rfl
  · show setR r w h (bnode w h n 3) 1 c = setR r w h n 3 c
    rfl
  · show setR r w h (bnode w h n 0) 2 c = setR r w h n 0 c
    rfl
  · show setR r w h (bnode w h n 1) 3 c = setR r w h n 1 c
    unfold setR
    rw [if_neg (by omega), if_pos rfl, if_pos rfl, e1]
theorem setD_back {d : ByteArray} {w h n v c : Int} (hw : 1 ≤ w) (hh : 1 ≤ h) (n0 : 0 ≤ n) (nw : n < w * h) (v0 : 0 ≤ v) (v3 : v ≤ 3) :
    setD d w h (bnode w h n ((v + 2) % 4)) v c = setD d w h n ((v + 2) % 4) c := by
  have e2 := back_2 hw hh n0 nw
  rcases way_cases v0 v3 with rfl | rfl | rfl | rfl
  · show setD d w h (bnode w h n 2) 0 c = setD d w h n 2 c
    unfold setD
    rw [if_pos rfl, if_neg (by omega), if_pos rfl, e2]
  · show setD d w h (bnode w h n 3) 1 c = setD d w h n 3 c
    rfl
  · show setD d w h (bnode w h n 0) 2 c = setD d w h n 0 c
    rfl
  · show setD d w h (bnode w h n 1) 3 c = setD d w h n 1 c
    rfl

end Go.Proofs.Ytgifhfkpfgpagaa.Pure
