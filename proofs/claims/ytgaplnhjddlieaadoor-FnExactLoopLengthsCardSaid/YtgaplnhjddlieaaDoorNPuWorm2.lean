/- Plain lemmas: how a worm's node and lines change, as both sides compute it. No program in sight. No condition. -/
import Derived.Test.YtgaplnhjddlieaaDoorPNx5
import Derived.Test.YtgaplnhjddlieaaDoorNPuWorm
namespace Go.Proofs.YtgaplnhjddlieaaDoor.Pure
open Go.RowKit Go.Proofs.YtgaplnhjddlieaaDoor Go.Proofs.YtgaplnhjddlieaaDoor.PN Go.Proofs.YtgaplnhjddlieaaDoorW.PrintWords Go.Proofs.YtgaplnhjddlieaaDoorW.PrintLast
set_option linter.unusedVariables false
set_option linter.unusedSimpArgs false

theorem add0_mod {a m : Int} (h0 : 0 ≤ a) (h1 : a < m) : (a + 0) % m = a := by rw [Int.add_zero, Int.emod_eq_of_lt h0 h1]
def setB (s : ByteArray) (k c : Int) : ByteArray := strOfNums ((bytesOf s).set k.toNat c)
theorem setB_size (s : ByteArray) (k c : Int) : (setB s k c).size = s.size := by
  unfold setB
  rw [strOfNums_size, List.length_set, bytesOf_length]
theorem setB_bytes {s : ByteArray} {k c : Int} (h0 : 0 ≤ c) (h1 : c ≤ 255) : bytesOf (setB s k c) = (bytesOf s).set k.toNat c := by
  refine Pl.bytesOf_strOf fun n hn => ?_
  rcases List.mem_or_eq_of_mem_set hn with hn | rfl
  · exact Pl.bytesOf_range hn
  · exact ⟨h0, h1⟩
theorem cut_set {s : ByteArray} {k c : Int} {u : UInt8} (h0 : 0 ≤ k) (h1 : k < s.size) (hu : (u.toNat : Int) = c) :
    s.extract 0 k.toNat ++ (⟨#[u]⟩ : ByteArray) ++ s.extract (k + 1).toNat s.size = setB s k c := by
  have hc : 0 ≤ c ∧ c ≤ 255 := by have := u.toNat_lt; omega
  rw [← Pl.bytesOf_inj, setB_bytes hc.1 hc.2, Pl.bytesOf_append, Pl.bytesOf_append, Pl.bytesOf_extract, Pl.bytesOf_extract]
  have hl : k.toNat < (bytesOf s).length := by rw [bytesOf_length]; omega
  rw [List.set_eq_take_append_cons_drop, if_pos hl, List.drop_zero, List.take_of_length_le (show (bytesOf s).length ≤ s.size by rw [bytesOf_length]; exact Nat.le_refl _), show (k + 1).toNat = k.toNat + 1 by omega, List.append_assoc]
  congr 1
  rw [show bytesOf (⟨#[u]⟩ : ByteArray) = [c] by simp [bytesOf, hu]]
  rfl
theorem painted_val {s : ByteArray} {k t : Int} (h0 : 0 ≤ k) (h1 : k < s.size) (t0 : 0 ≤ t) (t9 : t ≤ 9) : impl_painted.f s k t = some (setB s k (48 + t)) := by
  unfold impl_painted.f
  rw [if_pos h0, if_pos h1, Pl.w64 (by omega) (by omega), Int.emod_eq_of_lt (by omega) (by omega)]
  rfl
def setR (r : ByteArray) (w h n v c : Int) : ByteArray := if v = 1 then setB r n c else if v = 3 then setB r (bnode w h n 3) c else r
def setD (d : ByteArray) (w h n v c : Int) : ByteArray := if v = 0 then setB d (bnode w h n 0) c else if v = 2 then setB d n c else d
theorem setR_size (r : ByteArray) (w h n v c : Int) : (setR r w h n v c).size = r.size := by
  unfold setR
  split
  · exact setB_size _ _ _
  · split
    · exact setB_size _ _ _
    · rfl
theorem setD_size (d : ByteArray) (w h n v c : Int) : (setD d w h n v c).size = d.size := by
  unfold setD
  split
  · exact setB_size _ _ _
  · split
    · exact setB_size _ _ _
    · rfl
theorem up_down {y h : Int} (y0 : 0 ≤ y) (yh : y < h) : ((y + 1) % h + -1) % h = y := by
  by_cases e : y + 1 = h
  · rw [e, Int.emod_self]
    have : (0 + -1 : Int) % h = (0 + -1 + h) % h := (Int.add_emod_right _ _).symm
    rw [this, Int.emod_eq_of_lt (by omega) (by omega)]
    omega
  · rw [Int.emod_eq_of_lt (a := y + 1) (by omega) (by omega), Int.emod_eq_of_lt (by omega) (by omega)]
    omega
theorem bnode_div {w h n v : Int} (hw : 1 ≤ w) : bnode w h n v / w = (n / w + dy v) % h := by
  unfold bnode
  exact Pl.node_div (Pl.mod_lo (by omega)) (Pl.mod_hi (by omega))
theorem bnode_mod {w h n v : Int} (hw : 1 ≤ w) : bnode w h n v % w = (n % w + dx v) % w := by
  unfold bnode
  exact Pl.node_mod (Pl.mod_lo (by omega)) (Pl.mod_hi (by omega))
theorem back_2 {w h n : Int} (hw : 1 ≤ w) (hh : 1 ≤ h) (n0 : 0 ≤ n) (nw : n < w * h) : bnode w h (bnode w h n 2) 0 = n := by
  obtain ⟨a0, a1, a2, a3, a4⟩ := Pl.node_at (by omega : 0 < w) n0 nw
  have e : bnode w h (bnode w h n 2) 0 = ((bnode w h n 2) / w + -1) % h * w + ((bnode w h n 2) % w + 0) % w := rfl
  rw [e, bnode_div hw, bnode_mod hw]
  show ((n / w + 1) % h + -1) % h * w + ((n % w + 0) % w + 0) % w = n
  rw [up_down a2 a3, add0_mod a0 a1, add0_mod a0 a1]
  exact a4
theorem back_1 {w h n : Int} (hw : 1 ≤ w) (hh : 1 ≤ h) (n0 : 0 ≤ n) (nw : n < w * h) : bnode w h (bnode w h n 1) 3 = n := by
  obtain ⟨a0, a1, a2, a3, a4⟩ := Pl.node_at (by omega : 0 < w) n0 nw
  have e : bnode w h (bnode w h n 1) 3 = ((bnode w h n 1) / w + 0) % h * w + ((bnode w h n 1) % w + -1) % w := rfl
  rw [e, bnode_div hw, bnode_mod hw]
  show ((n / w + 0) % h + 0) % h * w + ((n % w + 1) % w + -1) % w = n
  rw [up_down a0 a1, add0_mod a2 a3, add0_mod a2 a3]
  exact a4
theorem opp_way {v : Int} (v0 : 0 ≤ v) (v3 : v ≤ 3) : Int.tmod (wrap64 (v + 2)) 4 = (v + 2) % 4 := by
  rw [Pl.w64 (by omega) (by omega), Pl.tmod_nn (by omega)]
/-- the line behind, told from the node behind -/
theorem line_back {r d : ByteArray} {w h n v : Int} (hw : 1 ≤ w) (hh : 1 ≤ h) (n0 : 0 ≤ n) (nw : n < w * h) (v0 : 0 ≤ v) (v3 : v ≤ 3) :
    lineB r d w h (bnode w h n ((v + 2) % 4)) v = lineB r d w h n ((v + 2) % 4) := by
  have e2 := back_2 hw hh n0 nw
  have e1 := back_1 hw hh n0 nw
  rcases way_cases v0 v3 with rfl | rfl | rfl | rfl
  · show lineB r d w h (bnode w h n 2) 0 = lineB r d w h n 2
    unfold lineB
    rw [if_pos rfl, if_neg (by omega), if_neg (by omega), if_pos rfl, e2]
  · show lineB r d w h (bnode w h n 3) 1 = lineB r d w h n 3
    unfold lineB
    rw [if_neg (by omega), if_pos rfl, if_neg (by omega), if_neg (by omega), if_neg (by omega)]
  · show lineB r d w h (bnode w h n 0) 2 = lineB r d w h n 0
    unfold lineB
    rw [if_neg (by omega), if_neg (by omega), if_pos rfl, if_pos rfl]
  · show lineB r d w h (bnode w h n 1) 3 = lineB r d w h n 1
    unfold lineB
    rw [if_neg (by omega), if_neg (by omega), if_neg (by omega), if_neg (by omega), if_pos rfl, e1]
theorem setR_back {r : ByteArray} {w h n v c : Int} (hw : 1 ≤ w) (hh : 1 ≤ h) (n0 : 0 ≤ n) (nw : n < w * h) (v0 : 0 ≤ v) (v3 : v ≤ 3) :
    setR r w h (bnode w h n ((v + 2) % 4)) v c = setR r w h n ((v + 2) % 4) c := by
  have e1 := back_1 hw hh n0 nw
  rcases way_cases v0 v3 with rfl | rfl | rfl | rfl
  · show setR r w h (bnode w h n 2) 0 c = setR r w h n 2 c
    rfl
  · show setR r w h (bnode w h n 3) 1 c = setR r w h n 3 c
    rfl
  · show setR r w h (bnode w h n 0) 2 c = setR r w h n 0 c
    rfl
  · show setR r w h (bnode w h n 1) 3 c = setR r w h n 1 c
    unfold setR
    rw [if_neg (by omega), if_pos rfl, if_pos rfl, e1]
theorem setD_back {d : ByteArray} {w h n v c : Int} (hw : 1 ≤ w) (hh : 1 ≤ h) (n0 : 0 ≤ n) (nw : n < w * h) (v0 : 0 ≤ v) (v3 : v ≤ 3) :
    setD d w h (bnode w h n ((v + 2) % 4)) v c = setD d w h n ((v + 2) % 4) c := by
  have e2 := back_2 hw hh n0 nw
  rcases way_cases v0 v3 with rfl | rfl | rfl | rfl
  · show setD d w h (bnode w h n 2) 0 c = setD d w h n 2 c
    unfold setD
    rw [if_pos rfl, if_neg (by omega), if_pos rfl, e2]
  · show setD d w h (bnode w h n 3) 1 c = setD d w h n 3 c
    rfl
  · show setD d w h (bnode w h n 0) 2 c = setD d w h n 0 c
    rfl
  · show setD d w h (bnode w h n 1) 3 c = setD d w h n 1 c
    rfl

end Go.Proofs.YtgaplnhjddlieaaDoor.Pure
