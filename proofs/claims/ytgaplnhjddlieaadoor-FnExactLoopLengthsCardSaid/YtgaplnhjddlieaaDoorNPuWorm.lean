/- Plain lemmas: what the printed worm functions come to (both sides), for arguments of any size; no program in sight. -/
import Derived.Test.YtgaplnhjddlieaaDoorPNx1
import Derived.Test.YtgaplnhjddlieaaDoorPNx2
import Derived.Test.YtgaplnhjddlieaaDoorPNx4
import Derived.Test.YtgaplnhjddlieaaDoorPNx5
import Derived.Test.YtgaplnhjddlieaaDoorPNx6
import Derived.Test.YtgaplnhjddlieaaDoorPl
namespace Go.Proofs.YtgaplnhjddlieaaDoor.Pure
open Go.RowKit Go.Proofs.YtgaplnhjddlieaaDoor Go.Proofs.YtgaplnhjddlieaaDoor.PN Go.Proofs.YtgaplnhjddlieaaDoorW.PrintWords Go.Proofs.YtgaplnhjddlieaaDoorW.PrintLast
set_option linter.unusedVariables false
set_option linter.unusedSimpArgs false

def Bits (s : ByteArray) (i : Int) : Prop := ∀ j : Int, i ≤ j → j < s.size → bt s j = 48 ∨ bt s j = 49

structure GoodW (w h : Int) (r d : ByteArray) (x y way : Int) : Prop where
  w3 : 3 ≤ w
  w6 : w ≤ 6
  h3 : 3 ≤ h
  h6 : h ≤ 6
  rs : (r.size : Int) = w * h
  ds : (d.size : Int) = w * h
  rb : Bits r 0
  db : Bits d 0
  x0 : 0 ≤ x
  xw : x < w
  y0 : 0 ≤ y
  yh : y < h
  v0 : 0 ≤ way
  v3 : way ≤ 3

theorem bits_end {s : ByteArray} {i : Int} (h : s.size ≤ i) : Bits s i := fun j h1 h2 => by omega
theorem bits_step {s : ByteArray} {i : Int} (h : bt s i = 48 ∨ bt s i = 49) : Bits s i ↔ Bits s (i + 1) := by
  refine ⟨fun hb j h1 h2 => hb j (by omega) h2, fun hb j h1 h2 => ?_⟩
  by_cases e : j = i
  · rw [e]; exact h
  · exact hb j (by omega) h2

theorem within_t {a b c : Int} (h1 : b ≤ a) (h2 : a ≤ c) : impl_within.f a b c = some true := by
  unfold impl_within.f
  rw [if_pos h1, decide_eq_true h2]
theorem within_f {a b c : Int} (h : a < b ∨ c < a) : impl_within.f a b c = some false := by
  unfold impl_within.f
  by_cases h1 : b ≤ a
  · rw [if_pos h1, decide_eq_false (by omega)]
  · rw [if_neg h1]
theorem within_val (a b c : Int) : impl_within.f a b c = some (decide (b ≤ a ∧ a ≤ c)) := by
  by_cases h : b ≤ a ∧ a ≤ c
  · rw [within_t h.1 h.2, decide_eq_true h]
  · rw [within_f (by omega), decide_eq_false h]
theorem l1In_t {a b c : Int} (h1 : b ≤ a) (h2 : a ≤ c) : spec_l1In.f a b c = some true := by
  unfold spec_l1In.f
  rw [if_pos h1, decide_eq_true h2]
theorem l1In_f {a b c : Int} (h : a < b ∨ c < a) : spec_l1In.f a b c = some false := by
  unfold spec_l1In.f
  by_cases h1 : b ≤ a
  · rw [if_pos h1, decide_eq_false (by omega)]
  · rw [if_neg h1]
theorem l1In_val (a b c : Int) : spec_l1In.f a b c = some (decide (b ≤ a ∧ a ≤ c)) := by
  by_cases h : b ≤ a ∧ a ≤ c
  · rw [l1In_t h.1 h.2, decide_eq_true h]
  · rw [l1In_f (by omega), decide_eq_false h]
theorem and3 {P Q R : Prop} [Decidable P] [Decidable Q] [Decidable R] : (if P then (if Q then some (decide R) else some false) else some false) = some (decide (P ∧ Q ∧ R)) := by
  by_cases h1 : P <;> by_cases h2 : Q <;> simp [h1, h2]

theorem bits_iff (s : ByteArray) : Bits s 0 ↔ ∀ j : Int, 0 ≤ j → j < s.size → 48 ≤ bt s j ∧ bt s j ≤ 47 + 2 :=
  ⟨fun h j h1 h2 => by have := h j h1 h2; omega, fun h j h1 h2 => by have := h j h1 h2; omega⟩

def dx (v : Int) : Int := if v = 1 then 1 else if v = 3 then -1 else 0
def dy (v : Int) : Int := if v = 0 then -1 else if v = 2 then 1 else 0
theorem way_cases {v : Int} (h0 : 0 ≤ v) (h3 : v ≤ 3) : v = 0 ∨ v = 1 ∨ v = 2 ∨ v = 3 := by omega
theorem ahead_val {v : Int} (h0 : 0 ≤ v) (h3 : v ≤ 3) : impl_ahead.f v = some (dx v, dy v) := by
  rcases way_cases h0 h3 with rfl | rfl | rfl | rfl <;> rfl
theorem dx_in (v : Int) : -1 ≤ dx v ∧ dx v ≤ 1 := by
  unfold dx
  split
  · omega
  · split <;> omega
theorem dy_in (v : Int) : -1 ≤ dy v ∧ dy v ≤ 1 := by
  unfold dy
  split
  · omega
  · split <;> omega
theorem step_mod {x w e : Int} (hw : 1 ≤ w) (hw' : w ≤ 1000) (h0 : 0 ≤ x) (h1 : x < w) (e0 : -1 ≤ e) (e1 : e ≤ 1) : Int.tmod (wrap64 (wrap64 (x + e) + w)) w = (x + e) % w := by
  rw [Pl.w64 (n := x + e) (by omega) (by omega), Pl.w64 (by omega) (by omega), Pl.tmod_nn (by omega), Int.add_emod_right]
theorem gone_val {ru c : ByteArray} {w h x y v b : Int} (hw : 1 ≤ w) (hw' : w ≤ 1000) (hh : 1 ≤ h) (hh' : h ≤ 1000) (x0 : 0 ≤ x) (xw : x < w) (y0 : 0 ≤ y) (yh : y < h) (v0 : 0 ≤ v) (v3 : v ≤ 3) (hb : b = 1 ∨ b = -1) :
    impl_World_gone.f ru w h c x y v b = some (ru, w, h, c, (x + b * dx v) % w, (y + b * dy v) % h, v) := by
  have d1 := dx_in v
  have d2 := dy_in v
  have b1 : -1 ≤ b * dx v ∧ b * dx v ≤ 1 := by rcases hb with rfl | rfl <;> omega
  have b2 : -1 ≤ b * dy v ∧ b * dy v ≤ 1 := by rcases hb with rfl | rfl <;> omega
  unfold impl_World_gone.f
  rw [ahead_val v0 v3]
  simp only [Option.bind_some]
  rw [if_neg (by omega), if_neg (by omega), Pl.w64 (n := b * dx v) (by omega) (by omega), Pl.w64 (n := b * dy v) (by omega) (by omega), step_mod hw hw' x0 xw b1.1 b1.2, step_mod hh hh' y0 yh b2.1 b2.2]
theorem at_val {ru c : ByteArray} {w h x y v : Int} (hw : 1 ≤ w) (hw' : w ≤ 1000) (hh' : h ≤ 1000) (x0 : 0 ≤ x) (xw : x < w) (y0 : 0 ≤ y) (yh : y < h) : impl_World_at.f ru w h c x y v = some (y * w + x) := by
  obtain ⟨m0, m1⟩ := Pl.mul_in (a := y) (b := w) (A := 1000) (B := 1000) y0 (by omega) (by omega) hw'
  simp (disch := omega) only [↓reduceIte, Pl.lt_t, Pl.lt_f, Pl.le_t, Pl.le_f, Pl.ge_t, Pl.ge_f, Pl.gt_t, Pl.gt_f, Pl.eq_t, Pl.eq_f, Pl.nlt_t, Pl.nle_t, Pl.w64, Option.bind_some, Bool.false_eq_true, decide_eq_true_eq, impl_World_at.f]
theorem l1Mod_val {n m : Int} (hm : 1 ≤ m) (hm' : m ≤ 1000) (h0 : -1000000 ≤ n) (h1 : n ≤ 1000000) : spec_l1Mod.f n m = some (n % m) := by
  unfold spec_l1Mod.f
  have a : -m < Int.tmod n m := by
    have := Int.lt_tmod_of_pos n (show 0 < m by omega)
    omega
  have b : Int.tmod n m < m := Int.tmod_lt_of_pos n (by omega)
  rw [if_neg (by omega), Pl.w64 (by omega) (by omega), Pl.tmod_nn (by omega), Int.add_emod_right, Pl.tmod_emod]

/-- the node beside another one -/
def bnode (w h n v : Int) : Int := ((n / w + dy v) % h) * w + (n % w + dx v) % w
theorem bnode_in {w h n v : Int} (hw : 1 ≤ w) (hh : 1 ≤ h) : 0 ≤ bnode w h n v ∧ bnode w h n v < w * h :=
  Pl.node_lt (Pl.mod_lo (by omega)) (Pl.mod_hi (by omega)) (Pl.mod_lo (by omega)) (Pl.mod_hi (by omega))
/-- is the line of a node on a way there? -/
def lineB (r d : ByteArray) (w h n v : Int) : Bool :=
  if v = 0 then bt d (bnode w h n 0) == 49 else if v = 1 then bt r n == 49 else if v = 2 then bt d n == 49 else bt r (bnode w h n 3) == 49
end Go.Proofs.YtgaplnhjddlieaaDoor.Pure
