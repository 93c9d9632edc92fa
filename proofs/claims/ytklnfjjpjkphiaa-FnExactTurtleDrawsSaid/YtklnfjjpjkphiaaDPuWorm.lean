/- Plain lemmas: what the printed worm functions come to (both sides), for arguments of any size; no program in sight. -/
import Derived.Test.YtklnfjjpjkphiaaPDx1
import Derived.Test.YtklnfjjpjkphiaaPDx6
import Derived.Test.YtklnfjjpjkphiaaPDx7
import Derived.Test.YtklnfjjpjkphiaaPl
namespace Go.Proofs.Ytklnfjjpjkphiaa.Pure
open Go.RowKit Go.Proofs.Ytklnfjjpjkphiaa Go.Proofs.Ytklnfjjpjkphiaa.PD Go.Proofs.YtklnfjjpjkphiaaW.PrintWords Go.Proofs.YtklnfjjpjkphiaaW.PrintLast
set_option linter.unusedVariables false
set_option linter.unusedSimpArgs false

def Bits (s : ByteArray) (i : Int) : Prop := ∀ j : Int, i ≤ j → j < s.size → bt s j = 48 ∨ bt s j = 49

structure GoodW (w h : Int) (r d : ByteArray) (x y way : Int) : Prop where
  w3 : 3 ≤ w
  w6 : w ≤ 6
  h3 : 3 ≤ h
  h6 : h ≤ 6
  rs : (r.size : Int) = w * h
  ds : (d.size : Int) = w * h
  rb : Bits r 0
  db : Bits d 0
  x0 : 0 ≤ x
  xw : x < w
  y0 : 0 ≤ y
  yh : y < h
  v0 : 0 ≤ way
  v3 : way ≤ 3

theorem bits_end {s : ByteArray} {i : Int} (h : s.size ≤ i) : Bits s i := fun j h1 h2 => by omega
theorem bits_step {s : ByteArray} {i : Int} (h : bt s i = 48 ∨ bt s i = 49) : Bits s i ↔ Bits s (i + 1) := by
  refine ⟨fun hb j h1 h2 => hb j (by omega) h2, fun hb j h1 h2 => ?_⟩
  by_cases e : j = i
  · rw [e]; exact h
  · exact hb j (by omega) h2

theorem within_t {a b c : Int} (h1 : b ≤ a) (h2 : a ≤ c) : impl_within.f a b c = some true := by
  unfold impl_within.f
  rw [if_pos h1, decide_eq_true h2]
theorem within_f {a b c : Int} (h : a < b ∨ c < a) : impl_within.f a b c = some false := by
  unfold impl_within.f
  by_cases h1 : b ≤ a
  · rw [if_pos h1, decide_eq_false (by omega)]
  · rw [if_neg h1]
theorem within_val (a b c : Int) : impl_within.f a b c = some (decide (b ≤ a ∧ a ≤ c)) := by
  by_cases h : b ≤ a ∧ a ≤ c
  · rw [within_t h.1 h.2, decide_eq_true h]
  · rw [within_f (by omega), decide_eq_false h]
theorem l1In_t {a b c : Int} (h1 : b ≤ a) (h2 : a ≤ c) : spec_l1In.f a b c = some true := by
  unfold spec_l1In.f
  rw [if_pos h1, decide_eq_true h2]
theorem l1In_f {a b c : Int} (h : a < b ∨ c < a) : spec_l1In.f a b c = some false := by
  unfold spec_l1In.f
  by_cases h1 : b ≤ a
  · rw [if_pos h1, decide_eq_false (by omega)]
  · rw [if_neg h1]
theorem l1In_val (a b c : Int) : spec_l1In.f a b c = some (decide (b ≤ a ∧ a ≤ c)) := by
  by_cases h : b ≤ a ∧ a ≤ c
  · rw [l1In_t h.1 h.2, decide_eq_true h]
  · rw [l1In_f (by omega), decide_eq_false h]
theorem and3 {P Q R : Prop} [Decidable P] [Decidable Q] [Decidable R] : (if P then (if Q then some (decide R) else some false) else some false) = some (decide (P ∧ Q ∧ R)) := by
  by_cases h1 : P <;> by_cases h2 : Q <;> simp [h1, h2]

theorem bits_iff (s : ByteArray) : Bits s 0 ↔ ∀ j : Int, 0 ≤ j → j < s.size → 48 ≤ bt s j ∧ bt s j ≤ 47 + 2 :=
  ⟨fun h j h1 h2 => by have := h j h1 h2; omega, fun h j h1 h2 => by have := h j h1 h2; omega⟩

def dx (v : Int) : Int := if v = 1 then 1 else if v = 3 then -1 else 0
def dy (v : Int) : Int := if v = 0 then -1 else if v = 2 then 1 else 0
theorem way_cases {v : Int} (h0 : 0 ≤ v) (h3 : v ≤ 3) : v = 0 ∨ v = 1 ∨ v = 2 ∨ v = 3 := by omega
theorem ahead_val {v : Int} (h0 : 0 ≤ v) (h3 : v ≤ 3) : impl_ahead.f v = some (dx v, dy v) := by
  rcases way_cases h0 h3 with rfl | rfl | rfl | rfl <;> rfl
theorem dx_in (v : Int) : -1 ≤ dx v ∧ dx v ≤ 1 := by
  unfold dx
  split
  · omega
  · split <;> omega
theorem dy_in (v : Int) : -1 ≤ dy v ∧ dy v ≤ 1 := by
  unfold dy
  split
  · omega
  · split <;> omega
theorem step_mod {x w e : Int} (hw : 1 ≤ w) (hw' : w ≤ 1000) (h0 : 0 ≤ x) (h1 : x < w) (e0 : -1 ≤ e) (e1 : e ≤ 1) : Int.tmod (wrap64 (wrap64 (x + e) + w)) w = (x + e) % w := by
  rw [Pl.w64 (n := x + e) (by omega) (by omega), Pl.w64 (by omega) (by omega), Pl.tmod_nn (by omega), Int.add_emod_right]
def bnode (w h n v : Int) : Int := ((n / w + dy v) % h) * w + (n % w + dx v) % w
theorem bnode_in {w h n v : Int} (hw : 1 ≤ w) (hh : 1 ≤ h) : 0 ≤ bnode w h n v ∧ bnode w h n v < w * h :=
  Pl.node_lt (Pl.mod_lo (by omega)) (Pl.mod_hi (by omega)) (Pl.mod_lo (by omega)) (Pl.mod_hi (by omega))
/-- is the line of a node on a way there? -/
def lineB (r d : ByteArray) (w h n v : Int) : Bool :=
  if v = 0 then bt d (bnode w h n 0) == 49 else if v = 1 then bt r n == 49 else if v = 2 then bt d n == 49 else bt r (bnode w h n 3) == 49
end Go.Proofs.Ytklnfjjpjkphiaa.Pure
