/- Plain lemmas: a worm eats one line: both sides choose the same line and leave the same worm. No program in sight. No condition. -/
import Derived.Test.YtgifhfkpfgpagaaPIx2
import Derived.Test.YtgifhfkpfgpagaaPIx3
import Derived.Test.YtgifhfkpfgpagaaPIx4
import Derived.Test.YtgifhfkpfgpagaaPIx6
import Derived.Test.YtgifhfkpfgpagaaIPuWorm2
import Derived.Test.YtgifhfkpfgpagaaIPuTaste
namespace Go.Proofs.Ytgifhfkpfgpagaa.Pure
open Go.RowKit Go.Proofs.Ytgifhfkpfgpagaa Go.Proofs.Ytgifhfkpfgpagaa.PI Go.Proofs.YtgifhfkpfgpagaaW.PrintWords Go.Proofs.YtgifhfkpfgpagaaW.PrintLast
set_option linter.unusedVariables false
set_option linter.unusedSimpArgs false

def tq (b : Int) : Int := if b = 82 then 1 else if b = 85 then 2 else if b = 76 then 3 else 0
theorem tq_in (b : Int) : 0 ≤ tq b ∧ tq b ≤ 3 := by
  unfold tq
  split
  · omega
  · split
    · omega
    · split <;> omega
theorem woTurn_val (b : Int) : spec_woTurn.f b = some (tq b) := by
  unfold spec_woTurn.f tq
  by_cases h1 : b = 82
  · rw [if_pos h1, if_pos h1]
  · rw [if_neg h1, if_neg h1]
    by_cases h2 : b = 85
    · rw [if_pos h2, if_pos h2]
    · rw [if_neg h2, if_neg h2]
      by_cases h3 : b = 76
      · rw [if_pos h3, if_pos h3]
      · rw [if_neg h3, if_neg h3]
theorem quarters_val (b : Int) : impl_quarters.f b = some (tq b) := by
  by_cases h1 : b = 82
  · subst h1
    rfl
  · by_cases h2 : b = 85
    · subst h2
      rfl
    · by_cases h3 : b = 76
      · subst h3
        rfl
      · simp [impl_quarters.f, tq, h1, h2, h3]

/-- a worm, of any lines -/
structure StW (w h : Int) (r d : ByteArray) (x y v : Int) : Prop where
  w3 : 3 ≤ w
  w6 : w ≤ 6
  h3 : 3 ≤ h
  h6 : h ≤ 6
  rs : (r.size : Int) = w * h
  ds : (d.size : Int) = w * h
  x0 : 0 ≤ x
  xw : x < w
  y0 : 0 ≤ y
  yh : y < h
  v0 : 0 ≤ v
  v3 : v ≤ 3
theorem st_good {w h : Int} {r d : ByteArray} {x y v : Int} (g : GoodW w h r d x y v) : StW w h r d x y v := ⟨g.w3, g.w6, g.h3, g.h6, g.rs, g.ds, g.x0, g.xw, g.y0, g.yh, g.v0, g.v3⟩
theorem st_eat {w h : Int} {r d : ByteArray} {x y v a n c : Int} (g : StW w h r d x y v) (a0 : 0 ≤ a) (a3 : a ≤ 3) : StW w h (setR r w h n a c) (setD d w h n a c) ((x + dx a) % w) ((y + dy a) % h) a := by
  obtain ⟨w3, w6, h3, h6, rs, ds, x0, xw, y0, yh, v0, v3⟩ := g
  exact ⟨w3, w6, h3, h6, by rw [setR_size]; exact rs, by rw [setD_size]; exact ds, Pl.mod_lo (by omega), Pl.mod_hi (by omega), Pl.mod_lo (by omega), Pl.mod_hi (by omega), a0, a3⟩

def eatS (w h : Int) (r d : ByteArray) (x y v : Int) (s : ByteArray) : Option (Int × Int) → ByteArray × Int × Int × ByteArray × ByteArray × Int × Int × Int
  | none => ((⟨#[]⟩ : ByteArray), w, h, r, d, x, y, v)
  | some (j, a) => (s.extract j.toNat (j + 1).toNat, w, h, setR r w h (y * w + x) a (48 + 0), setD d w h (y * w + x) a (48 + 0), (x + dx a) % w, (y + dy a) % h, a)
def eatI (w h : Int) (r d : ByteArray) (x y v : Int) (s : ByteArray) : Option (Int × Int) → Int × Int × ByteArray × ByteArray × Int × Int × Int × Int × Bool
  | none => (0, 0, (⟨#[]⟩ : ByteArray), (⟨#[]⟩ : ByteArray), 0, 0, 0, 0, false)
  | some (j, a) => (w, h, setR r w h (y * w + x) a (48 + 0), setD d w h (y * w + x) a (48 + 0), (x + dx a) % w, (y + dy a) % h, a, bt s j, true)

theorem eat_l {w h : Int} {r d : ByteArray} {x y v : Int} {s : ByteArray} (g : StW w h r d x y v) (hs : ∀ j : Int, 0 ≤ j → j < s.size → bt s j < 128) (hl : s.size ≤ 9223372036854775807) (n : Nat) :
    ∀ i : Int, ((s.size : Int) - i).toNat < n → 0 ≤ i → i ≤ s.size → ∃ o, spec_wmEat.l w h r d x y v s n i = some (eatS w h r d x y v s o) ∧ impl_Worm_eat.l w h r d x y v s (y * w + x) n i = some (eatI w h r d x y v s o) ∧
      ∀ j a, o = some (j, a) → 0 ≤ j ∧ j < s.size ∧ 0 ≤ a ∧ a ≤ 3 ∧ lineB r d w h (y * w + x) a = true := by
  induction n with
  | zero => intro i h0; omega
  | succ n ih =>
    intro i hn h0 h1
    unfold spec_wmEat.l impl_Worm_eat.l
    by_cases hi : i < (s.size : Int)
    · obtain ⟨w3, w6, h3, h6, rs, ds, x0, xw, y0, yh, v0, v3⟩ := g
      have hq := tq_in (bt s i)
      have ha : Int.tmod (wrap64 (v + tq (bt s i))) 4 = (v + tq (bt s i)) % 4 := by rw [Pl.w64 (by omega) (by omega), Pl.tmod_nn (by omega)]
      have a0 : 0 ≤ (v + tq (bt s i)) % 4 := by omega
      have a3 : (v + tq (bt s i)) % 4 ≤ 3 := by omega
      rw [if_pos hi, if_pos hi, if_pos (hs i h0 hi), woTurn_val, quarters_val]
      simp only [Option.bind_some, ha]
      generalize (v + tq (bt s i)) % 4 = a at a0 a3
      have n1 := Pl.node_lt x0 xw y0 yh
      have hsz : (r.size : Int) ≤ 1000000 := by
        obtain ⟨m0, m1⟩ := Pl.mul_in (a := w) (b := h) (A := 6) (B := 6) (by omega) w6 (by omega) h6
        omega
      have eh := has_val (wx := x) (wy := y) (way := v) (v := a) (w := w) (h := h) (by omega) (by omega) (by omega) (by omega) rs ds x0 xw y0 yh a0 a3
      have et := there_val (x := x) (y := y) (way := v) (n := y * w + x) (v := a) (w := w) (h := h) (by omega) (by omega) (by omega) (by omega) rs ds n1.1 n1.2 a0 a3
      rw [eh, et]
      simp only [Option.bind_some]
      cases hb : lineB r d w h (y * w + x) a with
      | false =>
        rw [if_neg (by simp), if_neg (by simp)]
        obtain ⟨o, o1, o2, o3⟩ := ih (i + 1) (by omega) (by omega) (by omega)
        exact ⟨o, o1, o2, o3⟩
      | true =>
        rw [if_pos rfl, if_pos rfl]
        have es := set_val (wx := x) (wy := y) (wv := v) (v := a) (c := 48 + 0) (u := 48) (w := w) (h := h) (by omega) (by omega) (by omega) (by omega) rs ds hsz x0 xw y0 yh a0 a3 rfl
        have eg := go_val (w := w) (h := h) (r := setR r w h (y * w + x) a (48 + 0)) (d := setD d w h (y * w + x) a (48 + 0)) (wv := a) (v := a) (b := 1) (by omega) (by omega) (by omega) (by omega) x0 xw y0 yh a0 a3 (.inl rfl)
        have em := made_val (wx := x) (wy := y) (wv := v) (n := y * w + x) (v := a) (t := 0) (w := w) (h := h) (by omega) (by omega) (by omega) (by omega) rs ds n1.1 n1.2 a0 a3 (by omega) (by omega)
        have eb := beside_val (r := r) (d := d) (x := x) (y := y) (way := v) (n := y * w + x) (v := a) (w := w) (h := h) (by omega) (by omega) (by omega) (by omega) n1.1 n1.2 a0 a3
        have b1 := bnode_in (w := w) (h := h) (n := y * w + x) (v := a) (by omega) (by omega)
        have p1 : Int.tmod (bnode w h (y * w + x) a) w = (x + dx a) % w := by rw [Pl.tmod_nn b1.1, bnode_mod (by omega), Pl.node_mod x0 xw]
        have p2 : wrap64 (Int.tdiv (bnode w h (y * w + x) a) w) = (y + dy a) % h := by
          have q0 := Pl.mod_lo (a := y + dy a) (b := h) (by omega)
          have q1 := Pl.mod_hi (a := y + dy a) (b := h) (by omega)
          rw [Pl.tdiv_nn b1.1, bnode_div (by omega), Pl.node_div x0 xw, Pl.w64 (by omega) (by omega)]
        rw [es, em, eb]
        simp only [Option.bind_some]
        rw [eg, if_neg (by omega), p1, p2]
        simp only [Option.bind_some, Int.one_mul]
        refine ⟨some (i, a), rfl, rfl, fun j b he => ?_⟩
        obtain ⟨rfl, rfl⟩ := Prod.mk.inj (Option.some.inj he)
        exact ⟨h0, hi, a0, a3, hb⟩
    · rw [if_neg hi, if_neg hi]
      exact ⟨none, rfl, rfl, fun j a he => by cases he⟩

theorem eat_both {w h : Int} {r d : ByteArray} {x y v : Int} {s : ByteArray} (g : StW w h r d x y v) (hs : ∀ j : Int, 0 ≤ j → j < s.size → bt s j < 128) (hl : s.size ≤ 9223372036854775807) :
    ∃ o, spec_wmEat.f w h r d x y v s = some (eatS w h r d x y v s o) ∧ impl_Worm_eat.f w h r d x y v s = some (eatI w h r d x y v s o) ∧
      ∀ j a, o = some (j, a) → 0 ≤ j ∧ j < s.size ∧ 0 ≤ a ∧ a ≤ 3 ∧ lineB r d w h (y * w + x) a = true := by
  obtain ⟨o, o1, o2, o3⟩ := eat_l g hs hl (s.size + 1) 0 (by omega) (by omega) (by omega)
  refine ⟨o, ?_, ?_, o3⟩
  · unfold spec_wmEat.f
    rw [if_pos hl]
    exact o1
  · unfold impl_Worm_eat.f
    rw [if_pos hl, node_val (by have := g.w3; omega) (by have := g.w6; omega) (by have := g.h6; omega) g.x0 g.xw g.y0 g.yh]
    exact o2

theorem one_sign {s : ByteArray} {j : Int} (h0 : 0 ≤ j) (h1 : j < s.size) : ¬ (s.extract j.toNat (j + 1).toNat).toList = ([] : List UInt8) := by
  intro h
  rw [Pl.toList_data] at h
  have hl : (s.extract j.toNat (j + 1).toNat).data.toList.length = 1 := by
    rw [data_length, ByteArray.size_extract]
    omega
  rw [h] at hl
  cases hl
theorem no_sign : (⟨#[]⟩ : ByteArray).toList = ([] : List UInt8) := by rw [Pl.toList_data]

/-- is there a worm and a taste? -/
theorem asked_both (w h : Int) (r d : ByteArray) (x y v : Int) (s : ByteArray) (hr : r.size ≤ 9223372036854775807) (hd : d.size ≤ 9223372036854775807) :
    ∃ b, Ev (fun k => spec_wmAsked.f k w h r d x y v s) b ∧ Ev (fun k => impl_isTasting.f k w h r d x y v s) b ∧ (b = true → StW w h r d x y v ∧ (∀ j : Int, 0 ≤ j → j < s.size → bt s j < 128) ∧ s.size = 3) := by
  obtain ⟨b1, ⟨K1, e1⟩, ⟨K2, e2⟩, hb1⟩ := good_both w h r d x y v hr hd
  obtain ⟨b2, ⟨K3, e3⟩, ⟨K4, e4⟩, hb2⟩ := taste_both' s
  cases b1 with
  | false =>
    refine ⟨false, ⟨K1, fun k hk => ?_⟩, ⟨K2, fun k hk => ?_⟩, fun h => (by cases h)⟩
    · have e1 := e1 k hk
      simp (disch := omega) only [↓reduceIte, Pl.lt_t, Pl.lt_f, Pl.le_t, Pl.le_f, Pl.ge_t, Pl.ge_f, Pl.gt_t, Pl.gt_f, Pl.eq_t, Pl.eq_f, Pl.nlt_t, Pl.nle_t, Pl.w64, Option.bind_some, Bool.false_eq_true, decide_eq_true_eq, spec_wmAsked.f, ↓Pl.bnd e1, e1]
    · have e2 := e2 k hk
      simp (disch := omega) only [↓reduceIte, Pl.lt_t, Pl.lt_f, Pl.le_t, Pl.le_f, Pl.ge_t, Pl.ge_f, Pl.gt_t, Pl.gt_f, Pl.eq_t, Pl.eq_f, Pl.nlt_t, Pl.nle_t, Pl.w64, Option.bind_some, Bool.false_eq_true, decide_eq_true_eq, impl_isTasting.f, ↓Pl.bnd e2, e2]
  | true =>
    refine ⟨b2, ⟨K1 + K3, fun k hk => ?_⟩, ⟨K2 + K4, fun k hk => ?_⟩, fun h => ⟨st_good (hb1.1 rfl), ?_⟩⟩
    · have e1 := e1 k (by omega)
      have e3 := e3 k (by omega)
      simp (disch := omega) only [↓reduceIte, Pl.lt_t, Pl.lt_f, Pl.le_t, Pl.le_f, Pl.ge_t, Pl.ge_f, Pl.gt_t, Pl.gt_f, Pl.eq_t, Pl.eq_f, Pl.nlt_t, Pl.nle_t, Pl.w64, Option.bind_some, Bool.false_eq_true, decide_eq_true_eq, spec_wmAsked.f, ↓Pl.bnd e1, e1, ↓Pl.bnd e3, e3]
    · have e2 := e2 k (by omega)
      have e4 := e4 k (by omega)
      simp (disch := omega) only [↓reduceIte, Pl.lt_t, Pl.lt_f, Pl.le_t, Pl.le_f, Pl.ge_t, Pl.ge_f, Pl.gt_t, Pl.gt_f, Pl.eq_t, Pl.eq_f, Pl.nlt_t, Pl.nle_t, Pl.w64, Option.bind_some, Bool.false_eq_true, decide_eq_true_eq, impl_isTasting.f, ↓Pl.bnd e2, e2, ↓Pl.bnd e4, e4]
    · have hm := hb2 h
      have key : ∀ (u1 u2 u3 : UInt8), u1.toNat < 128 → u2.toNat < 128 → u3.toNat < 128 → (∀ j : Int, 0 ≤ j → j < ((⟨#[u1, u2, u3]⟩ : ByteArray).size : Int) → bt (⟨#[u1, u2, u3]⟩ : ByteArray) j < 128) ∧ (⟨#[u1, u2, u3]⟩ : ByteArray).size = 3 := by
        intro u1 u2 u3 g1 g2 g3
        refine ⟨fun j j0 j1 => ?_, rfl⟩
        have j1 : j < 3 := j1
        have : j = 0 ∨ j = 1 ∨ j = 2 := by omega
        rcases this with rfl | rfl | rfl
        · show (u1.toNat : Int) < 128; omega
        · show (u2.toNat : Int) < 128; omega
        · show (u3.toNat : Int) < 128; omega
      simp only [List.mem_cons, List.not_mem_nil, or_false] at hm
      rcases hm with rfl | rfl | rfl | rfl | rfl | rfl <;> exact key _ _ _ (by decide) (by decide) (by decide)

end Go.Proofs.Ytgifhfkpfgpagaa.Pure
