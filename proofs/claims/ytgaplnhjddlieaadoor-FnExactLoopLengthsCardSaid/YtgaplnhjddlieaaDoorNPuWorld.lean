/- Plain lemmas: worlds: which are worlds on both sides, and that a step of both sides leads to the same world. No program in sight. No condition. -/
import Derived.Test.YtgaplnhjddlieaaDoorPNx1
import Derived.Test.YtgaplnhjddlieaaDoorPNx3
import Derived.Test.YtgaplnhjddlieaaDoorPNx6
import Derived.Test.YtgaplnhjddlieaaDoorNPuWorm2
namespace Go.Proofs.YtgaplnhjddlieaaDoor.Pure
open Go.RowKit Go.Proofs.YtgaplnhjddlieaaDoor Go.Proofs.YtgaplnhjddlieaaDoor.PN Go.Proofs.YtgaplnhjddlieaaDoorW.PrintWords Go.Proofs.YtgaplnhjddlieaaDoorW.PrintLast
set_option linter.unusedVariables false
set_option linter.unusedSimpArgs false

/-! rules -/
def SgW (b : Int) : Prop := b = 76 ∨ b = 82 ∨ b = 78 ∨ b = 85
def AllR (s : ByteArray) (i : Int) : Prop := ∀ j : Int, i ≤ j → j < s.size → SgW (bt s j)
structure RuleP (s : ByteArray) : Prop where
  lo : 1 ≤ (s.size : Int)
  hi : (s.size : Int) ≤ 6
  al : AllR s 0
theorem allR_end {s : ByteArray} {i : Int} (h : s.size ≤ i) : AllR s i := fun j h1 h2 => by omega
theorem allR_step {s : ByteArray} {i : Int} (h : SgW (bt s i)) : AllR s i ↔ AllR s (i + 1) := by
  refine ⟨fun hb j h1 h2 => hb j (by omega) h2, fun hb j h1 h2 => ?_⟩
  by_cases e : j = i
  · rw [e]; exact h
  · exact hb j (by omega) h2
theorem woRule_l0 {s : ByteArray} (hs : s.size ≤ 1000) (n : Nat) : ∀ i : Int, ((s.size : Int) - i).toNat = n → 0 ≤ i → i ≤ s.size → ∃ b, Ev (fun k => spec_woRule.l0 k s i) b ∧ (b = true ↔ AllR s i) := by
  induction n with
  | zero =>
    intro i hn h0 h1
    refine ⟨true, Pl.ev_unf ⟨0, fun k _ => ?_⟩, ⟨fun _ => allR_end (by omega), fun _ => rfl⟩⟩
    rw [spec_woRule.l0, if_neg (by omega)]
  | succ n ih =>
    intro i hn h0 h1
    obtain ⟨b, ⟨K, hK⟩, hb⟩ := ih (i + 1) (by omega) (by omega) (by omega)
    have w1 : wrap64 (i + 1) = i + 1 := Pl.w64 (by omega) (by omega)
    by_cases c : SgW (bt s i)
    · refine ⟨b, Pl.ev_unf ⟨K, fun k hk => ?_⟩, by rw [hb, allR_step c]⟩
      have e : spec_woRule.l0 k s (i + 1) = some b := hK k hk
      rw [spec_woRule.l0, if_pos (by omega), if_pos h0, w1, e]
      rcases c with c | c | c | c <;> simp [c]
    · refine ⟨false, Pl.ev_unf ⟨0, fun k hk => ?_⟩, ⟨fun h => (by cases h), fun h => absurd (h i (by omega) (by omega)) c⟩⟩
      unfold SgW at c
      rw [spec_woRule.l0, if_pos (by omega), if_pos h0, if_neg (by omega), if_neg (by omega), if_neg (by omega), if_neg (by omega)]
theorem spec_rule (s : ByteArray) : ∃ b, Ev (fun k => spec_woRule.f k s) b ∧ (b = true ↔ RuleP s) := by
  by_cases hl : 1 ≤ (s.size : Int) ∧ (s.size : Int) ≤ 6
  · obtain ⟨b, ⟨K, hK⟩, hb⟩ := woRule_l0 (s := s) (by omega) _ 0 rfl (by omega) (by omega)
    refine ⟨b, ⟨K, fun k hk => ?_⟩, hb.trans ⟨fun h => ⟨hl.1, hl.2, h⟩, fun h => h.al⟩⟩
    have e : spec_woRule.l0 k s 0 = some b := hK k hk
    dsimp only; rw [spec_woRule.f, l1In_t hl.1 hl.2, Option.bind_some, if_pos rfl, e]
  · refine ⟨false, ⟨0, fun k hk => ?_⟩, ⟨fun h => (by cases h), fun g => absurd ⟨g.lo, g.hi⟩ hl⟩⟩
    dsimp only; rw [spec_woRule.f, l1In_f (by omega), Option.bind_some, if_neg (by simp)]

theorem dw_nil {p : UInt8 → Bool} : ∀ l : List UInt8, l.dropWhile p = [] ↔ ∀ x ∈ l, p x = true
  | [] => by simp
  | a :: l => by
    have ih := dw_nil (p := p) l
    by_cases h : p a = true
    · simp [List.dropWhile_cons, h, ih]
    · simp [List.dropWhile_cons, h]
theorem dw_head {p : UInt8 → Bool} : ∀ (l : List UInt8) {a : UInt8} {m : List UInt8}, l.dropWhile p = a :: m → p a = false
  | [], _, _, h => by simp at h
  | b :: l, a, m, h => by
    by_cases hb : p b = true
    · rw [List.dropWhile_cons, if_pos hb] at h
      exact dw_head l h
    · rw [List.dropWhile_cons, if_neg hb] at h
      injection h with h1 _
      rw [← h1]
      simpa using hb
theorem trim_nil (l cs : List UInt8) : Lib.trimS l cs = [] ↔ ∀ x ∈ l, cs.contains x = true := by
  unfold Lib.trimS Lib.trimLeftS Lib.trimRightS
  rw [dw_nil]
  constructor
  · intro h
    cases hm : l.reverse.dropWhile (cs.contains ·) with
    | nil =>
      intro x hx
      exact (dw_nil (p := (cs.contains ·)) l.reverse).1 hm x (by simpa using hx)
    | cons a m =>
      have h1 := dw_head l.reverse hm
      have h2 := h a (by rw [hm]; simp)
      rw [h1] at h2
      cases h2
  · intro h x hx
    rw [(dw_nil (p := (cs.contains ·)) l.reverse).2 (fun y hy => h y (by simpa using hy))] at hx
    simp at hx
theorem signs_mem (b : UInt8) : ([76, 82, 78, 85] : List UInt8).contains b = true ↔ SgW (b.toNat : Int) := by
  have en : ∀ n : UInt8, (b.toNat : Int) = (n.toNat : Int) ↔ b = n := fun n => ⟨fun e => UInt8.toNat_inj.1 (by omega), fun e => by rw [e]⟩
  have e1 := en 76
  have e2 := en 82
  have e3 := en 78
  have e4 := en 85
  have a1 : (((76 : UInt8).toNat : Nat) : Int) = 76 := rfl
  have a2 : (((82 : UInt8).toNat : Nat) : Int) = 82 := rfl
  have a3 : (((78 : UInt8).toNat : Nat) : Int) = 78 := rfl
  have a4 : (((85 : UInt8).toNat : Nat) : Int) = 85 := rfl
  rw [a1] at e1
  rw [a2] at e2
  rw [a3] at e3
  rw [a4] at e4
  unfold SgW
  rw [e1, e2, e3, e4]
  simp only [List.contains_iff_mem, List.mem_cons, List.not_mem_nil, or_false]
theorem all_bytes {s : ByteArray} {p : Int → Prop} : (∀ x ∈ s.data.toList, p (x.toNat : Int)) ↔ ∀ j : Int, 0 ≤ j → j < s.size → p (bt s j) := by
  constructor
  · intro h j h0 h1
    have hj : j.toNat < s.size := by omega
    have := h (s[j.toNat]'hj) (by
      have : s[j.toNat]'hj = s.data.toList[j.toNat]'(by simpa using hj) := rfl
      rw [this]
      exact List.getElem_mem _)
    rw [bt_at s j hj] at this
    exact this
  · intro h x hx
    obtain ⟨n, hn, rfl⟩ := List.getElem_of_mem hx
    have hn' : n < s.size := by simpa using hn
    have := h (n : Int) (by omega) (by omega)
    have e := bt_at s (n : Int) (by simpa using hn')
    rw [← e] at this
    exact this
theorem impl_rule (s : ByteArray) : ∃ b, impl_IsRule.f s = some b ∧ (b = true ↔ RuleP s) := by
  by_cases hl : 1 ≤ (s.size : Int) ∧ (s.size : Int) ≤ 6
  · have ht : strings_Trim.f s (⟨#[76, 82, 78, 85]⟩ : ByteArray) = some ⟨(Lib.trimS s.data.toList [76, 82, 78, 85]).toArray⟩ := by
      unfold strings_Trim.f
      rw [if_pos (by omega), if_pos rfl]
    refine ⟨_, by rw [impl_IsRule.f, within_t hl.1 hl.2, Option.bind_some, if_pos rfl, ht, Option.bind_some], ?_⟩
    rw [beq_iff_eq, Pl.toList_data]
    show Lib.trimS s.data.toList [76, 82, 78, 85] = [] ↔ _
    rw [trim_nil]
    constructor
    · intro h
      exact ⟨hl.1, hl.2, fun j h0 h1 => (all_bytes (p := SgW)).1 (fun x hx => (signs_mem x).1 (h x hx)) j h0 h1⟩
    · intro g x hx
      exact (signs_mem x).2 ((all_bytes (p := SgW)).2 (fun j h0 h1 => g.al j h0 h1) x hx)
  · refine ⟨false, by rw [impl_IsRule.f, within_f (by omega), Option.bind_some, if_neg (by simp)], ⟨fun h => (by cases h), fun g => absurd ⟨g.lo, g.hi⟩ hl⟩⟩

/-! worlds -/
structure Wd where
  ru : ByteArray
  w : Int
  h : Int
  c : ByteArray
  x : Int
  y : Int
  v : Int
def CellsP (s : Wd) (i : Int) : Prop := ∀ j : Int, i ≤ j → j < s.c.size → 48 ≤ bt s.c j ∧ bt s.c j ≤ 47 + s.ru.size
structure GoodWd (s : Wd) : Prop where
  r1 : 1 ≤ (s.ru.size : Int)
  r6 : (s.ru.size : Int) ≤ 6
  ra : AllR s.ru 0
  w1 : 1 ≤ s.w
  w9 : s.w ≤ 9
  h1 : 1 ≤ s.h
  h9 : s.h ≤ 9
  cs : (s.c.size : Int) = s.w * s.h
  cb : CellsP s 0
  x0 : 0 ≤ s.x
  xw : s.x < s.w
  y0 : 0 ≤ s.y
  yh : s.y < s.h
  v0 : 0 ≤ s.v
  v3 : s.v ≤ 3
theorem cellsP_end {s : Wd} {i : Int} (h : s.c.size ≤ i) : CellsP s i := fun j h1 h2 => by omega
theorem cellsP_step {s : Wd} {i : Int} (h : 48 ≤ bt s.c i ∧ bt s.c i ≤ 47 + s.ru.size) : CellsP s i ↔ CellsP s (i + 1) := by
  refine ⟨fun hb j h1 h2 => hb j (by omega) h2, fun hb j h1 h2 => ?_⟩
  by_cases e : j = i
  · rw [e]; exact h
  · exact hb j (by omega) h2

def tq (b : Int) : Int := if b = 82 then 1 else if b = 85 then 2 else if b = 76 then 3 else 0
theorem tq_in (b : Int) : 0 ≤ tq b ∧ tq b ≤ 3 := by
  unfold tq
  split
  · omega
  · split
    · omega
    · split <;> omega
theorem woTurn_val (b : Int) : spec_woTurn.f b = some (tq b) := by
  unfold spec_woTurn.f tq
  by_cases h1 : b = 82
  · rw [if_pos h1, if_pos h1]
  · rw [if_neg h1, if_neg h1]
    by_cases h2 : b = 85
    · rw [if_pos h2, if_pos h2]
    · rw [if_neg h2, if_neg h2]
      by_cases h3 : b = 76
      · rw [if_pos h3, if_pos h3]
      · rw [if_neg h3, if_neg h3]
theorem quarters_val (b : Int) : impl_quarters.f b = some (tq b) := by
  by_cases h1 : b = 82
  · subst h1
    rfl
  · by_cases h2 : b = 85
    · subst h2
      rfl
    · by_cases h3 : b = 76
      · subst h3
        rfl
      · simp [impl_quarters.f, tq, h1, h2, h3]
/-- the ant's cell -/
def Wd.ac (s : Wd) : Int := s.y * s.w + s.x
def Wd.col (s : Wd) : Int := bt s.c s.ac - 48
def Wd.vN (s : Wd) : Int := (s.v + tq (bt s.ru s.col)) % 4
def Wd.nx (s : Wd) : Wd := ⟨s.ru, s.w, s.h, setB s.c s.ac (48 + (s.col + 1) % s.ru.size), (s.x + dx s.vN) % s.w, (s.y + dy s.vN) % s.h, s.vN⟩
structure AtW (s : Wd) : Prop where
  a0 : 0 ≤ s.ac
  a1 : s.ac < s.c.size
  a2 : s.ac < 81
  c0 : 0 ≤ s.col
  c1 : s.col < s.ru.size
  n0 : 0 ≤ s.vN
  n3 : s.vN ≤ 3
  p0 : 0 ≤ (s.col + 1) % s.ru.size
  p1 : (s.col + 1) % s.ru.size < s.ru.size
  m0 : 0 ≤ s.y * s.w
  m1 : s.y * s.w ≤ 81
theorem atW {s : Wd} (g : GoodWd s) : AtW s := by
  obtain ⟨a0, a1⟩ := Pl.node_lt g.x0 g.xw g.y0 g.yh
  obtain ⟨m0, m1⟩ := Pl.mul_in (a := s.w) (b := s.h) (A := 9) (B := 9) (by have := g.w1; omega) g.w9 (by have := g.h1; omega) g.h9
  obtain ⟨q0, q1⟩ := Pl.mul_in (a := s.y) (b := s.w) (A := 9) (B := 9) g.y0 (by have := g.yh; have := g.h9; omega) (by have := g.w1; omega) g.w9
  have cs := g.cs
  have hb := g.cb s.ac a0 (show s.y * s.w + s.x < _ by omega)
  have r1 := g.r1
  have v0 : 0 ≤ s.vN := Pl.mod_lo (by omega)
  have v3 : s.vN < 4 := Pl.mod_hi (by omega)
  exact ⟨a0, show s.y * s.w + s.x < _ by omega, show s.y * s.w + s.x < 81 by omega, show 0 ≤ bt s.c s.ac - 48 by omega, show bt s.c s.ac - 48 < _ by omega, v0, by omega, Pl.mod_lo (by omega), Pl.mod_hi (by omega), q0, by omega⟩
theorem good_nx {s : Wd} (g : GoodWd s) : GoodWd s.nx := by
  have a := atW g
  have r6 := g.r6
  have p1 := a.p1
  have p0 := a.p0
  have hsz : (s.nx.c.size : Int) = s.c.size := by
    show ((setB s.c s.ac (48 + (s.col + 1) % s.ru.size)).size : Int) = _
    rw [setB_size]
  have w1 := g.w1
  have h1 := g.h1
  refine ⟨g.r1, g.r6, g.ra, g.w1, g.w9, g.h1, g.h9, hsz.trans g.cs, fun j j0 j1 => ?_, Pl.mod_lo (by omega), Pl.mod_hi (by omega), Pl.mod_lo (by omega), Pl.mod_hi (by omega), a.n0, a.n3⟩
  rw [hsz] at j1
  show 48 ≤ bt (setB s.c s.ac (48 + (s.col + 1) % s.ru.size)) j ∧ bt (setB s.c s.ac (48 + (s.col + 1) % s.ru.size)) j ≤ 47 + s.ru.size
  have hg := g.cb j j0 j1
  have a0 := a.a0
  have a1 := a.a1
  rw [Pl.bt_rd, setB_bytes (by omega) (by omega)]
  have e : rd ((bytesOf s.c).set s.ac.toNat (48 + (s.col + 1) % s.ru.size)) j = if j = s.ac then 48 + (s.col + 1) % s.ru.size else rd (bytesOf s.c) j := by
    unfold rd
    rw [List.getD_eq_getElem?_getD, List.getD_eq_getElem?_getD, List.getElem?_set]
    by_cases hj : j = s.ac
    · rw [hj, if_pos rfl, if_pos (by rw [bytesOf_length]; omega), if_pos rfl]
      rfl
    · rw [if_neg (by omega), if_neg hj]
  rw [e]
  by_cases hj : j = s.ac
  · rw [if_pos hj]
    omega
  · rw [if_neg hj, ← Pl.bt_rd]
    exact hg
theorem at_impl {s : Wd} (g : GoodWd s) (v : Int) : impl_World_at.f s.ru s.w s.h s.c s.x s.y v = some s.ac := at_val g.w1 (by have := g.w9; omega) (by have := g.h9; omega) g.x0 g.xw g.y0 g.yh
theorem colour_impl {s : Wd} (g : GoodWd s) (v : Int) : impl_World_colour.f s.ru s.w s.h s.c s.x s.y v = some s.col := by
  have a := atW g
  have a0 := a.a0
  have hb := g.cb s.ac a.a0 a.a1
  have r6 := g.r6
  rw [impl_World_colour.f, at_impl g, Option.bind_some, if_pos a.a0, if_pos a.a1]
  show some ((bt s.c s.ac - 48) % 256) = some (bt s.c s.ac - 48)
  congr 1
  omega
theorem step_impl {s : Wd} (g : GoodWd s) : impl_World_step.f s.ru s.w s.h s.c s.x s.y s.v = some (s.nx.ru, s.nx.w, s.nx.h, s.nx.c, s.nx.x, s.nx.y, s.nx.v) := by
  have a := atW g
  have r1 := g.r1
  have r6 := g.r6
  have v0 := g.v0
  have v3 := g.v3
  have c0 := a.c0
  have c1 := a.c1
  have p0 := a.p0
  have p1 := a.p1
  have hq := tq_in (bt s.ru s.col)
  have ev : Int.tmod (wrap64 (s.v + tq (bt s.ru s.col))) 4 = s.vN := by rw [Pl.w64 (by omega) (by omega), Pl.tmod_nn (by omega)]; rfl
  have ec : Int.tmod (wrap64 (s.col + 1)) (s.ru.size : Int) = (s.col + 1) % s.ru.size := by rw [Pl.w64 (by omega) (by omega), Pl.tmod_nn (by omega)]
  have eg := gone_val (ru := s.ru) (c := setB s.c s.ac (48 + (s.col + 1) % s.ru.size)) (w := s.w) (h := s.h) (x := s.x) (y := s.y) (v := s.vN) (b := 1) g.w1 (by have := g.w9; omega) g.h1 (by have := g.h9; omega) g.x0 g.xw g.y0 g.yh a.n0 a.n3 (.inl rfl)
  rw [Int.one_mul, Int.one_mul] at eg
  rw [impl_World_step.f, colour_impl g, Option.bind_some, if_pos c0, if_pos c1, quarters_val, Option.bind_some, ev, at_impl g, Option.bind_some, if_neg (by omega), ec, painted_val a.a0 a.a1 p0 (by omega), Option.bind_some, eg]
  rfl
theorem colour_spec {s : Wd} (g : GoodWd s) : spec_woColour.f s.ru s.w s.h s.c s.x s.y s.v s.x s.y = some s.col := by
  have a := atW g
  have a0 := a.a0
  have m0 := a.m0
  have m1 := a.m1
  have x0 := g.x0
  have xw := g.xw
  have w9 := g.w9
  have hb := g.cb s.ac a.a0 a.a1
  have r6 := g.r6
  have e : wrap64 (wrap64 (s.y * s.w) + s.x) = s.ac := by
    rw [Pl.w64 (n := s.y * s.w) (by omega) (by omega), Pl.w64 (by omega) (by omega)]
    rfl
  rw [spec_woColour.f, e, if_pos a.a0, if_pos a.a1]
  show some ((bt s.c s.ac - 48) % 256) = some (bt s.c s.ac - 48)
  congr 1
  omega
theorem num_one {n : Int} (h0 : 0 ≤ n) (h1 : n ≤ 9) (k : Nat) : spec_l1Num.f (k + 1) n = some (strOfNums [48 + n]) := by
  have w : wrap64 (48 + n) % 256 = 48 + n := by rw [Pl.w64 (by omega) (by omega)]; omega
  rw [spec_l1Num.f, if_pos (by omega), w]
theorem str_byte {c : Int} (h0 : 0 ≤ c) (h1 : c ≤ 255) : strOfNums [c] = (⟨#[UInt8.ofNat c.toNat]⟩ : ByteArray) ∧ ((UInt8.ofNat c.toNat).toNat : Int) = c := by
  refine ⟨rfl, ?_⟩
  simp [UInt8.toNat_ofNat']
  omega
theorem paint_spec {s : Wd} (g : GoodWd s) (k : Nat) (v : Int) : spec_woPaint.f (k + 1) s.ru s.w s.h s.c s.x s.y v s.x s.y ((s.col + 1) % s.ru.size) = some (s.ru, s.w, s.h, setB s.c s.ac (48 + (s.col + 1) % s.ru.size), s.x, s.y, v) := by
  have a := atW g
  have a0 := a.a0
  have a1 := a.a1
  have m0 := a.m0
  have m1 := a.m1
  have x0 := g.x0
  have xw := g.xw
  have w9 := g.w9
  have r6 := g.r6
  have p0 := a.p0
  have p1 := a.p1
  have cs := g.cs
  obtain ⟨q0, q1⟩ := Pl.mul_in (a := s.w) (b := s.h) (A := 9) (B := 9) (by have := g.w1; omega) g.w9 (by have := g.h1; omega) g.h9
  have e : wrap64 (wrap64 (s.y * s.w) + s.x) = s.ac := by
    rw [Pl.w64 (n := s.y * s.w) (by omega) (by omega), Pl.w64 (by omega) (by omega)]
    rfl
  obtain ⟨e1, e2⟩ := str_byte (c := 48 + (s.col + 1) % s.ru.size) (by omega) (by omega)
  rw [spec_woPaint.f, num_one p0 (by omega), Option.bind_some, e, spec_woPaint.g, if_pos a0, if_pos a1, e1, if_pos (by show s.c.size + 1 ≤ _; omega), cut_set a0 a1 e2]
theorem go_spec {s : Wd} (g : GoodWd s) (c : ByteArray) {v : Int} (v0 : 0 ≤ v) (v3 : v ≤ 3) : spec_woGo.f s.ru s.w s.h c s.x s.y v 1 = some (s.ru, s.w, s.h, c, (s.x + dx v) % s.w, (s.y + dy v) % s.h, v) := by
  have w1 := g.w1
  have w9 := g.w9
  have h1 := g.h1
  have h9 := g.h9
  have x0 := g.x0
  have xw := g.xw
  have y0 := g.y0
  have yh := g.yh
  rcases way_cases v0 v3 with rfl | rfl | rfl | rfl
  · rw [spec_woGo.f, if_pos rfl, Pl.w64 (by omega) (by omega), l1Mod_val h1 (by omega) (by omega) (by omega), Option.bind_some, show dx 0 = 0 from rfl, show dy 0 = -1 from rfl, add0_mod x0 xw]
    rfl
  · rw [spec_woGo.f, if_neg (by omega), if_pos rfl, Pl.w64 (by omega) (by omega), l1Mod_val w1 (by omega) (by omega) (by omega), Option.bind_some, show dx 1 = 1 from rfl, show dy 1 = 0 from rfl, add0_mod y0 yh]
  · rw [spec_woGo.f, if_neg (by omega), if_neg (by omega), if_pos rfl, Pl.w64 (by omega) (by omega), l1Mod_val h1 (by omega) (by omega) (by omega), Option.bind_some, show dx 2 = 0 from rfl, show dy 2 = 1 from rfl, add0_mod x0 xw]
  · rw [spec_woGo.f, if_neg (by omega), if_neg (by omega), if_neg (by omega), Pl.w64 (by omega) (by omega), l1Mod_val w1 (by omega) (by omega) (by omega), Option.bind_some, show dx 3 = -1 from rfl, show dy 3 = 0 from rfl, add0_mod y0 yh]
    rfl
theorem step_spec {s : Wd} (g : GoodWd s) (k : Nat) : spec_woStep.f (k + 1) s.ru s.w s.h s.c s.x s.y s.v = some (s.nx.ru, s.nx.w, s.nx.h, s.nx.c, s.nx.x, s.nx.y, s.nx.v) := by
  have a := atW g
  have r1 := g.r1
  have r6 := g.r6
  have v0 := g.v0
  have v3 := g.v3
  have c0 := a.c0
  have c1 := a.c1
  have hq := tq_in (bt s.ru s.col)
  have ev : Int.tmod (wrap64 (s.v + tq (bt s.ru s.col))) 4 = s.vN := by rw [Pl.w64 (by omega) (by omega), Pl.tmod_nn (by omega)]; rfl
  have ec : Int.tmod (wrap64 (s.col + 1)) (s.ru.size : Int) = (s.col + 1) % s.ru.size := by rw [Pl.w64 (by omega) (by omega), Pl.tmod_nn (by omega)]
  rw [spec_woStep.f, colour_spec g, Option.bind_some, if_pos c0, if_pos c1, woTurn_val, Option.bind_some, ev, ec, paint_spec g, Option.bind_some, go_spec g _ a.n0 a.n3]
  rfl

end Go.Proofs.YtgaplnhjddlieaaDoor.Pure
