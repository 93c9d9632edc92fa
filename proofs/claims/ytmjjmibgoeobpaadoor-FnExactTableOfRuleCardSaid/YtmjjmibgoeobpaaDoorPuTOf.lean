/- The plain law of TableOfRule: for every text the program's table is the reference's; marks laid in it are found again. No condition. -/
import Derived.Test.YtmjjmibgoeobpaaDoorPAx1
import Derived.Test.YtmjjmibgoeobpaaDoorPAx2
import Derived.Test.YtmjjmibgoeobpaaDoorPAx3
import Derived.Test.YtmjjmibgoeobpaaDoorPAx4
import Derived.Test.YtmjjmibgoeobpaaDoorPuWorm
namespace Go.Proofs.YtmjjmibgoeobpaaDoor.Pure
open Go.RowKit Go.Proofs.YtmjjmibgoeobpaaDoor Go.Proofs.YtmjjmibgoeobpaaDoor.PA Go.Proofs.YtmjjmibgoeobpaaDoorW.PrintWords Go.Proofs.YtmjjmibgoeobpaaDoorW.PrintLast
set_option linter.unusedVariables false
set_option linter.unusedSimpArgs false

abbrev R1 := S39
theorem rd1 {l : List R1} {i : Int} (h : i.toNat < l.length) : rd_T39 l i = l[i.toNat] := by
  simp [rd_T39, List.getD_eq_getElem?_getD, List.getElem?_eq_getElem h]
theorem rd1_set {l : List R1} {i j : Int} {v : R1} (hi : 0 ≤ i) (hl : i < l.length) (hj : 0 ≤ j) : rd_T39 (l.set i.toNat v) j = if j = i then v else rd_T39 l j := by
  unfold rd_T39
  rw [List.getD_eq_getElem?_getD, List.getD_eq_getElem?_getD, List.getElem?_set]
  by_cases e : j = i
  · subst e
    rw [if_pos rfl, if_pos (by omega), if_pos rfl]
    rfl
  · rw [if_neg (by omega), if_neg e]
theorem eqRow_self (a : Int) (b : ByteArray) (c : Int) : laws_eqRow.f a b c a b c = some true := by
  rw [laws_eqRow.f, if_pos rfl, if_pos rfl, if_pos rfl]
theorem eqRowS_l0 {l : List R1} (hl : l.length ≤ 1048576) (n : Nat) : ∀ i : Int, ((l.length : Int) - i).toNat = n → 0 ≤ i → i ≤ l.length → Ev (fun k => laws_eqRowS.l0 k l l i) true := by
  induction n with
  | zero =>
    intro i hn h0 h1
    refine Pl.ev_unf ⟨0, fun k _ => ?_⟩
    rw [laws_eqRowS.l0, if_neg (by omega)]
  | succ n ih =>
    intro i hn h0 h1
    obtain ⟨K, f⟩ := ih (i + 1) (by omega) (by omega) (by omega)
    have w1 : wrap64 (i + 1) = i + 1 := Pl.w64 (by omega) (by omega)
    refine Pl.ev_unf ⟨K, fun k hk => ?_⟩
    rw [laws_eqRowS.l0, if_pos (by omega), if_pos h0, if_pos (by omega), eqRow_self, Option.bind_some, if_pos rfl, w1]
    exact f k hk
theorem eqTable_self {l : List R1} (hl : l.length ≤ 1048576) (a0 a1 : Int) : Ev (fun k => laws_eqTable.f k a0 a1 l a0 a1 l) true := by
  obtain ⟨K, f⟩ := eqRowS_l0 hl _ 0 rfl (by omega) (by omega)
  refine ⟨K, fun k hk => ?_⟩
  have f : laws_eqRowS.l0 k l l 0 = some true := f k hk
  dsimp only
  rw [laws_eqTable.f, if_pos rfl, if_pos rfl, laws_eqRowS.f, if_pos rfl, f, Option.bind_some, if_pos rfl]
theorem marktext_l0 (n : Nat) : ∀ (x : Int) (s : ByteArray), x.toNat ≤ n → x ≤ 1000000000 → s.size + n ≤ 4000000000 → ∃ t, Ev (fun k => laws_markText.l0 k x s) t := by
  induction n with
  | zero =>
    intro x s hn hx hs
    refine ⟨(⟨#[109]⟩ : ByteArray) ++ s, Pl.ev_unf ⟨0, fun k _ => ?_⟩⟩
    rw [laws_markText.l0, if_neg (by omega), if_pos (by omega)]
  | succ n ih =>
    intro x s hn hx hs
    by_cases c : x > 0
    · have hd : Int.tdiv x 10 = x / 10 := Int.tdiv_eq_ediv_of_nonneg (by omega)
      have hw : wrap64 (Int.tdiv x 10) = x / 10 := by rw [hd]; exact Pl.w64 (by omega) (by omega)
      have hz : (strOfNums ([(wrap64 (48 + (Int.tmod x 10))) % 256] : List Int)).size = 1 := by
        rw [← data_length, strOfNums_data, List.length_map]
        rfl
      obtain ⟨t, ⟨K, f⟩⟩ := ih (x / 10) (strOfNums ([(wrap64 (48 + (Int.tmod x 10))) % 256] : List Int) ++ s) (by omega) (by omega) (by rw [ByteArray.size_append, hz]; omega)
      refine ⟨t, Pl.ev_unf ⟨K, fun k hk => ?_⟩⟩
      rw [laws_markText.l0, if_pos c, Option.bind_some, if_pos (by rw [hz]; omega), hw]
      exact f k hk
    · refine ⟨(⟨#[109]⟩ : ByteArray) ++ s, Pl.ev_unf ⟨0, fun k _ => ?_⟩⟩
      rw [laws_markText.l0, if_neg c, if_pos (by omega)]
theorem marktext_all : ∃ T : Int → ByteArray, ∀ x : Int, x ≤ 1000000000 → Ev (fun k => laws_markText.f k x) (T x) := by
  have h : ∀ x : Int, ∃ t, x ≤ 1000000000 → Ev (fun k => laws_markText.f k x) t := fun x => by
    by_cases c : x ≤ 1000000000
    · by_cases d : x ≤ 0
      · refine ⟨(⟨#[109, 48]⟩ : ByteArray), fun _ => ⟨0, fun k _ => ?_⟩⟩
        dsimp only
        rw [laws_markText.f, if_pos d]
      · obtain ⟨t, ⟨K, f⟩⟩ := marktext_l0 x.toNat x (⟨#[]⟩ : ByteArray) (Nat.le_refl _) c (by show 0 + _ ≤ _; omega)
        refine ⟨t, fun _ => ⟨K, fun k hk => ?_⟩⟩
        dsimp only
        rw [laws_markText.f, if_neg d]
        exact f k hk
    · exact ⟨(⟨#[]⟩ : ByteArray), fun h => absurd h c⟩
  exact ⟨fun x => Classical.choose (h x), fun x hx => Classical.choose_spec (h x) hx⟩
def rowT (T : Int → ByteArray) (a : Int) : R1 := ⟨a, T (a + 1), a + 2⟩
theorem mark_l0 {T : Int → ByteArray} (hT : ∀ x : Int, x ≤ 1000000000 → Ev (fun k => laws_markText.f k x) (T x)) (n : Nat) : ∀ (i a : Int) (l : List R1), ((l.length : Int) - i).toNat = n → 0 ≤ i → i ≤ l.length → l.length ≤ 1048576 → 0 ≤ a → a ≤ 1 + 3 * i →
    ∃ l', l'.length = l.length ∧ Ev (fun k => laws_markRowS.l0 k l a i) (a + 3 * n, l') ∧ (∀ j : Int, 0 ≤ j → j < i → rd_T39 l' j = rd_T39 l j) ∧ (∀ j : Int, i ≤ j → j < l.length → rd_T39 l' j = rowT T (a + 3 * (j - i))) := by
  induction n with
  | zero =>
    intro i a l hn h0 h1 hl a0 a1
    refine ⟨l, rfl, Pl.ev_unf ⟨0, fun k _ => ?_⟩, fun j _ _ => rfl, fun j j0 j1 => by omega⟩
    rw [laws_markRowS.l0, if_neg (by omega), show a + 3 * ((0 : Nat) : Int) = a by omega]
  | succ n ih =>
    intro i a l hn h0 h1 hl a0 a1
    obtain ⟨K1, f1⟩ := hT (a + 1) (by omega)
    have w1 : wrap64 (a + 1) = a + 1 := Pl.w64 (by omega) (by omega)
    have w2 : wrap64 (a + 1 + 1) = a + 2 := by rw [show a + 1 + 1 = a + 2 by omega]; exact Pl.w64 (by omega) (by omega)
    have w3 : wrap64 (a + 2 + 1) = a + 3 := by rw [show a + 2 + 1 = a + 3 by omega]; exact Pl.w64 (by omega) (by omega)
    have w4 : wrap64 (i + 1) = i + 1 := Pl.w64 (by omega) (by omega)
    obtain ⟨y1, hy1⟩ : ∃ y1 : List R1, y1 = l.set i.toNat (⟨a, (rd_T39 l i).f1, (rd_T39 l i).f2⟩ : R1) := ⟨_, rfl⟩
    have l1 : y1.length = l.length := by rw [hy1, List.length_set]
    obtain ⟨y2, hy2⟩ : ∃ y2 : List R1, y2 = y1.set i.toNat (⟨(rd_T39 y1 i).f0, T (a + 1), (rd_T39 y1 i).f2⟩ : R1) := ⟨_, rfl⟩
    have l2 : y2.length = l.length := by rw [hy2, List.length_set, l1]
    obtain ⟨y3, hy3⟩ : ∃ y3 : List R1, y3 = y2.set i.toNat (⟨(rd_T39 y2 i).f0, (rd_T39 y2 i).f1, a + 2⟩ : R1) := ⟨_, rfl⟩
    have l3 : y3.length = l.length := by rw [hy3, List.length_set, l2]
    have r1 : ∀ j : Int, 0 ≤ j → rd_T39 y1 j = if j = i then (⟨a, (rd_T39 l i).f1, (rd_T39 l i).f2⟩ : R1) else rd_T39 l j := fun j hj => by rw [hy1, rd1_set h0 (by omega) hj]
    have r2 : ∀ j : Int, 0 ≤ j → rd_T39 y2 j = if j = i then (⟨a, T (a + 1), (rd_T39 l i).f2⟩ : R1) else rd_T39 l j := fun j hj => by
      rw [hy2, rd1_set h0 (by omega) hj, r1 i h0, if_pos rfl, r1 j hj]
      by_cases e : j = i
      · rw [if_pos e, if_pos e]
      · rw [if_neg e, if_neg e, if_neg e]
    have r3 : ∀ j : Int, 0 ≤ j → rd_T39 y3 j = if j = i then rowT T a else rd_T39 l j := fun j hj => by
      rw [hy3, rd1_set h0 (by omega) hj, r2 i h0, if_pos rfl, r2 j hj]
      by_cases e : j = i
      · rw [if_pos e, if_pos e]
        rfl
      · rw [if_neg e, if_neg e, if_neg e]
    obtain ⟨l', hl', ⟨K2, f2⟩, hlo, hhi⟩ := ih (i + 1) (a + 3) y3 (by omega) (by omega) (by omega) (by omega) (by omega) (by omega)
    refine ⟨l', by rw [hl', l3], Pl.ev_unf ⟨K1 + K2, fun k hk => ?_⟩, fun j j0 j1 => ?_, fun j j0 j1 => ?_⟩
    · have f1 : laws_markText.f k (a + 1) = some (T (a + 1)) := f1 k (by omega)
      rw [laws_markRowS.l0, if_pos (by omega), if_pos h0, Option.bind_some, ← hy1, w1, f1, Option.bind_some, Option.bind_some, ← hy2, w2, ← hy3, w3, w4]
      have := f2 k (by omega)
      rw [show a + 3 * ((n + 1 : Nat) : Int) = a + 3 + 3 * (n : Int) by omega]
      exact this
    · rw [hlo j j0 (by omega), r3 j j0, if_neg (by omega)]
    · by_cases e : j = i
      · subst e
        rw [hlo j (by omega) (by omega), r3 j (by omega), if_pos rfl, show a + 3 * (j - j) = a by omega]
      · rw [hhi j (by omega) (by omega), show a + 3 + 3 * (j - (i + 1)) = a + 3 * (j - i) by omega]
theorem held_l0 {T : Int → ByteArray} (hT : ∀ x : Int, x ≤ 1000000000 → Ev (fun k => laws_markText.f k x) (T x)) {l : List R1} (hl : l.length ≤ 1048576) (n : Nat) : ∀ (i a : Int), ((l.length : Int) - i).toNat = n → 0 ≤ i → i ≤ l.length → 0 ≤ a → a ≤ 1 + 3 * i → (∀ j : Int, i ≤ j → j < l.length → rd_T39 l j = rowT T (a + 3 * (j - i))) → Ev (fun k => laws_heldRowS.l0 k l a i) (a + 3 * n) := by
  induction n with
  | zero =>
    intro i a hn h0 h1 a0 a1 hj
    refine Pl.ev_unf ⟨0, fun k _ => ?_⟩
    rw [laws_heldRowS.l0, if_neg (by omega), show a + 3 * ((0 : Nat) : Int) = a by omega]
  | succ n ih =>
    intro i a hn h0 h1 a0 a1 hj
    obtain ⟨K1, f1⟩ := hT (a + 1) (by omega)
    have w1 : wrap64 (a + 1) = a + 1 := Pl.w64 (by omega) (by omega)
    have w2 : wrap64 (a + 1 + 1) = a + 2 := by rw [show a + 1 + 1 = a + 2 by omega]; exact Pl.w64 (by omega) (by omega)
    have w3 : wrap64 (a + 2 + 1) = a + 3 := by rw [show a + 2 + 1 = a + 3 by omega]; exact Pl.w64 (by omega) (by omega)
    have w4 : wrap64 (i + 1) = i + 1 := Pl.w64 (by omega) (by omega)
    have hi := hj i (by omega) (by omega)
    rw [show a + 3 * (i - i) = a by omega] at hi
    obtain ⟨K2, f2⟩ := ih (i + 1) (a + 3) (by omega) (by omega) (by omega) (by omega) (by omega) (fun j j0 j1 => by
      rw [hj j (by omega) j1, show a + 3 + 3 * (j - (i + 1)) = a + 3 * (j - i) by omega])
    refine Pl.ev_unf ⟨K1 + K2, fun k hk => ?_⟩
    have f1 : laws_markText.f k (a + 1) = some (T (a + 1)) := f1 k (by omega)
    rw [laws_heldRowS.l0, if_pos (by omega), if_pos h0, hi, w1, w2, w3, w4, if_pos (show (rowT T a).f0 = a from rfl), f1, Option.bind_some, if_pos (show (rowT T a).f1.toList = (T (a + 1)).toList from rfl), if_pos (show (rowT T a).f2 = a + 2 from rfl), show a + 3 * ((n + 1 : Nat) : Int) = a + 3 + 3 * (n : Int) by omega]
    exact f2 k (by omega)
/-- marks laid in rows are found again -/
theorem mark_rows {l : List R1} (hl : l.length ≤ 1048576) : ∃ l', l'.length = l.length ∧ Ev (fun k => laws_markRowS.f k l 1) (1 + 3 * (l.length : Int), l') ∧ Ev (fun k => laws_heldRowS.f k l' 1) (1 + 3 * (l.length : Int)) := by
  obtain ⟨T, hT⟩ := marktext_all
  obtain ⟨l', e, ⟨K, f⟩, _, hh⟩ := mark_l0 hT l.length 0 1 l (by omega) (by omega) (by omega) hl (by omega) (by omega)
  obtain ⟨K2, f2⟩ := held_l0 hT (l := l') (by omega) l.length 0 1 (by omega) (by omega) (by omega) (by omega) (by omega) (fun j j0 j1 => hh j j0 (by omega))
  exact ⟨l', e, ⟨K, f⟩, ⟨K2, f2⟩⟩
/-! rules -/
def SgW (b : Int) : Prop := b = 76 ∨ b = 82 ∨ b = 78 ∨ b = 85
def AllR (s : ByteArray) (i : Int) : Prop := ∀ j : Int, i ≤ j → j < s.size → SgW (bt s j)
structure RuleP (s : ByteArray) : Prop where
  lo : 1 ≤ (s.size : Int)
  hi : (s.size : Int) ≤ 6
  al : AllR s 0
theorem allR_end {s : ByteArray} {i : Int} (h : s.size ≤ i) : AllR s i := fun j h1 h2 => by omega
theorem allR_step {s : ByteArray} {i : Int} (h : SgW (bt s i)) : AllR s i ↔ AllR s (i + 1) := by
  refine ⟨fun hb j h1 h2 => hb j (by omega) h2, fun hb j h1 h2 => ?_⟩
  by_cases e : j = i
  · rw [e]; exact h
  · exact hb j (by omega) h2
theorem woRule_l0 {s : ByteArray} (hs : s.size ≤ 1000) (n : Nat) : ∀ i : Int, ((s.size : Int) - i).toNat = n → 0 ≤ i → i ≤ s.size → ∃ b, Ev (fun k => spec_woRule.l0 k s i) b ∧ (b = true ↔ AllR s i) := by
  induction n with
  | zero =>
    intro i hn h0 h1
    refine ⟨true, Pl.ev_unf ⟨0, fun k _ => ?_⟩, ⟨fun _ => allR_end (by omega), fun _ => rfl⟩⟩
    rw [spec_woRule.l0, if_neg (by omega)]
  | succ n ih =>
    intro i hn h0 h1
    obtain ⟨b, ⟨K, hK⟩, hb⟩ := ih (i + 1) (by omega) (by omega) (by omega)
    have w1 : wrap64 (i + 1) = i + 1 := Pl.w64 (by omega) (by omega)
    by_cases c : SgW (bt s i)
    · refine ⟨b, Pl.ev_unf ⟨K, fun k hk => ?_⟩, by rw [hb, allR_step c]⟩
      have e : spec_woRule.l0 k s (i + 1) = some b := hK k hk
      rw [spec_woRule.l0, if_pos (by omega), if_pos h0, w1, e]
      rcases c with c | c | c | c <;> simp [c]
    · refine ⟨false, Pl.ev_unf ⟨0, fun k hk => ?_⟩, ⟨fun h => (by cases h), fun h => absurd (h i (by omega) (by omega)) c⟩⟩
      unfold SgW at c
      rw [spec_woRule.l0, if_pos (by omega), if_pos h0, if_neg (by omega), if_neg (by omega), if_neg (by omega), if_neg (by omega)]
theorem spec_rule (s : ByteArray) : ∃ b, Ev (fun k => spec_woRule.f k s) b ∧ (b = true ↔ RuleP s) := by
  by_cases hl : 1 ≤ (s.size : Int) ∧ (s.size : Int) ≤ 6
  · obtain ⟨b, ⟨K, hK⟩, hb⟩ := woRule_l0 (s := s) (by omega) _ 0 rfl (by omega) (by omega)
    refine ⟨b, ⟨K, fun k hk => ?_⟩, hb.trans ⟨fun h => ⟨hl.1, hl.2, h⟩, fun h => h.al⟩⟩
    have e : spec_woRule.l0 k s 0 = some b := hK k hk
    dsimp only; rw [spec_woRule.f, l1In_t hl.1 hl.2, Option.bind_some, if_pos rfl, e]
  · refine ⟨false, ⟨0, fun k hk => ?_⟩, ⟨fun h => (by cases h), fun g => absurd ⟨g.lo, g.hi⟩ hl⟩⟩
    dsimp only; rw [spec_woRule.f, l1In_f (by omega), Option.bind_some, if_neg (by simp)]

theorem dw_nil {p : UInt8 → Bool} : ∀ l : List UInt8, l.dropWhile p = [] ↔ ∀ x ∈ l, p x = true
  | [] => by simp
  | a :: l => by
    have ih := dw_nil (p := p) l
    by_cases h : p a = true
    · simp [List.dropWhile_cons, h, ih]
    · simp [List.dropWhile_cons, h]
theorem dw_head {p : UInt8 → Bool} : ∀ (l : List UInt8) {a : UInt8} {m : List UInt8}, l.dropWhile p = a :: m → p a = false
  | [], _, _, h => by simp at h
  | b :: l, a, m, h => by
    by_cases hb : p b = true
    · rw [List.dropWhile_cons, if_pos hb] at h
      exact dw_head l h
    · rw [List.dropWhile_cons, if_neg hb] at h
      injection h with h1 _
      rw [← h1]
      simpa using hb
theorem trim_nil (l cs : List UInt8) : Lib.trimS l cs = [] ↔ ∀ x ∈ l, cs.contains x = true := by
  unfold Lib.trimS Lib.trimLeftS Lib.trimRightS
  rw [dw_nil]
  constructor
  · intro h
    cases hm : l.reverse.dropWhile (cs.contains ·) with
    | nil =>
      intro x hx
      exact (dw_nil (p := (cs.contains ·)) l.reverse).1 hm x (by simpa using hx)
    | cons a m =>
      have h1 := dw_head l.reverse hm
      have h2 := h a (by rw [hm]; simp)
      rw [h1] at h2
      cases h2
  · intro h x hx
    rw [(dw_nil (p := (cs.contains ·)) l.reverse).2 (fun y hy => h y (by simpa using hy))] at hx
    simp at hx
theorem signs_mem (b : UInt8) : ([76, 82, 78, 85] : List UInt8).contains b = true ↔ SgW (b.toNat : Int) := by
  have en : ∀ n : UInt8, (b.toNat : Int) = (n.toNat : Int) ↔ b = n := fun n => ⟨fun e => UInt8.toNat_inj.1 (by omega), fun e => by rw [e]⟩
  have e1 := en 76
  have e2 := en 82
  have e3 := en 78
  have e4 := en 85
  have a1 : (((76 : UInt8).toNat : Nat) : Int) = 76 := rfl
  have a2 : (((82 : UInt8).toNat : Nat) : Int) = 82 := rfl
  have a3 : (((78 : UInt8).toNat : Nat) : Int) = 78 := rfl
  have a4 : (((85 : UInt8).toNat : Nat) : Int) = 85 := rfl
  rw [a1] at e1
  rw [a2] at e2
  rw [a3] at e3
  rw [a4] at e4
  unfold SgW
  rw [e1, e2, e3, e4]
  simp only [List.contains_iff_mem, List.mem_cons, List.not_mem_nil, or_false]
theorem all_bytes {s : ByteArray} {p : Int → Prop} : (∀ x ∈ s.data.toList, p (x.toNat : Int)) ↔ ∀ j : Int, 0 ≤ j → j < s.size → p (bt s j) := by
  constructor
  · intro h j h0 h1
    have hj : j.toNat < s.size := by omega
    have := h (s[j.toNat]'hj) (by
      have : s[j.toNat]'hj = s.data.toList[j.toNat]'(by simpa using hj) := rfl
      rw [this]
      exact List.getElem_mem _)
    rw [bt_at s j hj] at this
    exact this
  · intro h x hx
    obtain ⟨n, hn, rfl⟩ := List.getElem_of_mem hx
    have hn' : n < s.size := by simpa using hn
    have := h (n : Int) (by omega) (by omega)
    have e := bt_at s (n : Int) (by simpa using hn')
    rw [← e] at this
    exact this
theorem impl_rule (s : ByteArray) : ∃ b, impl_IsRule.f s = some b ∧ (b = true ↔ RuleP s) := by
  by_cases hl : 1 ≤ (s.size : Int) ∧ (s.size : Int) ≤ 6
  · have ht : strings_Trim.f s (⟨#[76, 82, 78, 85]⟩ : ByteArray) = some ⟨(Lib.trimS s.data.toList [76, 82, 78, 85]).toArray⟩ := by
      unfold strings_Trim.f
      rw [if_pos (by omega), if_pos rfl]
    refine ⟨_, by rw [impl_IsRule.f, within_t hl.1 hl.2, Option.bind_some, if_pos rfl, ht, Option.bind_some], ?_⟩
    rw [beq_iff_eq, Pl.toList_data]
    show Lib.trimS s.data.toList [76, 82, 78, 85] = [] ↔ _
    rw [trim_nil]
    constructor
    · intro h
      exact ⟨hl.1, hl.2, fun j h0 h1 => (all_bytes (p := SgW)).1 (fun x hx => (signs_mem x).1 (h x hx)) j h0 h1⟩
    · intro g x hx
      exact (signs_mem x).2 ((all_bytes (p := SgW)).2 (fun j h0 h1 => g.al j h0 h1) x hx)
  · refine ⟨false, by rw [impl_IsRule.f, within_f (by omega), Option.bind_some, if_neg (by simp)], ⟨fun h => (by cases h), fun g => absurd ⟨g.lo, g.hi⟩ hl⟩⟩


theorem tor_l0 {s : ByteArray} (g : RuleP s) (n : Nat) : ∀ (i : Int) (acc : List R1), ((s.size : Int) - i).toNat = n → 0 ≤ i → i ≤ s.size → (acc.length : Int) = i → ∃ r : List R1, r.length ≤ 6 ∧ Ev (fun k => spec_TableOfRule.l0 k s s 1 s.size acc i 0) (1, (s.size : Int), r, true) ∧ Ev (fun k => impl_TableOfRule.l0 k s s.size i 1 s.size acc) (1, (s.size : Int), r, true) := by
  have hi := g.hi
  induction n with
  | zero =>
    intro i acc hn h0 h1 hl
    refine ⟨acc, by omega, Pl.ev_unf ⟨0, fun k _ => ?_⟩, Pl.ev_unf ⟨0, fun k _ => ?_⟩⟩
    · rw [spec_TableOfRule.l0, if_neg (by omega)]
    · rw [impl_TableOfRule.l0, if_neg (by omega)]
  | succ n ih =>
    intro i acc hn h0 h1 hl
    have w1 : wrap64 (i + 1) = i + 1 := Pl.w64 (by omega) (by omega)
    have hb : bt s i < 128 := by
      have := g.al i h0 (by omega)
      unfold SgW at this
      omega
    obtain ⟨r, hr, ⟨K1, f1⟩, ⟨K2, f2⟩⟩ := ih (i + 1) (acc ++ [(⟨Int.tmod (i + 1) (s.size : Int), s.extract i.toNat (i + 1).toNat, 0⟩ : R1)]) (by omega) (by omega) (by omega) (by rw [List.length_append, List.length_singleton]; omega)
    refine ⟨r, hr, Pl.ev_unf ⟨K1, fun k hk => ?_⟩, Pl.ev_unf ⟨K2, fun k hk => ?_⟩⟩
    · have e := f1 k hk
      dsimp only at e
      rw [spec_TableOfRule.l0, w1, if_pos (by omega), if_neg (by omega), if_pos ⟨h0, hb⟩, if_pos (by omega), if_pos (by omega), if_pos (by omega)]
      exact e
    · have e := f2 k hk
      dsimp only at e
      rw [impl_TableOfRule.l0, w1, if_pos (by omega), if_neg (by omega), if_pos h0, if_pos (by omega), if_pos (by omega), if_pos (by omega)]
      exact e
theorem tor_both (s : ByteArray) : ∃ a b r c, r.length ≤ 6 ∧ Ev (fun k => spec_TableOfRule.f k s) (a, b, r, c) ∧ Ev (fun k => impl_TableOfRule.f k s) (a, b, r, c) := by
  obtain ⟨b1, ⟨K1, e1⟩, h1⟩ := spec_rule s
  obtain ⟨b2, e2, h2⟩ := impl_rule s
  have hb : b2 = b1 := by
    cases b1 <;> cases b2 <;> simp_all
  subst hb
  by_cases c : b2 = true ∧ (s.size : Int) ≤ 4
  · obtain ⟨rfl, hc⟩ := c
    have g := h1.1 rfl
    obtain ⟨r, hr, ⟨K3, f3⟩, ⟨K4, f4⟩⟩ := tor_l0 g _ 0 [] rfl (by omega) (by omega) rfl
    refine ⟨1, s.size, r, true, hr, ⟨K1 + K3 + 1, fun k hk => ?_⟩, ⟨K1 + K4 + 1, fun k hk => ?_⟩⟩
    · obtain ⟨q, rfl⟩ : ∃ q, k = q + 1 := ⟨k - 1, by omega⟩
      have e := e1 (q + 1) (by omega)
      have f := f3 q (by omega)
      dsimp only at e f ⊢
      rw [spec_TableOfRule.f, e, Option.bind_some, if_pos rfl, decide_eq_false (by omega), spec_TableOfRule.j0, if_neg (by simp)]
      exact f
    · obtain ⟨q, rfl⟩ : ∃ q, k = q + 1 := ⟨k - 1, by omega⟩
      have f := f4 q (by omega)
      dsimp only at f ⊢
      rw [impl_TableOfRule.f, e2, Option.bind_some, if_pos rfl, decide_eq_false (by omega), impl_TableOfRule.j0, if_neg (by simp)]
      exact f
  · refine ⟨0, 0, [], false, by simp, ⟨K1 + 1, fun k hk => ?_⟩, ⟨1, fun k hk => ?_⟩⟩
    · obtain ⟨q, rfl⟩ : ∃ q, k = q + 1 := ⟨k - 1, by omega⟩
      have e := e1 (q + 1) (by omega)
      dsimp only at e ⊢
      rw [spec_TableOfRule.f, e, Option.bind_some]
      cases b2 with
      | true =>
        rw [if_pos rfl, decide_eq_true (by have : ¬ (s.size : Int) ≤ 4 := fun h => c ⟨rfl, h⟩; omega), spec_TableOfRule.j0, if_pos rfl]
      | false => rw [if_neg (by simp), spec_TableOfRule.j0, if_pos rfl]
    · obtain ⟨q, rfl⟩ : ∃ q, k = q + 1 := ⟨k - 1, by omega⟩
      dsimp only
      rw [impl_TableOfRule.f, e2, Option.bind_some]
      cases b2 with
      | true =>
        rw [if_pos rfl, decide_eq_true (by have : ¬ (s.size : Int) ≤ 4 := fun h => c ⟨rfl, h⟩; omega), impl_TableOfRule.j0, if_pos rfl]
      | false => rw [if_neg (by simp), impl_TableOfRule.j0, if_pos rfl]
theorem FnExactTableOfRule (a0 : ByteArray) (h0 : a0.size ≤ maxLen) : ∃ k, laws_FnExactTableOfRule.f k a0 = some true := by
  by_cases hs : (a0.size : Int) ≤ 1048576
  · obtain ⟨x, y, r, c, hr, ⟨K1, e1⟩, ⟨K2, e2⟩⟩ := tor_both a0
    obtain ⟨K3, e3⟩ := eqTable_self (l := r) (by omega) x y
    obtain ⟨r', hr', ⟨K4, e4⟩, ⟨K5, e5⟩⟩ := mark_rows (l := r) (by omega)
    obtain ⟨K, hK⟩ : ∃ K, K = K1 + K2 + K3 + K4 + K5 := ⟨_, rfl⟩
    have g3 : spec_TableOfRule.f (K + 2) a0 = some (x, y, r, c) := e1 (K + 2) (by omega)
    have g4 : ∀ k, K ≤ k → impl_TableOfRule.f k a0 = some (x, y, r, c) := fun k hk => e2 k (by omega)
    have g5 : ∀ k, K ≤ k → laws_eqTable.f k x y r x y r = some true := fun k hk => e3 k (by omega)
    have g8 : laws_markTable.f (K + 1) x y r 1 = some (1 + 3 * (r.length : Int), r') := by
      have f8 : laws_markRowS.f (K + 1) r 1 = some (1 + 3 * (r.length : Int), r') := e4 (K + 1) (by omega)
      rw [laws_markTable.f, f8, Option.bind_some]
    have g9 : ∀ k, K ≤ k → laws_heldTable.f k x y r' 1 = some (1 + 3 * (r.length : Int)) := fun k hk => by
      have f9 : laws_heldRowS.f k r' 1 = some (1 + 3 * (r.length : Int)) := e5 k (by omega)
      rw [laws_heldTable.f, f9, Option.bind_some, if_neg (by omega)]
    refine ⟨K + 2, ?_⟩
    rw [laws_FnExactTableOfRule.f, if_neg (by omega), g3, g4 (K + 2) (by omega)]
    simp only [Option.bind_some]
    rw [g5 (K + 2) (by omega), Option.bind_some, if_pos rfl, bne_self_eq_false, laws_FnExactTableOfRule.j0, if_neg (by simp), g8]
    simp only [Option.bind_some]
    rw [g9 (K + 1) (by omega), Option.bind_some, if_neg (by omega), if_pos rfl, g4 (K + 1) (by omega)]
    simp only [Option.bind_some]
    rw [g5 (K + 1) (by omega), Option.bind_some, if_pos rfl, bne_self_eq_false, laws_FnExactTableOfRule.j1, if_neg (by simp), g9 K (by omega), Option.bind_some, if_neg (by omega), if_pos rfl]
  · refine ⟨0, ?_⟩
    rw [laws_FnExactTableOfRule.f, if_pos (by omega)]

end Go.Proofs.YtmjjmibgoeobpaaDoor.Pure
