/- Plain lemmas: marks laid in a table's rows are found again. No condition. -/
import Derived.Test.YtoaekaehpnjpaaaDoorPGx7
import Derived.Test.YtoaekaehpnjpaaaDoorPGx8
import Derived.Test.YtoaekaehpnjpaaaDoorGPuTab
namespace Go.Proofs.YtoaekaehpnjpaaaDoor.Pure
open Go.RowKit Go.Proofs.YtoaekaehpnjpaaaDoor Go.Proofs.YtoaekaehpnjpaaaDoor.PG Go.Proofs.YtoaekaehpnjpaaaDoorW.PrintWords Go.Proofs.YtoaekaehpnjpaaaDoorW.PrintLast
set_option linter.unusedVariables false
set_option linter.unusedSimpArgs false

theorem marktext_l0 (n : Nat) : ∀ (x : Int) (s : ByteArray), x.toNat ≤ n → x ≤ 1000000000 → s.size + n ≤ 4000000000 → ∃ t, Ev (fun k => laws_markText.l0 k x s) t := by
  induction n with
  | zero =>
    intro x s hn hx hs
    refine ⟨(⟨#[109]⟩ : ByteArray) ++ s, Pl.ev_unf ⟨0, fun k _ => ?_⟩⟩
    rw [laws_markText.l0, if_neg (by omega), if_pos (by omega)]
  | succ n ih =>
    intro x s hn hx hs
    by_cases c : x > 0
    · have hd : Int.tdiv x 10 = x / 10 := Int.tdiv_eq_ediv_of_nonneg (by omega)
      have hw : wrap64 (Int.tdiv x 10) = x / 10 := by rw [hd]; exact Pl.w64 (by omega) (by omega)
      have hz : (strOfNums ([(wrap64 (48 + (Int.tmod x 10))) % 256] : List Int)).size = 1 := by
        rw [← data_length, strOfNums_data, List.length_map]
        rfl
      obtain ⟨t, ⟨K, f⟩⟩ := ih (x / 10) (strOfNums ([(wrap64 (48 + (Int.tmod x 10))) % 256] : List Int) ++ s) (by omega) (by omega) (by rw [ByteArray.size_append, hz]; omega)
      refine ⟨t, Pl.ev_unf ⟨K, fun k hk => ?_⟩⟩
      rw [laws_markText.l0, if_pos c, Option.bind_some, if_pos (by rw [hz]; omega), hw]
      exact f k hk
    · refine ⟨(⟨#[109]⟩ : ByteArray) ++ s, Pl.ev_unf ⟨0, fun k _ => ?_⟩⟩
      rw [laws_markText.l0, if_neg c, if_pos (by omega)]
theorem marktext_all : ∃ T : Int → ByteArray, ∀ x : Int, x ≤ 1000000000 → Ev (fun k => laws_markText.f k x) (T x) := by
  have h : ∀ x : Int, ∃ t, x ≤ 1000000000 → Ev (fun k => laws_markText.f k x) t := fun x => by
    by_cases c : x ≤ 1000000000
    · by_cases d : x ≤ 0
      · refine ⟨(⟨#[109, 48]⟩ : ByteArray), fun _ => ⟨0, fun k _ => ?_⟩⟩
        dsimp only
        rw [laws_markText.f, if_pos d]
      · obtain ⟨t, ⟨K, f⟩⟩ := marktext_l0 x.toNat x (⟨#[]⟩ : ByteArray) (Nat.le_refl _) c (by show 0 + _ ≤ _; omega)
        refine ⟨t, fun _ => ⟨K, fun k hk => ?_⟩⟩
        dsimp only
        rw [laws_markText.f, if_neg d]
        exact f k hk
    · exact ⟨(⟨#[]⟩ : ByteArray), fun h => absurd h c⟩
  exact ⟨fun x => Classical.choose (h x), fun x hx => Classical.choose_spec (h x) hx⟩
def rowT (T : Int → ByteArray) (a : Int) : R1 := ⟨a, T (a + 1), a + 2⟩
theorem mark_l0 {T : Int → ByteArray} (hT : ∀ x : Int, x ≤ 1000000000 → Ev (fun k => laws_markText.f k x) (T x)) (n : Nat) : ∀ (i a : Int) (l : List R1), ((l.length : Int) - i).toNat = n → 0 ≤ i → i ≤ l.length → l.length ≤ 1048576 → 0 ≤ a → a ≤ 1 + 3 * i →
    ∃ l', l'.length = l.length ∧ Ev (fun k => laws_markRowS.l0 k l a i) (a + 3 * n, l') ∧ (∀ j : Int, 0 ≤ j → j < i → rd_T36 l' j = rd_T36 l j) ∧ (∀ j : Int, i ≤ j → j < l.length → rd_T36 l' j = rowT T (a + 3 * (j - i))) := by
  induction n with
  | zero =>
    intro i a l hn h0 h1 hl a0 a1
    refine ⟨l, rfl, Pl.ev_unf ⟨0, fun k _ => ?_⟩, fun j _ _ => rfl, fun j j0 j1 => by omega⟩
    rw [laws_markRowS.l0, if_neg (by omega), show a + 3 * ((0 : Nat) : Int) = a by omega]
  | succ n ih =>
    intro i a l hn h0 h1 hl a0 a1
    obtain ⟨K1, f1⟩ := hT (a + 1) (by omega)
    have w1 : wrap64 (a + 1) = a + 1 := Pl.w64 (by omega) (by omega)
    have w2 : wrap64 (a + 1 + 1) = a + 2 := by rw [show a + 1 + 1 = a + 2 by omega]; exact Pl.w64 (by omega) (by omega)
    have w3 : wrap64 (a + 2 + 1) = a + 3 := by rw [show a + 2 + 1 = a + 3 by omega]; exact Pl.w64 (by omega) (by omega)
    have w4 : wrap64 (i + 1) = i + 1 := Pl.w64 (by omega) (by omega)
    obtain ⟨y1, hy1⟩ : ∃ y1 : List R1, y1 = l.set i.toNat (⟨a, (rd_T36 l i).f1, (rd_T36 l i).f2⟩ : R1) := ⟨_, rfl⟩
    have l1 : y1.length = l.length := by rw [hy1, List.length_set]
    obtain ⟨y2, hy2⟩ : ∃ y2 : List R1, y2 = y1.set i.toNat (⟨(rd_T36 y1 i).f0, T (a + 1), (rd_T36 y1 i).f2⟩ : R1) := ⟨_, rfl⟩
    have l2 : y2.length = l.length := by rw [hy2, List.length_set, l1]
    obtain ⟨y3, hy3⟩ : ∃ y3 : List R1, y3 = y2.set i.toNat (⟨(rd_T36 y2 i).f0, (rd_T36 y2 i).f1, a + 2⟩ : R1) := ⟨_, rfl⟩
    have l3 : y3.length = l.length := by rw [hy3, List.length_set, l2]
    have r1 : ∀ j : Int, 0 ≤ j → rd_T36 y1 j = if j = i then (⟨a, (rd_T36 l i).f1, (rd_T36 l i).f2⟩ : R1) else rd_T36 l j := fun j hj => by rw [hy1, rd1_set h0 (by omega) hj]
    have r2 : ∀ j : Int, 0 ≤ j → rd_T36 y2 j = if j = i then (⟨a, T (a + 1), (rd_T36 l i).f2⟩ : R1) else rd_T36 l j := fun j hj => by
      rw [hy2, rd1_set h0 (by omega) hj, r1 i h0, if_pos rfl, r1 j hj]
      by_cases e : j = i
      · rw [if_pos e, if_pos e]
      · rw [if_neg e, if_neg e, if_neg e]
    have r3 : ∀ j : Int, 0 ≤ j → rd_T36 y3 j = if j = i then rowT T a else rd_T36 l j := fun j hj => by
      rw [hy3, rd1_set h0 (by omega) hj, r2 i h0, if_pos rfl, r2 j hj]
      by_cases e : j = i
      · rw [if_pos e, if_pos e]
        rfl
      · rw [if_neg e, if_neg e, if_neg e]
    obtain ⟨l', hl', ⟨K2, f2⟩, hlo, hhi⟩ := ih (i + 1) (a + 3) y3 (by omega) (by omega) (by omega) (by omega) (by omega) (by omega)
    refine ⟨l', by rw [hl', l3], Pl.ev_unf ⟨K1 + K2, fun k hk => ?_⟩, fun j j0 j1 => ?_, fun j j0 j1 => ?_⟩
    · have f1 : laws_markText.f k (a + 1) = some (T (a + 1)) := f1 k (by omega)
      rw [laws_markRowS.l0, if_pos (by omega), if_pos h0, Option.bind_some, ← hy1, w1, f1, Option.bind_some, Option.bind_some, ← hy2, w2, ← hy3, w3, w4]
      have := f2 k (by omega)
      rw [show a + 3 * ((n + 1 : Nat) : Int) = a + 3 + 3 * (n : Int) by omega]
      exact this
    · rw [hlo j j0 (by omega), r3 j j0, if_neg (by omega)]
    · by_cases e : j = i
      · subst e
        rw [hlo j (by omega) (by omega), r3 j (by omega), if_pos rfl, show a + 3 * (j - j) = a by omega]
      · rw [hhi j (by omega) (by omega), show a + 3 + 3 * (j - (i + 1)) = a + 3 * (j - i) by omega]
theorem held_l0 {T : Int → ByteArray} (hT : ∀ x : Int, x ≤ 1000000000 → Ev (fun k => laws_markText.f k x) (T x)) {l : List R1} (hl : l.length ≤ 1048576) (n : Nat) : ∀ (i a : Int), ((l.length : Int) - i).toNat = n → 0 ≤ i → i ≤ l.length → 0 ≤ a → a ≤ 1 + 3 * i → (∀ j : Int, i ≤ j → j < l.length → rd_T36 l j = rowT T (a + 3 * (j - i))) → Ev (fun k => laws_heldRowS.l0 k l a i) (a + 3 * n) := by
  induction n with
  | zero =>
    intro i a hn h0 h1 a0 a1 hj
    refine Pl.ev_unf ⟨0, fun k _ => ?_⟩
    rw [laws_heldRowS.l0, if_neg (by omega), show a + 3 * ((0 : Nat) : Int) = a by omega]
  | succ n ih =>
    intro i a hn h0 h1 a0 a1 hj
    obtain ⟨K1, f1⟩ := hT (a + 1) (by omega)
    have w1 : wrap64 (a + 1) = a + 1 := Pl.w64 (by omega) (by omega)
    have w2 : wrap64 (a + 1 + 1) = a + 2 := by rw [show a + 1 + 1 = a + 2 by omega]; exact Pl.w64 (by omega) (by omega)
    have w3 : wrap64 (a + 2 + 1) = a + 3 := by rw [show a + 2 + 1 = a + 3 by omega]; exact Pl.w64 (by omega) (by omega)
    have w4 : wrap64 (i + 1) = i + 1 := Pl.w64 (by omega) (by omega)
    have hi := hj i (by omega) (by omega)
    rw [show a + 3 * (i - i) = a by omega] at hi
    obtain ⟨K2, f2⟩ := ih (i + 1) (a + 3) (by omega) (by omega) (by omega) (by omega) (by omega) (fun j j0 j1 => by
      rw [hj j (by omega) j1, show a + 3 + 3 * (j - (i + 1)) = a + 3 * (j - i) by omega])
    refine Pl.ev_unf ⟨K1 + K2, fun k hk => ?_⟩
    have f1 : laws_markText.f k (a + 1) = some (T (a + 1)) := f1 k (by omega)
    rw [laws_heldRowS.l0, if_pos (by omega), if_pos h0, hi, w1, w2, w3, w4, if_pos (show (rowT T a).f0 = a from rfl), f1, Option.bind_some, if_pos (show (rowT T a).f1.toList = (T (a + 1)).toList from rfl), if_pos (show (rowT T a).f2 = a + 2 from rfl), show a + 3 * ((n + 1 : Nat) : Int) = a + 3 + 3 * (n : Int) by omega]
    exact f2 k (by omega)
/-- marks laid in rows are found again -/
theorem mark_rows {l : List R1} (hl : l.length ≤ 1048576) : ∃ l', l'.length = l.length ∧ Ev (fun k => laws_markRowS.f k l 1) (1 + 3 * (l.length : Int), l') ∧ Ev (fun k => laws_heldRowS.f k l' 1) (1 + 3 * (l.length : Int)) := by
  obtain ⟨T, hT⟩ := marktext_all
  obtain ⟨l', e, ⟨K, f⟩, _, hh⟩ := mark_l0 hT l.length 0 1 l (by omega) (by omega) (by omega) hl (by omega) (by omega)
  obtain ⟨K2, f2⟩ := held_l0 hT (l := l') (by omega) l.length 0 1 (by omega) (by omega) (by omega) (by omega) (by omega) (fun j j0 j1 => hh j j0 (by omega))
  exact ⟨l', e, ⟨K, f⟩, ⟨K2, f2⟩⟩
/-! rules -/

end Go.Proofs.YtoaekaehpnjpaaaDoor.Pure
