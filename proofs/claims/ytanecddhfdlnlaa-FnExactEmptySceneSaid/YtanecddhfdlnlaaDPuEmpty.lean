/- The plain law of EmptyScene: for every table, width and height the program's answer is the reference's; marks laid in what came in do not reach it, marks laid in it are found again. No condition. -/
import Derived.Test.YtanecddhfdlnlaaPDx2
import Derived.Test.YtanecddhfdlnlaaPDx3
import Derived.Test.YtanecddhfdlnlaaPDx4
import Derived.Test.YtanecddhfdlnlaaPDx5
import Derived.Test.YtanecddhfdlnlaaPDx6
import Derived.Test.YtanecddhfdlnlaaDPuTab
namespace Go.Proofs.Ytanecddhfdlnlaa.Pure
open Go.RowKit Go.Proofs.Ytanecddhfdlnlaa Go.Proofs.Ytanecddhfdlnlaa.PD Go.Proofs.YtanecddhfdlnlaaW.PrintWords Go.Proofs.YtanecddhfdlnlaaW.PrintLast
set_option linter.unusedVariables false
set_option linter.unusedSimpArgs false

theorem marktext_l0 (n : Nat) : ∀ (x : Int) (s : ByteArray), x.toNat ≤ n → x ≤ 1000000000 → s.size + n ≤ 4000000000 → ∃ t, Ev (fun k => laws_markText.l0 k x s) t := by
  induction n with
  | zero =>
    intro x s hn hx hs
    refine ⟨(⟨#[109]⟩ : ByteArray) ++ s, Pl.ev_unf ⟨0, fun k _ => ?_⟩⟩
    rw [laws_markText.l0, if_neg (by omega), if_pos (by omega)]
  | succ n ih =>
    intro x s hn hx hs
    by_cases c : x > 0
    · have hd : Int.tdiv x 10 = x / 10 := Int.tdiv_eq_ediv_of_nonneg (by omega)
      have hw : wrap64 (Int.tdiv x 10) = x / 10 := by rw [hd]; exact Pl.w64 (by omega) (by omega)
      have hz : (strOfNums ([(wrap64 (48 + (Int.tmod x 10))) % 256] : List Int)).size = 1 := by
        rw [← data_length, strOfNums_data, List.length_map]
        rfl
      obtain ⟨t, ⟨K, f⟩⟩ := ih (x / 10) (strOfNums ([(wrap64 (48 + (Int.tmod x 10))) % 256] : List Int) ++ s) (by omega) (by omega) (by rw [ByteArray.size_append, hz]; omega)
      refine ⟨t, Pl.ev_unf ⟨K, fun k hk => ?_⟩⟩
      rw [laws_markText.l0, if_pos c, Option.bind_some, if_pos (by rw [hz]; omega), hw]
      exact f k hk
    · refine ⟨(⟨#[109]⟩ : ByteArray) ++ s, Pl.ev_unf ⟨0, fun k _ => ?_⟩⟩
      rw [laws_markText.l0, if_neg c, if_pos (by omega)]
theorem marktext_all : ∃ T : Int → ByteArray, ∀ x : Int, x ≤ 1000000000 → Ev (fun k => laws_markText.f k x) (T x) := by
  have h : ∀ x : Int, ∃ t, x ≤ 1000000000 → Ev (fun k => laws_markText.f k x) t := fun x => by
    by_cases c : x ≤ 1000000000
    · by_cases d : x ≤ 0
      · refine ⟨(⟨#[109, 48]⟩ : ByteArray), fun _ => ⟨0, fun k _ => ?_⟩⟩
        dsimp only
        rw [laws_markText.f, if_pos d]
      · obtain ⟨t, ⟨K, f⟩⟩ := marktext_l0 x.toNat x (⟨#[]⟩ : ByteArray) (Nat.le_refl _) c (by show 0 + _ ≤ _; omega)
        refine ⟨t, fun _ => ⟨K, fun k hk => ?_⟩⟩
        dsimp only
        rw [laws_markText.f, if_neg d]
        exact f k hk
    · exact ⟨(⟨#[]⟩ : ByteArray), fun h => absurd h c⟩
  exact ⟨fun x => Classical.choose (h x), fun x hx => Classical.choose_spec (h x) hx⟩
def rowT (T : Int → ByteArray) (a : Int) : R1 := ⟨a, T (a + 1), a + 2⟩
theorem mark_l0 {T : Int → ByteArray} (hT : ∀ x : Int, x ≤ 1000000000 → Ev (fun k => laws_markText.f k x) (T x)) (n : Nat) : ∀ (i a : Int) (l : List R1), ((l.length : Int) - i).toNat = n → 0 ≤ i → i ≤ l.length → l.length ≤ 1048576 → 0 ≤ a → a ≤ 1 + 3 * i →
    ∃ l', l'.length = l.length ∧ Ev (fun k => laws_markRowS.l0 k l a i) (a + 3 * n, l') ∧ (∀ j : Int, 0 ≤ j → j < i → rd_T27 l' j = rd_T27 l j) ∧ (∀ j : Int, i ≤ j → j < l.length → rd_T27 l' j = rowT T (a + 3 * (j - i))) := by
  induction n with
  | zero =>
    intro i a l hn h0 h1 hl a0 a1
    refine ⟨l, rfl, Pl.ev_unf ⟨0, fun k _ => ?_⟩, fun j _ _ => rfl, fun j j0 j1 => by omega⟩
    rw [laws_markRowS.l0, if_neg (by omega), show a + 3 * ((0 : Nat) : Int) = a by omega]
  | succ n ih =>
    intro i a l hn h0 h1 hl a0 a1
    obtain ⟨K1, f1⟩ := hT (a + 1) (by omega)
    have w1 : wrap64 (a + 1) = a + 1 := Pl.w64 (by omega) (by omega)
    have w2 : wrap64 (a + 1 + 1) = a + 2 := by rw [show a + 1 + 1 = a + 2 by omega]; exact Pl.w64 (by omega) (by omega)
    have w3 : wrap64 (a + 2 + 1) = a + 3 := by rw [show a + 2 + 1 = a + 3 by omega]; exact Pl.w64 (by omega) (by omega)
    have w4 : wrap64 (i + 1) = i + 1 := Pl.w64 (by omega) (by omega)
    obtain ⟨y1, hy1⟩ : ∃ y1 : List R1, y1 = l.set i.toNat (⟨a, (rd_T27 l i).f1, (rd_T27 l i).f2⟩ : R1) := ⟨_, rfl⟩
    have l1 : y1.length = l.length := by rw [hy1, List.length_set]
    obtain ⟨y2, hy2⟩ : ∃ y2 : List R1, y2 = y1.set i.toNat (⟨(rd_T27 y1 i).f0, T (a + 1), (rd_T27 y1 i).f2⟩ : R1) := ⟨_, rfl⟩
    have l2 : y2.length = l.length := by rw [hy2, List.length_set, l1]
    obtain ⟨y3, hy3⟩ : ∃ y3 : List R1, y3 = y2.set i.toNat (⟨(rd_T27 y2 i).f0, (rd_T27 y2 i).f1, a + 2⟩ : R1) := ⟨_, rfl⟩
    have l3 : y3.length = l.length := by rw [hy3, List.length_set, l2]
    have r1 : ∀ j : Int, 0 ≤ j → rd_T27 y1 j = if j = i then (⟨a, (rd_T27 l i).f1, (rd_T27 l i).f2⟩ : R1) else rd_T27 l j := fun j hj => by rw [hy1, rd1_set h0 (by omega) hj]
    have r2 : ∀ j : Int, 0 ≤ j → rd_T27 y2 j = if j = i then (⟨a, T (a + 1), (rd_T27 l i).f2⟩ : R1) else rd_T27 l j := fun j hj => by
      rw [hy2, rd1_set h0 (by omega) hj, r1 i h0, if_pos rfl, r1 j hj]
      by_cases e : j = i
      · rw [if_pos e, if_pos e]
      · rw [if_neg e, if_neg e, if_neg e]
    have r3 : ∀ j : Int, 0 ≤ j → rd_T27 y3 j = if j = i then rowT T a else rd_T27 l j := fun j hj => by
      rw [hy3, rd1_set h0 (by omega) hj, r2 i h0, if_pos rfl, r2 j hj]
      by_cases e : j = i
      · rw [if_pos e, if_pos e]
        rfl
      · rw [if_neg e, if_neg e, if_neg e]
    obtain ⟨l', hl', ⟨K2, f2⟩, hlo, hhi⟩ := ih (i + 1) (a + 3) y3 (by omega) (by omega) (by omega) (by omega) (by omega) (by omega)
    refine ⟨l', by rw [hl', l3], Pl.ev_unf ⟨K1 + K2, fun k hk => ?_⟩, fun j j0 j1 => ?_, fun j j0 j1 => ?_⟩
    · have f1 : laws_markText.f k (a + 1) = some (T (a + 1)) := f1 k (by omega)
      rw [laws_markRowS.l0, if_pos (by omega), if_pos h0, Option.bind_some, ← hy1, w1, f1, Option.bind_some, Option.bind_some, ← hy2, w2, ← hy3, w3, w4]
      have := f2 k (by omega)
      rw [show a + 3 * ((n + 1 : Nat) : Int) = a + 3 + 3 * (n : Int) by omega]
      exact this
    · rw [hlo j j0 (by omega), r3 j j0, if_neg (by omega)]
    · by_cases e : j = i
      · subst e
        rw [hlo j (by omega) (by omega), r3 j (by omega), if_pos rfl, show a + 3 * (j - j) = a by omega]
      · rw [hhi j (by omega) (by omega), show a + 3 + 3 * (j - (i + 1)) = a + 3 * (j - i) by omega]
theorem held_l0 {T : Int → ByteArray} (hT : ∀ x : Int, x ≤ 1000000000 → Ev (fun k => laws_markText.f k x) (T x)) {l : List R1} (hl : l.length ≤ 1048576) (n : Nat) : ∀ (i a : Int), ((l.length : Int) - i).toNat = n → 0 ≤ i → i ≤ l.length → 0 ≤ a → a ≤ 1 + 3 * i → (∀ j : Int, i ≤ j → j < l.length → rd_T27 l j = rowT T (a + 3 * (j - i))) → Ev (fun k => laws_heldRowS.l0 k l a i) (a + 3 * n) := by
  induction n with
  | zero =>
    intro i a hn h0 h1 a0 a1 hj
    refine Pl.ev_unf ⟨0, fun k _ => ?_⟩
    rw [laws_heldRowS.l0, if_neg (by omega), show a + 3 * ((0 : Nat) : Int) = a by omega]
  | succ n ih =>
    intro i a hn h0 h1 a0 a1 hj
    obtain ⟨K1, f1⟩ := hT (a + 1) (by omega)
    have w1 : wrap64 (a + 1) = a + 1 := Pl.w64 (by omega) (by omega)
    have w2 : wrap64 (a + 1 + 1) = a + 2 := by rw [show a + 1 + 1 = a + 2 by omega]; exact Pl.w64 (by omega) (by omega)
    have w3 : wrap64 (a + 2 + 1) = a + 3 := by rw [show a + 2 + 1 = a + 3 by omega]; exact Pl.w64 (by omega) (by omega)
    have w4 : wrap64 (i + 1) = i + 1 := Pl.w64 (by omega) (by omega)
    have hi := hj i (by omega) (by omega)
    rw [show a + 3 * (i - i) = a by omega] at hi
    obtain ⟨K2, f2⟩ := ih (i + 1) (a + 3) (by omega) (by omega) (by omega) (by omega) (by omega) (fun j j0 j1 => by
      rw [hj j (by omega) j1, show a + 3 + 3 * (j - (i + 1)) = a + 3 * (j - i) by omega])
    refine Pl.ev_unf ⟨K1 + K2, fun k hk => ?_⟩
    have f1 : laws_markText.f k (a + 1) = some (T (a + 1)) := f1 k (by omega)
    rw [laws_heldRowS.l0, if_pos (by omega), if_pos h0, hi, w1, w2, w3, w4, if_pos (show (rowT T a).f0 = a from rfl), f1, Option.bind_some, if_pos (show (rowT T a).f1.toList = (T (a + 1)).toList from rfl), if_pos (show (rowT T a).f2 = a + 2 from rfl), show a + 3 * ((n + 1 : Nat) : Int) = a + 3 + 3 * (n : Int) by omega]
    exact f2 k (by omega)
/-- marks laid in rows are found again -/
theorem mark_rows {l : List R1} (hl : l.length ≤ 1048576) : ∃ l', l'.length = l.length ∧ Ev (fun k => laws_markRowS.f k l 1) (1 + 3 * (l.length : Int), l') ∧ Ev (fun k => laws_heldRowS.f k l' 1) (1 + 3 * (l.length : Int)) := by
  obtain ⟨T, hT⟩ := marktext_all
  obtain ⟨l', e, ⟨K, f⟩, _, hh⟩ := mark_l0 hT l.length 0 1 l (by omega) (by omega) (by omega) hl (by omega) (by omega)
  obtain ⟨K2, f2⟩ := held_l0 hT (l := l') (by omega) l.length 0 1 (by omega) (by omega) (by omega) (by omega) (by omega) (fun j j0 j1 => hh j j0 (by omega))
  exact ⟨l', e, ⟨K, f⟩, ⟨K2, f2⟩⟩
theorem zeros_l (n : Nat) : ∀ (m : Int) (s : ByteArray), m.toNat = n → 0 ≤ m → s.size + n ≤ 1000 → Ev (fun k => spec_woZeros.l0 k m s) (s ++ (⟨(Lib.repeatL [48] n).toArray⟩ : ByteArray)) := by
  induction n with
  | zero =>
    intro m s hm m0 hs
    refine Pl.ev_unf ⟨0, fun k _ => ?_⟩
    rw [spec_woZeros.l0, if_neg (by omega)]
    congr 1
    exact (ByteArray.append_empty).symm
  | succ n ih =>
    intro m s hm m0 hs
    obtain ⟨K, f⟩ := ih (m - 1) (s ++ (⟨#[48]⟩ : ByteArray)) (by omega) (by omega) (by rw [ByteArray.size_append]; show s.size + 1 + n ≤ 1000; omega)
    have w1 : wrap64 (m - 1) = m - 1 := Pl.w64 (by omega) (by omega)
    refine Pl.ev_unf ⟨K, fun k hk => ?_⟩
    have f : spec_woZeros.l0 k (m - 1) (s ++ (⟨#[48]⟩ : ByteArray)) = _ := f k hk
    rw [spec_woZeros.l0, if_pos (by omega), if_pos (by omega), w1, f]
    congr 1
    apply Pl.ba_ext
    simp [Lib.repeatL]
def sideB (a : Int) : Bool := decide (1 ≤ a) && decide (a ≤ 9)
theorem eqSc_self {l : List R1} (hl : l.length ≤ 1048576) (a0 a1 w h : Int) (s : ByteArray) (px py pw ps : Int) : Ev (fun k => laws_eqScene.f k a0 a1 l w h s px py pw ps a0 a1 l w h s px py pw ps) true := by
  obtain ⟨K, f⟩ := eqTable_self hl a0 a1
  refine ⟨K, fun k hk => ?_⟩
  have f : laws_eqTable.f k a0 a1 l a0 a1 l = some true := f k hk
  dsimp only
  rw [laws_eqScene.f, f, Option.bind_some, if_pos rfl, if_pos rfl, if_pos rfl, if_pos rfl, if_pos rfl, if_pos rfl, if_pos rfl, if_pos rfl]
theorem empty_both {l : List R1} (hl : l.length ≤ 1048576) (a0 a1 w h : Int) : ∃ (r0 r1 : Int) (L : List R1) (rw rh : Int) (s : ByteArray) (b : Bool), L.length ≤ 1048576 ∧ Ev (fun k => spec_EmptyScene.f k a0 a1 l w h) (r0, r1, L, rw, rh, s, 0, 0, 0, 0, b) ∧ Ev (fun k => impl_EmptyScene.f k a0 a1 l w h) (r0, r1, L, rw, rh, s, 0, 0, 0, 0, b) := by
  obtain ⟨⟨K, f⟩, g⟩ := tab_both hl a0 a1
  by_cases c : tabB a0 a1 l = true ∧ sideB w = true ∧ sideB h = true
  · obtain ⟨ct, cw, ch⟩ := c
    obtain ⟨d0, d1, d2, d3, d4, _⟩ := tab_dims ct
    have qp := Int.mul_pos (a := a0) (b := a1) (by omega) (by omega)
    rw [ct] at f g
    have cw' : 1 ≤ w ∧ w ≤ 9 := by simpa [sideB] using cw
    have ch' : 1 ≤ h ∧ h ≤ 9 := by simpa [sideB] using ch
    obtain ⟨m0, m1⟩ := Pl.mul_in (a := w) (b := h) (A := 9) (B := 9) (by omega) cw'.2 (by omega) ch'.2
    have ew : wrap64 (w * h) = w * h := Pl.w64 (by omega) (by omega)
    obtain ⟨K2, f2⟩ := zeros_l (w * h).toNat (w * h) (⟨#[]⟩ : ByteArray) rfl (by omega) (by show 0 + _ ≤ 1000; omega)
    have e4 : strings_Repeat.f (⟨#[48]⟩ : ByteArray) (w * h) = some ((⟨#[]⟩ : ByteArray) ++ (⟨(Lib.repeatL [48] (w * h).toNat).toArray⟩ : ByteArray)) := by
      unfold strings_Repeat.f
      rw [if_pos m0, if_pos (by omega), if_pos (by show 1 * _ ≤ _; omega)]
      congr 1
      first | done | (apply Pl.ba_ext; simp; done) | (apply Pl.ba_ext)
    generalize (⟨#[]⟩ : ByteArray) ++ (⟨(Lib.repeatL [48] (w * h).toNat).toArray⟩ : ByteArray) = s at f2 e4
    refine ⟨a0, a1, l, w, h, s, true, hl, ⟨K + K2 + 1, fun k hk => ?_⟩, ⟨1, fun k hk => ?_⟩⟩
    · have f : spec_taGood.f k a0 a1 l = some true := f k (by omega)
      obtain ⟨q, rfl⟩ : ∃ q, k = q + 1 := ⟨k - 1, by omega⟩
      have f2 : spec_woZeros.l0 q (w * h) (⟨#[]⟩ : ByteArray) = some s := f2 q (by omega)
      have i1 : spec_l1In.f w 1 9 = some true := (in_val w 1 9).trans (congrArg some cw)
      have i2 : spec_l1In.f h 1 9 = some true := (in_val h 1 9).trans (congrArg some ch)
      dsimp only
      rw [spec_EmptyScene.f, f, Option.bind_some, if_pos rfl, i1, Option.bind_some, if_pos rfl, i2, Option.bind_some, spec_EmptyScene.j0, if_neg (by simp), ew, spec_woZeros.f, f2, Option.bind_some, spec_taOwn.f, Option.bind_some, if_pos (by show 0 + l.length < _; omega)]
      rfl
    · obtain ⟨q, rfl⟩ : ∃ q, k = q + 1 := ⟨k - 1, by omega⟩
      have i1 : impl_within.f w 1 9 = some true := (within_val w 1 9).trans (congrArg some cw)
      have i2 : impl_within.f h 1 9 = some true := (within_val h 1 9).trans (congrArg some ch)
      dsimp only
      rw [impl_EmptyScene.f, g, Option.bind_some, if_pos rfl, impl_isSize.f, i1, Option.bind_some, if_pos rfl, i2, Option.bind_some, Option.bind_some, impl_EmptyScene.j0, if_neg (by simp), impl_Table_own.f, impl_Row_84.f, if_pos (by omega), if_pos (by omega), Option.bind_some, Option.bind_some, ew, e4, Option.bind_some]
  · refine ⟨0, 0, [], 0, 0, (⟨#[]⟩ : ByteArray), false, by simp, ⟨K + 1, fun k hk => ?_⟩, ⟨1, fun k hk => ?_⟩⟩
    · have f : spec_taGood.f k a0 a1 l = some (tabB a0 a1 l) := f k (by omega)
      obtain ⟨q, rfl⟩ : ∃ q, k = q + 1 := ⟨k - 1, by omega⟩
      have i1 : spec_l1In.f w 1 9 = some (sideB w) := in_val w 1 9
      have i2 : spec_l1In.f h 1 9 = some (sideB h) := in_val h 1 9
      dsimp only
      rw [spec_EmptyScene.f, f, Option.bind_some]
      by_cases ct : tabB a0 a1 l = true
      · rw [if_pos ct, i1, Option.bind_some]
        by_cases cw : sideB w = true
        · have chh : sideB h = false := by
            cases hh : sideB h with
            | true => exact absurd ⟨ct, cw, hh⟩ c
            | false => rfl
          rw [if_pos cw, i2, Option.bind_some, chh, spec_EmptyScene.j0, if_pos (by rfl)]
        · rw [if_neg cw, spec_EmptyScene.j0, if_pos rfl]
      · rw [if_neg ct, spec_EmptyScene.j0, if_pos rfl]
    · obtain ⟨q, rfl⟩ : ∃ q, k = q + 1 := ⟨k - 1, by omega⟩
      have i1 : impl_within.f w 1 9 = some (sideB w) := within_val w 1 9
      have i2 : impl_within.f h 1 9 = some (sideB h) := within_val h 1 9
      dsimp only
      rw [impl_EmptyScene.f, g, Option.bind_some]
      by_cases ct : tabB a0 a1 l = true
      · rw [if_pos ct, impl_isSize.f, i1, Option.bind_some]
        by_cases cw : sideB w = true
        · have chh : sideB h = false := by
            cases hh : sideB h with
            | true => exact absurd ⟨ct, cw, hh⟩ c
            | false => rfl
          rw [if_pos cw, i2, Option.bind_some, chh, Option.bind_some, impl_EmptyScene.j0, if_pos (by rfl)]
        · rw [if_neg cw, Option.bind_some, impl_EmptyScene.j0, if_pos (by rfl)]
      · rw [if_neg ct, impl_EmptyScene.j0, if_pos rfl]
theorem FnExactEmptyScene (a0_0 : Int) (a0_1 : Int) (l0_2 : List (S85)) (a1 : Int) (a2 : Int) (h0 : ((Lit.int .i64 a0_0).wf = true) ∧ ((Lit.int .i64 a0_1).wf = true) ∧ (l0_2.length ≤ 9223372036854775807 ∧ ∀ e_ ∈ l0_2, ((Lit.int .i64 e_.f0).wf = true) ∧ (e_.f1.size ≤ maxLen) ∧ ((Lit.int .i64 e_.f2).wf = true))) (h1 : (Lit.int .i64 a1).wf = true) (h2 : (Lit.int .i64 a2).wf = true) : ∃ k, laws_FnExactEmptyScene.f k a0_0 a0_1 l0_2 a1 a2 = some true := by
  obtain ⟨_, _, hl, he⟩ := h0
  obtain ⟨v, ⟨K1, f1⟩, v0, v1, hv⟩ := szTable_val (l := l0_2) (fun e h => Pl.le_max (he e h).2.1) hl a0_0 a0_1
  by_cases c : v < 0
  · refine ⟨K1, ?_⟩
    have f1 : laws_szTable.f K1 a0_0 a0_1 l0_2 1048576 = some v := f1 K1 (Nat.le_refl _)
    rw [laws_FnExactEmptyScene.f, f1, Option.bind_some, if_pos c]
  · have hl' := hv (by omega)
    obtain ⟨K2, f2⟩ := toTable_val hl' a0_0 a0_1
    have hm : (l0_2.map cv).length ≤ 1048576 := by rw [List.length_map]; exact hl'
    obtain ⟨r0, r1, L, rw_, rh, s, b, hL, ⟨K3, f3⟩, ⟨K4, f4⟩⟩ := empty_both hm a0_0 a0_1 a1 a2
    obtain ⟨K5, f5⟩ := eqTable_self hm a0_0 a0_1
    obtain ⟨K6, f6⟩ := eqSc_self hL r0 r1 rw_ rh s 0 0 0 0
    obtain ⟨t', _, ⟨K7, f7⟩, _⟩ := mark_rows hm
    obtain ⟨L', _, ⟨K8, f8⟩, ⟨K9, f9⟩⟩ := mark_rows hL
    obtain ⟨K, hK⟩ : ∃ K, K = K1 + K2 + K3 + K4 + K5 + K6 + K7 + K8 + K9 := ⟨_, rfl⟩
    have g1 : laws_szTable.f (K + 3) a0_0 a0_1 l0_2 1048576 = some v := f1 (K + 3) (by omega)
    have g2 : ∀ k, K ≤ k → laws_toTable.f k a0_0 a0_1 l0_2 = some (a0_0, a0_1, l0_2.map cv) := fun k hk => f2 k (by omega)
    have g3 : spec_EmptyScene.f (K + 3) a0_0 a0_1 (l0_2.map cv) a1 a2 = some (r0, r1, L, rw_, rh, s, 0, 0, 0, 0, b) := f3 (K + 3) (by omega)
    have g4 : ∀ k, K ≤ k → impl_EmptyScene.f k a0_0 a0_1 (l0_2.map cv) a1 a2 = some (r0, r1, L, rw_, rh, s, 0, 0, 0, 0, b) := fun k hk => f4 k (by omega)
    have g5 : laws_eqTable.f (K + 2) a0_0 a0_1 (l0_2.map cv) a0_0 a0_1 (l0_2.map cv) = some true := f5 (K + 2) (by omega)
    have g6 : ∀ k, K ≤ k → laws_eqScene.f k r0 r1 L rw_ rh s 0 0 0 0 r0 r1 L rw_ rh s 0 0 0 0 = some true := fun k hk => f6 k (by omega)
    have g7 : laws_markTable.f (K + 2) a0_0 a0_1 (l0_2.map cv) 1 = some (1 + 3 * ((l0_2.map cv).length : Int), t') := by
      have f7 : laws_markRowS.f (K + 2) (l0_2.map cv) 1 = some (1 + 3 * ((l0_2.map cv).length : Int), t') := f7 (K + 2) (by omega)
      rw [laws_markTable.f, f7, Option.bind_some]
    have g8 : laws_markScene.f (K + 1) r0 r1 L rw_ rh s 0 0 0 0 1 = some (1 + 3 * (L.length : Int), L') := by
      have f8 : laws_markRowS.f (K + 1) L 1 = some (1 + 3 * (L.length : Int), L') := f8 (K + 1) (by omega)
      rw [laws_markScene.f, laws_markTable.f, f8, Option.bind_some, Option.bind_some]
    have g9 : ∀ k, K ≤ k → laws_heldScene.f k r0 r1 L' rw_ rh s 0 0 0 0 1 = some (1 + 3 * (L.length : Int)) := fun k hk => by
      have f9 : laws_heldRowS.f k L' 1 = some (1 + 3 * (L.length : Int)) := f9 k (by omega)
      rw [laws_heldScene.f, laws_heldTable.f, f9, Option.bind_some, if_neg (by omega), Option.bind_some, if_neg (by omega)]
    refine ⟨K + 3, ?_⟩
    rw [laws_FnExactEmptyScene.f, g1, Option.bind_some, if_neg c, g2 (K + 3) (by omega)]
    simp only [Option.bind_some]
    rw [g3, g4 (K + 3) (by omega)]
    simp only [Option.bind_some]
    rw [g6 (K + 3) (by omega), Option.bind_some, if_pos rfl, bne_self_eq_false, laws_FnExactEmptyScene.j0, if_neg (by simp), g2 (K + 2) (by omega)]
    simp only [Option.bind_some]
    rw [g5, Option.bind_some, if_pos rfl, g7]
    simp only [Option.bind_some]
    rw [if_neg (by omega), g6 (K + 2) (by omega), Option.bind_some, if_pos rfl, bne_self_eq_false, laws_FnExactEmptyScene.j1, if_neg (by simp), g8]
    simp only [Option.bind_some]
    rw [g9 (K + 1) (by omega), Option.bind_some, if_neg (by omega), if_pos rfl, g2 (K + 1) (by omega)]
    simp only [Option.bind_some]
    rw [g4 (K + 1) (by omega)]
    simp only [Option.bind_some]
    rw [g6 (K + 1) (by omega), Option.bind_some, if_pos rfl, bne_self_eq_false, laws_FnExactEmptyScene.j2, if_neg (by simp), g9 K (by omega), Option.bind_some, if_neg (by omega), if_pos rfl]

end Go.Proofs.Ytanecddhfdlnlaa.Pure
