/- The plain law of SpiralProgram: for every number of parts and every list the program's answer (all within, all different, sorted) is the reference's (rising). No condition. -/
import Derived.Test.YtekbompbgcneeaaPSx1
import Derived.Test.YtekbompbgcneeaaPSx2
import Derived.Test.YtekbompbgcneeaaPSx3
import Derived.Test.YtekbompbgcneeaaSPuInts
import Derived.Test.YtekbompbgcneeaaPuStr
namespace Go.Proofs.Ytekbompbgcneeaa.Pure
open Go.RowKit Go.Proofs.Ytekbompbgcneeaa Go.Proofs.Ytekbompbgcneeaa.PS Go.Proofs.YtekbompbgcneeaaW.PrintWords Go.Proofs.YtekbompbgcneeaaW.PrintLast
set_option linter.unusedVariables false
set_option linter.unusedSimpArgs false

theorem toIntS_l0 {l : List Int} (hl : l.length ≤ 1000000000) (n : Nat) : ∀ (i : Int) (a : List Int), ((l.length : Int) - i).toNat = n → 0 ≤ i → i ≤ l.length → a.length = l.length → (∀ j : Int, 0 ≤ j → j < i → rd a j = rd l j) → Ev (fun k => laws_toIntS.l0 k l a i) l := by
  induction n with
  | zero =>
    intro i a hn h0 h1 ha hj
    have e : a = l := by
      refine List.ext_getElem ha fun j h2 h3 => ?_
      have := hj j (by omega) (by omega)
      rw [Pl.rd_get (by omega), Pl.rd_get (by omega)] at this
      simpa using this
    subst e
    refine Pl.ev_unf ⟨0, fun k _ => ?_⟩
    rw [laws_toIntS.l0, if_neg (by omega)]
  | succ n ih =>
    intro i a hn h0 h1 ha hj
    obtain ⟨K, f⟩ := ih (i + 1) (a.set i.toNat (rd l i)) (by omega) (by omega) (by omega) (by rw [List.length_set]; exact ha) (fun j j0 j1 => by
      rw [rd_set h0 (by omega) j0]
      by_cases e : j = i
      · rw [if_pos e, e]
      · rw [if_neg e]
        exact hj j j0 (by omega))
    have w1 : wrap64 (i + 1) = i + 1 := Pl.w64 (by omega) (by omega)
    refine Pl.ev_unf ⟨K, fun k hk => ?_⟩
    rw [laws_toIntS.l0, if_pos (by omega), if_pos h0, if_pos (by omega), w1]
    exact f k hk
theorem toIntS_val {l : List Int} (hl : l.length ≤ 1000000000) : Ev (fun k => laws_toIntS.f k l) l := by
  obtain ⟨K, f⟩ := toIntS_l0 hl _ 0 (List.replicate l.length 0) rfl (by omega) (by omega) (by simp) (fun j j0 j1 => by omega)
  refine ⟨K, fun k hk => ?_⟩
  dsimp only
  rw [laws_toIntS.f, if_pos (by omega), if_pos (by omega), Int.toNat_natCast]
  exact f k hk

theorem rising_l0 {l : List Int} (hl : l.length ≤ 1000000000) (p : Int) (n : Nat) : ∀ i : Int, ((l.length : Int) - i).toNat = n → 0 ≤ i → i ≤ l.length → ∃ b, Ev (fun k => spec_l1Rising.l0 k l 1 p l l.length i) b ∧ (b = true ↔ ∀ j : Int, i ≤ j → j < l.length → 1 ≤ rd l j ∧ rd l j ≤ p ∧ (0 < j → rd l (j - 1) < rd l j)) := by
  induction n with
  | zero =>
    intro i hn h0 h1
    refine ⟨true, Pl.ev_unf ⟨0, fun k _ => ?_⟩, ⟨fun _ j _ _ => by omega, fun _ => rfl⟩⟩
    rw [spec_l1Rising.l0, if_neg (by omega)]
  | succ n ih =>
    intro i hn h0 h1
    obtain ⟨b, ⟨K, f⟩, hb⟩ := ih (i + 1) (by omega) (by omega) (by omega)
    have w1 : wrap64 (i + 1) = i + 1 := Pl.w64 (by omega) (by omega)
    have w2 : wrap64 (i - 1) = i - 1 := Pl.w64 (by omega) (by omega)
    by_cases c1 : 1 ≤ rd l i ∧ rd l i ≤ p
    · by_cases c2 : 0 < i
      · by_cases c3 : rd l (i - 1) < rd l i
        · refine ⟨b, Pl.ev_unf ⟨K, fun k hk => ?_⟩, hb.trans ⟨fun h j j0 j1 => ?_, fun h j j0 j1 => h j (by omega) j1⟩⟩
          · rw [spec_l1Rising.l0, if_pos (by omega), if_pos (by omega), if_pos (by omega), spec_l1In.f, if_pos (by omega), Option.bind_some, if_pos (by simp <;> omega), if_pos (by omega), w1, w2, if_pos (by omega), if_pos (by omega), if_neg (by omega)]
            exact f k hk
          · by_cases e : j = i
            · subst e; exact ⟨c1.1, c1.2, fun _ => c3⟩
            · exact h j (by omega) j1
        · refine ⟨false, Pl.ev_unf ⟨K, fun k hk => ?_⟩, ⟨fun h => by simp at h, fun h => absurd ((h i (by omega) (by omega)).2.2 c2) c3⟩⟩
          rw [spec_l1Rising.l0, if_pos (by omega), if_pos (by omega), if_pos (by omega), spec_l1In.f, if_pos (by omega), Option.bind_some, if_pos (by simp <;> omega), if_pos (by omega), w2, if_pos (by omega), if_pos (by omega), if_pos (by omega)]
      · refine ⟨b, Pl.ev_unf ⟨K, fun k hk => ?_⟩, hb.trans ⟨fun h j j0 j1 => ?_, fun h j j0 j1 => h j (by omega) j1⟩⟩
        · rw [spec_l1Rising.l0, if_pos (by omega), if_pos (by omega), if_pos (by omega), spec_l1In.f, if_pos (by omega), Option.bind_some, if_pos (by simp <;> omega), if_neg (by omega), w1]
          exact f k hk
        · by_cases e : j = i
          · subst e; exact ⟨c1.1, c1.2, fun _ => by omega⟩
          · exact h j (by omega) j1
    · refine ⟨false, Pl.ev_unf ⟨K, fun k hk => ?_⟩, ⟨fun h => by simp at h, fun h => absurd ⟨(h i (by omega) (by omega)).1, (h i (by omega) (by omega)).2.1⟩ c1⟩⟩
      by_cases c4 : 1 ≤ rd l i
      · rw [spec_l1Rising.l0, if_pos (by omega), if_pos (by omega), if_pos (by omega), spec_l1In.f, if_pos (by omega), Option.bind_some, if_neg (by simp <;> omega)]
      · rw [spec_l1Rising.l0, if_pos (by omega), if_pos (by omega), if_pos (by omega), spec_l1In.f, if_neg (by omega), Option.bind_some, if_neg (by simp)]
theorem has_l0 {l : List Int} (hl : l.length ≤ 1000000000) (x : Int) (n : Nat) : ∀ i : Int, ((l.length : Int) - i).toNat = n → 0 ≤ i → i ≤ l.length → ∃ b, Ev (fun k => spec_l1Has.l0 k x l l.length i) b ∧ (b = true ↔ ∃ j : Int, i ≤ j ∧ j < l.length ∧ rd l j = x) := by
  induction n with
  | zero =>
    intro i hn h0 h1
    refine ⟨false, Pl.ev_unf ⟨0, fun k _ => ?_⟩, by
      constructor
      · intro h
        simp at h
      · rintro ⟨j, j0, j1, _⟩
        omega⟩
    rw [spec_l1Has.l0, if_neg (by omega)]
  | succ n ih =>
    intro i hn h0 h1
    obtain ⟨b, ⟨K, f⟩, hb⟩ := ih (i + 1) (by omega) (by omega) (by omega)
    have w1 : wrap64 (i + 1) = i + 1 := Pl.w64 (by omega) (by omega)
    by_cases c : rd l i = x
    · refine ⟨true, Pl.ev_unf ⟨0, fun k _ => ?_⟩, ⟨fun _ => ⟨i, by omega, by omega, c⟩, fun _ => rfl⟩⟩
      rw [spec_l1Has.l0, if_pos (by omega), if_pos (by omega), if_pos (by omega), if_pos c]
    · refine ⟨b, Pl.ev_unf ⟨K, fun k hk => ?_⟩, hb.trans (by
        constructor
        · rintro ⟨j, j0, j1, e⟩
          exact ⟨j, by omega, j1, e⟩
        · rintro ⟨j, j0, j1, e⟩
          by_cases q : j = i
          · subst q
            exact absurd e c
          · exact ⟨j, by omega, j1, e⟩)⟩
      clear hb
      rw [spec_l1Has.l0, if_pos (by omega), if_pos (by omega), if_pos (by omega), if_neg c, w1]
      exact f k hk
theorem idx_l0 {l : List Int} (hl : l.length ≤ 1000000000) (x : Int) (n : Nat) : ∀ i : Int, ((l.length : Int) - i).toNat = n → 0 ≤ i → i ≤ l.length → ∃ r, Ev (fun k => slices_Index_int_int.l0 k l x l.length i) r ∧ (r ≥ 0 ↔ ∃ j : Int, i ≤ j ∧ j < l.length ∧ rd l j = x) := by
  induction n with
  | zero =>
    intro i hn h0 h1
    refine ⟨-1, Pl.ev_unf ⟨0, fun k _ => ?_⟩, by
      constructor
      · intro h
        omega
      · rintro ⟨j, j0, j1, _⟩
        omega⟩
    rw [slices_Index_int_int.l0, if_neg (by omega)]
  | succ n ih =>
    intro i hn h0 h1
    obtain ⟨b, ⟨K, f⟩, hb⟩ := ih (i + 1) (by omega) (by omega) (by omega)
    have w1 : wrap64 (i + 1) = i + 1 := Pl.w64 (by omega) (by omega)
    by_cases c : x = rd l i
    · refine ⟨i, Pl.ev_unf ⟨0, fun k _ => ?_⟩, ⟨fun _ => ⟨i, by omega, by omega, c.symm⟩, fun _ => h0⟩⟩
      rw [slices_Index_int_int.l0, if_pos (by omega), if_pos (by omega), if_pos (by omega), if_pos c]
    · refine ⟨b, Pl.ev_unf ⟨K, fun k hk => ?_⟩, hb.trans (by
        constructor
        · rintro ⟨j, j0, j1, e⟩
          exact ⟨j, by omega, j1, e⟩
        · rintro ⟨j, j0, j1, e⟩
          by_cases q : j = i
          · subst q
            exact absurd e.symm c
          · exact ⟨j, by omega, j1, e⟩)⟩
      clear hb
      rw [slices_Index_int_int.l0, if_pos (by omega), if_pos (by omega), if_pos (by omega), if_neg c, w1]
      exact f k hk
theorem has_val {l : List Int} (hl : l.length ≤ 1000000000) (x : Int) : ∃ b, Ev (fun k => spec_l1Has.f k l x) b ∧ Ev (fun k => slices_Contains_int_int.f k l x) b ∧ (b = true ↔ ∃ j : Int, 0 ≤ j ∧ j < l.length ∧ rd l j = x) := by
  obtain ⟨b, ⟨K, f⟩, hb⟩ := has_l0 hl x _ 0 rfl (by omega) (by omega)
  obtain ⟨r, ⟨K2, f2⟩, hr⟩ := idx_l0 hl x _ 0 rfl (by omega) (by omega)
  refine ⟨b, ⟨K, fun k hk => ?_⟩, ⟨K2, fun k hk => ?_⟩, hb⟩
  · dsimp only
    rw [spec_l1Has.f]
    exact f k hk
  · have f2 : slices_Index_int_int.l0 k l x l.length 0 = some r := f2 k hk
    dsimp only
    rw [slices_Contains_int_int.f, slices_Index_int_int.f, f2, Option.bind_some]
    have e : b = decide (r ≥ 0) := by
      rw [Bool.eq_iff_iff, hb, decide_eq_true_iff]
      exact hr.symm
    rw [e]
theorem rd_take {l : List Int} {i : Nat} {j : Int} (h0 : 0 ≤ j) (h1 : j < i) (h2 : i ≤ l.length) : rd (l.take i) j = rd l j := by
  rw [Pl.rd_get (by rw [List.length_take]; omega), Pl.rd_get (by omega), List.getElem_take]
theorem diff_l0 {l : List Int} (hl : l.length ≤ 1000000000) (n : Nat) : ∀ i : Int, ((l.length : Int) - i).toNat = n → 0 ≤ i → i ≤ l.length → ∃ b, Ev (fun k => impl_areDifferent.l0 k l l l.length i) b ∧ (b = true ↔ ∀ j : Int, i ≤ j → j < l.length → ¬ ∃ m : Int, 0 ≤ m ∧ m < j ∧ rd l m = rd l j) := by
  induction n with
  | zero =>
    intro i hn h0 h1
    refine ⟨true, Pl.ev_unf ⟨0, fun k _ => ?_⟩, ⟨fun _ j _ _ => by omega, fun _ => rfl⟩⟩
    rw [impl_areDifferent.l0, if_neg (by omega)]
  | succ n ih =>
    intro i hn h0 h1
    obtain ⟨b, ⟨K, f⟩, hb⟩ := ih (i + 1) (by omega) (by omega) (by omega)
    have w1 : wrap64 (i + 1) = i + 1 := Pl.w64 (by omega) (by omega)
    have hlt : (l.take i.toNat).length = i.toNat := by rw [List.length_take]; omega
    obtain ⟨c, _, ⟨K2, f2⟩, hc⟩ := has_val (l := l.take i.toNat) (by omega) (rd l i)
    have hc' : c = true ↔ ∃ m : Int, 0 ≤ m ∧ m < i ∧ rd l m = rd l i := by
      rw [hc]
      constructor
      · rintro ⟨m, m0, m1, e⟩
        rw [rd_take m0 (by omega) (by omega)] at e
        exact ⟨m, m0, by omega, e⟩
      · rintro ⟨m, m0, m1, e⟩
        exact ⟨m, m0, by omega, by rw [rd_take m0 (by omega) (by omega)]; exact e⟩
    clear hc
    have HC := Aside0.mk hc'
    clear hc'
    cases c with
    | true =>
      refine ⟨false, Pl.ev_unf ⟨K2, fun k hk => ?_⟩, ⟨fun h => by simp at h, fun h => absurd (HC.out.1 rfl) (h i (by omega) (by omega))⟩⟩
      have f2 : slices_Contains_int_int.f k (l.take i.toNat) (rd l i) = some true := f2 k hk
      rw [impl_areDifferent.l0, if_pos (by omega), if_pos (by omega), if_pos (by omega), if_pos (by omega), f2, Option.bind_some, if_pos rfl]
    | false =>
      refine ⟨b, Pl.ev_unf ⟨K + K2, fun k hk => ?_⟩, hb.trans ⟨fun h j j0 j1 => ?_, fun h j j0 j1 => h j (by omega) j1⟩⟩
      · have f2 : slices_Contains_int_int.f k (l.take i.toNat) (rd l i) = some false := f2 k (by omega)
        rw [impl_areDifferent.l0, if_pos (by omega), if_pos (by omega), if_pos (by omega), if_pos (by omega), f2, Option.bind_some, if_neg (by simp), w1]
        exact f k (by omega)
      · by_cases e : j = i
        · subst e
          intro hm
          exact absurd (HC.out.2 hm) (by simp)
        · exact h j (by omega) j1
theorem sorted_l0 {l : List Int} (hl : l.length ≤ 1000000000) (n : Nat) : ∀ i : Int, i.toNat = n → i < l.length → ∃ b, Ev (fun k => slices_IsSorted_int_int.l0 k l i) b ∧ (b = true ↔ ∀ j : Int, 0 < j → j ≤ i → ¬ rd l j < rd l (j - 1)) := by
  induction n with
  | zero =>
    intro i hn h1
    refine ⟨true, Pl.ev_unf ⟨0, fun k _ => ?_⟩, ⟨fun _ j _ _ => by omega, fun _ => rfl⟩⟩
    rw [slices_IsSorted_int_int.l0, if_neg (by omega)]
  | succ n ih =>
    intro i hn h1
    obtain ⟨b, ⟨K, f⟩, hb⟩ := ih (i - 1) (by omega) (by omega)
    have w1 : wrap64 (i - 1) = i - 1 := Pl.w64 (by omega) (by omega)
    by_cases c : rd l i < rd l (i - 1)
    · refine ⟨false, Pl.ev_unf ⟨0, fun k hk => ?_⟩, ⟨fun h => by simp at h, fun h => absurd c (h i (by omega) (by omega))⟩⟩
      rw [slices_IsSorted_int_int.l0, if_pos (by omega), if_pos (by omega), if_pos (by omega), w1, if_pos (by omega), if_pos (by omega), cmp_Less_int.f, cmp_isNaN_int.f, Option.bind_some, bne_self_eq_false, if_neg (by simp), Option.bind_some, if_pos (by simpa using c)]
    · refine ⟨b, Pl.ev_unf ⟨K, fun k hk => ?_⟩, hb.trans ⟨fun h j j0 j1 => ?_, fun h j j0 j1 => h j j0 (by omega)⟩⟩
      · rw [slices_IsSorted_int_int.l0, if_pos (by omega), if_pos (by omega), if_pos (by omega), w1, if_pos (by omega), if_pos (by omega), cmp_Less_int.f, cmp_isNaN_int.f, Option.bind_some, bne_self_eq_false, if_neg (by simp), Option.bind_some, if_neg (by simpa using c)]
        exact f k hk
      · by_cases e : j = i
        · subst e; exact c
        · exact h j j0 (by omega)
theorem rise_lt {l : List Int} (h : ∀ j : Int, 0 ≤ j → j < l.length → (0 < j → rd l (j - 1) < rd l j)) (n : Nat) : ∀ m j : Int, (j - m).toNat = n + 1 → 0 ≤ m → m < j → j < l.length → rd l m < rd l j := by
  induction n with
  | zero =>
    intro m j hn m0 m1 j1
    have := h j (by omega) j1 (by omega)
    rw [show j - 1 = m by omega] at this
    exact this
  | succ n ih =>
    intro m j hn m0 m1 j1
    have := h j (by omega) j1 (by omega)
    have := ih m (j - 1) (by omega) m0 (by omega) (by omega)
    omega
theorem all_rd {l : List Int} {p : Int} : (l.all fun n => decide (1 ≤ n) && decide (n ≤ p)) = true ↔ ∀ j : Int, 0 ≤ j → j < l.length → 1 ≤ rd l j ∧ rd l j ≤ p := by
  rw [List.all_eq_true]
  refine ⟨fun h j j0 j1 => ?_, fun h x hx => ?_⟩
  · have := h (rd l j) (by rw [Pl.rd_get (by omega)]; exact List.getElem_mem _)
    simpa using this
  · obtain ⟨j, hj, rfl⟩ := List.getElem_of_mem hx
    have := h j (by omega) (by omega)
    rw [Pl.rd_get (by omega)] at this
    simpa using this
theorem num_val {n : Int} (h0 : 0 ≤ n) (h1 : n ≤ 9) (k : Nat) : spec_l1Num.f (k + 1) n = some (strOfNums [48 + n]) := by
  have w : wrap64 (48 + n) = 48 + n := Pl.w64 (by omega) (by omega)
  rw [spec_l1Num.f, if_pos (by omega), w, show (48 + n) % 256 = 48 + n by omega]
theorem spiral_l0 {l : List Int} (hl : l.length ≤ 1000000000) {p : Int} (hp : p ≤ 9) (n : Nat) : ∀ (i : Int) (a : List Int), (p - i).toNat = n → 0 ≤ i → i ≤ p → (a.length : Int) = 2 * i → ∃ r, Ev (fun k => spec_SpiralProgram.l0 k p l (strOfNums a) (i + 1)) r ∧ Ev (fun k => impl_SpiralProgram.l0 k l a p i) r := by
  induction n with
  | zero =>
    intro i a hn h0 h1 ha
    refine ⟨(strOfNums a, true), Pl.ev_unf ⟨0, fun k _ => ?_⟩, Pl.ev_unf ⟨0, fun k _ => ?_⟩⟩
    · rw [spec_SpiralProgram.l0, if_neg (by omega)]
    · rw [impl_SpiralProgram.l0, if_neg (by omega)]
  | succ n ih =>
    intro i a hn h0 h1 ha
    obtain ⟨b, ⟨K1, f1⟩, ⟨K2, f2⟩, hx⟩ := has_val hl (i + 1)
    clear hx
    have w1 : wrap64 (i + 1) = i + 1 := Pl.w64 (by omega) (by omega)
    have w2 : wrap64 (i + 1 + 1) = i + 1 + 1 := Pl.w64 (by omega) (by omega)
    have w3 : wrap64 (49 + i) = 49 + i := Pl.w64 (by omega) (by omega)
    have e1 : (49 + i) % 256 = 49 + i := by omega
    have e2 : (48 : Int) + (i + 1) = 49 + i := by omega
    have s1 : (strOfNums a).size = a.length := sSize a
    have s2 : (strOfNums [49 + i]).size = 1 := by rw [sSize]; rfl
    have s3 : (strOfNums (a ++ [49 + i])).size = a.length + 1 := by rw [sSize]; simp
    cases b with
    | true =>
      obtain ⟨r, ⟨K3, f3⟩, ⟨K4, f4⟩⟩ := ih (i + 1) (a ++ [49 + i, 76]) (by omega) (by omega) (by omega) (by simp <;> omega)
      refine ⟨r, Pl.ev_unf ⟨K1 + K3 + 1, fun k hk => ?_⟩, Pl.ev_unf ⟨K2 + K4, fun k hk => ?_⟩⟩
      · have f1 : spec_l1Has.f k l (i + 1) = some true := f1 k (by omega)
        obtain ⟨q, rfl⟩ : ∃ q, k = q + 1 := ⟨k - 1, by omega⟩
        rw [spec_SpiralProgram.l0, if_pos (by omega), num_val (by omega) (by omega), Option.bind_some, e2, if_pos (by omega), f1, Option.bind_some, if_pos rfl, sApp, if_pos (by omega), show (⟨#[76]⟩ : ByteArray) = strOfNums [76] from rfl, sApp, List.append_assoc, w2]
        exact f3 (q + 1) (by omega)
      · have f2 : slices_Contains_int_int.f k l (i + 1) = some true := f2 k (by omega)
        rw [impl_SpiralProgram.l0, if_pos (by omega), w1, f2, Option.bind_some, impl_bit.f, if_pos rfl, Option.bind_some, if_pos (by omega), if_pos (by omega), Option.bind_some, w3, e1, if_pos (by show a.length + 2 < _; omega), show bt (⟨#[82, 76]⟩ : ByteArray) 1 = 76 from rfl]
        exact f4 k (by omega)
    | false =>
      obtain ⟨r, ⟨K3, f3⟩, ⟨K4, f4⟩⟩ := ih (i + 1) (a ++ [49 + i, 82]) (by omega) (by omega) (by omega) (by simp <;> omega)
      refine ⟨r, Pl.ev_unf ⟨K1 + K3 + 1, fun k hk => ?_⟩, Pl.ev_unf ⟨K2 + K4, fun k hk => ?_⟩⟩
      · have f1 : spec_l1Has.f k l (i + 1) = some false := f1 k (by omega)
        obtain ⟨q, rfl⟩ : ∃ q, k = q + 1 := ⟨k - 1, by omega⟩
        rw [spec_SpiralProgram.l0, if_pos (by omega), num_val (by omega) (by omega), Option.bind_some, e2, if_pos (by omega), f1, Option.bind_some, if_neg (by simp), sApp, if_pos (by omega), show (⟨#[82]⟩ : ByteArray) = strOfNums [82] from rfl, sApp, List.append_assoc, w2]
        exact f3 (q + 1) (by omega)
      · have f2 : slices_Contains_int_int.f k l (i + 1) = some false := f2 k (by omega)
        rw [impl_SpiralProgram.l0, if_pos (by omega), w1, f2, Option.bind_some, impl_bit.f, if_neg (by simp), Option.bind_some, if_pos (by omega), if_pos (by omega), Option.bind_some, w3, e1, if_pos (by show a.length + 2 < _; omega), show bt (⟨#[82, 76]⟩ : ByteArray) 0 = 82 from rfl]
        exact f4 k (by omega)
theorem spiral_both {l : List Int} (hl : l.length ≤ 1000000000) (p : Int) : ∃ r, Ev (fun k => spec_SpiralProgram.f k p l) r ∧ Ev (fun k => impl_SpiralProgram.f k p l) r := by
  by_cases c1 : 1 ≤ p ∧ p ≤ 9
  · obtain ⟨b, ⟨K1, f1⟩, hb⟩ := rising_l0 hl p _ 0 rfl (by omega) (by omega)
    obtain ⟨d, ⟨K2, f2⟩, hd⟩ := diff_l0 hl _ 0 rfl (by omega) (by omega)
    obtain ⟨s, ⟨K3, f3⟩, hs⟩ := sorted_l0 hl _ ((l.length : Int) - 1) rfl (by omega)
    have w1 : wrap64 ((l.length : Int) - 1) = (l.length : Int) - 1 := Pl.w64 (by omega) (by omega)
    have e : b = ((l.all fun n => decide (1 ≤ n) && decide (n ≤ p)) && (d && s)) := by
      rw [Bool.eq_iff_iff, Bool.and_eq_true, Bool.and_eq_true, hb, hd, hs, all_rd]
      constructor
      · intro h
        refine ⟨fun j j0 j1 => ⟨(h j j0 j1).1, (h j j0 j1).2.1⟩, fun j j0 j1 => ?_, fun j j0 j1 => ?_⟩
        · rintro ⟨m, m0, m1, e⟩
          have := rise_lt (fun j j0 j1 => (h j j0 j1).2.2) ((j - m).toNat - 1) m j (by omega) m0 m1 j1
          omega
        · have := (h j (by omega) (by omega)).2.2 j0
          omega
      · rintro ⟨h1, h2, h3⟩ j j0 j1
        refine ⟨(h1 j j0 j1).1, (h1 j j0 j1).2, fun jp => ?_⟩
        have a := h3 j jp (by omega)
        have b := h2 j j0 j1
        have : rd l (j - 1) ≠ rd l j := fun e => b ⟨j - 1, by omega, by omega, e⟩
        omega
    obtain ⟨r, ⟨K4, f4⟩, ⟨K5, f5⟩⟩ := spiral_l0 hl c1.2 _ 0 [] rfl (by omega) (by omega) (by simp)
    have e0 : strOfNums ([] : List Int) = (⟨#[]⟩ : ByteArray) := rfl
    rw [e0] at f4
    refine ⟨cond b r ((⟨#[]⟩ : ByteArray), false), ⟨K1 + K4 + 1, fun k hk => ?_⟩, ⟨K2 + K3 + K5 + 1, fun k hk => ?_⟩⟩
    · have f1 : spec_l1Rising.l0 k l 1 p l l.length 0 = some b := f1 k (by omega)
      obtain ⟨q, rfl⟩ : ∃ q, k = q + 1 := ⟨k - 1, by omega⟩
      dsimp only
      rw [spec_SpiralProgram.f, spec_l1In.f, if_pos (by omega), Option.bind_some, if_pos (by simp <;> omega), spec_l1Rising.f, f1, Option.bind_some, spec_SpiralProgram.j0]
      cases b with
      | true => rw [if_neg (by simp)]; exact f4 q (by omega)
      | false => rw [if_pos (by rfl)]; rfl
    · have f2 : impl_areDifferent.l0 k l l l.length 0 = some d := f2 k (by omega)
      have f3 : slices_IsSorted_int_int.l0 k l ((l.length : Int) - 1) = some s := f3 k (by omega)
      obtain ⟨q, rfl⟩ : ∃ q, k = q + 1 := ⟨k - 1, by omega⟩
      dsimp only
      rw [impl_SpiralProgram.f, impl_within.f, if_pos (by omega), Option.bind_some, if_pos (by simp <;> omega), impl_areWithin.f, Option.bind_some, e]
      generalize (l.all fun n => decide (1 ≤ n) && decide (n ≤ p)) = a
      cases a with
      | false => rw [if_neg (by simp), impl_SpiralProgram.j0, if_pos rfl]; rfl
      | true =>
        rw [if_pos rfl, impl_areDifferent.f, f2, Option.bind_some]
        cases d with
        | false => rw [if_neg (by simp), impl_SpiralProgram.j0, if_pos rfl]; rfl
        | true =>
          rw [if_pos rfl, slices_IsSorted_int_int.f, w1, f3, Option.bind_some, impl_SpiralProgram.j0]
          cases s with
          | false => rw [if_pos (by rfl)]; rfl
          | true => rw [if_neg (by simp)]; exact f5 q (by omega)
  · refine ⟨((⟨#[]⟩ : ByteArray), false), ⟨1, fun k hk => ?_⟩, ⟨1, fun k hk => ?_⟩⟩
    · obtain ⟨q, rfl⟩ : ∃ q, k = q + 1 := ⟨k - 1, by omega⟩
      dsimp only
      by_cases c2 : 1 ≤ p
      · rw [spec_SpiralProgram.f, spec_l1In.f, if_pos (by omega), Option.bind_some, if_neg (by simp <;> omega), spec_SpiralProgram.j0, if_pos rfl]
      · rw [spec_SpiralProgram.f, spec_l1In.f, if_neg (by omega), Option.bind_some, if_neg (by simp), spec_SpiralProgram.j0, if_pos rfl]
    · obtain ⟨q, rfl⟩ : ∃ q, k = q + 1 := ⟨k - 1, by omega⟩
      dsimp only
      by_cases c2 : 1 ≤ p
      · rw [impl_SpiralProgram.f, impl_within.f, if_pos (by omega), Option.bind_some, if_neg (by simp <;> omega), impl_SpiralProgram.j0, if_pos rfl]
      · rw [impl_SpiralProgram.f, impl_within.f, if_neg (by omega), Option.bind_some, if_neg (by simp), impl_SpiralProgram.j0, if_pos rfl]
theorem FnExactSpiralProgram (a0 : Int) (l1 : List Int) (h0 : (Lit.int .i64 a0).wf = true) (h1 : l1.length ≤ 9223372036854775807 ∧ ∀ e_ ∈ l1, (Lit.int .i64 e_).wf = true) : ∃ k, laws_FnExactSpiralProgram.f k a0 l1 = some true := by
  by_cases hs : (l1.length : Int) > 1048576
  · refine ⟨0, ?_⟩
    rw [laws_FnExactSpiralProgram.f, if_pos hs]
  · obtain ⟨K1, e1⟩ := toIntS_val (l := l1) (by omega)
    obtain ⟨r, ⟨K2, e2⟩, ⟨K3, e3⟩⟩ := spiral_both (l := l1) (by omega) a0
    obtain ⟨K4, e4⟩ := eqIntS_self (l := l1) (by omega)
    obtain ⟨K, hK⟩ : ∃ K, K = K1 + K2 + K3 + K4 := ⟨_, rfl⟩
    have f1 : laws_toIntS.f (K + 1) l1 = some l1 := e1 (K + 1) (by omega)
    have g1 : laws_toIntS.f K l1 = some l1 := e1 K (by omega)
    have f2 : spec_SpiralProgram.f (K + 1) a0 l1 = some r := e2 (K + 1) (by omega)
    have f3 : impl_SpiralProgram.f (K + 1) a0 l1 = some r := e3 (K + 1) (by omega)
    have g4 : laws_eqIntS.f K l1 l1 = some true := e4 K (by omega)
    refine ⟨K + 1, ?_⟩
    rw [laws_FnExactSpiralProgram.f, if_neg hs, f1, Option.bind_some, f2, Option.bind_some, Option.bind_some, f3, Option.bind_some, if_pos rfl, bne_self_eq_false, laws_FnExactSpiralProgram.j0, if_neg (by simp), g1, Option.bind_some, g4, Option.bind_some, if_pos rfl]

end Go.Proofs.Ytekbompbgcneeaa.Pure
