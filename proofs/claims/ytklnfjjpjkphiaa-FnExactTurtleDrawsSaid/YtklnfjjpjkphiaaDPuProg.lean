/- Plain lemmas: a turtle's programs: which texts are programs, on both sides; the parts of a program. No program in sight. No condition. -/
import Derived.Test.YtklnfjjpjkphiaaPDx1
import Derived.Test.YtklnfjjpjkphiaaPDx6
import Derived.Test.YtklnfjjpjkphiaaDPuWorm
namespace Go.Proofs.Ytklnfjjpjkphiaa.Pure
open Go.RowKit Go.Proofs.Ytklnfjjpjkphiaa Go.Proofs.Ytklnfjjpjkphiaa.PD Go.Proofs.YtklnfjjpjkphiaaW.PrintWords Go.Proofs.YtklnfjjpjkphiaaW.PrintLast
set_option linter.unusedVariables false
set_option linter.unusedSimpArgs false

def Sig (b : Int) : Prop := b = 76 ∨ b = 82 ∨ b = 78 ∨ b = 85
instance (b : Int) : Decidable (Sig b) := by unfold Sig; infer_instance
def AllP (s : ByteArray) (i : Int) : Prop := ∀ j : Int, i ≤ j → j < s.size → (j % 2 = 0 → 48 ≤ bt s j ∧ bt s j ≤ 57) ∧ (j % 2 = 1 → Sig (bt s j))
structure GoodP (s : ByteArray) : Prop where
  ev : (s.size : Int) % 2 = 0
  lo : 2 ≤ (s.size : Int)
  hi : (s.size : Int) ≤ 18
  al : AllP s 0

theorem allP_end {s : ByteArray} {i : Int} (h : s.size ≤ i) : AllP s i := fun j h1 h2 => by omega
theorem allP_step {s : ByteArray} {i : Int} (h : (i % 2 = 0 → 48 ≤ bt s i ∧ bt s i ≤ 57) ∧ (i % 2 = 1 → Sig (bt s i))) : AllP s i ↔ AllP s (i + 1) := by
  refine ⟨fun hb j h1 h2 => hb j (by omega) h2, fun hb j h1 h2 => ?_⟩
  by_cases e : j = i
  · rw [e]; exact h
  · exact hb j (by omega) h2

theorem piece_size {s : ByteArray} {i j : Int} (h0 : 0 ≤ i) (h1 : i ≤ j) (h2 : j ≤ s.size) : (s.extract i.toNat j.toNat).size = (j - i).toNat := by
  rw [ByteArray.size_extract]
  omega
theorem piece_bt {s : ByteArray} {i j t : Int} (h0 : 0 ≤ i) (h2 : j ≤ s.size) (t0 : 0 ≤ t) (t1 : i + t < j) : bt (s.extract i.toNat j.toNat) t = bt s (i + t) := by
  rw [Pl.bt_rd, Pl.bt_rd, Pl.bytesOf_extract]
  unfold rd
  rw [List.getD_eq_getElem?_getD, List.getD_eq_getElem?_getD, List.getElem?_drop, List.getElem?_take, if_pos (by omega), show i.toNat + t.toNat = (i + t).toNat by omega]

theorem rule_one {s : ByteArray} (h : s.size = 1) (k : Nat) : spec_woRule.f (k + 2) s = some (decide (Sig (bt s 0))) := by
  have hs : (s.size : Int) = 1 := by omega
  have hl : spec_woRule.l0 (k + 1) s 1 = some true := by
    simp (disch := omega) only [↓reduceIte, Pl.lt_t, Pl.lt_f, Pl.le_t, Pl.le_f, Pl.ge_t, Pl.ge_f, Pl.gt_t, Pl.gt_f, Pl.eq_t, Pl.eq_f, Pl.nlt_t, Pl.nle_t, Pl.w64, Option.bind_some, Bool.false_eq_true, decide_eq_true_eq, spec_woRule.l0]
  unfold Sig
  by_cases c1 : bt s 0 = 76
  · simp (disch := omega) only [↓reduceIte, Pl.lt_t, Pl.lt_f, Pl.le_t, Pl.le_f, Pl.ge_t, Pl.ge_f, Pl.gt_t, Pl.gt_f, Pl.eq_t, Pl.eq_f, Pl.nlt_t, Pl.nle_t, Pl.w64, Option.bind_some, Bool.false_eq_true, decide_eq_true_eq, spec_woRule.f, spec_woRule.l0, l1In_t, c1, hl]
    simp
  · by_cases c2 : bt s 0 = 82
    · simp (disch := omega) only [↓reduceIte, Pl.lt_t, Pl.lt_f, Pl.le_t, Pl.le_f, Pl.ge_t, Pl.ge_f, Pl.gt_t, Pl.gt_f, Pl.eq_t, Pl.eq_f, Pl.nlt_t, Pl.nle_t, Pl.w64, Option.bind_some, Bool.false_eq_true, decide_eq_true_eq, spec_woRule.f, spec_woRule.l0, l1In_t, c2, hl]
      simp
    · by_cases c3 : bt s 0 = 78
      · simp (disch := omega) only [↓reduceIte, Pl.lt_t, Pl.lt_f, Pl.le_t, Pl.le_f, Pl.ge_t, Pl.ge_f, Pl.gt_t, Pl.gt_f, Pl.eq_t, Pl.eq_f, Pl.nlt_t, Pl.nle_t, Pl.w64, Option.bind_some, Bool.false_eq_true, decide_eq_true_eq, spec_woRule.f, spec_woRule.l0, l1In_t, c3, hl]
        simp
      · by_cases c4 : bt s 0 = 85
        · simp (disch := omega) only [↓reduceIte, Pl.lt_t, Pl.lt_f, Pl.le_t, Pl.le_f, Pl.ge_t, Pl.ge_f, Pl.gt_t, Pl.gt_f, Pl.eq_t, Pl.eq_f, Pl.nlt_t, Pl.nle_t, Pl.w64, Option.bind_some, Bool.false_eq_true, decide_eq_true_eq, spec_woRule.f, spec_woRule.l0, l1In_t, c4, hl]
          simp
        · simp (disch := omega) only [↓reduceIte, Pl.lt_t, Pl.lt_f, Pl.le_t, Pl.le_f, Pl.ge_t, Pl.ge_f, Pl.gt_t, Pl.gt_f, Pl.eq_t, Pl.eq_f, Pl.nlt_t, Pl.nle_t, Pl.w64, Option.bind_some, Bool.false_eq_true, decide_eq_true_eq, spec_woRule.f, spec_woRule.l0, l1In_t, c1, c2, c3, c4]
          simp
theorem bt_one (c : UInt8) : bt (⟨#[c]⟩ : ByteArray) 0 = (c.toNat : Int) := rfl
theorem contains_sig {s : ByteArray} (h : s.size = 1) : strings_Contains.f (⟨#[76, 82, 78, 85]⟩ : ByteArray) s = some (decide (Sig (bt s 0))) := by
  obtain ⟨⟨l⟩⟩ := s
  match l, h with
  | [c], _ =>
    unfold strings_Contains.f
    rw [if_pos (show (⟨#[c]⟩ : ByteArray).size = 1 from rfl)]
    congr 1
    show decide (0 ≤ Lib.indexByte [76, 82, 78, 85] c) = decide (Sig (bt (⟨#[c]⟩ : ByteArray) 0))
    rw [bt_one]
    have en : ∀ n : UInt8, c ≠ n → ¬ ((c.toNat : Int) = (n.toNat : Int)) := fun n hn e => hn (UInt8.toNat_inj.1 (by omega))
    by_cases c1 : c = 76
    · subst c1; rfl
    · by_cases c2 : c = 82
      · subst c2; rfl
      · by_cases c3 : c = 78
        · subst c3; rfl
        · by_cases c4 : c = 85
          · subst c4; rfl
          · have n1 : ((76 : UInt8) == c) = false := by simpa using fun h => c1 h.symm
            have n2 : ((82 : UInt8) == c) = false := by simpa using fun h => c2 h.symm
            have n3 : ((78 : UInt8) == c) = false := by simpa using fun h => c3 h.symm
            have n4 : ((85 : UInt8) == c) = false := by simpa using fun h => c4 h.symm
            have e : Lib.indexByte [76, 82, 78, 85] c = -1 := by
              simp [Lib.indexByte, n1, n2, n3, n4]
            have ns : ¬ Sig (c.toNat : Int) := by
              rintro (h | h | h | h)
              · exact en 76 c1 h
              · exact en 82 c2 h
              · exact en 78 c3 h
              · exact en 85 c4 h
            rw [e, decide_eq_false ns]
            rfl

theorem tuGood_step {s : ByteArray} {i : Int} {b r : Bool} {k : Nat} (h0 : 0 ≤ i) (h1 : i + 2 ≤ s.size) (hs : s.size ≤ 1000000) (c1 : 48 ≤ bt s i) (c2 : bt s i ≤ 57) (er : spec_woRule.f k (s.extract (i + 1).toNat (i + 2).toNat) = some r) :
    spec_tuGood.l0 (k + 1) s i = if r = true then spec_tuGood.l0 k s (i + 2) else some false := by
  have w1 : wrap64 (i + 1) = i + 1 := Pl.w64 (by omega) (by omega)
  have w2 : wrap64 (i + 2) = i + 2 := Pl.w64 (by omega) (by omega)
  rw [spec_tuGood.l0, if_pos (by omega), if_pos h0, if_neg (by omega), if_neg (by omega), w1, w2, if_pos (by omega), if_pos (by omega), if_pos (by omega), er, Option.bind_some]
theorem tuGood_l0 {s : ByteArray} (he : (s.size : Int) % 2 = 0) (hs : s.size ≤ 1000000) (n : Nat) : ∀ i : Int, ((s.size : Int) - i).toNat = 2 * n → 0 ≤ i → i ≤ s.size → i % 2 = 0 → ∃ b, Ev (fun k => spec_tuGood.l0 k s i) b ∧ (b = true ↔ AllP s i) := by
  induction n with
  | zero =>
    intro i hn h0 h1 h2
    refine ⟨true, Pl.ev_unf ⟨0, fun k _ => ?_⟩, ⟨fun _ => allP_end (by omega), fun _ => rfl⟩⟩
    simp (disch := omega) only [↓reduceIte, Pl.lt_t, Pl.lt_f, Pl.le_t, Pl.le_f, Pl.ge_t, Pl.ge_f, Pl.gt_t, Pl.gt_f, Pl.eq_t, Pl.eq_f, Pl.nlt_t, Pl.nle_t, Pl.w64, Option.bind_some, Bool.false_eq_true, decide_eq_true_eq, spec_tuGood.l0]
  | succ n ih =>
    intro i hn h0 h1 h2
    obtain ⟨b, ⟨K, hK⟩, hb⟩ := ih (i + 2) (by omega) (by omega) (by omega) (by omega)
    by_cases c1 : 48 ≤ bt s i ∧ bt s i ≤ 57
    · have e1 : AllP s i ↔ AllP s (i + 1) := allP_step ⟨fun _ => c1, fun h => by omega⟩
      have er := fun k => rule_one (s := s.extract (i + 1).toNat (i + 2).toNat) (by rw [piece_size (by omega) (by omega) (by omega)]; omega) k
      rw [piece_bt (by omega) (by omega) (by omega) (by omega), Int.add_zero] at er
      have step := fun k => tuGood_step (b := b) h0 (by omega) hs c1.1 c1.2 (er k)
      by_cases c2 : Sig (bt s (i + 1))
      · refine ⟨b, Pl.ev_unf ⟨K + 2, fun k hk => ?_⟩, ?_⟩
        · have e := hK k (by omega)
          obtain ⟨q, rfl⟩ : ∃ q, k = q + 2 := ⟨k - 2, by omega⟩
          rw [step q, if_pos (decide_eq_true c2)]
          exact e
        · rw [hb, e1, allP_step (i := i + 1) ⟨fun h => by omega, fun _ => c2⟩, show i + 1 + 1 = i + 2 by omega]
      · refine ⟨false, Pl.ev_unf ⟨2, fun k hk => ?_⟩, ⟨fun h => (by cases h), fun h => absurd ((h (i + 1) (by omega) (by omega)).2 (by omega)) c2⟩⟩
        obtain ⟨q, rfl⟩ : ∃ q, k = q + 2 := ⟨k - 2, by omega⟩
        rw [step q, if_neg (by simpa using c2)]
    · refine ⟨false, Pl.ev_unf ⟨0, fun k hk => ?_⟩, ⟨fun h => (by cases h), fun h => absurd ((h i (by omega) (by omega)).1 h2) c1⟩⟩
      rw [spec_tuGood.l0, if_pos (by omega), if_pos h0]
      by_cases c3 : bt s i < 48
      · rw [if_pos c3]
      · rw [if_neg c3, if_pos (by omega)]

theorem spec_goodP {s : ByteArray} (hs : s.size ≤ 9223372036854775807) : ∃ b, Ev (fun k => spec_tuGood.f k s) b ∧ (b = true ↔ GoodP s) := by
  by_cases he : (s.size : Int) % 2 = 0
  · by_cases hl : 2 ≤ (s.size : Int) ∧ (s.size : Int) ≤ 18
    · obtain ⟨b, ⟨K, hK⟩, hb⟩ := tuGood_l0 he (by omega) (s.size / 2) 0 (by omega) (by omega) (by omega) (by omega)
      refine ⟨b, ⟨K + 2, fun k hk => ?_⟩, ?_⟩
      · obtain ⟨q, rfl⟩ : ∃ q, k = q + 1 := ⟨k - 1, by omega⟩
        have e := hK q (by omega)
        have e1 : wrap64 ((s.size : Int) / 2) = (s.size : Int) / 2 := Pl.w64 (by omega) (by omega)
        have e2 := l1In_t (a := (s.size : Int) / 2) (b := 1) (c := 9) (by omega) (by omega)
        simp (disch := omega) only [↓reduceIte, Pl.lt_t, Pl.lt_f, Pl.le_t, Pl.le_f, Pl.ge_t, Pl.ge_f, Pl.gt_t, Pl.gt_f, Pl.eq_t, Pl.eq_f, Pl.nlt_t, Pl.nle_t, Pl.w64, Option.bind_some, Bool.false_eq_true, decide_eq_true_eq, spec_tuGood.f, spec_tuGood.j0, e1, ↓Pl.bnd e2, e2, Bool.not_true, e]
      · rw [hb]
        exact ⟨fun h => ⟨he, hl.1, hl.2, h⟩, fun h => h.al⟩
    · refine ⟨false, ⟨1, fun k hk => ?_⟩, ⟨fun h => (by cases h), fun g => absurd ⟨g.lo, g.hi⟩ hl⟩⟩
      obtain ⟨q, rfl⟩ : ∃ q, k = q + 1 := ⟨k - 1, by omega⟩
      have e1 : wrap64 ((s.size : Int) / 2) = (s.size : Int) / 2 := Pl.w64 (by omega) (by omega)
      have e2 := l1In_f (a := (s.size : Int) / 2) (b := 1) (c := 9) (by omega)
      simp (disch := omega) only [↓reduceIte, Pl.lt_t, Pl.lt_f, Pl.le_t, Pl.le_f, Pl.ge_t, Pl.ge_f, Pl.gt_t, Pl.gt_f, Pl.eq_t, Pl.eq_f, Pl.nlt_t, Pl.nle_t, Pl.w64, Option.bind_some, Bool.false_eq_true, decide_eq_true_eq, spec_tuGood.f, spec_tuGood.j0, e1, ↓Pl.bnd e2, e2, Bool.not_false]
  · refine ⟨false, ⟨1, fun k hk => ?_⟩, ⟨fun h => (by cases h), fun g => absurd g.ev he⟩⟩
    obtain ⟨q, rfl⟩ : ∃ q, k = q + 1 := ⟨k - 1, by omega⟩
    simp (disch := omega) only [↓reduceIte, Pl.lt_t, Pl.lt_f, Pl.le_t, Pl.le_f, Pl.ge_t, Pl.ge_f, Pl.gt_t, Pl.gt_f, Pl.eq_t, Pl.eq_f, Pl.nlt_t, Pl.nle_t, Pl.w64, Option.bind_some, Bool.false_eq_true, decide_eq_true_eq, spec_tuGood.f, spec_tuGood.j0, he]

theorem isProgram_step {s : ByteArray} {i : Int} {k : Nat} (h0 : 0 ≤ i) (h1 : i < s.size) (hs : s.size ≤ 9223372036854775000) :
    impl_IsProgram.l0 (k + 1) s s.size i = if 48 ≤ bt s i ∧ bt s i ≤ 57 then (if i % 2 = 0 then impl_IsProgram.l0 k s s.size (i + 1) else some false) else (if i % 2 = 0 then some false else if Sig (bt s i) then impl_IsProgram.l0 k s s.size (i + 1) else some false) := by
  have w1 : wrap64 (i + 1) = i + 1 := Pl.w64 (by omega) (by omega)
  have hr := bt_range s i
  have w0 : wrap64 (bt s i) = bt s i := Pl.w64 (by omega) (by omega)
  have wt : Int.tmod i 2 = i % 2 := Pl.tmod_nn h0
  have er := contains_sig (s := s.extract i.toNat (i + 1).toNat) (by rw [piece_size (by omega) (by omega) (by omega)]; omega)
  rw [piece_bt (by omega) (by omega) (by omega) (by omega), Int.add_zero] at er
  have hw := within_val (bt s i) 48 57
  rw [impl_IsProgram.l0, if_pos h1, if_pos h0, if_pos h1, w0, w1, wt, hw, Option.bind_some]
  by_cases c1 : 48 ≤ bt s i ∧ bt s i ≤ 57
  · rw [if_pos c1, decide_eq_true c1]
    by_cases p : i % 2 = 0
    · rw [if_pos p, if_neg (by simp [p]), if_pos rfl]
    · rw [if_neg p, if_pos (by simp [p])]
  · rw [if_neg c1, decide_eq_false c1]
    by_cases p : i % 2 = 0
    · rw [if_pos p, if_pos (by simp [p])]
    · rw [if_neg p, if_neg (by simp [p]), if_neg (by simp), if_pos (by omega), if_pos (by omega), er, Option.bind_some]
      by_cases c2 : Sig (bt s i)
      · rw [if_pos c2, if_pos (decide_eq_true c2)]
      · rw [if_neg c2, if_neg (by simpa using c2)]
theorem isProgram_l0 {s : ByteArray} (hs : s.size ≤ 9223372036854775000) (n : Nat) : ∀ i : Int, ((s.size : Int) - i).toNat = n → 0 ≤ i → i ≤ s.size → ∃ b, Ev (fun k => impl_IsProgram.l0 k s s.size i) b ∧
    (b = true ↔ AllP s i ∧ (s.size : Int) % 2 = 0 ∧ 2 ≤ (s.size : Int) ∧ (s.size : Int) ≤ 18) := by
  induction n with
  | zero =>
    intro i hn h0 h1
    have e1 : wrap64 ((s.size : Int) / 2) = (s.size : Int) / 2 := Pl.w64 (by omega) (by omega)
    have ha : AllP s i := allP_end (by omega)
    by_cases he : (s.size : Int) % 2 = 0
    · refine ⟨decide (1 ≤ (s.size : Int) / 2 ∧ (s.size : Int) / 2 ≤ 9), Pl.ev_unf ⟨0, fun k _ => ?_⟩, ?_⟩
      · rw [impl_IsProgram.l0, if_neg (by omega), if_pos he, e1, within_val, Option.bind_some]
      · rw [decide_eq_true_eq]
        exact ⟨fun h => ⟨ha, he, by omega, by omega⟩, fun h => ⟨by omega, by omega⟩⟩
    · refine ⟨false, Pl.ev_unf ⟨0, fun k _ => ?_⟩, ⟨fun h => (by cases h), fun h => absurd h.2.1 he⟩⟩
      rw [impl_IsProgram.l0, if_neg (by omega), if_neg he]
  | succ n ih =>
    intro i hn h0 h1
    obtain ⟨b, ⟨K, hK⟩, hb⟩ := ih (i + 1) (by omega) (by omega) (by omega)
    have hst := fun k => isProgram_step (k := k) h0 (show i < s.size by omega) hs
    by_cases c1 : 48 ≤ bt s i ∧ bt s i ≤ 57
    · by_cases p : i % 2 = 0
      · refine ⟨b, Pl.ev_unf ⟨K, fun k hk => ?_⟩, ?_⟩
        · rw [hst, if_pos c1, if_pos p]
          exact hK k hk
        · rw [hb, allP_step (i := i) ⟨fun _ => c1, fun h => by omega⟩]
      · refine ⟨false, Pl.ev_unf ⟨0, fun k hk => ?_⟩, ⟨fun h => (by cases h), fun h => ?_⟩⟩
        · rw [hst, if_pos c1, if_neg p]
        · have := (h.1 i (by omega) (by omega)).2 (by omega)
          unfold Sig at this
          omega
    · by_cases p : i % 2 = 0
      · refine ⟨false, Pl.ev_unf ⟨0, fun k hk => ?_⟩, ⟨fun h => (by cases h), fun h => absurd ((h.1 i (by omega) (by omega)).1 p) c1⟩⟩
        rw [hst, if_neg c1, if_pos p]
      · by_cases c2 : Sig (bt s i)
        · refine ⟨b, Pl.ev_unf ⟨K, fun k hk => ?_⟩, ?_⟩
          · rw [hst, if_neg c1, if_neg p, if_pos c2]
            exact hK k hk
          · rw [hb, allP_step (i := i) ⟨fun h => by omega, fun _ => c2⟩]
        · refine ⟨false, Pl.ev_unf ⟨0, fun k hk => ?_⟩, ⟨fun h => (by cases h), fun h => absurd ((h.1 i (by omega) (by omega)).2 (by omega)) c2⟩⟩
          rw [hst, if_neg c1, if_neg p, if_neg c2]

theorem impl_goodP {s : ByteArray} (hs : s.size ≤ 9223372036854775000) : ∃ b, Ev (fun k => impl_IsProgram.f k s) b ∧ (b = true ↔ GoodP s) := by
  obtain ⟨b, hb, hi⟩ := isProgram_l0 hs _ 0 rfl (by omega) (by omega)
  exact ⟨b, hb, hi.trans ⟨fun h => ⟨h.2.1, h.2.2.1, h.2.2.2, h.1⟩, fun h => ⟨h.al, h.ev, h.lo, h.hi⟩⟩⟩

theorem goodP_both (s : ByteArray) (hs : s.size ≤ 9223372036854775000) : ∃ b, Ev (fun k => spec_tuGood.f k s) b ∧ Ev (fun k => impl_IsProgram.f k s) b ∧ (b = true ↔ GoodP s) := by
  obtain ⟨b1, h1, i1⟩ := spec_goodP (s := s) (by omega)
  obtain ⟨b2, h2, i2⟩ := impl_goodP hs
  have : b1 = b2 := Bool.eq_iff_iff.2 (i1.trans i2.symm)
  subst this
  exact ⟨b1, h1, h2, i1⟩

theorem asked_bothP (s : ByteArray) (m : Int) (hs : s.size ≤ 9223372036854775000) : ∃ b, Ev (fun k => spec_tuAsked.f k s m) b ∧ Ev (fun k => impl_isRepeated.f k s m) b ∧ (b = true ↔ GoodP s ∧ 0 ≤ m ∧ m ≤ 100) := by
  obtain ⟨b, ⟨K1, e1⟩, ⟨K2, e2⟩, hb⟩ := goodP_both s hs
  cases b with
  | false =>
    refine ⟨false, ⟨K1, fun k hk => ?_⟩, ⟨K2, fun k hk => ?_⟩, ⟨fun h => (by cases h), fun h => by have := hb.2 h.1; cases this⟩⟩
    · have e := e1 k hk
      simp (disch := omega) only [↓reduceIte, Pl.lt_t, Pl.lt_f, Pl.le_t, Pl.le_f, Pl.ge_t, Pl.ge_f, Pl.gt_t, Pl.gt_f, Pl.eq_t, Pl.eq_f, Pl.nlt_t, Pl.nle_t, Pl.w64, Option.bind_some, Bool.false_eq_true, decide_eq_true_eq, spec_tuAsked.f, ↓Pl.bnd e, e]
    · have e := e2 k hk
      simp (disch := omega) only [↓reduceIte, Pl.lt_t, Pl.lt_f, Pl.le_t, Pl.le_f, Pl.ge_t, Pl.ge_f, Pl.gt_t, Pl.gt_f, Pl.eq_t, Pl.eq_f, Pl.nlt_t, Pl.nle_t, Pl.w64, Option.bind_some, Bool.false_eq_true, decide_eq_true_eq, impl_isRepeated.f, ↓Pl.bnd e, e]
  | true =>
    refine ⟨decide (0 ≤ m ∧ m ≤ 100), ⟨K1, fun k hk => ?_⟩, ⟨K2, fun k hk => ?_⟩, ?_⟩
    · have e := e1 k hk
      have f := l1In_val m 0 100
      simp (disch := omega) only [↓reduceIte, Pl.lt_t, Pl.lt_f, Pl.le_t, Pl.le_f, Pl.ge_t, Pl.ge_f, Pl.gt_t, Pl.gt_f, Pl.eq_t, Pl.eq_f, Pl.nlt_t, Pl.nle_t, Pl.w64, Option.bind_some, Bool.false_eq_true, decide_eq_true_eq, spec_tuAsked.f, ↓Pl.bnd e, e, ↓Pl.bnd f, f]
    · have e := e2 k hk
      have f := within_val m 0 100
      simp (disch := omega) only [↓reduceIte, Pl.lt_t, Pl.lt_f, Pl.le_t, Pl.le_f, Pl.ge_t, Pl.ge_f, Pl.gt_t, Pl.gt_f, Pl.eq_t, Pl.eq_f, Pl.nlt_t, Pl.nle_t, Pl.w64, Option.bind_some, Bool.false_eq_true, decide_eq_true_eq, impl_isRepeated.f, ↓Pl.bnd e, e, ↓Pl.bnd f, f]
    · rw [decide_eq_true_eq]
      exact ⟨fun h => ⟨hb.1 rfl, h⟩, fun h => h.2⟩

end Go.Proofs.Ytklnfjjpjkphiaa.Pure
