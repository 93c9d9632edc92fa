/- Plain laws of JoinPrograms, LengthOf, GrowProgram, QuartersOf: for every text and number the program's answer is the reference's. No condition. -/
import Derived.Test.YtklnfjjpjkphiaaPDx1
import Derived.Test.YtklnfjjpjkphiaaPDx6
import Derived.Test.YtklnfjjpjkphiaaDPuProg
namespace Go.Proofs.Ytklnfjjpjkphiaa.Pure
open Go.RowKit Go.Proofs.Ytklnfjjpjkphiaa Go.Proofs.Ytklnfjjpjkphiaa.PD Go.Proofs.YtklnfjjpjkphiaaW.PrintWords Go.Proofs.YtklnfjjpjkphiaaW.PrintLast
set_option linter.unusedVariables false
set_option linter.unusedSimpArgs false

def pl (s : ByteArray) : Nat → Int → List S67
  | 0, _ => []
  | n + 1, i => ⟨bt s i - 48, bt s (i + 1)⟩ :: pl s n (i + 2)
theorem pl_length (s : ByteArray) (n : Nat) : ∀ i, (pl s n i).length = n := by
  induction n with
  | zero => intro i; rfl
  | succ n ih => intro i; simp [pl, ih]
def sm : List S67 → Int
  | [] => 0
  | p :: l => p.f0 + sm l
def Dig (l : List S67) : Prop := ∀ p ∈ l, 0 ≤ p.f0 ∧ p.f0 ≤ 9
theorem dig_tail {p : S67} {l : List S67} (h : Dig (p :: l)) : (0 ≤ p.f0 ∧ p.f0 ≤ 9) ∧ Dig l := ⟨h p (List.mem_cons_self ..), fun q hq => h q (List.mem_cons_of_mem _ hq)⟩
theorem sm_in : ∀ l : List S67, Dig l → 0 ≤ sm l ∧ sm l ≤ 9 * l.length
  | [], _ => ⟨Int.le_refl _, by simp [sm]⟩
  | p :: l, h => by
    obtain ⟨h1, h2⟩ := dig_tail h
    have := sm_in l h2
    simp only [sm, List.length_cons]
    omega
theorem pl_dig {s : ByteArray} (hp : AllP s 0) (n : Nat) : ∀ i : Int, 0 ≤ i → i % 2 = 0 → i + 2 * n ≤ s.size → Dig (pl s n i) := by
  induction n with
  | zero => intro i h0 h1 h2 p hm; cases hm
  | succ n ih =>
    intro i h0 h1 h2 p hm
    simp only [pl, List.mem_cons] at hm
    rcases hm with rfl | hm
    · have := (hp i h0 (by omega)).1 h1
      show 0 ≤ bt s i - 48 ∧ bt s i - 48 ≤ 9
      omega
    · exact ih (i + 2) (by omega) (by omega) (by omega) p hm

theorem parts_l0 {s : ByteArray} (hp : AllP s 0) (he : (s.size : Int) % 2 = 0) (hs : s.size ≤ 1000) (n : Nat) : ∀ (i : Int) (acc : List S67), ((s.size : Int) - i).toNat = 2 * n → 0 ≤ i → i ≤ s.size → i % 2 = 0 → acc.length ≤ 100000 - n → n ≤ 1000 →
    Ev (fun k => impl_parts.l0 k s acc i) (acc ++ pl s n i) := by
  induction n with
  | zero =>
    intro i acc hn h0 h1 h2 h3 h4
    refine Pl.ev_unf ⟨0, fun k _ => ?_⟩
    simp (disch := omega) only [↓reduceIte, Pl.lt_t, Pl.lt_f, Pl.le_t, Pl.le_f, Pl.ge_t, Pl.ge_f, Pl.gt_t, Pl.gt_f, Pl.eq_t, Pl.eq_f, Pl.nlt_t, Pl.nle_t, Pl.w64, Option.bind_some, Bool.false_eq_true, decide_eq_true_eq, impl_parts.l0, pl, List.append_nil]
  | succ n ih =>
    intro i acc hn h0 h1 h2 h3 h4
    have hd := (hp i h0 (by omega)).1 h2
    have hm : (bt s i - 48) % 256 = bt s i - 48 := by omega
    have w1 : wrap64 (i + 1) = i + 1 := Pl.w64 (by omega) (by omega)
    have w2 : wrap64 (i + 2) = i + 2 := Pl.w64 (by omega) (by omega)
    obtain ⟨K, f⟩ := ih (i + 2) (acc ++ [⟨bt s i - 48, bt s (i + 1)⟩]) (by omega) (by omega) (by omega) (by omega) (by simp <;> omega) (by omega)
    rw [List.append_assoc] at f
    refine Pl.ev_unf ⟨K, fun k hk => ?_⟩
    have f := f k hk
    have hl : acc.length < 8796093022208 := by omega
    simp (disch := omega) only [↓reduceIte, Pl.lt_t, Pl.lt_f, Pl.le_t, Pl.le_f, Pl.ge_t, Pl.ge_f, Pl.gt_t, Pl.gt_f, Pl.eq_t, Pl.eq_f, Pl.nlt_t, Pl.nle_t, Pl.w64, Option.bind_some, Bool.false_eq_true, decide_eq_true_eq, impl_parts.l0, w1, w2, hm, f, pl, List.cons_append, List.nil_append]
theorem parts_val {s : ByteArray} (g : GoodP s) : Ev (fun k => impl_parts.f k s) (pl s (s.size / 2) 0) := by
  have := g.ev
  have := g.hi
  obtain ⟨K, f⟩ := parts_l0 g.al g.ev (by omega) (s.size / 2) 0 [] (by omega) (by omega) (by omega) (by omega) (by simp <;> omega) (by omega)
  exact ⟨K, fun k hk => f k hk⟩

theorem rdS_at {l : List S67} {i : Int} (h : i.toNat < l.length) : rd_T67 l i = l[i.toNat] := by
  simp [rd_T67, List.getD_eq_getElem?_getD, List.getElem?_eq_getElem h]
theorem dropS {l : List S67} {i : Int} (h0 : 0 ≤ i) (h : i < l.length) : l.drop i.toNat = rd_T67 l i :: l.drop (i + 1).toNat := by
  rw [List.drop_eq_getElem_cons (by omega), rdS_at (by omega), show (i + 1).toNat = i.toNat + 1 by omega]

theorem length_l0 {l : List S67} {m : Int} (hd : Dig l) (hl : l.length ≤ 1000) (m0 : 0 ≤ m) (m1 : m ≤ 100) (n : Nat) : ∀ i acc : Int, ((l.length : Int) - i).toNat = n → 0 ≤ i → i ≤ l.length → 0 ≤ acc → acc ≤ 9 * i →
    Ev (fun k => impl_length.l0 k m acc l l.length i) (wrap64 ((acc + sm (l.drop i.toNat)) * m)) := by
  induction n with
  | zero =>
    intro i acc hn h0 h1 a0 a1
    have e : l.drop i.toNat = [] := List.drop_eq_nil_of_le (by omega)
    refine Pl.ev_unf ⟨0, fun k _ => ?_⟩
    simp (disch := omega) only [↓reduceIte, Pl.lt_t, Pl.lt_f, Pl.le_t, Pl.le_f, Pl.ge_t, Pl.ge_f, Pl.gt_t, Pl.gt_f, Pl.eq_t, Pl.eq_f, Pl.nlt_t, Pl.nle_t, Pl.w64, Option.bind_some, Bool.false_eq_true, decide_eq_true_eq, impl_length.l0, e, sm, Int.add_zero]
  | succ n ih =>
    intro i acc hn h0 h1 a0 a1
    have e := dropS (l := l) h0 (by omega)
    have hm : rd_T67 l i ∈ l := by rw [rdS_at (by omega)]; exact List.getElem_mem _
    have hb := hd _ hm
    obtain ⟨K, f⟩ := ih (i + 1) (acc + (rd_T67 l i).f0) (by omega) (by omega) (by omega) (by omega) (by omega)
    refine Pl.ev_unf ⟨K, fun k hk => ?_⟩
    have f := f k hk
    have w1 : wrap64 (i + 1) = i + 1 := Pl.w64 (by omega) (by omega)
    have w2 : wrap64 (acc + (rd_T67 l i).f0) = acc + (rd_T67 l i).f0 := Pl.w64 (by omega) (by omega)
    simp (disch := omega) only [↓reduceIte, Pl.lt_t, Pl.lt_f, Pl.le_t, Pl.le_f, Pl.ge_t, Pl.ge_f, Pl.gt_t, Pl.gt_f, Pl.eq_t, Pl.eq_f, Pl.nlt_t, Pl.nle_t, Pl.w64, Option.bind_some, Bool.false_eq_true, decide_eq_true_eq, impl_length.l0, w1, w2, f]
    rw [e, sm, Int.add_assoc]
theorem length_val {s : ByteArray} (g : GoodP s) {m : Int} (m0 : 0 ≤ m) (m1 : m ≤ 100) : Ev (fun k => impl_length.f k s m) (wrap64 (sm (pl s (s.size / 2) 0) * m)) := by
  have := g.hi
  obtain ⟨K1, e1⟩ := parts_val g
  obtain ⟨K2, e2⟩ := length_l0 (l := pl s (s.size / 2) 0) (m := m) (pl_dig g.al _ 0 (by omega) (by omega) (by omega)) (by rw [pl_length]; omega) m0 m1 _ 0 0 rfl (by omega) (by omega) (by omega) (by omega)
  simp only [Int.toNat_zero, List.drop_zero, Int.zero_add] at e2
  refine ⟨K1 + K2, fun k hk => ?_⟩
  have e1 := e1 k (by omega)
  have e2 := e2 k (by omega)
  simp (disch := omega) only [↓reduceIte, Pl.lt_t, Pl.lt_f, Pl.le_t, Pl.le_f, Pl.ge_t, Pl.ge_f, Pl.gt_t, Pl.gt_f, Pl.eq_t, Pl.eq_f, Pl.nlt_t, Pl.nle_t, Pl.w64, Option.bind_some, Bool.false_eq_true, decide_eq_true_eq, impl_length.f, ↓Pl.bnd e1, e1, e2]
theorem tuLength_l0 {s : ByteArray} (hp : AllP s 0) (he : (s.size : Int) % 2 = 0) (hs : s.size ≤ 1000) (n : Nat) : ∀ (i acc : Int), ((s.size : Int) - i).toNat = 2 * n → 0 ≤ i → i ≤ s.size → i % 2 = 0 → 0 ≤ acc → acc ≤ 9 * i →
    Ev (fun k => spec_tuLength.l0 k s acc i) (acc + sm (pl s n i)) := by
  induction n with
  | zero =>
    intro i acc hn h0 h1 h2 a0 a1
    refine Pl.ev_unf ⟨0, fun k _ => ?_⟩
    simp (disch := omega) only [↓reduceIte, Pl.lt_t, Pl.lt_f, Pl.le_t, Pl.le_f, Pl.ge_t, Pl.ge_f, Pl.gt_t, Pl.gt_f, Pl.eq_t, Pl.eq_f, Pl.nlt_t, Pl.nle_t, Pl.w64, Option.bind_some, Bool.false_eq_true, decide_eq_true_eq, spec_tuLength.l0, pl, sm, Int.add_zero]
  | succ n ih =>
    intro i acc hn h0 h1 h2 a0 a1
    have hd := (hp i h0 (by omega)).1 h2
    have hm : (bt s i - 48) % 256 = bt s i - 48 := by omega
    obtain ⟨K, f⟩ := ih (i + 2) (acc + (bt s i - 48)) (by omega) (by omega) (by omega) (by omega) (by omega) (by omega)
    refine Pl.ev_unf ⟨K, fun k hk => ?_⟩
    have f := f k hk
    have w2 : wrap64 (i + 2) = i + 2 := Pl.w64 (by omega) (by omega)
    have w3 : wrap64 (acc + (bt s i - 48)) = acc + (bt s i - 48) := Pl.w64 (by omega) (by omega)
    simp (disch := omega) only [↓reduceIte, Pl.lt_t, Pl.lt_f, Pl.le_t, Pl.le_f, Pl.ge_t, Pl.ge_f, Pl.gt_t, Pl.gt_f, Pl.eq_t, Pl.eq_f, Pl.nlt_t, Pl.nle_t, Pl.w64, Option.bind_some, Bool.false_eq_true, decide_eq_true_eq, spec_tuLength.l0, w2, hm, w3, f, pl, sm, Int.add_assoc]
theorem tuLength_val {s : ByteArray} (g : GoodP s) : Ev (fun k => spec_tuLength.f k s) (sm (pl s (s.size / 2) 0)) := by
  have := g.hi
  have := g.ev
  obtain ⟨K, e⟩ := tuLength_l0 g.al g.ev (by omega) (s.size / 2) 0 0 (by omega) (by omega) (by omega) (by omega) (by omega) (by omega)
  rw [Int.zero_add] at e
  exact ⟨K, e⟩

def qv (l : List Int) : Int := (l.count 82 : Nat) - (l.count 76 : Nat) + 2 * (l.count 85 : Nat)
theorem qv_cons (b : Int) (l : List Int) : qv (b :: l) = qv l + (if b = 82 then 1 else if b = 76 then -1 else if b = 85 then 2 else 0) := by
  unfold qv
  simp only [List.count_cons, beq_iff_eq]
  by_cases h1 : b = 82
  · subst h1
    simp
    omega
  · by_cases h2 : b = 76
    · subst h2
      simp
      omega
    · by_cases h3 : b = 85
      · subst h3
        simp
        omega
      · simp [h1, h2, h3]
theorem drop_bt {s : ByteArray} {i : Int} (h0 : 0 ≤ i) (h : i < s.size) : (bytesOf s).drop i.toNat = bt s i :: (bytesOf s).drop (i + 1).toNat := by
  have hi : i.toNat < (bytesOf s).length := by rw [bytesOf_length]; omega
  rw [List.drop_eq_getElem_cons hi, Pl.bt_rd, Pl.rd_get hi, show (i + 1).toNat = i.toNat + 1 by omega]
theorem count_bytesC (c : UInt8) (l : List UInt8) : (l.map (fun b => (b.toNat : Int))).count (c.toNat : Int) = l.count c := by
  induction l with
  | nil => rfl
  | cons b l ih =>
    rw [List.map_cons, List.count_cons, List.count_cons, ih]
    congr 1
    by_cases h : b = c
    · subst h
      simp
    · have h' : ¬ ((b.toNat : Int) = (c.toNat : Int)) := fun e => h (UInt8.toNat_inj.1 (by omega))
      rw [if_neg (by simpa using h'), if_neg (by simpa using h)]
end Go.Proofs.Ytklnfjjpjkphiaa.Pure
