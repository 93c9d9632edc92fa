/- Plain laws of JoinPrograms, LengthOf, GrowProgram, QuartersOf: for every text and number the program's answer is the reference's. No condition. -/
import Derived.Test.YtbndkoppdkkboaaPAx2
import Derived.Test.YtbndkoppdkkboaaPuProg
namespace Go.Proofs.Ytbndkoppdkkboaa.Pure
open Go.RowKit Go.Proofs.Ytbndkoppdkkboaa Go.Proofs.Ytbndkoppdkkboaa.PA Go.Proofs.YtbndkoppdkkboaaW.PrintWords Go.Proofs.YtbndkoppdkkboaaW.PrintLast
set_option linter.unusedVariables false
set_option linter.unusedSimpArgs false

def pl (s : ByteArray) : Nat → Int → List S30
  | 0, _ => []
  | n + 1, i => ⟨bt s i - 48, bt s (i + 1)⟩ :: pl s n (i + 2)
theorem pl_length (s : ByteArray) (n : Nat) : ∀ i, (pl s n i).length = n := by
  induction n with
  | zero => intro i; rfl
  | succ n ih => intro i; simp [pl, ih]
def sm : List S30 → Int
  | [] => 0
  | p :: l => p.f0 + sm l
def Dig (l : List S30) : Prop := ∀ p ∈ l, 0 ≤ p.f0 ∧ p.f0 ≤ 9
theorem dig_tail {p : S30} {l : List S30} (h : Dig (p :: l)) : (0 ≤ p.f0 ∧ p.f0 ≤ 9) ∧ Dig l := ⟨h p (List.mem_cons_self ..), fun q hq => h q (List.mem_cons_of_mem _ hq)⟩
theorem sm_in : ∀ l : List S30, Dig l → 0 ≤ sm l ∧ sm l ≤ 9 * l.length
  | [], _ => ⟨Int.le_refl _, by simp [sm]⟩
  | p :: l, h => by
    obtain ⟨h1, h2⟩ := dig_tail h
    have := sm_in l h2
    simp only [sm, List.length_cons]
    omega
theorem pl_dig {s : ByteArray} (hp : AllP s 0) (n : Nat) : ∀ i : Int, 0 ≤ i → i % 2 = 0 → i + 2 * n ≤ s.size → Dig (pl s n i) := by
  induction n with
  | zero => intro i h0 h1 h2 p hm; cases hm
  | succ n ih =>
    intro i h0 h1 h2 p hm
    simp only [pl, List.mem_cons] at hm
    rcases hm with rfl | hm
    · have := (hp i h0 (by omega)).1 h1
      show 0 ≤ bt s i - 48 ∧ bt s i - 48 ≤ 9
      omega
    · exact ih (i + 2) (by omega) (by omega) (by omega) p hm

theorem parts_l0 {s : ByteArray} (hp : AllP s 0) (he : (s.size : Int) % 2 = 0) (hs : s.size ≤ 1000) (n : Nat) : ∀ (i : Int) (acc : List S30), ((s.size : Int) - i).toNat = 2 * n → 0 ≤ i → i ≤ s.size → i % 2 = 0 → acc.length ≤ 100000 - n → n ≤ 1000 →
    Ev (fun k => impl_parts.l0 k s acc i) (acc ++ pl s n i) := by
  induction n with
  | zero =>
    intro i acc hn h0 h1 h2 h3 h4
    refine Pl.ev_unf ⟨0, fun k _ => ?_⟩
    simp (disch := omega) only [↓reduceIte, Pl.lt_t, Pl.lt_f, Pl.le_t, Pl.le_f, Pl.ge_t, Pl.ge_f, Pl.gt_t, Pl.gt_f, Pl.eq_t, Pl.eq_f, Pl.nlt_t, Pl.nle_t, Pl.w64, Option.bind_some, Bool.false_eq_true, decide_eq_true_eq, impl_parts.l0, pl, List.append_nil]
  | succ n ih =>
    intro i acc hn h0 h1 h2 h3 h4
    have hd := (hp i h0 (by omega)).1 h2
    have hm : (bt s i - 48) % 256 = bt s i - 48 := by omega
    have w1 : wrap64 (i + 1) = i + 1 := Pl.w64 (by omega) (by omega)
    have w2 : wrap64 (i + 2) = i + 2 := Pl.w64 (by omega) (by omega)
    obtain ⟨K, f⟩ := ih (i + 2) (acc ++ [⟨bt s i - 48, bt s (i + 1)⟩]) (by omega) (by omega) (by omega) (by omega) (by simp <;> omega) (by omega)
    rw [List.append_assoc] at f
    refine Pl.ev_unf ⟨K, fun k hk => ?_⟩
    have f := f k hk
    have hl : acc.length < 8796093022208 := by omega
    simp (disch := omega) only [↓reduceIte, Pl.lt_t, Pl.lt_f, Pl.le_t, Pl.le_f, Pl.ge_t, Pl.ge_f, Pl.gt_t, Pl.gt_f, Pl.eq_t, Pl.eq_f, Pl.nlt_t, Pl.nle_t, Pl.w64, Option.bind_some, Bool.false_eq_true, decide_eq_true_eq, impl_parts.l0, w1, w2, hm, f, pl, List.cons_append, List.nil_append]
theorem parts_val {s : ByteArray} (g : GoodP s) : Ev (fun k => impl_parts.f k s) (pl s (s.size / 2) 0) := by
  have := g.ev
  have := g.hi
  obtain ⟨K, f⟩ := parts_l0 g.al g.ev (by omega) (s.size / 2) 0 [] (by omega) (by omega) (by omega) (by omega) (by simp <;> omega) (by omega)
  exact ⟨K, fun k hk => f k hk⟩

theorem rdS_at {l : List S30} {i : Int} (h : i.toNat < l.length) : rd_T30 l i = l[i.toNat] := by
  simp [rd_T30, List.getD_eq_getElem?_getD, List.getElem?_eq_getElem h]
theorem dropS {l : List S30} {i : Int} (h0 : 0 ≤ i) (h : i < l.length) : l.drop i.toNat = rd_T30 l i :: l.drop (i + 1).toNat := by
  rw [List.drop_eq_getElem_cons (by omega), rdS_at (by omega), show (i + 1).toNat = i.toNat + 1 by omega]

def qv (l : List Int) : Int := (l.count 82 : Nat) - (l.count 76 : Nat) + 2 * (l.count 85 : Nat)
theorem qv_cons (b : Int) (l : List Int) : qv (b :: l) = qv l + (if b = 82 then 1 else if b = 76 then -1 else if b = 85 then 2 else 0) := by
  unfold qv
  simp only [List.count_cons, beq_iff_eq]
  by_cases h1 : b = 82
  · subst h1
    simp
    omega
  · by_cases h2 : b = 76
    · subst h2
      simp
      omega
    · by_cases h3 : b = 85
      · subst h3
        simp
        omega
      · simp [h1, h2, h3]
theorem drop_bt {s : ByteArray} {i : Int} (h0 : 0 ≤ i) (h : i < s.size) : (bytesOf s).drop i.toNat = bt s i :: (bytesOf s).drop (i + 1).toNat := by
  have hi : i.toNat < (bytesOf s).length := by rw [bytesOf_length]; omega
  rw [List.drop_eq_getElem_cons hi, Pl.bt_rd, Pl.rd_get hi, show (i + 1).toNat = i.toNat + 1 by omega]
theorem count_bytesC (c : UInt8) (l : List UInt8) : (l.map (fun b => (b.toNat : Int))).count (c.toNat : Int) = l.count c := by
  induction l with
  | nil => rfl
  | cons b l ih =>
    rw [List.map_cons, List.count_cons, List.count_cons, ih]
    congr 1
    by_cases h : b = c
    · subst h
      simp
    · have h' : ¬ ((b.toNat : Int) = (c.toNat : Int)) := fun e => h (UInt8.toNat_inj.1 (by omega))
      rw [if_neg (by simpa using h'), if_neg (by simpa using h)]
end Go.Proofs.Ytbndkoppdkkboaa.Pure
