/- The plain law of GrowProgram: for every text and number the program's answer is the reference's. No condition. -/
import Derived.Test.YtekbompbgcneeaaPAx3
import Derived.Test.YtekbompbgcneeaaPAx4
import Derived.Test.YtekbompbgcneeaaPuParts
namespace Go.Proofs.Ytekbompbgcneeaa.Pure
open Go.RowKit Go.Proofs.Ytekbompbgcneeaa Go.Proofs.Ytekbompbgcneeaa.PA Go.Proofs.YtekbompbgcneeaaW.PrintWords Go.Proofs.YtekbompbgcneeaaW.PrintLast
set_option linter.unusedVariables false
set_option linter.unusedSimpArgs false

def okG (m : Int) : List S44 → Bool
  | [] => true
  | p :: l => if p.f0 * m > 9 then false else okG m l
def txt (m : Int) : List S44 → List Int
  | [] => []
  | p :: l => (48 + p.f0 * m) :: p.f1 :: txt m l
def scl (m : Int) (l : List S44) : List S44 := l.map (fun p => ⟨p.f0 * m, p.f1⟩)
theorem okG_bad {m : Int} {p : S44} {l : List S44} (c : p.f0 * m > 9) : okG m (p :: l) = false := by
  rw [okG, if_pos c]
theorem okG_good {m : Int} {p : S44} {l : List S44} (c : ¬ p.f0 * m > 9) : okG m (p :: l) = okG m l := by
  rw [okG, if_neg c]
theorem txt_scl (m : Int) : ∀ l : List S44, txt 1 (scl m l) = txt m l
  | [] => rfl
  | p :: l => by
    have := txt_scl m l
    unfold scl at this
    simp only [scl, List.map_cons, txt, Int.mul_one, this]
theorem txt_length (m : Int) : ∀ l : List S44, (txt m l).length = 2 * l.length
  | [] => rfl
  | p :: l => by
    simp only [txt, List.length_cons, txt_length m l]
    omega
theorem str_piece {s : ByteArray} {i : Int} (h0 : 0 ≤ i) (h1 : i < s.size) : s.extract i.toNat (i + 1).toNat = strOfNums [bt s i] := by
  have hb := bt_range s i
  apply Pl.bytesOf_inj.1
  rw [Pl.bytesOf_strOf (by simpa using hb), Pl.bytesOf_extract, List.drop_take, drop_bt h0 h1, show (i + 1).toNat - i.toNat = 1 by omega]
  rfl
theorem str_app (a b : List Int) : strOfNums a ++ strOfNums b = strOfNums (a ++ b) := by
  apply Pl.ba_ext
  rw [ByteArray.toList_data_append, strOfNums_data, strOfNums_data, strOfNums_data, List.map_append]
theorem str_size (a : List Int) : (strOfNums a).size = a.length := by
  rw [← data_length, strOfNums_data, List.length_map]
theorem num_one {n : Int} (h0 : 0 ≤ n) (h1 : n ≤ 9) (k : Nat) : spec_l1Num.f (k + 1) n = some (strOfNums [48 + n]) := by
  have w : wrap64 (48 + n) % 256 = 48 + n := by rw [Pl.w64 (by omega) (by omega)]; omega
  rw [spec_l1Num.f, if_pos (by omega), w]

theorem grow_l0 {s : ByteArray} {m : Int} (m0 : 1 ≤ m) (m1 : m ≤ 9) (hp : AllP s 0) (he : (s.size : Int) % 2 = 0) (hs : s.size ≤ 1000) (n : Nat) : ∀ (i : Int) (acc : List Int), ((s.size : Int) - i).toNat = 2 * n → 0 ≤ i → i ≤ s.size → i % 2 = 0 → acc.length ≤ 100000 - 2 * n → n ≤ 1000 →
    Ev (fun k => spec_GrowProgram.l0 k s m (strOfNums acc) i) (cond (okG m (pl s n i)) (strOfNums (acc ++ txt m (pl s n i)), true) ((⟨#[]⟩ : ByteArray), false)) := by
  induction n with
  | zero =>
    intro i acc hn h0 h1 h2 h3 h4
    refine Pl.ev_unf ⟨0, fun k _ => ?_⟩
    simp (disch := omega) only [↓reduceIte, Pl.lt_t, Pl.lt_f, Pl.le_t, Pl.le_f, Pl.ge_t, Pl.ge_f, Pl.gt_t, Pl.gt_f, Pl.eq_t, Pl.eq_f, Pl.nlt_t, Pl.nle_t, Pl.w64, Option.bind_some, Bool.false_eq_true, decide_eq_true_eq, spec_GrowProgram.l0, pl, txt, okG, List.append_nil]
    rfl
  | succ n ih =>
    intro i acc hn h0 h1 h2 h3 h4
    have hd := (hp i h0 (by omega)).1 h2
    have hm : (bt s i - 48) % 256 = bt s i - 48 := by omega
    have w1 : wrap64 (i + 1) = i + 1 := Pl.w64 (by omega) (by omega)
    have w2 : wrap64 (i + 2) = i + 2 := Pl.w64 (by omega) (by omega)
    obtain ⟨q0, q1⟩ := Pl.mul_in (a := bt s i - 48) (b := m) (A := 9) (B := 9) (by omega) (by omega) (by omega) m1
    have w3 : wrap64 ((bt s i - 48) * m) = (bt s i - 48) * m := Pl.w64 (by omega) (by omega)
    have hx : (bt s i - 48) * m = (⟨bt s i - 48, bt s (i + 1)⟩ : S44).f0 * m := rfl
    by_cases c : (bt s i - 48) * m > 9
    · rw [pl, okG_bad c]
      refine Pl.ev_unf ⟨0, fun k hk => ?_⟩
      rw [spec_GrowProgram.l0, if_pos (by omega), if_pos h0, hm, w3, if_pos c]
      rfl
    · rw [pl, okG_good c, txt]
      have ep := str_piece (s := s) (i := i + 1) (by omega) (by omega)
      rw [show i + 1 + 1 = i + 2 by omega] at ep
      obtain ⟨K, f⟩ := ih (i + 2) (acc ++ [48 + (bt s i - 48) * m, bt s (i + 1)]) (by omega) (by omega) (by omega) (by omega) (by simp <;> omega) (by omega)
      rw [List.append_assoc] at f
      refine Pl.ev_unf ⟨K + 1, fun k hk => ?_⟩
      have f := f k (by omega)
      obtain ⟨z, rfl⟩ : ∃ z, k = z + 1 := ⟨k - 1, by omega⟩
      have en := num_one q0 (by omega) z
      have ea := str_app [48 + (bt s i - 48) * m] [bt s (i + 1)]
      have eb := str_app acc ([48 + (bt s i - 48) * m] ++ [bt s (i + 1)])
      have z1 : (strOfNums [48 + (bt s i - 48) * m]).size + (strOfNums [bt s (i + 1)]).size ≤ 9223372036854775807 := by
        rw [str_size, str_size]
        show 1 + 1 ≤ _
        omega
      have z2 : (strOfNums acc).size + (strOfNums ([48 + (bt s i - 48) * m] ++ [bt s (i + 1)])).size ≤ 9223372036854775807 := by
        rw [str_size, str_size]
        show acc.length + 2 ≤ _
        omega
      rw [spec_GrowProgram.l0, if_pos (by omega), if_pos h0, hm, w3, if_neg c, en, Option.bind_some, w1, w2, if_pos (by omega), if_pos (by omega), if_pos (by omega), ep, if_pos z1, ea, if_pos z2, eb]
      exact f

theorem text_l0 {l : List S44} (hd : Dig l) (hl : l.length ≤ 1000) (n : Nat) : ∀ (i : Int) (acc : List Int), ((l.length : Int) - i).toNat = n → 0 ≤ i → i ≤ l.length → acc.length ≤ 100000 - 2 * n →
    Ev (fun k => impl_text.l0 k acc l l.length i) (strOfNums (acc ++ txt 1 (l.drop i.toNat))) := by
  induction n with
  | zero =>
    intro i acc hn h0 h1 h2
    have e : l.drop i.toNat = [] := List.drop_eq_nil_of_le (by omega)
    refine Pl.ev_unf ⟨0, fun k _ => ?_⟩
    simp (disch := omega) only [↓reduceIte, Pl.lt_t, Pl.lt_f, Pl.le_t, Pl.le_f, Pl.ge_t, Pl.ge_f, Pl.gt_t, Pl.gt_f, Pl.eq_t, Pl.eq_f, Pl.nlt_t, Pl.nle_t, Pl.w64, Option.bind_some, Bool.false_eq_true, decide_eq_true_eq, impl_text.l0, e, txt, List.append_nil]
  | succ n ih =>
    intro i acc hn h0 h1 h2
    have e := dropS (l := l) h0 (by omega)
    have hm : rd_T44 l i ∈ l := by rw [rdS_at (by omega)]; exact List.getElem_mem _
    have hb := hd _ hm
    obtain ⟨K, f⟩ := ih (i + 1) (acc ++ [48 + (rd_T44 l i).f0, (rd_T44 l i).f1]) (by omega) (by omega) (by omega) (by simp <;> omega)
    rw [List.append_assoc] at f
    refine Pl.ev_unf ⟨K, fun k hk => ?_⟩
    have f := f k hk
    have w1 : wrap64 (i + 1) = i + 1 := Pl.w64 (by omega) (by omega)
    have w2 : (48 + (rd_T44 l i).f0) % 256 = 48 + (rd_T44 l i).f0 := by omega
    have z : acc.length + [48 + (rd_T44 l i).f0, (rd_T44 l i).f1].length < 140737488355328 := by simp <;> omega
    simp (disch := omega) only [↓reduceIte, Pl.lt_t, Pl.lt_f, Pl.le_t, Pl.le_f, Pl.ge_t, Pl.ge_f, Pl.gt_t, Pl.gt_f, Pl.eq_t, Pl.eq_f, Pl.nlt_t, Pl.nle_t, Pl.w64, Option.bind_some, Bool.false_eq_true, decide_eq_true_eq, impl_text.l0, w1, w2, z, f]
    rw [e]
    simp only [txt, Int.mul_one, List.cons_append, List.nil_append]
theorem text_val {l : List S44} (hd : Dig l) (hl : l.length ≤ 1000) : Ev (fun k => impl_text.f k l) (strOfNums (txt 1 l)) := by
  obtain ⟨K, f⟩ := text_l0 hd hl _ 0 [] rfl (by omega) (by omega) (by simp <;> omega)
  exact ⟨K, fun k hk => f k hk⟩

theorem growI_l0 {m : Int} (m0 : 1 ≤ m) (m1 : m ≤ 9) (n : Nat) : ∀ (l : List S44) (i : Int), Dig l → l.length ≤ 1000 → ((l.length : Int) - i).toNat = n → 0 ≤ i → i ≤ l.length →
    Ev (fun k => impl_GrowProgram.l0 k m l l.length i) (cond (okG m (l.drop i.toNat)) (strOfNums (txt 1 (l.take i.toNat ++ scl m (l.drop i.toNat))), true) ((⟨#[]⟩ : ByteArray), false)) := by
  induction n with
  | zero =>
    intro l i hd hl hn h0 h1
    have e : l.drop i.toNat = [] := List.drop_eq_nil_of_le (by omega)
    have e2 : l.take i.toNat = l := List.take_of_length_le (by omega)
    obtain ⟨K, f⟩ := text_val hd hl
    refine Pl.ev_unf ⟨K, fun k hk => ?_⟩
    have f := f k hk
    rw [e, e2]
    simp (disch := omega) only [↓reduceIte, Pl.lt_t, Pl.lt_f, Pl.le_t, Pl.le_f, Pl.ge_t, Pl.ge_f, Pl.gt_t, Pl.gt_f, Pl.eq_t, Pl.eq_f, Pl.nlt_t, Pl.nle_t, Pl.w64, Option.bind_some, Bool.false_eq_true, decide_eq_true_eq, impl_GrowProgram.l0, ↓Pl.bnd f, f, okG, scl, List.map_nil, List.append_nil]
    rfl
  | succ n ih =>
    intro l i hd hl hn h0 h1
    have e := dropS (l := l) h0 (by omega)
    have hi : i.toNat < l.length := by omega
    have hm : rd_T44 l i ∈ l := by rw [rdS_at hi]; exact List.getElem_mem _
    have hb := hd _ hm
    rw [e]
    generalize hr : rd_T44 l i = p at hb hm
    obtain ⟨q0, q1⟩ := Pl.mul_in (a := p.f0) (b := m) (A := 9) (B := 9) hb.1 hb.2 (by omega) m1
    have w3 : wrap64 (p.f0 * m) = p.f0 * m := Pl.w64 (by omega) (by omega)
    have hy : rd_T44 (l.set i.toNat (⟨p.f0 * m, p.f1⟩ : S44)) i = ⟨p.f0 * m, p.f1⟩ := by
      rw [rdS_at (by rw [List.length_set]; omega)]
      exact List.getElem_set_self ..
    by_cases c : p.f0 * m > 9
    · rw [okG_bad c]
      refine Pl.ev_unf ⟨0, fun k hk => ?_⟩
      simp (disch := omega) only [↓reduceIte, Pl.lt_t, Pl.lt_f, Pl.le_t, Pl.le_f, Pl.ge_t, Pl.ge_f, Pl.gt_t, Pl.gt_f, Pl.eq_t, Pl.eq_f, Pl.nlt_t, Pl.nle_t, Pl.w64, Option.bind_some, Bool.false_eq_true, decide_eq_true_eq, impl_GrowProgram.l0, hr, w3, hy]
      rfl
    · have dl : (l.set i.toNat (⟨p.f0 * m, p.f1⟩ : S44)).drop (i + 1).toNat = l.drop (i + 1).toNat := by
        rw [List.drop_set_of_lt (by omega)]
      have tl : (l.set i.toNat (⟨p.f0 * m, p.f1⟩ : S44)).take (i + 1).toNat = l.take i.toNat ++ [⟨p.f0 * m, p.f1⟩] := by
        rw [show (i + 1).toNat = i.toNat + 1 by omega, List.take_succ_eq_append_getElem (by rw [List.length_set]; exact hi), List.getElem_set_self, List.take_set_of_le (Nat.le_refl _)]
      obtain ⟨K, f⟩ := ih (l.set i.toNat (⟨p.f0 * m, p.f1⟩ : S44)) (i + 1) (fun x hx => by
        rcases List.mem_or_eq_of_mem_set hx with hx | rfl
        · exact hd x hx
        · exact ⟨q0, by show p.f0 * m ≤ 9; omega⟩) (by rw [List.length_set]; exact hl) (by rw [List.length_set]; omega) (by omega) (by rw [List.length_set]; omega)
      rw [dl, tl, List.length_set] at f
      refine Pl.ev_unf ⟨K, fun k hk => ?_⟩
      have f := f k hk
      have w1 : wrap64 (i + 1) = i + 1 := Pl.w64 (by omega) (by omega)
      rw [okG_good c]
      simp (disch := omega) only [↓reduceIte, Pl.lt_t, Pl.lt_f, Pl.le_t, Pl.le_f, Pl.ge_t, Pl.ge_f, Pl.gt_t, Pl.gt_f, Pl.eq_t, Pl.eq_f, Pl.nlt_t, Pl.nle_t, Pl.w64, Option.bind_some, Bool.false_eq_true, decide_eq_true_eq, impl_GrowProgram.l0, hr, w3, hy, w1, f]
      simp only [scl, List.map_cons, List.append_assoc, List.cons_append, List.nil_append]

theorem FnExactGrowProgram (a0 : ByteArray) (a1 : Int) (h0 : a0.size ≤ maxLen) (h1 : (Lit.int .i64 a1).wf = true) : ∃ k, laws_FnExactGrowProgram.f k a0 a1 = some true := by
  by_cases s0 : (a0.size : Int) ≤ 1048576
  · obtain ⟨b, ⟨K1, e1⟩, ⟨K2, e2⟩, hb⟩ := goodP_both a0 (by omega)
    cases b with
    | false =>
      refine ⟨K1 + K2 + 1, ?_⟩
      have e1 := e1 (K1 + K2 + 1) (by omega)
      have e2 := e2 (K1 + K2 + 1) (by omega)
      simp (disch := omega) only [↓reduceIte, Pl.lt_t, Pl.lt_f, Pl.le_t, Pl.le_f, Pl.ge_t, Pl.ge_f, Pl.gt_t, Pl.gt_f, Pl.eq_t, Pl.eq_f, Pl.nlt_t, Pl.nle_t, Pl.w64, Option.bind_some, Bool.false_eq_true, decide_eq_true_eq, laws_FnExactGrowProgram.f, spec_GrowProgram.f, spec_GrowProgram.j0, impl_GrowProgram.f, impl_GrowProgram.j0, ↓Pl.bnd e1, e1, ↓Pl.bnd e2, e2, bne_self_eq_false]
    | true =>
      have g := hb.1 rfl
      have hi := g.hi
      have he := g.ev
      by_cases c : 1 ≤ a1 ∧ a1 ≤ 9
      · obtain ⟨K3, e3⟩ := grow_l0 (s := a0) c.1 c.2 g.al g.ev (by omega) (a0.size / 2) 0 [] (by omega) (by omega) (by omega) (by omega) (by simp <;> omega) (by omega)
        obtain ⟨K4, e4⟩ := parts_val g
        have hl : (pl a0 (a0.size / 2) 0).length = a0.size / 2 := pl_length ..
        obtain ⟨K5, e5⟩ := growI_l0 c.1 c.2 _ (pl a0 (a0.size / 2) 0) 0 (pl_dig g.al _ 0 (by omega) (by omega) (by omega)) (by omega) rfl (by omega) (by omega)
        simp only [Int.toNat_zero, List.drop_zero, List.take_zero, List.nil_append, txt_scl] at e3 e5
        refine ⟨K1 + K2 + K3 + K4 + K5 + 1, ?_⟩
        have e1 := e1 (K1 + K2 + K3 + K4 + K5 + 1) (by omega)
        have e2 := e2 (K1 + K2 + K3 + K4 + K5 + 1) (by omega)
        have e3 : spec_GrowProgram.l0 (K1 + K2 + K3 + K4 + K5) a0 a1 (⟨#[]⟩ : ByteArray) 0 = _ := e3 (K1 + K2 + K3 + K4 + K5) (by omega)
        have e4 : impl_parts.f (K1 + K2 + K3 + K4 + K5) a0 = _ := e4 (K1 + K2 + K3 + K4 + K5) (by omega)
        have e5 := e5 (K1 + K2 + K3 + K4 + K5) (by omega)
        have l1 := l1In_t c.1 c.2
        have l2 := within_t c.1 c.2
        simp only [laws_FnExactGrowProgram.f, spec_GrowProgram.f, impl_GrowProgram.f]
        rw [if_neg (by omega), Pl.bnd e1, if_pos rfl, Pl.bnd l1, Pl.bnd e2, if_pos rfl, Pl.bnd l2]
        simp only [Bool.not_true, spec_GrowProgram.j0, impl_GrowProgram.j0, Bool.false_eq_true, if_false]
        rw [e3, Option.bind_some, e4, Option.bind_some, e5, Option.bind_some]
        generalize cond (okG a1 (pl a0 (a0.size / 2) 0)) (strOfNums (txt a1 (pl a0 (a0.size / 2) 0)), true) ((⟨#[]⟩ : ByteArray), false) = rr
        simp
      · have l1 := l1In_f (a := a1) (b := 1) (c := 9) (by omega)
        have l2 := within_f (a := a1) (b := 1) (c := 9) (by omega)
        refine ⟨K1 + K2 + 1, ?_⟩
        have e1 := e1 (K1 + K2 + 1) (by omega)
        have e2 := e2 (K1 + K2 + 1) (by omega)
        simp (disch := omega) only [↓reduceIte, Pl.lt_t, Pl.lt_f, Pl.le_t, Pl.le_f, Pl.ge_t, Pl.ge_f, Pl.gt_t, Pl.gt_f, Pl.eq_t, Pl.eq_f, Pl.nlt_t, Pl.nle_t, Pl.w64, Option.bind_some, Bool.false_eq_true, decide_eq_true_eq, laws_FnExactGrowProgram.f, spec_GrowProgram.f, spec_GrowProgram.j0, impl_GrowProgram.f, impl_GrowProgram.j0, ↓Pl.bnd e1, e1, ↓Pl.bnd e2, e2, ↓Pl.bnd l1, l1, ↓Pl.bnd l2, l2, Bool.not_false, bne_self_eq_false]
  · refine ⟨0, ?_⟩
    simp (disch := omega) only [↓reduceIte, Pl.lt_t, Pl.lt_f, Pl.le_t, Pl.le_f, Pl.ge_t, Pl.ge_f, Pl.gt_t, Pl.gt_f, Pl.eq_t, Pl.eq_f, Pl.nlt_t, Pl.nle_t, Pl.w64, Option.bind_some, Bool.false_eq_true, decide_eq_true_eq, laws_FnExactGrowProgram.f]

end Go.Proofs.Ytekbompbgcneeaa.Pure
