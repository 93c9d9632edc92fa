/- The plain law of GrowProgram: for every text and number the program's answer is the reference's. No condition. -/
import Derived.Test.YtbndkoppdkkboaaPAx3
import Derived.Test.YtbndkoppdkkboaaPuParts
namespace Go.Proofs.Ytbndkoppdkkboaa.Pure
open Go.RowKit Go.Proofs.Ytbndkoppdkkboaa Go.Proofs.Ytbndkoppdkkboaa.PA Go.Proofs.YtbndkoppdkkboaaW.PrintWords Go.Proofs.YtbndkoppdkkboaaW.PrintLast
set_option linter.unusedVariables false
set_option linter.unusedSimpArgs false

def okG (m : Int) : List S30 → Bool
  | [] => true
  | p :: l => if p.f0 * m > 9 then false else okG m l
def txt (m : Int) : List S30 → List Int
  | [] => []
  | p :: l => (48 + p.f0 * m) :: p.f1 :: txt m l
def scl (m : Int) (l : List S30) : List S30 := l.map (fun p => ⟨p.f0 * m, p.f1⟩)
theorem okG_bad {m : Int} {p : S30} {l : List S30} (c : p.f0 * m > 9) : okG m (p :: l) = false := by
  rw [okG, if_pos c]
theorem okG_good {m : Int} {p : S30} {l : List S30} (c : ¬ p.f0 * m > 9) : okG m (p :: l) = okG m l := by
  rw [okG, if_neg c]
theorem txt_scl (m : Int) : ∀ l : List S30, txt 1 (scl m l) = txt m l
  | [] => rfl
  | p :: l => by
    have := txt_scl m l
    unfold scl at this
    simp only [scl, List.map_cons, txt, Int.mul_one, this]
theorem txt_length (m : Int) : ∀ l : List S30, (txt m l).length = 2 * l.length
  | [] => rfl
  | p :: l => by
    simp only [txt, List.length_cons, txt_length m l]
    omega
theorem str_piece {s : ByteArray} {i : Int} (h0 : 0 ≤ i) (h1 : i < s.size) : s.extract i.toNat (i + 1).toNat = strOfNums [bt s i] := by
  have hb := bt_range s i
  apply Pl.bytesOf_inj.1
  rw [Pl.bytesOf_strOf (by simpa using hb), Pl.bytesOf_extract, List.drop_take, drop_bt h0 h1, show (i + 1).toNat - i.toNat = 1 by omega]
  rfl
theorem str_app (a b : List Int) : strOfNums a ++ strOfNums b = strOfNums (a ++ b) := by
  apply Pl.ba_ext
  rw [ByteArray.toList_data_append, strOfNums_data, strOfNums_data, strOfNums_data, List.map_append]
theorem str_size (a : List Int) : (strOfNums a).size = a.length := by
  rw [← data_length, strOfNums_data, List.length_map]
theorem text_l0 {l : List S30} (hd : Dig l) (hl : l.length ≤ 1000) (n : Nat) : ∀ (i : Int) (acc : List Int), ((l.length : Int) - i).toNat = n → 0 ≤ i → i ≤ l.length → acc.length ≤ 100000 - 2 * n →
    Ev (fun k => impl_text.l0 k acc l l.length i) (strOfNums (acc ++ txt 1 (l.drop i.toNat))) := by
  induction n with
  | zero =>
    intro i acc hn h0 h1 h2
    have e : l.drop i.toNat = [] := List.drop_eq_nil_of_le (by omega)
    refine Pl.ev_unf ⟨0, fun k _ => ?_⟩
    simp (disch := omega) only [↓reduceIte, Pl.lt_t, Pl.lt_f, Pl.le_t, Pl.le_f, Pl.ge_t, Pl.ge_f, Pl.gt_t, Pl.gt_f, Pl.eq_t, Pl.eq_f, Pl.nlt_t, Pl.nle_t, Pl.w64, Option.bind_some, Bool.false_eq_true, decide_eq_true_eq, impl_text.l0, e, txt, List.append_nil]
  | succ n ih =>
    intro i acc hn h0 h1 h2
    have e := dropS (l := l) h0 (by omega)
    have hm : rd_T30 l i ∈ l := by rw [rdS_at (by omega)]; exact List.getElem_mem _
    have hb := hd _ hm
    obtain ⟨K, f⟩ := ih (i + 1) (acc ++ [48 + (rd_T30 l i).f0, (rd_T30 l i).f1]) (by omega) (by omega) (by omega) (by simp <;> omega)
    rw [List.append_assoc] at f
    refine Pl.ev_unf ⟨K, fun k hk => ?_⟩
    have f := f k hk
    have w1 : wrap64 (i + 1) = i + 1 := Pl.w64 (by omega) (by omega)
    have w2 : (48 + (rd_T30 l i).f0) % 256 = 48 + (rd_T30 l i).f0 := by omega
    have z : acc.length + [48 + (rd_T30 l i).f0, (rd_T30 l i).f1].length < 140737488355328 := by simp <;> omega
    simp (disch := omega) only [↓reduceIte, Pl.lt_t, Pl.lt_f, Pl.le_t, Pl.le_f, Pl.ge_t, Pl.ge_f, Pl.gt_t, Pl.gt_f, Pl.eq_t, Pl.eq_f, Pl.nlt_t, Pl.nle_t, Pl.w64, Option.bind_some, Bool.false_eq_true, decide_eq_true_eq, impl_text.l0, w1, w2, z, f]
    rw [e]
    simp only [txt, Int.mul_one, List.cons_append, List.nil_append]
theorem text_val {l : List S30} (hd : Dig l) (hl : l.length ≤ 1000) : Ev (fun k => impl_text.f k l) (strOfNums (txt 1 l)) := by
  obtain ⟨K, f⟩ := text_l0 hd hl _ 0 [] rfl (by omega) (by omega) (by simp <;> omega)
  exact ⟨K, fun k hk => f k hk⟩

end Go.Proofs.Ytbndkoppdkkboaa.Pure
