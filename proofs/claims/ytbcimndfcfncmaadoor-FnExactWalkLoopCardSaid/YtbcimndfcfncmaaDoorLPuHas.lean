/- Plain lemmas: a list copied by the law; whether a number stands in a list; whether all are different. No condition. -/
import Derived.Test.YtbcimndfcfncmaaDoorPLx3
import Derived.Test.YtbcimndfcfncmaaDoorLPuInts
namespace Go.Proofs.YtbcimndfcfncmaaDoor.Pure
open Go.RowKit Go.Proofs.YtbcimndfcfncmaaDoor Go.Proofs.YtbcimndfcfncmaaDoor.PL Go.Proofs.YtbcimndfcfncmaaDoorW.PrintWords Go.Proofs.YtbcimndfcfncmaaDoorW.PrintLast
set_option linter.unusedVariables false
set_option linter.unusedSimpArgs false

theorem toIntS_l0 {l : List Int} (hl : l.length ≤ 1000000000) (n : Nat) : ∀ (i : Int) (a : List Int), ((l.length : Int) - i).toNat = n → 0 ≤ i → i ≤ l.length → a.length = l.length → (∀ j : Int, 0 ≤ j → j < i → rd a j = rd l j) → Ev (fun k => laws_toIntS.l0 k l a i) l := by
  induction n with
  | zero =>
    intro i a hn h0 h1 ha hj
    have e : a = l := by
      refine List.ext_getElem ha fun j h2 h3 => ?_
      have := hj j (by omega) (by omega)
      rw [Pl.rd_get (by omega), Pl.rd_get (by omega)] at this
      simpa using this
    subst e
    refine Pl.ev_unf ⟨0, fun k _ => ?_⟩
    rw [laws_toIntS.l0, if_neg (by omega)]
  | succ n ih =>
    intro i a hn h0 h1 ha hj
    obtain ⟨K, f⟩ := ih (i + 1) (a.set i.toNat (rd l i)) (by omega) (by omega) (by omega) (by rw [List.length_set]; exact ha) (fun j j0 j1 => by
      rw [rd_set h0 (by omega) j0]
      by_cases e : j = i
      · rw [if_pos e, e]
      · rw [if_neg e]
        exact hj j j0 (by omega))
    have w1 : wrap64 (i + 1) = i + 1 := Pl.w64 (by omega) (by omega)
    refine Pl.ev_unf ⟨K, fun k hk => ?_⟩
    rw [laws_toIntS.l0, if_pos (by omega), if_pos h0, if_pos (by omega), w1]
    exact f k hk
theorem toIntS_val {l : List Int} (hl : l.length ≤ 1000000000) : Ev (fun k => laws_toIntS.f k l) l := by
  obtain ⟨K, f⟩ := toIntS_l0 hl _ 0 (List.replicate l.length 0) rfl (by omega) (by omega) (by simp) (fun j j0 j1 => by omega)
  refine ⟨K, fun k hk => ?_⟩
  dsimp only
  rw [laws_toIntS.f, if_pos (by omega), if_pos (by omega), Int.toNat_natCast]
  exact f k hk

theorem rd_take {l : List Int} {i : Nat} {j : Int} (h0 : 0 ≤ j) (h1 : j < i) (h2 : i ≤ l.length) : rd (l.take i) j = rd l j := by
  rw [Pl.rd_get (by rw [List.length_take]; omega), Pl.rd_get (by omega), List.getElem_take]
theorem few : ∀ (n : Nat) (l : List Int), l.Nodup → (∀ x ∈ l, 0 ≤ x ∧ x < n) → l.length ≤ n
  | 0, l, _, h => by
    cases l with
    | nil => exact Nat.le_refl _
    | cons x l =>
      have := h x (by simp)
      omega
  | n + 1, l, hd, h => by
    by_cases c : (n : Int) ∈ l
    · have e := List.length_erase_of_mem c
      have := few n (l.erase (n : Int)) (hd.erase _) (fun x hx => by
        have h1 := h x (List.mem_of_mem_erase hx)
        have h2 := (hd.mem_erase_iff.1 hx).1
        omega)
      omega
    · have := few n l hd (fun x hx => by
        have h1 := h x hx
        have h2 : x ≠ n := fun e => c (e ▸ hx)
        omega)
      omega
theorem onto {n : Nat} {l : List Int} (hd : l.Nodup) (h : ∀ x ∈ l, 0 ≤ x ∧ x < n) (hl : l.length = n) (y : Int) (y0 : 0 ≤ y) (y1 : y < n) : y ∈ l := by
  by_cases c : y ∈ l
  · exact c
  · have := few n (y :: l) (List.nodup_cons.2 ⟨c, hd⟩) (fun x hx => by
      rcases List.mem_cons.1 hx with rfl | hx
      · exact ⟨y0, y1⟩
      · exact h x hx)
    simp at this
    omega
theorem nodup_of {l : List Int} (h : ∀ j : Int, 0 ≤ j → j < l.length → ¬ ∃ m : Int, 0 ≤ m ∧ m < j ∧ rd l m = rd l j) : l.Nodup := by
  rw [List.nodup_iff_pairwise_ne, List.pairwise_iff_getElem]
  intro i j hi hj hij e
  refine h j (by omega) (by omega) ⟨i, by omega, by omega, ?_⟩
  rw [Pl.rd_get (by omega), Pl.rd_get (by omega)]
  simpa using e
theorem rd_mem {l : List Int} {y : Int} (h : y ∈ l) : ∃ j : Int, 0 ≤ j ∧ j < l.length ∧ rd l j = y := by
  obtain ⟨i, hi, e⟩ := List.getElem_of_mem h
  refine ⟨i, by omega, by omega, ?_⟩
  rw [Pl.rd_get (by omega)]
  simpa using e
theorem mem_rd {l : List Int} {j : Int} (h0 : 0 ≤ j) (h1 : j < l.length) : rd l j ∈ l := by
  rw [Pl.rd_get (by omega)]
  exact List.getElem_mem _

end Go.Proofs.YtbcimndfcfncmaaDoor.Pure
