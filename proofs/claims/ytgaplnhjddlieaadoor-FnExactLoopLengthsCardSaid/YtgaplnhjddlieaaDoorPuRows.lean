/- Plain lemmas: rows of lengths and counts: rows made one by one, their lengths laid out in order. No program in sight. No condition. -/
import Derived.Test.YtgaplnhjddlieaaDoorPl
namespace Go.Proofs.YtgaplnhjddlieaaDoor.Pure
open Go.RowKit Go.Proofs.YtgaplnhjddlieaaDoor Go.Proofs.YtgaplnhjddlieaaDoorW.PrintWords
set_option linter.unusedVariables false

def ins : List (Int × Int) → Int → List (Int × Int)
  | [], n => [(n, 1)]
  | a :: r, n => if a.1 < n then a :: ins r n else if a.1 = n then (a.1, a.2 + 1) :: r else (n, 1) :: a :: r
def expand (r : List (Int × Int)) : List Int := r.flatMap fun a => List.replicate a.2.toNat a.1
def Str (r : List (Int × Int)) : Prop := (r.Pairwise fun a b => a.1 < b.1) ∧ ∀ a ∈ r, 1 ≤ a.2
theorem ins_mem : ∀ (r : List (Int × Int)) (n : Int) (x : Int), (∃ a ∈ ins r n, a.1 = x) ↔ x = n ∨ ∃ a ∈ r, a.1 = x
  | [], n, x => by simp [ins, eq_comm]
  | a :: r, n, x => by
    unfold ins
    by_cases h1 : a.1 < n
    · rw [if_pos h1]
      have ih := ins_mem r n x
      simp only [List.mem_cons, exists_eq_or_imp, ih]
      constructor
      · rintro (h | h | h) <;> simp [h]
      · rintro (h | h | h) <;> simp [h]
    · rw [if_neg h1]
      by_cases h2 : a.1 = n
      · rw [if_pos h2]
        simp only [List.mem_cons, exists_eq_or_imp]
        constructor
        · rintro (h | h) <;> simp [h]
        · rintro (h | h | h)
          · exact .inl (h2.trans h.symm)
          · exact .inl h
          · exact .inr h
      · rw [if_neg h2]
        simp only [List.mem_cons, exists_eq_or_imp]
        constructor
        · rintro (h | h | h) <;> simp [h]
        · rintro (h | h | h) <;> simp [h]
theorem ins_str : ∀ {r : List (Int × Int)} (n : Int), Str r → Str (ins r n)
  | [], n, _ => ⟨List.pairwise_singleton _ _, fun a h => by rw [List.mem_singleton.1 h]; exact Int.le_refl 1⟩
  | a :: r, n, ⟨h1, h2⟩ => by
    obtain ⟨p1, p2⟩ := List.pairwise_cons.1 h1
    have hr : Str r := ⟨p2, fun b hb => h2 b (List.mem_cons_of_mem _ hb)⟩
    have ih := ins_str n hr
    unfold ins
    by_cases c1 : a.1 < n
    · rw [if_pos c1]
      refine ⟨List.pairwise_cons.2 ⟨fun b hb => ?_, ih.1⟩, fun b hb => ?_⟩
      · rcases (ins_mem r n b.1).1 ⟨b, hb, rfl⟩ with h | ⟨d, hd, h⟩
        · omega
        · have := p1 d hd; omega
      · rcases List.mem_cons.1 hb with rfl | hb
        · exact h2 _ List.mem_cons_self
        · exact ih.2 b hb
    · rw [if_neg c1]
      by_cases c2 : a.1 = n
      · rw [if_pos c2]
        refine ⟨List.pairwise_cons.2 ⟨fun b hb => p1 b hb, p2⟩, fun b hb => ?_⟩
        rcases List.mem_cons.1 hb with rfl | hb
        · have := h2 a List.mem_cons_self
          show 1 ≤ a.2 + 1
          omega
        · exact hr.2 b hb
      · rw [if_neg c2]
        refine ⟨List.pairwise_cons.2 ⟨fun b hb => ?_, h1⟩, fun b hb => ?_⟩
        · show n < b.1
          rcases List.mem_cons.1 hb with rfl | hb
          · omega
          · have := p1 b hb; omega
        · rcases List.mem_cons.1 hb with rfl | hb
          · exact Int.le_refl 1
          · exact h2 b hb
theorem expand_cons (a : Int × Int) (r : List (Int × Int)) : expand (a :: r) = List.replicate a.2.toNat a.1 ++ expand r := rfl
theorem ins_expand : ∀ {r : List (Int × Int)} (n : Int), Str r → (expand (ins r n)).Perm (n :: expand r)
  | [], n, _ => List.Perm.refl _
  | a :: r, n, ⟨h1, h2⟩ => by
    obtain ⟨p1, p2⟩ := List.pairwise_cons.1 h1
    have hr : Str r := ⟨p2, fun b hb => h2 b (List.mem_cons_of_mem _ hb)⟩
    unfold ins
    by_cases c1 : a.1 < n
    · rw [if_pos c1, expand_cons, expand_cons]
      exact ((ins_expand n hr).append_left _).trans List.perm_middle
    · rw [if_neg c1]
      by_cases c2 : a.1 = n
      · rw [if_pos c2, expand_cons, expand_cons]
        have := h2 a List.mem_cons_self
        rw [show (a.2 + 1).toNat = a.2.toNat + 1 by omega, List.replicate_succ, c2]
        exact List.Perm.refl _
      · rw [if_neg c2]
        exact List.Perm.refl _
theorem expand_sorted : ∀ {r : List (Int × Int)}, Str r → (expand r).Pairwise (· ≤ ·)
  | [], _ => List.Pairwise.nil
  | a :: r, ⟨h1, h2⟩ => by
    obtain ⟨p1, p2⟩ := List.pairwise_cons.1 h1
    have hr : Str r := ⟨p2, fun b hb => h2 b (List.mem_cons_of_mem _ hb)⟩
    rw [expand_cons]
    refine List.pairwise_append.2 ⟨?_, expand_sorted hr, fun x hx y hy => ?_⟩
    · exact List.pairwise_replicate.2 (.inr (Int.le_refl _))
    · rw [List.eq_of_mem_replicate hx]
      unfold expand at hy
      obtain ⟨b, hb, hy⟩ := List.mem_flatMap.1 hy
      rw [List.eq_of_mem_replicate hy]
      have := p1 b hb
      omega
def rowsOf (L : List Int) : List (Int × Int) := L.foldl ins []
theorem foldl_str : ∀ (L : List Int) {r : List (Int × Int)}, Str r → Str (L.foldl ins r) ∧ (expand (L.foldl ins r)).Perm (expand r ++ L)
  | [], r, h => ⟨h, by rw [List.append_nil]; exact List.Perm.refl _⟩
  | n :: L, r, h => by
    obtain ⟨i1, i2⟩ := foldl_str L (ins_str n h)
    exact ⟨i1, i2.trans (((ins_expand n h).append_right L).trans (by
      rw [List.cons_append]
      exact List.perm_middle.symm))⟩
theorem rows_str (L : List Int) : Str (rowsOf L) := (foldl_str L ⟨List.Pairwise.nil, fun a h => by cases h⟩).1
theorem rows_perm (L : List Int) : (expand (rowsOf L)).Perm L := (foldl_str L (r := []) ⟨List.Pairwise.nil, fun a h => by cases h⟩).2
theorem rows_sort (L : List Int) : expand (rowsOf L) = L.mergeSort fun x y => decide (x ≤ y) := by
  refine List.Perm.eq_of_pairwise (le := (· ≤ ·)) (fun a b _ _ h1 h2 => Int.le_antisymm h1 h2) (expand_sorted (rows_str L)) ?_ ((rows_perm L).trans (List.mergeSort_perm _ _).symm)
  exact (List.pairwise_mergeSort (le := fun x y => decide (x ≤ y)) (fun a b c h1 h2 => by simp at *; omega) (fun a b => by simp; omega) L).imp fun h => by simpa using h
theorem expand_length : ∀ {r : List (Int × Int)}, Str r → ((expand r).length : Int) = (r.map (·.2)).sum
  | [], _ => rfl
  | a :: r, ⟨h1, h2⟩ => by
    obtain ⟨p1, p2⟩ := List.pairwise_cons.1 h1
    have hr : Str r := ⟨p2, fun b hb => h2 b (List.mem_cons_of_mem _ hb)⟩
    have := h2 a List.mem_cons_self
    rw [expand_cons, List.length_append, List.length_replicate, List.map_cons, List.sum_cons, ← expand_length hr]
    omega
theorem expand_last : ∀ {r : List (Int × Int)} (h : r ≠ []), Str r → (expand r).getLast? = some (r.getLast h).1
  | [a], _, h => by
    have := h.2 a List.mem_cons_self
    rw [expand_cons]
    simp only [expand, List.flatMap_nil, List.append_nil, List.getLast_singleton]
    rw [List.getLast?_replicate, if_neg (by omega)]
  | a :: b :: r, _, ⟨h1, h2⟩ => by
    obtain ⟨p1, p2⟩ := List.pairwise_cons.1 h1
    have hr : Str (b :: r) := ⟨p2, fun b hb => h2 b (List.mem_cons_of_mem _ hb)⟩
    have ih := expand_last (by simp) hr
    rw [expand_cons, List.getLast?_append, ih]
    simp
theorem count_le : ∀ {r : List (Int × Int)}, Str r → ∀ a ∈ r, a.2 ≤ ((expand r).length : Int)
  | [], _, a, h => by cases h
  | b :: r, ⟨h1, h2⟩, a, ha => by
    obtain ⟨p1, p2⟩ := List.pairwise_cons.1 h1
    have hr : Str r := ⟨p2, fun b hb => h2 b (List.mem_cons_of_mem _ hb)⟩
    rw [expand_cons, List.length_append, List.length_replicate]
    rcases List.mem_cons.1 ha with rfl | ha
    · have := h2 a List.mem_cons_self
      omega
    · have := count_le hr a ha
      omega
theorem rows_len : ∀ {r : List (Int × Int)}, Str r → r.length ≤ (expand r).length
  | [], _ => Nat.le_refl _
  | b :: r, ⟨h1, h2⟩ => by
    obtain ⟨p1, p2⟩ := List.pairwise_cons.1 h1
    have := rows_len (r := r) ⟨p2, fun b hb => h2 b (List.mem_cons_of_mem _ hb)⟩
    have := h2 b List.mem_cons_self
    rw [expand_cons, List.length_append, List.length_replicate, List.length_cons]
    omega
theorem rowsOf_snoc (L : List Int) (n : Int) : rowsOf (L ++ [n]) = ins (rowsOf L) n := by
  unfold rowsOf
  rw [List.foldl_append]
  rfl
theorem ins_skip : ∀ (A B : List (Int × Int)) (n : Int), (∀ a ∈ A, a.1 < n) → ins (A ++ B) n = A ++ ins B n
  | [], B, n, _ => rfl
  | a :: A, B, n, h => by
    rw [List.cons_append, ins, if_pos (h a List.mem_cons_self), ins_skip A B n (fun b hb => h b (List.mem_cons_of_mem _ hb)), List.cons_append]

end Go.Proofs.YtgaplnhjddlieaaDoor.Pure
