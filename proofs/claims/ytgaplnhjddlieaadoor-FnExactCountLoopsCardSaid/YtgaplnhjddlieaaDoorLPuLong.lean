/- The plain laws of LongestLoop and CountLoops: for every rule and size the program answers what the reference answers. No condition. -/
import Derived.Test.YtgaplnhjddlieaaDoorPLx4
import Derived.Test.YtgaplnhjddlieaaDoorPLx7
import Derived.Test.YtgaplnhjddlieaaDoorPLx8
import Derived.Test.YtgaplnhjddlieaaDoorLPuLoB
namespace Go.Proofs.YtgaplnhjddlieaaDoor.Pure
open Go.RowKit Go.Proofs.YtgaplnhjddlieaaDoor Go.Proofs.YtgaplnhjddlieaaDoor.PL Go.Proofs.YtgaplnhjddlieaaDoorW.PrintWords Go.Proofs.YtgaplnhjddlieaaDoorW.PrintLast
set_option linter.unusedVariables false
set_option linter.unusedSimpArgs false

theorem rowP_at {R : List (Int × Int)} {i : Int} (h : i.toNat < R.length) : rd_L4 (R.map spec_loLoops.rowP) i = spec_loLoops.rowP (R[i.toNat]) := by
  unfold rd_L4
  rw [List.getD_eq_getElem?_getD, List.getElem?_map, List.getElem?_eq_getElem h]
  rfl
theorem notFew_impl {ru : ByteArray} {w h : Int} (F : ¬ Few ru w h) : Ev (fun k => impl_loopsOf.f k ru w h) (([] : List Int), false) := by
  obtain ⟨b, x, ⟨K1, q1⟩, hb⟩ := counted_val ru w h
  have : b = false := by
    cases b with
    | false => rfl
    | true => exact absurd (hb.1 rfl) F
  subst this
  refine ⟨K1, fun k hk => ?_⟩
  have q1 := q1 k hk
  dsimp only at q1 ⊢
  rw [impl_loopsOf.f, q1, Option.bind_some]
  rfl
theorem rows_ne {L : List Int} (h : L ≠ []) : rowsOf L ≠ [] := fun e => h (by
  have h2 := (rows_perm L).length_eq
  rw [e] at h2
  exact List.eq_nil_of_length_eq_zero h2.symm)
theorem sort_len (L : List Int) : (L.mergeSort fun x y => decide (x ≤ y)).length = L.length := List.length_mergeSort _
theorem sort_last {L : List Int} (h : rowsOf L ≠ []) (h0 : 0 < L.length) : rd (L.mergeSort fun x y => decide (x ≤ y)) ((L.length : Int) - 1) = ((rowsOf L).getLast h).1 := by
  have e := expand_last h (rows_str L)
  rw [rows_sort, List.getLast?_eq_getElem?, sort_len] at e
  have hi : ((L.length : Int) - 1).toNat = L.length - 1 := by omega
  have hl : ((L.length : Int) - 1).toNat < (L.mergeSort fun x y => decide (x ≤ y)).length := by rw [sort_len]; omega
  rw [Pl.rd_get hl]
  rw [← hi, List.getElem?_eq_getElem hl] at e
  exact Option.some.inj e
theorem longest_both (ru : ByteArray) (w h : Int) : ∃ r, Ev (fun k => spec_LongestLoop.f k ru w h) r ∧ Ev (fun k => impl_LongestLoop.f k ru w h) r := by
  obtain ⟨b, ⟨K1, q1⟩, hb⟩ := asked_val ru w h
  cases b with
  | false =>
    obtain ⟨K2, q2⟩ := notFew_impl (fun F => Bool.false_ne_true (hb.2 F))
    refine ⟨(0, false), ⟨K1, fun k hk => ?_⟩, ⟨K2, fun k hk => ?_⟩⟩
    · have q1 := q1 k hk
      dsimp only at q1 ⊢
      rw [spec_LongestLoop.f, q1, Option.bind_some, if_neg (by simp)]
    · have q2 := q2 k hk
      dsimp only at q2 ⊢
      rw [impl_LongestLoop.f, q2, Option.bind_some]
      rfl
  | true =>
    obtain ⟨L, hL, hlen, ⟨K2, q2⟩, ⟨K3, q3⟩⟩ := loops_both (hb.1 rfl)
    have hne := rows_ne hL
    have hrl := rows_len (rows_str L)
    rw [(rows_perm L).length_eq] at hrl
    have h0 : 0 < L.length := by
      cases L with
      | nil => exact absurd rfl hL
      | cons _ _ => simp
    have hr0 : 0 < (rowsOf L).length := by
      cases hq : rowsOf L with
      | nil => exact absurd hq hne
      | cons _ _ => simp
    refine ⟨(((rowsOf L).getLast hne).1, true), ⟨K1 + K2, fun k hk => ?_⟩, ⟨K3, fun k hk => ?_⟩⟩
    · have q1 := q1 k (by omega)
      have q2 := q2 k (by omega)
      dsimp only at q1 q2 ⊢
      have w1 : wrap64 (((rowsOf L).length : Int) - 1) = ((rowsOf L).length : Int) - 1 := Pl.w64 (by omega) (by omega)
      have hi : (((rowsOf L).length : Int) - 1).toNat < (rowsOf L).length := by omega
      have hlast : (rowsOf L)[(((rowsOf L).length : Int) - 1).toNat] = (rowsOf L).getLast hne := by
        rw [List.getLast_eq_getElem]
        congr 1
        omega
      rw [spec_LongestLoop.f, q1, Option.bind_some, if_pos rfl, q2, Option.bind_some, List.length_map, w1, if_pos (by omega), if_pos (by omega), rowP_at hi, hlast, if_pos (show (0 : Int) < ((spec_loLoops.rowP ((rowsOf L).getLast hne)).length : Int) from by show (0 : Int) < 2; omega)]
      rfl
    · have q3 := q3 k hk
      dsimp only at q3 ⊢
      have w1 : wrap64 ((L.length : Int) - 1) = (L.length : Int) - 1 := Pl.w64 (by omega) (by omega)
      rw [impl_LongestLoop.f, q3, Option.bind_some]
      unfold finW
      dsimp only
      rw [if_pos rfl, sort_len, w1, if_pos (by omega), if_pos (by omega), sort_last hne h0]
theorem count_l0 {R : List (Int × Int)} (hR : R.length ≤ 100000) (hc : ∀ a ∈ R, 1 ≤ a.2) (n : Nat) : ∀ (i : Nat) (acc : Int), R.length - i = n → i ≤ R.length → 0 ≤ acc → acc + ((R.drop i).map (·.2)).sum ≤ 1000000 →
    Ev (fun k => spec_CountLoops.l0 k acc (R.map spec_loLoops.rowP) (R.length : Int) (i : Int)) (acc + ((R.drop i).map (·.2)).sum, true) := by
  induction n with
  | zero =>
    intro i acc hn hi h0 h1
    refine Pl.ev_unf ⟨0, fun k _ => ?_⟩
    rw [spec_CountLoops.l0, if_neg (by omega), List.drop_eq_nil_of_le (by omega)]
    simp
  | succ n ih =>
    intro i acc hn hi h0 h1
    have hlt : i < R.length := by omega
    have hd : R.drop i = R[i] :: R.drop (i + 1) := List.drop_eq_getElem_cons hlt
    have hp : ∀ l : List (Int × Int), (∀ a ∈ l, 1 ≤ a.2) → 0 ≤ (l.map (·.2)).sum := by
      intro l
      induction l with
      | nil => intro _; simp
      | cons a l ihl =>
        intro ha
        have := ha a List.mem_cons_self
        have := ihl (fun b hb => ha b (List.mem_cons_of_mem _ hb))
        rw [List.map_cons, List.sum_cons]
        omega
    have hpos := hp (R.drop (i + 1)) (fun a ha => hc a (List.mem_of_mem_drop ha))
    rw [hd, List.map_cons, List.sum_cons] at h1 ⊢
    have hci := hc R[i] (List.getElem_mem hlt)
    have w1 : wrap64 ((i : Int) + 1) = ((i + 1 : Nat) : Int) := by rw [Pl.w64 (by omega) (by omega)]; omega
    have w2 : wrap64 (acc + R[i].2) = acc + R[i].2 := Pl.w64 (by omega) (by omega)
    obtain ⟨K, f⟩ := ih (i + 1) (acc + R[i].2) (by omega) (by omega) (by omega) (by omega)
    refine Pl.ev_unf ⟨K, fun k hk => ?_⟩
    have f := f k hk
    dsimp only at f
    have ht : ((i : Int)).toNat < R.length := by omega
    have hg : R[((i : Int)).toNat] = R[i] := by congr 1
    rw [spec_CountLoops.l0, if_pos (by omega), if_pos (by omega), List.length_map, if_pos (by omega), rowP_at ht, hg, if_pos (show (1 : Int) < ((spec_loLoops.rowP R[i]).length : Int) from by show (1 : Int) < 2; omega), show rd (spec_loLoops.rowP R[i]) 1 = R[i].2 from rfl, w1, w2, f, Int.add_assoc]
theorem count_both (ru : ByteArray) (w h : Int) : ∃ r, Ev (fun k => spec_CountLoops.f k ru w h) r ∧ Ev (fun k => impl_CountLoops.f k ru w h) r := by
  obtain ⟨b, ⟨K1, q1⟩, hb⟩ := asked_val ru w h
  cases b with
  | false =>
    obtain ⟨K2, q2⟩ := notFew_impl (fun F => Bool.false_ne_true (hb.2 F))
    refine ⟨(0, false), ⟨K1, fun k hk => ?_⟩, ⟨K2, fun k hk => ?_⟩⟩
    · have q1 := q1 k hk
      dsimp only at q1 ⊢
      rw [spec_CountLoops.f, q1, Option.bind_some, if_neg (by simp)]
    · have q2 := q2 k hk
      dsimp only at q2 ⊢
      rw [impl_CountLoops.f, q2, Option.bind_some]
      rfl
  | true =>
    obtain ⟨L, hL, hlen, ⟨K2, q2⟩, ⟨K3, q3⟩⟩ := loops_both (hb.1 rfl)
    have hs := rows_str L
    have hrl := rows_len hs
    have hl := expand_length hs
    rw [(rows_perm L).length_eq] at hrl hl
    obtain ⟨K4, q4⟩ := count_l0 (R := rowsOf L) (by omega) hs.2 _ 0 0 rfl (by omega) (by omega) (by rw [List.drop_zero]; omega)
    rw [List.drop_zero, Int.zero_add, ← hl] at q4
    refine ⟨((L.length : Int), true), ⟨K1 + K2 + K4, fun k hk => ?_⟩, ⟨K3, fun k hk => ?_⟩⟩
    · have q1 := q1 k (by omega)
      have q2 := q2 k (by omega)
      have q4 := q4 k (by omega)
      dsimp only at q1 q2 q4 ⊢
      rw [spec_CountLoops.f, q1, Option.bind_some, if_pos rfl, q2, Option.bind_some, List.length_map]
      exact q4
    · have q3 := q3 k hk
      dsimp only at q3 ⊢
      rw [impl_CountLoops.f, q3, Option.bind_some]
      unfold finW
      dsimp only
      rw [sort_len]
theorem FnExactLongestLoop (a0 : ByteArray) (a1 : Int) (a2 : Int) (h0 : a0.size ≤ maxLen) (h1 : (Lit.int .i64 a1).wf = true) (h2 : (Lit.int .i64 a2).wf = true) : ∃ k, laws_FnExactLongestLoop.f k a0 a1 a2 = some true := by
  by_cases s0 : (a0.size : Int) ≤ 1048576
  · obtain ⟨⟨r1, r2⟩, ⟨K1, e1⟩, ⟨K2, e2⟩⟩ := longest_both a0 a1 a2
    refine ⟨K1 + K2, ?_⟩
    have e1 := e1 (K1 + K2) (by omega)
    have e2 := e2 (K1 + K2) (by omega)
    dsimp only at e1 e2
    rw [laws_FnExactLongestLoop.f, if_neg (by omega), e1, Option.bind_some, e2, Option.bind_some]
    dsimp only
    rw [if_pos rfl, bne_self_eq_false, if_neg (by simp)]
  · refine ⟨0, ?_⟩
    rw [laws_FnExactLongestLoop.f, if_pos (by omega)]
theorem FnExactCountLoops (a0 : ByteArray) (a1 : Int) (a2 : Int) (h0 : a0.size ≤ maxLen) (h1 : (Lit.int .i64 a1).wf = true) (h2 : (Lit.int .i64 a2).wf = true) : ∃ k, laws_FnExactCountLoops.f k a0 a1 a2 = some true := by
  by_cases s0 : (a0.size : Int) ≤ 1048576
  · obtain ⟨⟨r1, r2⟩, ⟨K1, e1⟩, ⟨K2, e2⟩⟩ := count_both a0 a1 a2
    refine ⟨K1 + K2, ?_⟩
    have e1 := e1 (K1 + K2) (by omega)
    have e2 := e2 (K1 + K2) (by omega)
    dsimp only at e1 e2
    rw [laws_FnExactCountLoops.f, if_neg (by omega), e1, Option.bind_some, e2, Option.bind_some]
    dsimp only
    rw [if_pos rfl, bne_self_eq_false, if_neg (by simp)]
  · refine ⟨0, ?_⟩
    rw [laws_FnExactCountLoops.f, if_pos (by omega)]

end Go.Proofs.YtgaplnhjddlieaaDoor.Pure
