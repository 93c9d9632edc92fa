/- The plain law of LoopLengths: for every rule and size the program tells the rows that the reference tells. No condition. -/
import Derived.Test.YtgaplnhjddlieaaDoorPNx4
import Derived.Test.YtgaplnhjddlieaaDoorPNx8
import Derived.Test.YtgaplnhjddlieaaDoorPNx9
import Derived.Test.YtgaplnhjddlieaaDoorNPuLoB
import Derived.Test.YtgaplnhjddlieaaDoorNPuIntSS
namespace Go.Proofs.YtgaplnhjddlieaaDoor.Pure
open Go.RowKit Go.Proofs.YtgaplnhjddlieaaDoor Go.Proofs.YtgaplnhjddlieaaDoor.PN Go.Proofs.YtgaplnhjddlieaaDoorW.PrintWords Go.Proofs.YtgaplnhjddlieaaDoorW.PrintLast
set_option linter.unusedVariables false
set_option linter.unusedSimpArgs false

theorem rowP_at {R : List (Int × Int)} {i : Int} (h : i.toNat < R.length) : rd_L4 (R.map spec_loLoops.rowP) i = spec_loLoops.rowP (R[i.toNat]) := by
  unfold rd_L4
  rw [List.getD_eq_getElem?_getD, List.getElem?_map, List.getElem?_eq_getElem h]
  rfl
theorem notFew_impl {ru : ByteArray} {w h : Int} (F : ¬ Few ru w h) : Ev (fun k => impl_loopsOf.f k ru w h) (([] : List Int), false) := by
  obtain ⟨b, x, ⟨K1, q1⟩, hb⟩ := counted_val ru w h
  have : b = false := by
    cases b with
    | false => rfl
    | true => exact absurd (hb.1 rfl) F
  subst this
  refine ⟨K1, fun k hk => ?_⟩
  have q1 := q1 k hk
  dsimp only at q1 ⊢
  rw [impl_loopsOf.f, q1, Option.bind_some]
  rfl
theorem rd_at {l : List Int} {i : Nat} (h : i < l.length) : rd l (i : Int) = l[i] := by
  have h2 : ((i : Nat) : Int).toNat < l.length := by omega
  rw [Pl.rd_get h2]
  congr 1
theorem rd_mid {A B : List Int} {c e : Nat} {n : Int} (h : e < c) : rd (A ++ (List.replicate c n ++ B)) ((A.length + e : Nat) : Int) = n := by
  rw [rd_at (by rw [List.length_append, List.length_append, List.length_replicate]; omega), List.getElem_append_right (by omega), List.getElem_append_left (by rw [List.length_replicate]; omega), List.getElem_replicate]
theorem rd_left {A B : List Int} {e : Nat} (h : e < A.length) : rd (A ++ B) (e : Int) ∈ A := by
  rw [rd_at (by rw [List.length_append]; omega), List.getElem_append_left h]
  exact List.getElem_mem _
theorem bump_at {P : List (Int × Int)} {n d : Int} (hP : P.length ≤ 100000) (d0 : 0 ≤ d) (d1 : d ≤ 100000) : impl_LoopLengths.bump (P ++ [(n, d)]) = P ++ [(n, d + 1)] := by
  have hl : (((P ++ [(n, d)]).length : Nat) : Int) = P.length + 1 := by rw [List.length_append, List.length_singleton]; omega
  have w1 : wrap64 ((((P ++ [(n, d)]).length : Nat) : Int) - 1) = (P.length : Int) := by rw [hl, Pl.w64 (by omega) (by omega)]; omega
  have hr : spec_loLoops.rdP (P ++ [(n, d)]) (P.length : Int) = (n, d) := by
    unfold spec_loLoops.rdP
    rw [show ((P.length : Nat) : Int).toNat = P.length by omega, List.getD_eq_getElem?_getD, List.getElem?_append_right (Nat.le_refl _), Nat.sub_self]
    rfl
  unfold impl_LoopLengths.bump
  rw [w1, hr, show ((P.length : Nat) : Int).toNat = P.length by omega, List.set_append_right _ _ (Nat.le_refl _), Nat.sub_self]
  show P ++ [(n, wrap64 (d + 1))] = _
  rw [Pl.w64 (by omega) (by omega)]
theorem expand_append (P Q : List (Int × Int)) : expand (P ++ Q) = expand P ++ expand Q := by
  unfold expand
  rw [List.flatMap_append]
theorem expand_mem {P : List (Int × Int)} {x : Int} (h : x ∈ expand P) : ∃ a ∈ P, x = a.1 := by
  unfold expand at h
  obtain ⟨a, ha, hx⟩ := List.mem_flatMap.1 h
  exact ⟨a, ha, List.eq_of_mem_replicate hx⟩
section
variable {X : List Int} {R : List (Int × Int)} (hX : X.length ≤ 100000) (hR : R.length ≤ 100000)
include hX
theorem grp_more {P : List (Int × Int)} (hP : P.length ≤ 90000) {n : Int} {c : Nat} {B : List Int} (hx : X = expand P ++ (List.replicate c n ++ B)) {res : List (Int × Int)} (m : Nat) : ∀ d : Nat, c - d = m → 1 ≤ d → d ≤ c →
    Ev (fun k => impl_LoopLengths.l0 k X (P ++ [(n, (c : Int))]) (((expand P).length + c : Nat) : Int)) res →
    Ev (fun k => impl_LoopLengths.l0 k X (P ++ [(n, (d : Int))]) (((expand P).length + d : Nat) : Int)) res := by
  have hlen : X.length = (expand P).length + (c + B.length) := by rw [hx, List.length_append, List.length_append, List.length_replicate]
  induction m with
  | zero =>
    intro d hm d1 dc hf
    have : d = c := by omega
    subst this
    exact hf
  | succ m ih =>
    intro d hm d1 dc hf
    obtain ⟨K, f⟩ := ih (d + 1) (by omega) (by omega) (by omega) hf
    have w1 : wrap64 ((((expand P).length + d : Nat) : Int) + 1) = (((expand P).length + (d + 1) : Nat) : Int) := by rw [Pl.w64 (by omega) (by omega)]; omega
    have e1 : rd X (((expand P).length + d : Nat) : Int) = n := by rw [hx]; exact rd_mid (by omega)
    have e2 : rd X ((((expand P).length + d : Nat) : Int) - 1) = n := by
      rw [show (((expand P).length + d : Nat) : Int) - 1 = (((expand P).length + (d - 1) : Nat) : Int) by omega, hx]
      exact rd_mid (by omega)
    refine Pl.ev_unf ⟨K, fun k hk => ?_⟩
    have f := f k hk
    dsimp only at f
    rw [impl_LoopLengths.l0, if_pos (by omega), if_pos (by omega), if_pos (by rw [List.length_append, List.length_singleton]; omega), if_neg (by omega), e1, e2, if_pos rfl, if_pos (by rw [List.length_append, List.length_singleton]; omega), bump_at (by omega) (by omega) (by omega), w1]
    exact f
theorem grp_all (hXR : X = expand R) (hs : Str R) (hr9 : R.length ≤ 90000) : ∀ (Q P : List (Int × Int)), R = P ++ Q → Ev (fun k => impl_LoopLengths.l0 k X P ((expand P).length : Int)) R
  | [], P, e => by
    rw [List.append_nil] at e
    subst e
    refine Pl.ev_unf ⟨0, fun k _ => ?_⟩
    rw [impl_LoopLengths.l0, hXR, if_neg (by omega)]
  | a :: Q, P, e => by
    obtain ⟨n, c⟩ := a
    have hPlen : R.length = P.length + Q.length + 1 := by rw [e, List.length_append, List.length_cons]; omega
    have hc : 1 ≤ c := hs.2 (n, c) (by rw [e]; exact List.mem_append.2 (.inr List.mem_cons_self))
    obtain ⟨cn, hcn⟩ : ∃ cn : Nat, (cn : Int) = c := ⟨c.toNat, by omega⟩
    subst hcn
    have hx : X = expand P ++ (List.replicate cn n ++ expand Q) := by
      rw [hXR, e, expand_append, expand_cons]
      rfl
    have hlen : X.length = (expand P).length + (cn + (expand Q).length) := by rw [hx, List.length_append, List.length_append, List.length_replicate]
    have ih := grp_all hXR hs hr9 Q (P ++ [(n, (cn : Int))]) (by rw [List.append_assoc]; exact e)
    have he : (expand (P ++ [(n, (cn : Int))])).length = (expand P).length + cn := by
      rw [expand_append, List.length_append, expand_cons, List.length_append, List.length_replicate]
      show (expand P).length + (((cn : Nat) : Int).toNat + 0) = _
      omega
    rw [he] at ih
    obtain ⟨K, f⟩ := grp_more hX (P := P) (by omega) hx (res := R) _ 1 rfl (by omega) (by omega) ih
    have w1 : wrap64 ((((expand P).length : Nat) : Int) + 1) = (((expand P).length + 1 : Nat) : Int) := by rw [Pl.w64 (by omega) (by omega)]; omega
    have e1 : rd X (((expand P).length : Nat) : Int) = n := by
      have := rd_mid (A := expand P) (B := expand Q) (c := cn) (e := 0) (n := n) (by omega)
      rw [hx]
      exact this
    refine Pl.ev_unf ⟨K, fun k hk => ?_⟩
    have f := f k hk
    dsimp only at f
    have hb : impl_LoopLengths.bump (P ++ [(n, 0)]) = P ++ [(n, ((1 : Nat) : Int))] := bump_at (by omega) (Int.le_refl 0) (by omega)
    rw [impl_LoopLengths.l0, if_pos (by omega), if_pos (by omega), if_pos (by omega), e1, hb, w1]
    by_cases c0 : (((expand P).length : Nat) : Int) = 0
    · rw [if_pos c0]
      exact f
    · rw [if_neg c0]
      have e2 : rd X ((((expand P).length : Nat) : Int) - 1) ∈ expand P := by
        rw [show (((expand P).length : Nat) : Int) - 1 = (((expand P).length - 1 : Nat) : Int) by omega, hx]
        exact rd_left (by omega)
      obtain ⟨b, hb1, hb2⟩ := expand_mem e2
      have hlt : b.1 < n := by
        have h1 := hs.1
        rw [e, List.pairwise_append] at h1
        exact h1.2.2 b hb1 (n, (cn : Int)) List.mem_cons_self
      rw [if_neg (by omega)]
      exact f
end
theorem lengths_both (ru : ByteArray) (w h : Int) : ∃ l b, Ev (fun k => spec_LoopLengths.f k ru w h) (l, b) ∧ Ev (fun k => impl_LoopLengths.f k ru w h) (l, b) ∧ l.length ≤ 100000 ∧ ∀ j : Int, 0 ≤ j → j < l.length → (rd_L4 l j).length ≤ 1000 := by
  obtain ⟨b, ⟨K1, q1⟩, hb⟩ := asked_val ru w h
  cases b with
  | false =>
    obtain ⟨K2, q2⟩ := notFew_impl (fun F => Bool.false_ne_true (hb.2 F))
    refine ⟨[], false, ⟨K1, fun k hk => ?_⟩, ⟨K2, fun k hk => ?_⟩, by simp, fun j h0 h1 => by simp at h1; omega⟩
    · have q1 := q1 k hk
      dsimp only at q1 ⊢
      rw [spec_LoopLengths.f, q1, Option.bind_some, if_neg (by simp)]
    · have q2 := q2 k hk
      dsimp only at q2 ⊢
      rw [impl_LoopLengths.f, q2, Option.bind_some]
      rfl
  | true =>
    obtain ⟨L, hL, hlen, ⟨K2, q2⟩, ⟨K3, q3⟩⟩ := loops_both (hb.1 rfl)
    have hs := rows_str L
    have hrl := rows_len hs
    rw [(rows_perm L).length_eq] at hrl
    have hsl : (L.mergeSort fun x y => decide (x ≤ y)).length = L.length := List.length_mergeSort _
    obtain ⟨K4, q4⟩ := grp_all (X := L.mergeSort fun x y => decide (x ≤ y)) (R := rowsOf L) (by rw [hsl]; omega) (rows_sort L).symm hs (by omega) (rowsOf L) [] rfl
    refine ⟨(rowsOf L).map spec_loLoops.rowP, true, ⟨K1 + K2, fun k hk => ?_⟩, ⟨K3 + K4, fun k hk => ?_⟩, by rw [List.length_map]; omega, fun j h0 h1 => ?_⟩
    · have q1 := q1 k (by omega)
      have q2 := q2 k (by omega)
      dsimp only at q1 q2 ⊢
      rw [spec_LoopLengths.f, q1, Option.bind_some, if_pos rfl, q2, Option.bind_some]
    · have q3 := q3 k (by omega)
      have q4 := q4 k (by omega)
      dsimp only at q3 q4 ⊢
      rw [impl_LoopLengths.f, q3, Option.bind_some]
      unfold finW
      dsimp only
      have q4' : impl_LoopLengths.l0 k (L.mergeSort fun x y => decide (x ≤ y)) [] 0 = some (rowsOf L) := q4
      rw [if_pos rfl, if_pos (by rw [hsl]; omega), q4', Option.bind_some]
    · rw [List.length_map] at h1
      rw [rowP_at (by omega)]
      show (2 : Nat) ≤ 1000
      omega
theorem FnExactLoopLengths (a0 : ByteArray) (a1 : Int) (a2 : Int) (h0 : a0.size ≤ maxLen) (h1 : (Lit.int .i64 a1).wf = true) (h2 : (Lit.int .i64 a2).wf = true) : ∃ k, laws_FnExactLoopLengths.f k a0 a1 a2 = some true := by
  by_cases hs : (a0.size : Int) ≤ 1048576
  · obtain ⟨l, b, ⟨K1, e1⟩, ⟨K2, e2⟩, hl, hr⟩ := lengths_both a0 a1 a2
    obtain ⟨K5, e5⟩ := eqIntSS_self (l := l) (by omega) hr
    obtain ⟨l', c, ⟨K6, e6⟩, ⟨K7, e7⟩, hc⟩ := mark_heldSS (l := l) (by omega) hr
    obtain ⟨K, hK⟩ : ∃ K, K = K1 + K2 + K5 + K6 + K7 := ⟨_, rfl⟩
    refine ⟨K, ?_⟩
    have f3 : spec_LoopLengths.f K a0 a1 a2 = some (l, b) := e1 K (by omega)
    have f4 : impl_LoopLengths.f K a0 a1 a2 = some (l, b) := e2 K (by omega)
    have f5 : laws_eqIntSS.f K l l = some true := e5 K (by omega)
    have g6 : laws_markIntSS.f K l 1 = some (c, l') := e6 K (by omega)
    have g7 : laws_heldIntSS.f K l' 1 = some c := e7 K (by omega)
    rw [laws_FnExactLoopLengths.f, if_neg (by omega), f3, Option.bind_some, f4, Option.bind_some]
    dsimp only
    rw [f5, Option.bind_some, if_pos ⟨rfl, rfl⟩, g6, Option.bind_some]
    dsimp only
    rw [g7, Option.bind_some, if_pos ⟨by omega, rfl⟩]
  · refine ⟨0, ?_⟩
    rw [laws_FnExactLoopLengths.f, if_pos (by omega)]

end Go.Proofs.YtgaplnhjddlieaaDoor.Pure
