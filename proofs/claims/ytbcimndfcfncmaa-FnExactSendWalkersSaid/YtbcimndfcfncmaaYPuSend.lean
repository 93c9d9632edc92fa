/- The plain law of SendWalkers: for every route, ends and count the program's answer is the reference's. No condition. -/
import Derived.Test.YtbcimndfcfncmaaPYx3
import Derived.Test.YtbcimndfcfncmaaPYx4
import Derived.Test.YtbcimndfcfncmaaPYx6
import Derived.Test.YtbcimndfcfncmaaPYx7
import Derived.Test.YtbcimndfcfncmaaPYx9
import Derived.Test.YtbcimndfcfncmaaYPuRoute
namespace Go.Proofs.Ytbcimndfcfncmaa.Pure
open Go.RowKit Go.Proofs.Ytbcimndfcfncmaa Go.Proofs.Ytbcimndfcfncmaa.PY Go.Proofs.YtbcimndfcfncmaaW.PrintWords Go.Proofs.YtbcimndfcfncmaaW.PrintLast
set_option linter.unusedVariables false
set_option linter.unusedSimpArgs false

theorem idx_at {l : List Int} (hl : l.length ≤ 1000000000) (x : Int) : ∃ r, Ev (fun k => slices_Index_int_int.f k l x) r ∧ ((r = -1 ∧ ¬ ∃ j : Int, 0 ≤ j ∧ j < l.length ∧ rd l j = x) ∨ (0 ≤ r ∧ r < l.length ∧ rd l r = x)) := by
  suffices h : ∀ (n : Nat) (i : Int), ((l.length : Int) - i).toNat = n → 0 ≤ i → i ≤ l.length → ∃ r, Ev (fun k => slices_Index_int_int.l0 k l x l.length i) r ∧ ((r = -1 ∧ ¬ ∃ j : Int, i ≤ j ∧ j < l.length ∧ rd l j = x) ∨ (0 ≤ r ∧ r < l.length ∧ rd l r = x)) by
    obtain ⟨r, ⟨K, f⟩, hr⟩ := h _ 0 rfl (by omega) (by omega)
    exact ⟨r, ⟨K, fun k hk => by dsimp only; rw [slices_Index_int_int.f]; exact f k hk⟩, hr⟩
  intro n
  induction n with
  | zero =>
    intro i hn h0 h1
    refine ⟨-1, Pl.ev_unf ⟨0, fun k _ => ?_⟩, .inl ⟨rfl, ?_⟩⟩
    · rw [slices_Index_int_int.l0, if_neg (by omega)]
    · rintro ⟨j, j0, j1, _⟩
      omega
  | succ n ih =>
    intro i hn h0 h1
    have w1 : wrap64 (i + 1) = i + 1 := Pl.w64 (by omega) (by omega)
    by_cases c : x = rd l i
    · refine ⟨i, Pl.ev_unf ⟨0, fun k _ => ?_⟩, .inr ⟨h0, by omega, c.symm⟩⟩
      rw [slices_Index_int_int.l0, if_pos (by omega), if_pos (by omega), if_pos (by omega), if_pos c]
    · obtain ⟨r, ⟨K, f⟩, hr⟩ := ih (i + 1) (by omega) (by omega) (by omega)
      refine ⟨r, Pl.ev_unf ⟨K, fun k hk => ?_⟩, ?_⟩
      · clear hr
        rw [slices_Index_int_int.l0, if_pos (by omega), if_pos (by omega), if_pos (by omega), if_neg c, w1]
        exact f k hk
      · rcases hr with ⟨e, hr⟩ | hr
        · refine .inl ⟨e, ?_⟩
          rintro ⟨j, j0, j1, q⟩
          by_cases ej : j = i
          · subst ej
            exact c q.symm
          · exact hr ⟨j, by omega, j1, q⟩
        · exact .inr hr
section
variable {l : List (List Int)} {ends : List Int} {a1 : Int} (he : ends.length ≤ 10) (hd : ends.Nodup)
include he
/-- one walker: the program's steps and the reference's -/
theorem walk_both (n : Nat) : ∀ (x : Int) (now : Int) (m : List Int), (3001 - x).toNat = n → 1 ≤ x → x ≤ 3001 → Good l m → 0 ≤ now → now < l.length →
    (∃ (c node : Int) (m' : List Int) (i : Int), Ev (fun k => spec_roTo.l0 k now ends x l m) (c, node, m') ∧ c ≠ 0 ∧ Good l m' ∧ 0 ≤ i ∧ i < ends.length ∧ rd ends i = node ∧ ∀ (out : List Int) (A B : Int) r, out.length = ends.length → Ev (fun k => impl_SendWalkers.l0 k a1 ends (out.set i.toNat (wrap64 (rd out i + 1))) A (wrap64 (B + 1)) l m') r → Ev (fun k => impl_SendWalkers.l1 k a1 ends out now (-1) (x - 1) A B l m) r) ∨
    (∃ m', Ev (fun k => spec_roTo.l0 k now ends x l m) (0, 0, m') ∧ ∀ (out : List Int) (A B : Int), Ev (fun k => impl_SendWalkers.l1 k a1 ends out now (-1) (x - 1) A B l m) ([], false)) := by
  induction n with
  | zero =>
    intro x now m hn h0 h1 hg n0 n1
    refine .inr ⟨m, Pl.ev_unf ⟨0, fun k _ => ?_⟩, fun out A B => Pl.ev_unf ⟨0, fun k _ => ?_⟩⟩
    · rw [spec_roTo.l0, if_neg (by omega)]
    · rw [impl_SendWalkers.l1, if_pos (by omega), if_pos (by omega)]
  | succ n ih =>
    intro x now m hn h0 h1 hg n0 n1
    have w1 : wrap64 (x + 1) = x + 1 := Pl.w64 (by omega) (by omega)
    have w2 : wrap64 (x - 1 + 1) = x + 1 - 1 := by rw [Pl.w64 (by omega) (by omega)]; omega
    obtain ⟨b, m1, s1, s2, hg1, b0, b1⟩ := step_both hg n0 n1
    obtain ⟨h, ⟨K1, f1⟩, _, hh⟩ := has_val (l := ends) (by omega) b
    obtain ⟨i, ⟨K2, f2⟩, hi⟩ := idx_at (l := ends) (by omega) b
    rcases hi with ⟨ei, hi⟩ | ⟨i0, i1, hi⟩
    · have ef : h = false := by
        cases h with
        | false => rfl
        | true => exact absurd (hh.1 rfl) hi
      subst ef
      subst ei
      clear hh
      rcases ih (x + 1) b m1 (by omega) (by omega) (by omega) hg1 b0 b1 with ⟨c, node, m', i, ⟨K, f⟩, c0, g', i0, i1, hr, G⟩ | ⟨m', ⟨K, f⟩, G⟩
      · refine .inl ⟨c, node, m', i, Pl.ev_unf ⟨K + K1, fun k hk => ?_⟩, c0, g', i0, i1, hr, fun out A B r ho hr' => ?_⟩
        · have f1 := f1 k (by omega)
          dsimp only at f1
          rw [spec_roTo.l0, if_pos (by omega), s1, Option.bind_some, f1, Option.bind_some, if_neg (by simp), w1]
          exact f k (by omega)
        · obtain ⟨K3, f3⟩ := G out A B r ho hr'
          refine Pl.ev_unf ⟨K2 + K3, fun k hk => ?_⟩
          have f2 := f2 k (by omega)
          dsimp only at f2
          rw [impl_SendWalkers.l1, if_pos (by omega), if_neg (by omega), s2, Option.bind_some, f2, Option.bind_some, w2]
          exact f3 k (by omega)
      · refine .inr ⟨m', Pl.ev_unf ⟨K + K1, fun k hk => ?_⟩, fun out A B => ?_⟩
        · have f1 := f1 k (by omega)
          dsimp only at f1
          rw [spec_roTo.l0, if_pos (by omega), s1, Option.bind_some, f1, Option.bind_some, if_neg (by simp), w1]
          exact f k (by omega)
        · obtain ⟨K3, f3⟩ := G out A B
          refine Pl.ev_unf ⟨K2 + K3, fun k hk => ?_⟩
          have f2 := f2 k (by omega)
          dsimp only at f2
          rw [impl_SendWalkers.l1, if_pos (by omega), if_neg (by omega), s2, Option.bind_some, f2, Option.bind_some, w2]
          exact f3 k (by omega)
    · have et : h = true := hh.2 ⟨i, i0, i1, hi⟩
      subst et
      clear hh
      refine .inl ⟨x, b, m1, i, Pl.ev_unf ⟨K1, fun k hk => ?_⟩, by omega, hg1, i0, i1, hi, fun out A B r ho ⟨K3, f3⟩ => Pl.ev_unf ⟨K2 + K3 + 1, fun k hk => ?_⟩⟩
      · have f1 := f1 k (by omega)
        dsimp only at f1
        rw [spec_roTo.l0, if_pos (by omega), s1, Option.bind_some, f1, Option.bind_some, if_pos rfl]
      · obtain ⟨k, rfl⟩ : ∃ j, k = j + 1 := ⟨k - 1, by omega⟩
        have f2 := f2 (k + 1) (by omega)
        dsimp only at f2
        rw [impl_SendWalkers.l1, if_pos (by omega), if_neg (by omega), s2, Option.bind_some, f2, Option.bind_some, impl_SendWalkers.l1, if_neg (by omega), if_pos i0, if_pos (by omega)]
        exact f3 k (by omega)
include hd
theorem add_both {i : Int} (i0 : 0 ≤ i) (i1 : i < ends.length) {x3 : Int} {m : List Int} {r : List Int × Bool} (n : Nat) : ∀ (j : Int) (out : List Int), ((ends.length : Int) - j).toNat = n → 0 ≤ j → j ≤ ends.length → out.length = ends.length → Ev (fun k => spec_SendWalkers.l1 k a1 ends (wrap64 (x3 - 1)) (if j ≤ i then out.set i.toNat (wrap64 (rd out i + 1)) else out) l m) r → Ev (fun k => spec_SendWalkers.l2 k a1 ends x3 out (rd ends i) ends ends.length j l m) r := by
  induction n with
  | zero =>
    intro j out hn h0 h1 ho ⟨K, f⟩
    rw [if_neg (by omega)] at f
    refine Pl.ev_unf ⟨K, fun k hk => ?_⟩
    rw [spec_SendWalkers.l2, if_neg (by omega)]
    exact f k hk
  | succ n ih =>
    intro j out hn h0 h1 ho hr
    have w1 : wrap64 (j + 1) = j + 1 := Pl.w64 (by omega) (by omega)
    by_cases e : j = i
    · subst e
      rw [if_pos (by omega)] at hr
      obtain ⟨K, f⟩ := ih (j + 1) (out.set j.toNat (wrap64 (rd out j + 1))) (by omega) (by omega) (by omega) (by rw [List.length_set]; exact ho) (by rw [if_neg (by omega)]; exact hr)
      refine Pl.ev_unf ⟨K, fun k hk => ?_⟩
      rw [spec_SendWalkers.l2, if_pos (by omega), if_pos h0, if_pos (by omega), if_pos rfl, if_pos (by omega), w1]
      exact f k hk
    · have hne : ¬ rd ends j = rd ends i := by
        intro q
        rw [Pl.rd_get (by omega), Pl.rd_get (by omega)] at q
        have := (List.getElem_inj hd).1 q
        omega
      obtain ⟨K, f⟩ := ih (j + 1) out (by omega) (by omega) (by omega) ho (by
        by_cases c : j ≤ i
        · rw [if_pos (by omega)]; rw [if_pos c] at hr; exact hr
        · rw [if_neg (by omega)]; rw [if_neg c] at hr; exact hr)
      refine Pl.ev_unf ⟨K, fun k hk => ?_⟩
      rw [spec_SendWalkers.l2, if_pos (by omega), if_pos h0, if_pos (by omega), if_neg hne, w1]
      exact f k hk
theorem walks_both {a3 : Int} (a3h : a3 ≤ 100) (s0 : 0 ≤ a1) (s1 : a1 < l.length) (n : Nat) : ∀ (B : Int) (out m : List Int), (a3 - B).toNat = n → 0 ≤ B → B ≤ a3 → out.length = ends.length → Good l m → ∃ (L : List Int) (b : Bool), L.length ≤ 10 ∧ Ev (fun k => spec_SendWalkers.l1 k a1 ends (a3 - B) out l m) (L, b) ∧ Ev (fun k => impl_SendWalkers.l0 k a1 ends out a3 B l m) (L, b) := by
  induction n with
  | zero =>
    intro B out m hn h0 h1 ho hg
    refine ⟨out, true, by omega, Pl.ev_unf ⟨0, fun k _ => ?_⟩, Pl.ev_unf ⟨0, fun k _ => ?_⟩⟩
    · rw [spec_SendWalkers.l1, if_neg (by omega)]
    · rw [impl_SendWalkers.l0, if_neg (by omega)]
  | succ n ih =>
    intro B out m hn h0 h1 ho hg
    have w1 : wrap64 (B + 1) = B + 1 := Pl.w64 (by omega) (by omega)
    rcases walk_both (a1 := a1) he _ 1 a1 m rfl (by omega) (by omega) hg s0 s1 with ⟨c, node, m', i, ⟨K, f⟩, c0, g', i0, i1, hr, G⟩ | ⟨m', ⟨K, f⟩, G⟩
    · obtain ⟨L, b, hL, t1, t2⟩ := ih (B + 1) (out.set i.toNat (wrap64 (rd out i + 1))) m' (by omega) (by omega) (by omega) (by rw [List.length_set]; exact ho) g'
      have w3 : wrap64 (a3 - B - 1) = a3 - (B + 1) := by rw [Pl.w64 (by omega) (by omega)]; omega
      obtain ⟨K2, f2⟩ := add_both (a1 := a1) (l := l) he hd i0 i1 (x3 := a3 - B) (m := m') (r := (L, b)) _ 0 out rfl (by omega) (by omega) ho (by rw [if_pos i0, w3]; exact t1)
      obtain ⟨K3, f3⟩ := G out a3 B (L, b) ho (by rw [w1]; exact t2)
      refine ⟨L, b, hL, Pl.ev_unf ⟨K + K2, fun k hk => ?_⟩, Pl.ev_unf ⟨K3, fun k hk => ?_⟩⟩
      · have f := f k (by omega)
        have f2 := f2 k (by omega)
        dsimp only at f f2
        rw [spec_SendWalkers.l1, if_pos (by omega), spec_roTo.f, f, Option.bind_some, if_neg c0, ← hr]
        exact f2
      · rw [impl_SendWalkers.l0, if_pos (by omega)]
        exact f3 k hk
    · obtain ⟨K3, f3⟩ := G out a3 B
      refine ⟨[], false, by simp, Pl.ev_unf ⟨K, fun k hk => ?_⟩, Pl.ev_unf ⟨K3, fun k hk => ?_⟩⟩
      · have f := f k (by omega)
        dsimp only at f
        rw [spec_SendWalkers.l1, if_pos (by omega), spec_roTo.f, f, Option.bind_some, if_pos rfl]
      · rw [impl_SendWalkers.l0, if_pos (by omega)]
        exact f3 k hk
end

/-- the ends are held against each other -/
theorem diff_both {l : List (List Int)} {m ends : List Int} {a1 a3 : Int} (hg : Good l m) (he : ends.length ≤ 1048576) (n : Nat) : ∀ i : Int, ((ends.length : Int) - i).toNat = n → 0 ≤ i → i ≤ ends.length →
    ∃ b, Ev (fun k => impl_areDifferent.l0 k ends ends ends.length i) b ∧ (b = true → ∀ j : Int, i ≤ j → j < ends.length → ¬ ∃ q : Int, 0 ≤ q ∧ q < j ∧ rd ends q = rd ends j) ∧ (b = false → Ev (fun k => spec_SendWalkers.l0 k a1 ends a3 ends ends.length i l m) ([], false)) ∧ (b = true → ∀ r, Ev (fun k => spec_SendWalkers.l1 k a1 ends a3 (List.replicate ends.length 0) l m) r → Ev (fun k => spec_SendWalkers.l0 k a1 ends a3 ends ends.length i l m) r) := by
  induction n with
  | zero =>
    intro i hn h0 h1
    obtain ⟨⟨K, f⟩, _⟩ := own_both hg
    refine ⟨true, Pl.ev_unf ⟨0, fun k _ => ?_⟩, fun _ j j0 j1 => by omega, fun h => by simp at h, fun _ r ⟨K2, f2⟩ => Pl.ev_unf ⟨K + K2, fun k hk => ?_⟩⟩
    · rw [impl_areDifferent.l0, if_neg (by omega)]
    · have f := f k (by omega)
      have f2 := f2 k (by omega)
      dsimp only at f f2
      rw [spec_SendWalkers.l0, if_neg (by omega), f, Option.bind_some, if_pos (by omega), if_pos (by omega), Int.toNat_natCast]
      exact f2
  | succ n ih =>
    intro i hn h0 h1
    obtain ⟨b, ⟨K, f⟩, hb1, hb2, hb3⟩ := ih (i + 1) (by omega) (by omega) (by omega)
    have w1 : wrap64 (i + 1) = i + 1 := Pl.w64 (by omega) (by omega)
    have hlt : (ends.take i.toNat).length = i.toNat := by rw [List.length_take]; omega
    obtain ⟨c, ⟨K3, f3⟩, ⟨K2, f2⟩, hc⟩ := has_val (l := ends.take i.toNat) (by omega) (rd ends i)
    cases c with
    | true =>
      clear hc hb1 hb2 hb3
      refine ⟨false, Pl.ev_unf ⟨K2, fun k hk => ?_⟩, fun h => by simp at h, fun _ => Pl.ev_unf ⟨K3, fun k hk => ?_⟩, fun h => by simp at h⟩
      · have f2 := f2 k hk
        dsimp only at f2
        rw [impl_areDifferent.l0, if_pos (by omega), if_pos (by omega), if_pos (by omega), if_pos (by omega), f2, Option.bind_some, if_pos rfl]
      · have f3 := f3 k hk
        dsimp only at f3
        rw [spec_SendWalkers.l0, if_pos (by omega), if_pos h0, if_pos (by omega), if_pos (by omega), f3, Option.bind_some, if_pos rfl]
    | false =>
      have hno : ¬ ∃ q : Int, 0 ≤ q ∧ q < i ∧ rd ends q = rd ends i := by
        rintro ⟨q, q0, q1, e⟩
        have := hc.2 ⟨q, q0, by omega, by rw [rd_take q0 (by omega) (by omega)]; exact e⟩
        simp at this
      clear hc
      refine ⟨b, Pl.ev_unf ⟨K + K2, fun k hk => ?_⟩, fun h j j0 j1 => ?_, fun h => ?_, fun h r hr => ?_⟩
      · have f2 := f2 k (by omega)
        dsimp only at f2
        rw [impl_areDifferent.l0, if_pos (by omega), if_pos (by omega), if_pos (by omega), if_pos (by omega), f2, Option.bind_some, if_neg (by simp), w1]
        exact f k (by omega)
      · by_cases e : j = i
        · rw [e]; exact hno
        · exact hb1 h j (by omega) j1
      · obtain ⟨K4, f4⟩ := hb2 h
        refine Pl.ev_unf ⟨K3 + K4, fun k hk => ?_⟩
        have f3 := f3 k (by omega)
        dsimp only at f3
        rw [spec_SendWalkers.l0, if_pos (by omega), if_pos h0, if_pos (by omega), if_pos (by omega), f3, Option.bind_some, if_neg (by simp), w1]
        exact f4 k (by omega)
      · obtain ⟨K4, f4⟩ := hb3 h r hr
        refine Pl.ev_unf ⟨K3 + K4, fun k hk => ?_⟩
        have f3 := f3 k (by omega)
        dsimp only at f3
        rw [spec_SendWalkers.l0, if_pos (by omega), if_pos h0, if_pos (by omega), if_pos (by omega), f3, Option.bind_some, if_neg (by simp), w1]
        exact f4 k (by omega)
theorem send_both {l : List (List Int)} {m ends : List Int} (hr : ∀ e ∈ l, e.length ≤ 1048576) (hl : l.length ≤ 1048576) (hm : m.length ≤ 1048576) (he : ends.length ≤ 1048576) (a1 a3 : Int) :
    ∃ (L : List Int) (b : Bool), L.length ≤ 1048576 ∧ Ev (fun k => spec_SendWalkers.f k l m a1 ends a3) (L, b) ∧ Ev (fun k => impl_SendWalkers.f k l m a1 ends a3) (L, b) := by
  obtain ⟨g, ⟨K1, f1⟩, ⟨K2, f2⟩, hg⟩ := good_both hr hl hm
  have wn : wrap64 ((l.length : Int) - 1) = l.length - 1 := Pl.w64 (by omega) (by omega)
  obtain ⟨K3, f3⟩ := all_val (l := ends) (a := 0) (b := l.length - 1) (by omega)
  obtain ⟨p, hp⟩ : ∃ p, p = (decide (0 ≤ a1) && decide (a1 ≤ (l.length : Int) - 1)) := ⟨_, rfl⟩
  obtain ⟨q, hq⟩ : ∃ q, q = (decide ((1 : Int) ≤ (ends.length : Int)) && decide ((ends.length : Int) ≤ 10)) := ⟨_, rfl⟩
  obtain ⟨s, hs⟩ : ∃ s, s = (ends.all fun n => decide (0 ≤ n) && decide (n ≤ (l.length : Int) - 1)) := ⟨_, rfl⟩
  obtain ⟨t, ht⟩ : ∃ t, t = (decide (0 ≤ a3) && decide (a3 ≤ 100)) := ⟨_, rfl⟩
  have hS : ∀ k, K1 + K3 ≤ k → spec_SendWalkers.f k l m a1 ends a3 = if g = true ∧ p = true ∧ q = true ∧ s = true then spec_SendWalkers.j0 k a1 ends a3 (!t) l m else spec_SendWalkers.j0 k a1 ends a3 true l m := fun k hk => by
    have f1 := f1 k (by omega)
    have f3 := f3 k (by omega)
    dsimp only at f1 f3
    rw [spec_SendWalkers.f, spec_roNode.f, f1, Option.bind_some, wn, in_val, ← hp, Option.bind_some, in_val, ← hq, Option.bind_some, f3, ← hs, Option.bind_some, in_val, ← ht, Option.bind_some]
    cases g <;> cases p <;> cases q <;> cases s <;> rfl
  have e1 : ([a1] : List Int).all (fun n => decide (0 ≤ n) && decide (n ≤ (l.length : Int) - 1)) = p := by rw [hp]; simp
  by_cases c : (g = true ∧ p = true ∧ q = true ∧ s = true) ∧ t = true
  · obtain ⟨⟨c1, c2, c3, c4⟩, c5⟩ := c
    have G := hg c1
    have hp' := hp.symm.trans c2
    have hq' := hq.symm.trans c3
    have ht' := ht.symm.trans c5
    simp only [Bool.and_eq_true, decide_eq_true_eq] at hp' hq' ht'
    obtain ⟨d, ⟨K4, f4⟩, d1, d2, d3⟩ := diff_both (a1 := a1) (a3 := a3) G he _ 0 rfl (by omega) (by omega)
    have hI : ∀ k, K2 + K4 ≤ k → impl_SendWalkers.f k l m a1 ends a3 = if d = true then impl_SendWalkers.j0 k a1 ends a3 false l m else impl_SendWalkers.j0 k a1 ends a3 true l m := fun k hk => by
      have f2 := f2 k (by omega)
      have f4 := f4 k (by omega)
      dsimp only at f2 f4
      rw [impl_SendWalkers.f, impl_isNode.f, impl_isNode.f, f2, Option.bind_some, wn, impl_areWithin.f, e1, c1, if_pos rfl, c2, Option.bind_some, Option.bind_some, if_pos rfl, Option.bind_some, if_pos rfl, impl_areWithin.f, ← hs, c4, Option.bind_some, Option.bind_some, if_pos rfl, impl_isNodes.f, within_val, ← hq, c3, Option.bind_some, Option.bind_some, if_pos rfl, impl_areDifferent.f, f4, Option.bind_some, within_val, ← ht, c5, Option.bind_some]
      rfl
    cases d with
    | false =>
      obtain ⟨K5, f5⟩ := d2 rfl
      refine ⟨[], false, by simp, ⟨K1 + K3 + K5 + 1, fun k hk => ?_⟩, ⟨K2 + K4 + 1, fun k hk => ?_⟩⟩
      · obtain ⟨k, rfl⟩ : ∃ j, k = j + 1 := ⟨k - 1, by omega⟩
        have f5 := f5 k (by omega)
        dsimp only at f5 ⊢
        rw [hS _ (by omega), if_pos ⟨c1, c2, c3, c4⟩, c5, spec_SendWalkers.j0, if_neg (by simp)]
        exact f5
      · obtain ⟨k, rfl⟩ : ∃ j, k = j + 1 := ⟨k - 1, by omega⟩
        dsimp only
        rw [hI _ (by omega), if_neg (by simp), impl_SendWalkers.j0, if_pos rfl]
    | true =>
      have hnd := nodup_of (fun j j0 j1 => d1 rfl j j0 j1)
      obtain ⟨L, b, hL, t1, ⟨K6, f6⟩⟩ := walks_both (l := l) (ends := ends) (a1 := a1) (by omega) hnd (a3 := a3) (by omega) hp'.1 (by omega) _ 0 (List.replicate ends.length 0) m rfl (by omega) (by omega) (by simp) G
      rw [Int.sub_zero] at t1
      obtain ⟨K5, f5⟩ := d3 rfl (L, b) t1
      obtain ⟨_, ⟨K7, f7⟩⟩ := own_both G
      refine ⟨L, b, by omega, ⟨K1 + K3 + K5 + 1, fun k hk => ?_⟩, ⟨K2 + K4 + K6 + K7 + 1, fun k hk => ?_⟩⟩
      · obtain ⟨k, rfl⟩ : ∃ j, k = j + 1 := ⟨k - 1, by omega⟩
        have f5 := f5 k (by omega)
        dsimp only at f5 ⊢
        rw [hS _ (by omega), if_pos ⟨c1, c2, c3, c4⟩, c5, spec_SendWalkers.j0, if_neg (by simp)]
        exact f5
      · obtain ⟨k, rfl⟩ : ∃ j, k = j + 1 := ⟨k - 1, by omega⟩
        have f6 := f6 k (by omega)
        have f7 := f7 k (by omega)
        dsimp only at f6 f7 ⊢
        rw [hI _ (by omega), if_pos rfl, impl_SendWalkers.j0, if_neg (by simp), f7, Option.bind_some, if_pos (by omega), if_pos (by omega), Int.toNat_natCast]
        exact f6
  · -- a test fails: both answer nothing
    obtain ⟨d, ⟨K4, f4⟩⟩ : ∃ d, Ev (fun k => impl_areDifferent.f k ends) d := by
      obtain ⟨d, ⟨K4, f4⟩, _⟩ := diff_l0 (l := ends) (by omega) _ 0 rfl (by omega) (by omega)
      exact ⟨d, K4, fun k hk => by dsimp only; rw [impl_areDifferent.f]; exact f4 k hk⟩
    refine ⟨[], false, by simp, ⟨K1 + K3 + 1, fun k hk => ?_⟩, ⟨K2 + K4 + 1, fun k hk => ?_⟩⟩
    · obtain ⟨k, rfl⟩ : ∃ j, k = j + 1 := ⟨k - 1, by omega⟩
      dsimp only
      rw [hS _ (by omega)]
      by_cases c6 : g = true ∧ p = true ∧ q = true ∧ s = true
      · rw [if_pos c6]
        cases t with
        | true => exact absurd ⟨c6, rfl⟩ c
        | false => rw [spec_SendWalkers.j0, if_pos (by simp)]
      · rw [if_neg c6, spec_SendWalkers.j0, if_pos rfl]
    · obtain ⟨k, rfl⟩ : ∃ j, k = j + 1 := ⟨k - 1, by omega⟩
      have f2 := f2 (k + 1) (by omega)
      have f4 := f4 (k + 1) (by omega)
      dsimp only at f2 f4 ⊢
      rw [impl_SendWalkers.f, impl_isNode.f, impl_isNode.f, f2, Option.bind_some, wn, impl_areWithin.f, e1, impl_areWithin.f, ← hs, Option.bind_some, impl_isNodes.f, within_val, ← hq, f4, within_val, ← ht]
      clear hS f1 f3 f2 f4 hg hs ht hq hp e1
      cases g <;> cases p <;> cases q <;> cases s <;> cases t <;> cases d <;> first | rfl | exact absurd ⟨⟨rfl, rfl, rfl, rfl⟩, rfl⟩ c

theorem FnExactSendWalkers (l0_0 : List (List Int)) (l0_1 : List Int) (a1 : Int) (l2 : List Int) (a3 : Int) (h0 : (l0_0.length ≤ 9223372036854775807 ∧ ∀ e_ ∈ l0_0, (e_.length ≤ 9223372036854775807 ∧ ∀ f_ ∈ e_, (Lit.int .i64 f_).wf = true)) ∧ (l0_1.length ≤ 9223372036854775807 ∧ ∀ e_ ∈ l0_1, (Lit.int .i64 e_).wf = true)) (h1 : (Lit.int .i64 a1).wf = true) (h2 : l2.length ≤ 9223372036854775807 ∧ ∀ e_ ∈ l2, (Lit.int .i64 e_).wf = true) (h3 : (Lit.int .i64 a3).wf = true) : ∃ k, laws_FnExactSendWalkers.f k l0_0 l0_1 a1 l2 a3 = some true := by
  by_cases cl : (l2.length : Int) > 1048576
  · exact ⟨0, by rw [laws_FnExactSendWalkers.f, if_pos cl]⟩
  obtain ⟨v, ⟨K1, f1⟩, hv⟩ := szRoute_val (l := l0_0) (m := l0_1) h0.1.1 (fun e he => (h0.1.2 e he).1) h0.2.1
  by_cases c : v < 0
  · refine ⟨K1, ?_⟩
    have f1 : laws_szRoute.f K1 l0_0 l0_1 1048576 = some v := f1 K1 (Nat.le_refl _)
    rw [laws_FnExactSendWalkers.f, if_neg cl, f1, Option.bind_some, if_pos c]
  · have hv' := hv (by omega)
    have hr : ∀ e ∈ l0_0, e.length ≤ 1048576 := fun e he => by have := tot_mem he; omega
    have hl : l0_0.length ≤ 1048576 := by omega
    have hm : l0_1.length ≤ 1048576 := by omega
    have he : l2.length ≤ 1048576 := by omega
    obtain ⟨K2, f2⟩ := toRoute_val hl hr hm
    obtain ⟨K3, f3⟩ := toIntS_val (l := l2) (by omega)
    obtain ⟨L, b, hL, ⟨K4, f4⟩, ⟨K5, f5⟩⟩ := send_both hr hl hm he a1 a3
    obtain ⟨K6, f6⟩ := eqRoute_self hl hr hm
    obtain ⟨K7, f7⟩ := eqIntS_self (l := L) (by omega)
    obtain ⟨K8, f8⟩ := eqIntS_self (l := l2) (by omega)
    obtain ⟨m', ⟨K9, f9⟩⟩ := markRoute_val (l := l0_0) (m := l0_1) hv'
    obtain ⟨e', ⟨K10, f10⟩, _, _⟩ := mark_held (a := 1 + (tot l0_0 : Int) + l0_1.length) (l := l2) (by omega) (by omega) (by omega)
    obtain ⟨L', ⟨K11, f11⟩, ⟨K12, f12⟩, _⟩ := mark_held (a := 1) (l := L) (by omega) (by omega) (by omega)
    obtain ⟨K, hK⟩ : ∃ K, K = K1 + K2 + K3 + K4 + K5 + K6 + K7 + K8 + K9 + K10 + K11 + K12 := ⟨_, rfl⟩
    have g1 : laws_szRoute.f (K + 3) l0_0 l0_1 1048576 = some v := f1 (K + 3) (by omega)
    have g2 : ∀ k, K ≤ k → laws_toRoute.f k l0_0 l0_1 = some (l0_0, l0_1) := fun k hk => f2 k (by omega)
    have g3 : ∀ k, K ≤ k → laws_toIntS.f k l2 = some l2 := fun k hk => f3 k (by omega)
    have g4 : spec_SendWalkers.f (K + 3) l0_0 l0_1 a1 l2 a3 = some (L, b) := f4 (K + 3) (by omega)
    have g5 : ∀ k, K ≤ k → impl_SendWalkers.f k l0_0 l0_1 a1 l2 a3 = some (L, b) := fun k hk => f5 k (by omega)
    have g6 : ∀ k, K ≤ k → laws_eqRoute.f k l0_0 l0_1 l0_0 l0_1 = some true := fun k hk => f6 k (by omega)
    have g7 : ∀ k, K ≤ k → laws_eqIntS.f k L L = some true := fun k hk => f7 k (by omega)
    have g8 : ∀ k, K ≤ k → laws_eqIntS.f k l2 l2 = some true := fun k hk => f8 k (by omega)
    have g9 : laws_markRoute.f (K + 2) l0_0 l0_1 1 = some (1 + (tot l0_0 : Int) + l0_1.length, m') := f9 (K + 2) (by omega)
    have g10 : laws_markIntS.f (K + 2) l2 (1 + (tot l0_0 : Int) + l0_1.length) = some (1 + (tot l0_0 : Int) + l0_1.length + l2.length, e') := f10 (K + 2) (by omega)
    have g11 : laws_markIntS.f (K + 1) L 1 = some (1 + (L.length : Int), L') := f11 (K + 1) (by omega)
    have g12 : ∀ k, K ≤ k → laws_heldIntS.f k L' 1 = some (1 + (L.length : Int)) := fun k hk => f12 k (by omega)
    refine ⟨K + 3, ?_⟩
    rw [laws_FnExactSendWalkers.f, if_neg cl, g1, Option.bind_some, if_neg c, g2 (K + 3) (by omega)]
    simp only [Option.bind_some]
    rw [g3 (K + 3) (by omega)]
    simp only [Option.bind_some]
    rw [g4, g5 (K + 3) (by omega)]
    simp only [Option.bind_some]
    rw [g7 (K + 3) (by omega), Option.bind_some, if_pos rfl, bne_self_eq_false, laws_FnExactSendWalkers.j0, if_neg (by simp), g2 (K + 2) (by omega)]
    simp only [Option.bind_some]
    rw [g6 (K + 2) (by omega), Option.bind_some, if_pos rfl, g3 (K + 2) (by omega), Option.bind_some, g8 (K + 2) (by omega), Option.bind_some, if_pos rfl, g9]
    simp only [Option.bind_some]
    rw [g10]
    simp only [Option.bind_some]
    rw [if_neg (by omega), g7 (K + 2) (by omega), Option.bind_some, if_pos rfl, bne_self_eq_false, laws_FnExactSendWalkers.j1, if_neg (by simp), g11]
    simp only [Option.bind_some]
    rw [g12 (K + 1) (by omega), Option.bind_some, if_neg (by omega), if_pos rfl, g2 (K + 1) (by omega)]
    simp only [Option.bind_some]
    rw [g3 (K + 1) (by omega), Option.bind_some, g5 (K + 1) (by omega)]
    simp only [Option.bind_some]
    rw [g7 (K + 1) (by omega), Option.bind_some, if_pos rfl, bne_self_eq_false, laws_FnExactSendWalkers.j2, if_neg (by simp), g12 K (by omega), Option.bind_some, if_neg (by omega), if_pos rfl]

end Go.Proofs.Ytbcimndfcfncmaa.Pure
