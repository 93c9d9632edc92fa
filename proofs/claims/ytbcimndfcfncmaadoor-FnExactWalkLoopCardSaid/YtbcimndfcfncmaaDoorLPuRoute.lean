/- Plain lemmas on routes: copies, marks, tests, steps. No condition. -/
import Derived.Test.YtbcimndfcfncmaaDoorPLx1
import Derived.Test.YtbcimndfcfncmaaDoorPLx2
import Derived.Test.YtbcimndfcfncmaaDoorPLx3
import Derived.Test.YtbcimndfcfncmaaDoorPLx4
import Derived.Test.YtbcimndfcfncmaaDoorPLx5
import Derived.Test.YtbcimndfcfncmaaDoorPLx6
import Derived.Test.YtbcimndfcfncmaaDoorLPuHas
namespace Go.Proofs.YtbcimndfcfncmaaDoor.Pure
open Go.RowKit Go.Proofs.YtbcimndfcfncmaaDoor Go.Proofs.YtbcimndfcfncmaaDoor.PL Go.Proofs.YtbcimndfcfncmaaDoorW.PrintWords Go.Proofs.YtbcimndfcfncmaaDoorW.PrintLast
set_option linter.unusedVariables false
set_option linter.unusedSimpArgs false

theorem rdL_get {l : List (List Int)} {i : Int} (h : i.toNat < l.length) : rd_L1 l i = l[i.toNat] := by
  simp [rd_L1, List.getD_eq_getElem?_getD, List.getElem?_eq_getElem h]
theorem rdL_mem {l : List (List Int)} {i : Int} (h : i.toNat < l.length) : rd_L1 l i ∈ l := by
  rw [rdL_get h]
  exact List.getElem_mem _
theorem rdL_set {l : List (List Int)} {i j : Int} {v : List Int} (hi : 0 ≤ i) (hl : i < l.length) (hj : 0 ≤ j) : rd_L1 (l.set i.toNat v) j = if j = i then v else rd_L1 l j := by
  unfold rd_L1
  rw [List.getD_eq_getElem?_getD, List.getD_eq_getElem?_getD, List.getElem?_set]
  by_cases e : j = i
  · subst e
    rw [if_pos rfl, if_pos (by omega), if_pos rfl]
    rfl
  · rw [if_neg (by omega), if_neg e]
/-- how many numbers stand in the rows -/
def tot (l : List (List Int)) : Nat := (l.map List.length).sum
theorem tot_drop {l : List (List Int)} {i : Int} (h0 : 0 ≤ i) (h : i < l.length) : tot (l.drop i.toNat) = (rd_L1 l i).length + tot (l.drop (i + 1).toNat) := by
  have hi : i.toNat < l.length := by omega
  rw [List.drop_eq_getElem_cons hi, rdL_get hi, show (i + 1).toNat = i.toNat + 1 by omega]
  unfold tot
  rw [List.map_cons, List.sum_cons]
theorem tot_mem : ∀ {l : List (List Int)} {e : List Int}, e ∈ l → e.length ≤ tot l
  | x :: l, e, h => by
    have q : tot (x :: l) = x.length + tot l := by simp [tot]
    rcases List.mem_cons.1 h with rfl | h
    · omega
    · have := tot_mem h
      omega
theorem tot_end {l : List (List Int)} {i : Int} (h : i = l.length) : tot (l.drop i.toNat) = 0 := by
  rw [List.drop_eq_nil_of_le (by omega)]
  rfl

theorem szSS_l0 {l : List (List Int)} (hl : l.length ≤ 1048576) (hr : ∀ e ∈ l, e.length ≤ 9223372036854775807) (n : Nat) : ∀ i x : Int, ((l.length : Int) - i).toNat = n → 0 ≤ i → i ≤ l.length → 0 ≤ x → x ≤ 1048576 →
    ∃ v, Ev (fun k => laws_szIntSS.l0 k l x i) v ∧ v ≤ 1048576 ∧ (0 ≤ v → v + tot (l.drop i.toNat) = x) := by
  induction n with
  | zero =>
    intro i x hn h0 h1 x0 x1
    refine ⟨x, Pl.ev_unf ⟨0, fun k _ => ?_⟩, x1, fun _ => ?_⟩
    · rw [laws_szIntSS.l0, if_neg (by omega)]
    · rw [tot_end (by omega)]; omega
  | succ n ih =>
    intro i x hn h0 h1 x0 x1
    have hrow := hr _ (rdL_mem (l := l) (i := i) (by omega))
    have w1 : wrap64 (i + 1) = i + 1 := Pl.w64 (by omega) (by omega)
    have w2 : wrap64 (x - ((rd_L1 l i).length : Int)) = x - ((rd_L1 l i).length : Int) := Pl.w64 (by omega) (by omega)
    have ht := tot_drop h0 (show i < l.length by omega)
    by_cases c : x - ((rd_L1 l i).length : Int) < 0
    · refine ⟨-1, Pl.ev_unf ⟨0, fun k _ => ?_⟩, by omega, fun h => by omega⟩
      rw [laws_szIntSS.l0, if_pos (by omega), if_pos h0, laws_szIntS.f, w2, if_pos c, Option.bind_some, if_pos (by omega)]
    · obtain ⟨v, ⟨K, f⟩, v1, hv⟩ := ih (i + 1) (x - ((rd_L1 l i).length : Int)) (by omega) (by omega) (by omega) (by omega) (by omega)
      refine ⟨v, Pl.ev_unf ⟨K, fun k hk => ?_⟩, v1, fun h => by have := hv h; omega⟩
      have f := f k hk
      dsimp only at f
      rw [laws_szIntSS.l0, if_pos (by omega), if_pos h0, laws_szIntS.f, w2, if_neg c, Option.bind_some, if_neg c, w1]
      exact f
theorem szRoute_val {l : List (List Int)} {m : List Int} (hl : l.length ≤ 9223372036854775807) (hr : ∀ e ∈ l, e.length ≤ 9223372036854775807) (hm : m.length ≤ 9223372036854775807) :
    ∃ v, Ev (fun k => laws_szRoute.f k l m 1048576) v ∧ (0 ≤ v → l.length + tot l + m.length ≤ 1048576) := by
  have w2 : wrap64 (1048576 - (l.length : Int)) = 1048576 - (l.length : Int) := Pl.w64 (by omega) (by omega)
  by_cases c : 1048576 - (l.length : Int) < 0
  · refine ⟨-1, ⟨0, fun k _ => ?_⟩, fun h => by omega⟩
    dsimp only
    rw [laws_szRoute.f, laws_szIntSS.f, w2, if_pos c, Option.bind_some, if_pos (by omega)]
  · obtain ⟨v, ⟨K, f⟩, v1, hv⟩ := szSS_l0 (l := l) (by omega) hr _ 0 (1048576 - (l.length : Int)) rfl (by omega) (by omega) (by omega) (by omega)
    have f2 : ∀ k, K ≤ k → laws_szIntSS.f k l 1048576 = some v := fun k hk => by
      have f := f k hk
      dsimp only at f
      rw [laws_szIntSS.f, w2, if_neg c, f]
    by_cases cv : v < 0
    · refine ⟨-1, ⟨K, fun k hk => ?_⟩, fun h => by omega⟩
      dsimp only
      rw [laws_szRoute.f, f2 k hk, Option.bind_some, if_pos cv]
    · have hv' := hv (by omega)
      have w3 : wrap64 (v - (m.length : Int)) = v - (m.length : Int) := Pl.w64 (by omega) (by omega)
      have e0 : l.drop (0 : Int).toNat = l := rfl
      rw [e0] at hv'
      by_cases cm : v - (m.length : Int) < 0
      · refine ⟨-1, ⟨K, fun k hk => ?_⟩, fun h => by omega⟩
        dsimp only
        rw [laws_szRoute.f, f2 k hk, Option.bind_some, if_neg cv, laws_szIntS.f, w3, if_pos cm, Option.bind_some, if_pos (by omega)]
      · refine ⟨v - m.length, ⟨K, fun k hk => ?_⟩, fun h => by omega⟩
        dsimp only
        rw [laws_szRoute.f, f2 k hk, Option.bind_some, if_neg cv, laws_szIntS.f, w3, if_neg cm, Option.bind_some, if_neg cm]
section
variable {l : List (List Int)} (hl : l.length ≤ 1048576) (hr : ∀ e ∈ l, e.length ≤ 1048576)
include hl hr
theorem toSS_l0 (n : Nat) : ∀ (i : Int) (a : List (List Int)), ((l.length : Int) - i).toNat = n → 0 ≤ i → i ≤ l.length → a.length = l.length → (∀ j : Int, 0 ≤ j → j < i → rd_L1 a j = rd_L1 l j) → Ev (fun k => laws_toIntSS.l0 k l a i) l := by
  induction n with
  | zero =>
    intro i a hn h0 h1 ha hj
    have e : a = l := by
      refine List.ext_getElem ha fun j h2 h3 => ?_
      have := hj j (by omega) (by omega)
      rw [rdL_get (by omega), rdL_get (by omega)] at this
      simpa using this
    subst e
    refine Pl.ev_unf ⟨0, fun k _ => ?_⟩
    rw [laws_toIntSS.l0, if_neg (by omega)]
  | succ n ih =>
    intro i a hn h0 h1 ha hj
    obtain ⟨K, f⟩ := ih (i + 1) (a.set i.toNat (rd_L1 l i)) (by omega) (by omega) (by omega) (by rw [List.length_set]; exact ha) (fun j j0 j1 => by
      rw [rdL_set h0 (by omega) j0]
      by_cases e : j = i
      · rw [if_pos e, e]
      · rw [if_neg e]
        exact hj j j0 (by omega))
    obtain ⟨K2, f2⟩ := toIntS_val (l := rd_L1 l i) (by have := hr _ (rdL_mem (l := l) (i := i) (by omega)); omega)
    have w1 : wrap64 (i + 1) = i + 1 := Pl.w64 (by omega) (by omega)
    refine Pl.ev_unf ⟨K + K2, fun k hk => ?_⟩
    have f2 := f2 k (by omega)
    dsimp only at f2
    rw [laws_toIntSS.l0, if_pos (by omega), if_pos h0, f2, Option.bind_some, if_pos (by omega), w1]
    exact f k (by omega)
theorem toSS_val : Ev (fun k => laws_toIntSS.f k l) l := by
  obtain ⟨K, f⟩ := toSS_l0 hl hr _ 0 (List.replicate l.length []) rfl (by omega) (by omega) (by simp) (fun j j0 j1 => by omega)
  refine ⟨K, fun k hk => ?_⟩
  dsimp only
  rw [laws_toIntSS.f, if_pos (by omega), if_pos (by omega), Int.toNat_natCast]
  exact f k hk
theorem eqSS_l0 (n : Nat) : ∀ i : Int, ((l.length : Int) - i).toNat = n → 0 ≤ i → i ≤ l.length → Ev (fun k => laws_eqIntSS.l0 k l l i) true := by
  induction n with
  | zero =>
    intro i hn h0 h1
    refine Pl.ev_unf ⟨0, fun k _ => ?_⟩
    rw [laws_eqIntSS.l0, if_neg (by omega)]
  | succ n ih =>
    intro i hn h0 h1
    obtain ⟨K, f⟩ := ih (i + 1) (by omega) (by omega) (by omega)
    obtain ⟨K2, f2⟩ := eqIntS_self (l := rd_L1 l i) (by have := hr _ (rdL_mem (l := l) (i := i) (by omega)); omega)
    have w1 : wrap64 (i + 1) = i + 1 := Pl.w64 (by omega) (by omega)
    refine Pl.ev_unf ⟨K + K2, fun k hk => ?_⟩
    have f2 := f2 k (by omega)
    dsimp only at f2
    rw [laws_eqIntSS.l0, if_pos (by omega), if_pos h0, if_pos (by omega), f2, Option.bind_some, if_pos rfl, w1]
    exact f k (by omega)
theorem eqRoute_self {m : List Int} (hm : m.length ≤ 1048576) : Ev (fun k => laws_eqRoute.f k l m l m) true := by
  obtain ⟨K, f⟩ := eqSS_l0 hl hr _ 0 rfl (by omega) (by omega)
  obtain ⟨K2, f2⟩ := eqIntS_self (l := m) (by omega)
  refine ⟨K + K2, fun k hk => ?_⟩
  have f := f k (by omega)
  have f2 := f2 k (by omega)
  dsimp only at f f2 ⊢
  rw [laws_eqRoute.f, laws_eqIntSS.f, if_pos rfl, f, Option.bind_some, if_pos rfl, f2, Option.bind_some, if_pos rfl]
theorem toRoute_val {m : List Int} (hm : m.length ≤ 1048576) : Ev (fun k => laws_toRoute.f k l m) (l, m) := by
  obtain ⟨K, f⟩ := toSS_val hl hr
  obtain ⟨K2, f2⟩ := toIntS_val (l := m) (by omega)
  refine ⟨K + K2, fun k hk => ?_⟩
  have f := f k (by omega)
  have f2 := f2 k (by omega)
  dsimp only at f f2 ⊢
  rw [laws_toRoute.f, f, Option.bind_some, f2, Option.bind_some]
end
def rowB (n : Int) (l : List Int) : Bool := l.all fun x => decide (0 ≤ x) && decide (x ≤ n - 1)
theorem all_val {l : List Int} {a b : Int} (hl : l.length ≤ 1000000000) : Ev (fun k => spec_l1All.f k l a b) (l.all fun n => decide (a ≤ n) && decide (n ≤ b)) := by
  suffices h : ∀ (n : Nat) (i : Int), ((l.length : Int) - i).toNat = n → 0 ≤ i → i ≤ l.length → Ev (fun k => spec_l1All.l0 k a b l l.length i) ((l.drop i.toNat).all fun n => decide (a ≤ n) && decide (n ≤ b)) by
    obtain ⟨K, f⟩ := h _ 0 rfl (by omega) (by omega)
    exact ⟨K, fun k hk => by dsimp only; rw [spec_l1All.f]; exact f k hk⟩
  intro n
  induction n with
  | zero =>
    intro i hn h0 h1
    refine Pl.ev_unf ⟨0, fun k _ => ?_⟩
    rw [spec_l1All.l0, if_neg (by omega), List.drop_eq_nil_of_le (by omega)]
    rfl
  | succ n ih =>
    intro i hn h0 h1
    obtain ⟨K, f⟩ := ih (i + 1) (by omega) (by omega) (by omega)
    have w1 : wrap64 (i + 1) = i + 1 := Pl.w64 (by omega) (by omega)
    have hi : i.toNat < l.length := by omega
    refine Pl.ev_unf ⟨K, fun k hk => ?_⟩
    have f := f k hk
    dsimp only at f
    rw [show (i + 1).toNat = i.toNat + 1 by omega] at f
    rw [spec_l1All.l0, if_pos (by omega), if_pos h0, if_pos (by omega), List.drop_eq_getElem_cons hi, List.all_cons, Pl.rd_get hi, spec_l1In.f]
    by_cases ca : a ≤ l[i.toNat]
    · by_cases cb : l[i.toNat] ≤ b
      · rw [if_pos ca, decide_eq_true ca, decide_eq_true cb, Option.bind_some, if_pos rfl, w1, f]
        simp
      · rw [if_pos ca, decide_eq_false cb, Option.bind_some, if_neg (by simp)]
        simp
    · rw [if_neg (by omega), Option.bind_some, if_neg (by simp), decide_eq_false ca]
      simp
theorem in_val (x a b : Int) : spec_l1In.f x a b = some (decide (a ≤ x) && decide (x ≤ b)) := by
  rw [spec_l1In.f]
  by_cases c : a ≤ x
  · rw [if_pos (show x ≥ a from c), decide_eq_true c, Bool.true_and]
  · rw [if_neg (show ¬ x ≥ a from c), decide_eq_false c, Bool.false_and]
theorem within_val (x a b : Int) : impl_within.f x a b = some (decide (a ≤ x) && decide (x ≤ b)) := by
  rw [impl_within.f]
  by_cases c : a ≤ x
  · rw [if_pos c, decide_eq_true c, Bool.true_and]
  · rw [if_neg c, decide_eq_false c, Bool.false_and]

/-- what a good route is -/
def Good (l : List (List Int)) (m : List Int) : Prop := 1 ≤ l.length ∧ l.length ≤ 10 ∧ m.length = l.length ∧ ∀ j : Int, 0 ≤ j → j < l.length → 1 ≤ (rd_L1 l j).length ∧ (rd_L1 l j).length ≤ 4 ∧ rowB l.length (rd_L1 l j) = true ∧ 0 ≤ rd m j ∧ rd m j < (rd_L1 l j).length
section
variable {l : List (List Int)} {m : List Int} (hr : ∀ e ∈ l, e.length ≤ 1048576) (h1 : 1 ≤ l.length) (h2 : l.length ≤ 10) (hm : m.length = l.length)
include hr h1 h2 hm
theorem good_l0 (n : Nat) : ∀ i : Int, ((l.length : Int) - i).toNat = n → 0 ≤ i → i ≤ l.length → ∃ b, Ev (fun k => spec_roGood.l0 k l.length l l.length i l m) b ∧ Ev (fun k => impl_IsRoute.l0 k l l.length i l m) b ∧ (b = true → ∀ j : Int, i ≤ j → j < l.length → 1 ≤ (rd_L1 l j).length ∧ (rd_L1 l j).length ≤ 4 ∧ rowB l.length (rd_L1 l j) = true ∧ 0 ≤ rd m j ∧ rd m j < (rd_L1 l j).length) := by
  induction n with
  | zero =>
    intro i hn h0 h3
    refine ⟨true, Pl.ev_unf ⟨0, fun k _ => ?_⟩, Pl.ev_unf ⟨0, fun k _ => ?_⟩, fun _ j j0 j1 => by omega⟩
    · rw [spec_roGood.l0, if_neg (by omega)]
    · rw [impl_IsRoute.l0, if_neg (by omega)]
  | succ n ih =>
    intro i hn h0 h3
    obtain ⟨b, ⟨K, f⟩, ⟨K2, f2⟩, hb⟩ := ih (i + 1) (by omega) (by omega) (by omega)
    have w1 : wrap64 (i + 1) = i + 1 := Pl.w64 (by omega) (by omega)
    have wn : wrap64 ((l.length : Int) - 1) = l.length - 1 := Pl.w64 (by omega) (by omega)
    have hrow := hr _ (rdL_mem (l := l) (i := i) (by omega))
    have wr : wrap64 (((rd_L1 l i).length : Int) - 1) = (rd_L1 l i).length - 1 := Pl.w64 (by omega) (by omega)
    obtain ⟨K3, f3⟩ := all_val (l := rd_L1 l i) (a := 0) (b := l.length - 1) (by omega)
    obtain ⟨p, hp⟩ : ∃ p, p = (decide ((1 : Int) ≤ ((rd_L1 l i).length : Int)) && decide (((rd_L1 l i).length : Int) ≤ 4)) := ⟨_, rfl⟩
    obtain ⟨q, hq⟩ : ∃ q, q = ((rd_L1 l i).all fun x => decide (0 ≤ x) && decide (x ≤ (l.length : Int) - 1)) := ⟨_, rfl⟩
    obtain ⟨s, hs⟩ : ∃ s, s = (decide ((0 : Int) ≤ rd m i) && decide (rd m i ≤ ((rd_L1 l i).length : Int) - 1)) := ⟨_, rfl⟩
    have g1 : ∀ k, K + K2 + K3 ≤ k → spec_roGood.l0 (k + 1) l.length l l.length i l m = if p = true then (if q = true then (if s = true then some b else some false) else some false) else some false := fun k hk => by
      have f3 := f3 k (by omega)
      have f := f k (by omega)
      dsimp only at f f3
      rw [spec_roGood.l0, if_pos (by omega), if_pos h0, if_pos (by omega), in_val, Option.bind_some, wn, f3, ← hp, ← hq, Option.bind_some, if_pos (show i < (m.length : Int) by omega), wr, in_val, ← hs, Option.bind_some, w1, f]
    have g2 : ∀ k, K + K2 + K3 ≤ k → impl_IsRoute.l0 (k + 1) l l.length i l m = if p = true then (if q = true then (if s = true then some b else some false) else some false) else some false := fun k hk => by
      have f2 := f2 k (by omega)
      dsimp only at f2
      rw [impl_IsRoute.l0, if_pos (by omega), if_pos h0, if_pos (by omega), within_val, Option.bind_some, wn, impl_areWithin.f, ← hp, ← hq, Option.bind_some, if_pos (show i < (m.length : Int) by omega), wr, within_val, ← hs, Option.bind_some, w1, f2]
    have fin : ∀ v : Bool, (if p = true then (if q = true then (if s = true then some b else some false) else some false) else some false) = some v → Ev (fun k => spec_roGood.l0 k l.length l l.length i l m) v ∧ Ev (fun k => impl_IsRoute.l0 k l l.length i l m) v := fun v hv => ⟨Pl.ev_unf ⟨K + K2 + K3, fun k hk => by rw [g1 k hk]; exact hv⟩, Pl.ev_unf ⟨K + K2 + K3, fun k hk => by rw [g2 k hk]; exact hv⟩⟩
    by_cases c : (p = true ∧ q = true) ∧ s = true
    · obtain ⟨⟨c1, c2⟩, c3⟩ := c
      obtain ⟨t1, t2⟩ := fin b (by rw [if_pos c1, if_pos c2, if_pos c3])
      refine ⟨b, t1, t2, fun hbt j j0 j1 => ?_⟩
      by_cases e : j = i
      · subst e
        rw [hp] at c1
        rw [hs] at c3
        simp only [Bool.and_eq_true, decide_eq_true_eq] at c1 c3
        exact ⟨by omega, by omega, by rw [rowB, ← hq]; exact c2, c3.1, by omega⟩
      · exact hb hbt j (by omega) j1
    · obtain ⟨t1, t2⟩ := fin false (by
        by_cases e1 : p = true
        · by_cases e2 : q = true
          · by_cases e3 : s = true
            · exact absurd ⟨⟨e1, e2⟩, e3⟩ c
            · rw [if_pos e1, if_pos e2, if_neg e3]
          · rw [if_pos e1, if_neg e2]
        · rw [if_neg e1])
      exact ⟨false, t1, t2, fun h => by simp at h⟩
end
theorem good_both {l : List (List Int)} {m : List Int} (hr : ∀ e ∈ l, e.length ≤ 1048576) (hl : l.length ≤ 1048576) (hm : m.length ≤ 1048576) : ∃ b, Ev (fun k => spec_roGood.f k l m) b ∧ Ev (fun k => impl_IsRoute.f k l m) b ∧ (b = true → Good l m) := by
  by_cases c1 : 1 ≤ l.length ∧ l.length ≤ 10
  · have d1 : (decide ((1 : Int) ≤ (l.length : Int)) && decide ((l.length : Int) ≤ 10)) = true := by simp; omega
    by_cases c2 : m.length = l.length
    · have d2 : ((m.length : Int) != (l.length : Int)) = false := by simp; omega
      obtain ⟨b, ⟨K, f⟩, ⟨K2, f2⟩, hb⟩ := good_l0 hr c1.1 c1.2 c2 _ 0 rfl (by omega) (by omega)
      refine ⟨b, ⟨K + 1, fun k hk => ?_⟩, ⟨K2 + 1, fun k hk => ?_⟩, fun h => ⟨c1.1, c1.2, c2, hb h⟩⟩
      · obtain ⟨k, rfl⟩ : ∃ j, k = j + 1 := ⟨k - 1, by omega⟩
        have f := f k (by omega)
        dsimp only at f ⊢
        rw [spec_roGood.f, in_val, d1, Option.bind_some, if_pos rfl, d2, spec_roGood.j0, if_neg (by simp), f]
      · obtain ⟨k, rfl⟩ : ∃ j, k = j + 1 := ⟨k - 1, by omega⟩
        have f2 := f2 k (by omega)
        dsimp only at f2 ⊢
        rw [impl_IsRoute.f, impl_isNodes.f, within_val, d1, Option.bind_some, Option.bind_some, if_pos rfl, d2, impl_IsRoute.j0, if_neg (by simp), f2]
    · have d2 : ((m.length : Int) != (l.length : Int)) = true := by simp; omega
      refine ⟨false, ⟨1, fun k hk => ?_⟩, ⟨1, fun k hk => ?_⟩, fun h => by simp at h⟩
      · obtain ⟨k, rfl⟩ : ∃ j, k = j + 1 := ⟨k - 1, by omega⟩
        dsimp only
        rw [spec_roGood.f, in_val, d1, Option.bind_some, if_pos rfl, d2, spec_roGood.j0, if_pos rfl]
      · obtain ⟨k, rfl⟩ : ∃ j, k = j + 1 := ⟨k - 1, by omega⟩
        dsimp only
        rw [impl_IsRoute.f, impl_isNodes.f, within_val, d1, Option.bind_some, Option.bind_some, if_pos rfl, d2, impl_IsRoute.j0, if_pos rfl]
  · have d1 : (decide ((1 : Int) ≤ (l.length : Int)) && decide ((l.length : Int) ≤ 10)) = false := by
      by_cases q : 1 ≤ l.length
      · rw [decide_eq_false (show ¬ (l.length : Int) ≤ 10 by omega), Bool.and_false]
      · rw [decide_eq_false (show ¬ (1 : Int) ≤ (l.length : Int) by omega), Bool.false_and]
    refine ⟨false, ⟨1, fun k hk => ?_⟩, ⟨1, fun k hk => ?_⟩, fun h => by simp at h⟩
    · obtain ⟨k, rfl⟩ : ∃ j, k = j + 1 := ⟨k - 1, by omega⟩
      dsimp only
      rw [spec_roGood.f, in_val, d1, Option.bind_some, if_neg (by simp), spec_roGood.j0, if_pos rfl]
    · obtain ⟨k, rfl⟩ : ∃ j, k = j + 1 := ⟨k - 1, by omega⟩
      dsimp only
      rw [impl_IsRoute.f, impl_isNodes.f, within_val, d1]
      simp only [Option.bind_some]
      rw [if_neg (by simp), impl_IsRoute.j0, if_pos rfl]
/-! copies -/
theorem own_both {l : List (List Int)} {m : List Int} (hg : Good l m) : Ev (fun k => spec_roOwn.f k l m) (l, m) ∧ Ev (fun k => impl_Route_own.f k l m) (l, m) := by
  obtain ⟨g1, g2, g3, g4⟩ := hg
  suffices h : ∀ (n : Nat) (i : Int), ((l.length : Int) - i).toNat = n → 0 ≤ i → i ≤ l.length → Ev (fun k => spec_roOwn.l0 k l l.length i (l.take i.toNat) m) (l, m) ∧ Ev (fun k => impl_Route_own.l0 k l l.length i (l.take i.toNat) m) (l, m) by
    obtain ⟨⟨K, f⟩, ⟨K2, f2⟩⟩ := h _ 0 rfl (by omega) (by omega)
    refine ⟨⟨K, fun k hk => ?_⟩, ⟨K2, fun k hk => ?_⟩⟩
    · have f := f k hk
      dsimp only at f ⊢
      rw [spec_roOwn.f, spec_l1Own.f, Option.bind_some, if_pos (by simp; omega), Option.bind_some, List.nil_append]
      exact f
    · have f2 := f2 k hk
      dsimp only at f2 ⊢
      rw [impl_Route_own.f, slices_Clone_int_int.f, if_pos (by omega), if_pos (by omega), Option.bind_some]
      exact f2
  intro n
  induction n with
  | zero =>
    intro i hn h0 h1
    have e : l.take i.toNat = l := List.take_of_length_le (by omega)
    rw [e]
    refine ⟨Pl.ev_unf ⟨0, fun k _ => ?_⟩, Pl.ev_unf ⟨0, fun k _ => ?_⟩⟩
    · rw [spec_roOwn.l0, if_neg (by omega)]
    · rw [impl_Route_own.l0, if_neg (by omega)]
  | succ n ih =>
    intro i hn h0 h1
    obtain ⟨⟨K, f⟩, ⟨K2, f2⟩⟩ := ih (i + 1) (by omega) (by omega) (by omega)
    have w1 : wrap64 (i + 1) = i + 1 := Pl.w64 (by omega) (by omega)
    have hi : i.toNat < l.length := by omega
    have hj := g4 i h0 (by omega)
    have ht : l.take i.toNat ++ [rd_L1 l i] = l.take (i + 1).toNat := by
      rw [rdL_get hi, show (i + 1).toNat = i.toNat + 1 by omega, List.take_succ_eq_append_getElem hi]
    have hlen : (l.take i.toNat).length = i.toNat := by rw [List.length_take]; omega
    refine ⟨Pl.ev_unf ⟨K, fun k hk => ?_⟩, Pl.ev_unf ⟨K2, fun k hk => ?_⟩⟩
    · rw [spec_roOwn.l0, if_pos (by omega), if_pos h0, if_pos (by omega), spec_l1Own.f, Option.bind_some, if_pos (by simp; omega), Option.bind_some, List.nil_append, if_pos (by omega), w1, ht]
      exact f k hk
    · rw [impl_Route_own.l0, if_pos (by omega), if_pos h0, if_pos (by omega), slices_Clone_int_int.f, if_pos (by omega), if_pos (by omega), Option.bind_some, if_pos (by omega), w1, ht]
      exact f2 k hk
/-! one step -/
theorem step_both {l : List (List Int)} {m : List Int} (hg : Good l m) {a : Int} (a0 : 0 ≤ a) (a1 : a < l.length) : ∃ b m', spec_roStep.f l m a = some (b, m') ∧ impl_Route_step.f l m a = some (b, m') ∧ Good l m' ∧ 0 ≤ b ∧ b < l.length := by
  obtain ⟨g1, g2, g3, g4⟩ := hg
  obtain ⟨p1, p2, p3, p4, p5⟩ := g4 a a0 a1
  have w1 : wrap64 (rd m a + 1) = rd m a + 1 := Pl.w64 (by omega) (by omega)
  have hb : rd (rd_L1 l a) (rd m a) ∈ rd_L1 l a := mem_rd p4 p5
  have hq := List.all_eq_true.1 p3 _ hb
  simp only [Bool.and_eq_true, decide_eq_true_eq] at hq
  refine ⟨rd (rd_L1 l a) (rd m a), m.set a.toNat (Int.tmod (rd m a + 1) (rd_L1 l a).length), ?_, ?_, ⟨g1, g2, by rw [List.length_set]; exact g3, fun j j0 j1 => ?_⟩, hq.1, by omega⟩
  · rw [spec_roStep.f, if_pos a0, if_pos (by omega), if_pos (by omega), if_neg (by omega), if_pos ⟨p4, p5⟩, w1]
  · rw [impl_Route_step.f, if_pos a0, if_pos (by omega), if_pos (by omega), if_pos p4, if_pos p5, impl_Route_turn.f, if_pos a0, if_pos (by omega), if_pos (by omega), if_neg (by omega), w1, Option.bind_some]
  · obtain ⟨s1, s2, s3, s4, s5⟩ := g4 j j0 j1
    refine ⟨s1, s2, s3, ?_⟩
    rw [rd_set a0 (by omega) j0]
    by_cases e : j = a
    · rw [if_pos e, Pl.tmod_nn (by omega), e]
      exact ⟨Pl.mod_lo (by omega), Pl.mod_hi (by omega)⟩
    · rw [if_neg e]
      exact ⟨s4, s5⟩

end Go.Proofs.YtbcimndfcfncmaaDoor.Pure
