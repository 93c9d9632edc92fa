/- The plain law of StatesReached: for every table the program's answer (a queue, sorted) is the reference's (rounds of rows, numbers put in their places): both are the least list that holds 0 and is closed under the rows. No condition. -/
import Derived.Test.YtmjjmibgoeobpaaPSx2
import Derived.Test.YtmjjmibgoeobpaaPSx3
import Derived.Test.YtmjjmibgoeobpaaPSx4
import Derived.Test.YtmjjmibgoeobpaaPSx5
import Derived.Test.YtmjjmibgoeobpaaPSx6
import Derived.Test.YtmjjmibgoeobpaaSPuMark
import Derived.Test.YtmjjmibgoeobpaaSPuHas
namespace Go.Proofs.Ytmjjmibgoeobpaa.Pure
open Go.RowKit Go.Proofs.Ytmjjmibgoeobpaa Go.Proofs.Ytmjjmibgoeobpaa.PS Go.Proofs.YtmjjmibgoeobpaaW.PrintWords Go.Proofs.YtmjjmibgoeobpaaW.PrintLast
set_option linter.unusedVariables false
set_option linter.unusedSimpArgs false

theorem strict_ext : ∀ {l m : List Int}, l.Pairwise (· < ·) → m.Pairwise (· < ·) → (∀ x, x ∈ l ↔ x ∈ m) → l = m
  | [], [], _, _, _ => rfl
  | [], b :: m, _, _, h => by have := (h b).2 (by simp); simp at this
  | a :: l, [], _, _, h => by have := (h a).1 (by simp); simp at this
  | a :: l, b :: m, h1, h2, h => by
    obtain ⟨p1, q1⟩ := List.pairwise_cons.1 h1
    obtain ⟨p2, q2⟩ := List.pairwise_cons.1 h2
    have e : a = b := by
      have h3 := (h a).1 (by simp)
      have h4 := (h b).2 (by simp)
      rcases List.mem_cons.1 h3 with e | h3
      · exact e
      · rcases List.mem_cons.1 h4 with e | h4
        · exact e.symm
        · have := p1 b h4
          have := p2 a h3
          omega
    subst e
    congr 1
    refine strict_ext q1 q2 fun x => ?_
    constructor
    · intro hx
      have h5 := p1 x hx
      rcases List.mem_cons.1 ((h x).1 (List.mem_cons_of_mem _ hx)) with e | h6
      · omega
      · exact h6
    · intro hx
      have h5 := p2 x hx
      rcases List.mem_cons.1 ((h x).2 (List.mem_cons_of_mem _ hx)) with e | h6
      · omega
      · exact h6
theorem sort_strict {l : List Int} (h : l.Nodup) : (l.mergeSort fun x y => decide (x ≤ y)).Pairwise (· < ·) := by
  have h1 := List.pairwise_mergeSort (le := fun x y : Int => decide (x ≤ y)) (fun a b c h1 h2 => by simp at *; omega) (fun a b => by simp; omega) l
  have h2 : (l.mergeSort fun x y => decide (x ≤ y)).Nodup := (List.mergeSort_perm l _).nodup_iff.2 h
  refine (h1.and h2).imp fun {a b} h => ?_
  have := h.1
  have := h.2
  simp at *
  omega
theorem strict_nodup {l : List Int} (h : l.Pairwise (· < ·)) : l.Nodup := h.imp fun {a b} h e => by omega
theorem has_mem {l : List Int} (hl : l.length ≤ 1000000000) (x : Int) : ∃ b, Ev (fun k => spec_l1Has.f k l x) b ∧ Ev (fun k => slices_Contains_int_int.f k l x) b ∧ (b = true ↔ x ∈ l) := by
  obtain ⟨b, h1, h2, h3⟩ := has_val hl x
  refine ⟨b, h1, h2, h3.trans ⟨?_, rd_mem⟩⟩
  rintro ⟨j, j0, j1, rfl⟩
  exact mem_rd j0 j1
theorem put_l0 (x : Int) : ∀ (B2 B1 : List Int), (B1 ++ B2).length ≤ 1000000 → (B1 ++ B2).Pairwise (· < ·) → x ∉ B2 → (∀ y ∈ B1, y < x) → ∃ C1 C2, B1 ++ B2 = C1 ++ C2 ∧ Ev (fun k => spec_l1Put.l0 k (B1 ++ B2) x (B1.length : Int)) (C1 ++ [x] ++ C2) ∧ (∀ y ∈ C1, y < x) ∧ (∀ y ∈ C2, x < y)
  | [], B1, hl, hp, hx, h1 => by
    refine ⟨B1, [], rfl, Pl.ev_unf ⟨0, fun k _ => ?_⟩, h1, fun y hy => by simp at hy⟩
    simp only [List.append_nil] at hl ⊢
    rw [spec_l1Put.l0, if_neg (by omega), Option.bind_some, if_pos (by omega), if_pos (by omega), Int.toNat_natCast, Option.bind_some, List.take_length, List.nil_append, if_pos (by simp; omega), Option.bind_some, if_pos (by omega), Option.bind_some, List.drop_length, Option.bind_some, if_pos (by simp; omega), List.append_nil]
  | b :: B2, B1, hl, hp, hx, h1 => by
    have hlen : (B1 ++ b :: B2).length = B1.length + B2.length + 1 := by simp; omega
    have hb : rd (B1 ++ b :: B2) (B1.length : Int) = b := by
      rw [Pl.rd_get (by omega)]
      simp
    have hne : x ≠ b := fun e => hx (by simp [e])
    have hx2 : x ∉ B2 := fun e => hx (by simp [e])
    have w1 : wrap64 ((B1.length : Int) + 1) = ((B1 ++ [b]).length : Int) := by
      rw [Pl.w64 (by omega) (by omega)]
      simp
    by_cases c : b < x
    · have e2 : B1 ++ b :: B2 = (B1 ++ [b]) ++ B2 := by simp
      obtain ⟨C1, C2, e, ⟨K, f⟩, g1, g2⟩ := put_l0 x B2 (B1 ++ [b]) (by rw [← e2]; exact hl) (by rw [← e2]; exact hp) hx2 (fun y hy => by
        rcases List.mem_append.1 hy with hy | hy
        · exact h1 y hy
        · rw [List.mem_singleton.1 hy]; exact c)
      rw [← e2] at e f
      refine ⟨C1, C2, e, Pl.ev_unf ⟨K, fun k hk => ?_⟩, g1, g2⟩
      rw [spec_l1Put.l0, if_pos (by omega), if_pos (by omega), hb, if_pos c, w1]
      exact f k hk
    · refine ⟨B1, b :: B2, rfl, Pl.ev_unf ⟨0, fun k _ => ?_⟩, h1, fun y hy => ?_⟩
      · rw [spec_l1Put.l0, if_pos (by omega), if_pos (by omega), hb, if_neg c, if_neg (fun e => hne e.symm), Option.bind_some, if_pos (by omega), Int.toNat_natCast, Option.bind_some, List.take_left' rfl, List.drop_left' rfl, List.nil_append, if_pos (by simp; omega), Option.bind_some, if_pos (by omega), Option.bind_some, Option.bind_some, if_pos (by simp; omega)]
      · have hp2 := (List.pairwise_append.1 hp).2.1
        rcases List.mem_cons.1 hy with rfl | hy
        · omega
        · have := (List.pairwise_cons.1 hp2).1 y hy
          omega
theorem put_val {B : List Int} {x : Int} (hl : B.length ≤ 1000000) (hp : B.Pairwise (· < ·)) (hx : x ∉ B) : ∃ B', Ev (fun k => spec_l1Put.f k B x) B' ∧ B'.Pairwise (· < ·) ∧ B'.length = B.length + 1 ∧ (∀ y, y ∈ B' ↔ y = x ∨ y ∈ B) := by
  obtain ⟨C1, C2, e, ⟨K, f⟩, g1, g2⟩ := put_l0 x B [] (by simpa using hl) (by simpa using hp) hx (fun y hy => by simp at hy)
  simp only [List.nil_append, List.length_nil, Int.ofNat_zero] at e f
  refine ⟨C1 ++ [x] ++ C2, ⟨K, fun k hk => ?_⟩, ?_, ?_, fun y => ?_⟩
  · dsimp only
    rw [spec_l1Put.f]
    exact f k hk
  · rw [e] at hp
    obtain ⟨p1, p2, p3⟩ := List.pairwise_append.1 hp
    refine List.pairwise_append.2 ⟨List.pairwise_append.2 ⟨p1, by simp, fun a ha b hb => by rw [List.mem_singleton.1 hb]; exact g1 a ha⟩, p2, fun a ha b hb => ?_⟩
    rcases List.mem_append.1 ha with ha | ha
    · exact p3 a ha b hb
    · rw [List.mem_singleton.1 ha]; exact g2 b hb
  · rw [e]; simp; omega
  · rw [e]
    simp only [List.mem_append, List.mem_singleton]
    constructor
    · rintro ((h | h) | h)
      · exact .inr (.inl h)
      · exact .inl h
      · exact .inr (.inr h)
    · rintro (h | h | h)
      · exact .inl (.inr h)
      · exact .inl (.inl h)
      · exact .inr h
/-- P is closed under the rows -/
def Clo (l : List R1) (T : Int) (P : Int → Prop) : Prop := ∀ i : Int, 0 ≤ i → i < l.length → P (i / T) → P (rd_T46 l i).f2
/-- X holds 0, states alone, and nothing that is not reached -/
def Rea (l : List R1) (S T : Int) (X : List Int) : Prop := 0 ∈ X ∧ (∀ x ∈ X, 0 ≤ x ∧ x < S) ∧ (∀ P : Int → Prop, Clo l T P → P 0 → ∀ x ∈ X, P x)
theorem rea_put {l : List R1} {S T : Int} {X Y : List Int} {x i : Int} (h : Rea l S T X) (hY : ∀ y, y ∈ Y ↔ y = x ∨ y ∈ X) (i0 : 0 ≤ i) (i1 : i < l.length) (hi : i / T ∈ X) (hx : x = (rd_T46 l i).f2) (r : 0 ≤ x ∧ x < S) : Rea l S T Y := by
  obtain ⟨h1, h2, h3⟩ := h
  refine ⟨(hY 0).2 (.inr h1), fun y hy => ?_, fun P hP h0 y hy => ?_⟩
  · rcases (hY y).1 hy with rfl | hy
    · exact r
    · exact h2 y hy
  · rcases (hY y).1 hy with rfl | hy
    · rw [hx]; exact hP i i0 i1 (h3 P hP h0 _ hi)
    · exact h3 P hP h0 y hy
theorem rea_len {S T : Int} {l : List R1} (hS : 1 ≤ S ∧ S ≤ 4) {X : List Int} (h : Rea l S T X) (hd : X.Nodup) : (X.length : Int) ≤ S := by
  have := few S.toNat X hd (fun x hx => by have := h.2.1 x hx; omega)
  omega
section
variable {S T : Int} {l : List R1} (hS : 1 ≤ S ∧ S ≤ 4) (hT : 1 ≤ T ∧ T ≤ 4) (hl : (l.length : Int) = S * T) (hr : l.all (impl_IsTable.ok S T) = true)
include hS hT hl hr

theorem reach_f2 {i : Int} (h0 : 0 ≤ i) (h1 : i < l.length) : 0 ≤ (rd_T46 l i).f2 ∧ (rd_T46 l i).f2 < S := by
  have hm : impl_IsTable.ok S T (rd_T46 l i) = true := List.all_eq_true.1 hr _ (by rw [rd1 (by omega)]; exact List.getElem_mem _)
  have ho : impl_IsTable.ok S T (rd_T46 l i) = ((decide (0 ≤ (rd_T46 l i).f0) && decide ((rd_T46 l i).f0 ≤ wrap64 (T - 1))) && ((decide (0 ≤ (rd_T46 l i).f2) && decide ((rd_T46 l i).f2 ≤ wrap64 (S - 1))) && (decide ((rd_T46 l i).f1.size = 1) && signB (rd_T46 l i).f1))) := rfl
  rw [ho, show wrap64 (T - 1) = T - 1 from Pl.w64 (by omega) (by omega), show wrap64 (S - 1) = S - 1 from Pl.w64 (by omega) (by omega)] at hm
  simp only [Bool.and_eq_true, decide_eq_true_eq] at hm
  have b := hm.2.1
  omega
theorem sreach_l1 (n : Nat) : ∀ (i : Int) (B : List Int) (x5 : Int), ((l.length : Int) - i).toNat = n → 0 ≤ i → i ≤ l.length → B.Pairwise (· < ·) → Rea l S T B →
    ∃ B', B'.Pairwise (· < ·) ∧ Rea l S T B' ∧ (∀ x ∈ B, x ∈ B') ∧ (B' = B ∨ B.length < B'.length) ∧ (Clo l T (· ∈ B) → B' = B) ∧ (∀ j : Int, i ≤ j → j < l.length → j / T ∈ B → (rd_T46 l j).f2 ∈ B') ∧ ∀ r, Ev (fun k => spec_StatesReached.l0 k B' (wrap64 (x5 + 1)) S T l) r → Ev (fun k => spec_StatesReached.l1 k B x5 l l.length i S T l) r := by
  obtain ⟨q0, q1⟩ := Pl.mul_in (a := S) (b := T) (A := 4) (B := 4) (by omega) hS.2 (by omega) hT.2
  induction n with
  | zero =>
    intro i B x5 hn h0 h1 hp hR
    refine ⟨B, hp, hR, fun x h => h, .inl rfl, fun _ => rfl, fun j j0 j1 => by omega, fun r ⟨K, f⟩ => Pl.ev_unf ⟨K, fun k hk => ?_⟩⟩
    rw [spec_StatesReached.l1, if_neg (by omega)]
    exact f k hk
  | succ n ih =>
    intro i B x5 hn h0 h1 hp hR
    have w1 : wrap64 (i + 1) = i + 1 := Pl.w64 (by omega) (by omega)
    have ed : wrap64 (Int.tdiv i T) = i / T := by
      rw [Pl.tdiv_nn h0]
      obtain ⟨p0, p1, p2, p3, p4⟩ := Pl.node_at (n := i) (w := T) (h := S) (by omega) h0 (by rw [Int.mul_comm]; omega)
      exact Pl.w64 (by omega) (by omega)
    have hf := reach_f2 hS hT hl hr (i := i) h0 (by omega)
    have hlen := rea_len hS hR (strict_nodup hp)
    obtain ⟨b1, ⟨K1, f1⟩, _, e1⟩ := has_mem (l := B) (by omega) (i / T)
    obtain ⟨b2, ⟨K2, f2⟩, _, e2⟩ := has_mem (l := B) (by omega) (rd_T46 l i).f2
    by_cases c : b1 = true ∧ b2 = false
    · obtain ⟨rfl, rfl⟩ := c
      have hi : i / T ∈ B := e1.1 rfl
      have hx : (rd_T46 l i).f2 ∉ B := fun h => by have := e2.2 h; simp at this
      clear e1 e2
      obtain ⟨B1, ⟨K3, f3⟩, s1, s2, s3⟩ := put_val (by omega) hp hx
      obtain ⟨B', t1, t2, t3, t4, t5, t6, t7⟩ := ih (i + 1) B1 x5 (by omega) (by omega) (by omega) s1 (rea_put hR s3 h0 (by omega) hi rfl hf)
      refine ⟨B', t1, t2, fun x h => t3 x ((s3 x).2 (.inr h)), .inr ?_, fun h => absurd (h i h0 (by omega) hi) hx, fun j j0 j1 hj => ?_, fun r hr' => ?_⟩
      · rcases t4 with rfl | t4 <;> omega
      · by_cases e : j = i
        · subst e
          exact t3 _ ((s3 _).2 (.inl rfl))
        · exact t6 j (by omega) j1 ((s3 _).2 (.inr hj))
      · obtain ⟨K4, f4⟩ := t7 r hr'
        refine Pl.ev_unf ⟨K1 + K2 + K3 + K4, fun k hk => ?_⟩
        have f1 : spec_l1Has.f k B (i / T) = some true := f1 k (by omega)
        have f2 : spec_l1Has.f k B (rd_T46 l i).f2 = some false := f2 k (by omega)
        have f3 : spec_l1Put.f k B (rd_T46 l i).f2 = some B1 := f3 k (by omega)
        rw [spec_StatesReached.l1, if_pos (by omega), if_pos h0, if_pos (by omega), if_neg (by omega), ed, f1, Option.bind_some, if_pos rfl, f2, Option.bind_some, if_neg (by simp), f3, Option.bind_some, w1]
        exact f4 k (by omega)
    · obtain ⟨B', t1, t2, t3, t4, t5, t6, t7⟩ := ih (i + 1) B x5 (by omega) (by omega) (by omega) hp hR
      refine ⟨B', t1, t2, t3, t4, t5, fun j j0 j1 hj => ?_, fun r hr' => ?_⟩
      · by_cases e : j = i
        · subst e
          have hb1 := e1.2 hj
          have hb2 : b2 = true := by
            cases hb : b2 with
            | true => rfl
            | false => exact absurd ⟨hb1, hb⟩ c
          exact t3 _ (e2.1 hb2)
        · exact t6 j (by omega) j1 hj
      · obtain ⟨K4, f4⟩ := t7 r hr'
        clear e1 e2 t6 t5 t4 t3
        refine Pl.ev_unf ⟨K1 + K2 + K4, fun k hk => ?_⟩
        have f1 : spec_l1Has.f k B (i / T) = some b1 := f1 k (by omega)
        have f2 : spec_l1Has.f k B (rd_T46 l i).f2 = some b2 := f2 k (by omega)
        have f4 := f4 k (by omega)
        dsimp only at f4
        rw [spec_StatesReached.l1, if_pos (by omega), if_pos h0, if_pos (by omega), if_neg (by omega), ed, f1, Option.bind_some, w1]
        cases b1 with
        | false => rw [if_neg (by simp)]; exact f4
        | true =>
          rw [if_pos rfl, f2, Option.bind_some]
          cases b2 with
          | true => rw [if_pos rfl]; exact f4
          | false => exact absurd ⟨rfl, rfl⟩ c
theorem sreach_l0 (n : Nat) : ∀ (x5 : Int) (B : List Int), (S - x5).toNat = n → 0 ≤ x5 → x5 ≤ S → B.Pairwise (· < ·) → Rea l S T B → (Clo l T (· ∈ B) ∨ x5 + 1 ≤ B.length) →
    ∃ B', B'.Pairwise (· < ·) ∧ Rea l S T B' ∧ Clo l T (· ∈ B') ∧ Ev (fun k => spec_StatesReached.l0 k B x5 S T l) (B', true) := by
  obtain ⟨q0, q1⟩ := Pl.mul_in (a := S) (b := T) (A := 4) (B := 4) (by omega) hS.2 (by omega) hT.2
  induction n with
  | zero =>
    intro x5 B hn h0 h1 hp hR hc
    have hlen := rea_len hS hR (strict_nodup hp)
    refine ⟨B, hp, hR, ?_, Pl.ev_unf ⟨0, fun k _ => ?_⟩⟩
    · rcases hc with hc | hc
      · exact hc
      · omega
    · rw [spec_StatesReached.l0, if_neg (by omega)]
  | succ n ih =>
    intro x5 B hn h0 h1 hp hR hc
    have w1 : wrap64 (x5 + 1) = x5 + 1 := Pl.w64 (by omega) (by omega)
    obtain ⟨B1, t1, t2, t3, t4, t5, t6, t7⟩ := sreach_l1 hS hT hl hr _ 0 B x5 rfl (by omega) (by omega) hp hR
    have hc' : Clo l T (· ∈ B1) ∨ x5 + 1 + 1 ≤ B1.length := by
      rcases t4 with rfl | t4
      · exact .inl fun j j0 j1 hj => t6 j j0 j1 hj
      · rcases hc with hc | hc
        · have := t5 hc
          subst this
          exact .inl hc
        · exact .inr (by omega)
    obtain ⟨B', u1, u2, u3, u4⟩ := ih (x5 + 1) B1 (by omega) (by omega) (by omega) t1 t2 hc'
    refine ⟨B', u1, u2, u3, ?_⟩
    obtain ⟨K, f⟩ := t7 (B', true) (by rw [w1]; exact u4)
    refine Pl.ev_unf ⟨K, fun k hk => ?_⟩
    rw [spec_StatesReached.l0, if_pos (by omega)]
    exact f k hk
theorem ireach_l1 (n : Nat) : ∀ (c : Int) (A : List Int) (i : Int), (T - c).toNat = n → 0 ≤ c → c ≤ T → 0 ≤ i → i < A.length → A.Nodup → Rea l S T A →
    ∃ A', A'.Nodup ∧ Rea l S T A' ∧ (∃ E, A' = A ++ E) ∧ (∀ d : Int, c ≤ d → d < T → (rd_T46 l (rd A i * T + d)).f2 ∈ A') ∧ ∀ r, Ev (fun k => impl_StatesReached.l0 k A' (wrap64 (i + 1)) S T l) r → Ev (fun k => impl_StatesReached.l1 k A i T c S T l) r := by
  obtain ⟨q0, q1⟩ := Pl.mul_in (a := S) (b := T) (A := 4) (B := 4) (by omega) hS.2 (by omega) hT.2
  induction n with
  | zero =>
    intro c A i hn h0 h1 i0 i1 hp hR
    refine ⟨A, hp, hR, ⟨[], by simp⟩, fun d d0 d1 => by omega, fun r ⟨K, f⟩ => Pl.ev_unf ⟨K, fun k hk => ?_⟩⟩
    rw [impl_StatesReached.l1, if_neg (by omega)]
    exact f k hk
  | succ n ih =>
    intro c A i hn h0 h1 i0 i1 hp hR
    have hlen := rea_len hS hR hp
    have w1 : wrap64 (c + 1) = c + 1 := Pl.w64 (by omega) (by omega)
    have hs := hR.2.1 _ (mem_rd i0 i1)
    obtain ⟨j0, j1⟩ := Pl.node_lt (x := c) (y := rd A i) (w := T) (h := S) h0 (by omega) hs.1 hs.2
    rw [Int.mul_comm T S] at j1
    have m0 : 0 ≤ rd A i * T := Int.mul_nonneg hs.1 (by omega)
    have ew : wrap64 (wrap64 (rd A i * T) + c) = rd A i * T + c := by
      rw [Pl.w64 (n := rd A i * T) (by omega) (by omega)]
      exact Pl.w64 (by omega) (by omega)
    have hdiv : (rd A i * T + c) / T = rd A i := Pl.node_div h0 (by omega)
    obtain ⟨p, hp'⟩ : ∃ p, p = rd A i * T + c := ⟨_, rfl⟩
    rw [← hp'] at j0 j1 ew hdiv
    have hf := reach_f2 hS hT hl hr (i := p) j0 (by omega)
    have hrow : impl_Table_row.f S T l (rd A i) c = some ((rd_T46 l p).f0, (rd_T46 l p).f1, (rd_T46 l p).f2) := by
      rw [impl_Table_row.f, ew, if_pos j0, if_pos (by omega)]
    obtain ⟨b, _, ⟨K2, f2⟩, e2⟩ := has_mem (l := A) (by omega) (rd_T46 l p).f2
    cases b with
    | true =>
      have hx := e2.1 rfl
      clear e2
      obtain ⟨A', t1, t2, ⟨E, t3⟩, t4, t5⟩ := ih (c + 1) A i (by omega) (by omega) (by omega) i0 i1 hp hR
      refine ⟨A', t1, t2, ⟨E, t3⟩, fun d d0 d1 => ?_, fun r hr' => ?_⟩
      · by_cases e : d = c
        · subst e
          rw [← hp', t3]
          exact List.mem_append_left _ hx
        · exact t4 d (by omega) d1
      · obtain ⟨K4, f4⟩ := t5 r hr'
        refine Pl.ev_unf ⟨K2 + K4, fun k hk => ?_⟩
        have f2 : slices_Contains_int_int.f k A (rd_T46 l p).f2 = some true := f2 k (by omega)
        rw [impl_StatesReached.l1, if_pos (by omega), if_pos i0, if_pos i1, hrow, Option.bind_some, f2, Option.bind_some, if_pos rfl, w1]
        exact f4 k (by omega)
    | false =>
      have hx : (rd_T46 l p).f2 ∉ A := fun h => by have := e2.2 h; simp at this
      clear e2
      have hrd : rd (A ++ [(rd_T46 l p).f2]) i = rd A i := by
        rw [Pl.rd_get (by rw [List.length_append]; omega), Pl.rd_get (by omega), List.getElem_append_left (by omega)]
      obtain ⟨A', t1, t2, ⟨E, t3⟩, t4, t5⟩ := ih (c + 1) (A ++ [(rd_T46 l p).f2]) i (by omega) (by omega) (by omega) i0 (by rw [List.length_append]; omega) (List.nodup_append.2 ⟨hp, by simp, fun a ha b hb => by rw [List.mem_singleton.1 hb]; rintro rfl; exact hx ha⟩) (rea_put hR (x := (rd_T46 l p).f2) (i := p) (fun y => by simp only [List.mem_append, List.mem_singleton]; exact Or.comm) j0 (by omega) (by rw [hdiv]; exact mem_rd i0 i1) rfl hf)
      rw [hrd] at t4
      refine ⟨A', t1, t2, ⟨[(rd_T46 l p).f2] ++ E, by rw [t3, List.append_assoc]⟩, fun d d0 d1 => ?_, fun r hr' => ?_⟩
      · by_cases e : d = c
        · subst e
          rw [← hp', t3]
          exact List.mem_append_left _ (List.mem_append_right _ (by simp))
        · exact t4 d (by omega) d1
      · obtain ⟨K4, f4⟩ := t5 r hr'
        refine Pl.ev_unf ⟨K2 + K4, fun k hk => ?_⟩
        have f2 : slices_Contains_int_int.f k A (rd_T46 l p).f2 = some false := f2 k (by omega)
        rw [impl_StatesReached.l1, if_pos (by omega), if_pos i0, if_pos i1, hrow, Option.bind_some, f2, Option.bind_some, if_neg (by simp), if_pos (by omega), w1]
        exact f4 k (by omega)
theorem ireach_l0 (n : Nat) : ∀ (i : Int) (A : List Int), (S - i).toNat = n → 0 ≤ i → i ≤ A.length → A.Nodup → Rea l S T A → (∀ j : Int, 0 ≤ j → j < i → ∀ c : Int, 0 ≤ c → c < T → (rd_T46 l (rd A j * T + c)).f2 ∈ A) →
    ∃ A', A'.Nodup ∧ Rea l S T A' ∧ Clo l T (· ∈ A') ∧ Ev (fun k => impl_StatesReached.l0 k A i S T l) (A'.mergeSort (fun x y => decide (x ≤ y)), true) := by
  obtain ⟨q0, q1⟩ := Pl.mul_in (a := S) (b := T) (A := 4) (B := 4) (by omega) hS.2 (by omega) hT.2
  have stop : ∀ (i : Int) (A : List Int), i = A.length → A.Nodup → Rea l S T A → (∀ j : Int, 0 ≤ j → j < i → ∀ c : Int, 0 ≤ c → c < T → (rd_T46 l (rd A j * T + c)).f2 ∈ A) → ∃ A', A'.Nodup ∧ Rea l S T A' ∧ Clo l T (· ∈ A') ∧ Ev (fun k => impl_StatesReached.l0 k A i S T l) (A'.mergeSort (fun x y => decide (x ≤ y)), true) := by
    intro i A hi hp hR hc
    have hlen := rea_len hS hR hp
    have hpos : 0 < A.length := List.length_pos_of_mem hR.1
    refine ⟨A, hp, hR, fun m m0 m1 hm => ?_, Pl.ev_unf ⟨0, fun k _ => ?_⟩⟩
    · obtain ⟨j, j0, j1, e⟩ := rd_mem hm
      obtain ⟨p0, p1, p2, p3, p4⟩ := Pl.node_at (n := m) (w := T) (h := S) (by omega) m0 (by rw [Int.mul_comm]; omega)
      have := hc j j0 (by omega) (m % T) p0 p1
      rw [e, p4] at this
      exact this
    · rw [impl_StatesReached.l0, if_neg (by omega), if_pos ⟨hpos, by omega⟩]
  induction n with
  | zero =>
    intro i A hn h0 h1 hp hR hc
    have hlen := rea_len hS hR hp
    exact stop i A (by omega) hp hR hc
  | succ n ih =>
    intro i A hn h0 h1 hp hR hc
    by_cases c : i = A.length
    · exact stop i A c hp hR hc
    · have w1 : wrap64 (i + 1) = i + 1 := Pl.w64 (by omega) (by omega)
      obtain ⟨A1, t1, t2, ⟨E, t3⟩, t4, t5⟩ := ireach_l1 hS hT hl hr _ 0 A i rfl (by omega) (by omega) h0 (by omega) hp hR
      have hrd : ∀ j : Int, 0 ≤ j → j < A.length → rd A1 j = rd A j := fun j j0 j1 => by
        rw [t3, Pl.rd_get (by rw [List.length_append]; omega), Pl.rd_get (by omega), List.getElem_append_left (by omega)]
      obtain ⟨A', u1, u2, u3, u4⟩ := ih (i + 1) A1 (by omega) (by omega) (by rw [t3, List.length_append]; omega) t1 t2 (fun j j0 j1 d d0 d1 => by
        rw [hrd j j0 (by omega)]
        by_cases e : j = i
        · subst e
          exact t4 d d0 d1
        · rw [t3]
          exact List.mem_append_left _ (hc j j0 (by omega) d d0 d1))
      refine ⟨A', u1, u2, u3, ?_⟩
      obtain ⟨K, f⟩ := t5 (_, true) (by rw [w1]; exact u4)
      refine Pl.ev_unf ⟨K, fun k hk => ?_⟩
      rw [impl_StatesReached.l0, if_pos (by omega)]
      exact f k hk
end
theorem reached_both {l : List R1} (hl : l.length ≤ 1048576) (a0 a1 : Int) : ∃ (L : List Int) (b : Bool), L.length ≤ 1048576 ∧ Ev (fun k => spec_StatesReached.f k a0 a1 l) (L, b) ∧ Ev (fun k => impl_StatesReached.f k a0 a1 l) (L, b) := by
  obtain ⟨⟨K, f⟩, g⟩ := tab_both hl a0 a1
  by_cases ct : tabB a0 a1 l = true
  · rw [ct] at f g
    obtain ⟨d0, d1, d2, d3, d4, d5⟩ := tab_dims ct
    have h0 : Rea l a0 a1 [0] := ⟨by simp, fun x hx => by rw [List.mem_singleton.1 hx]; omega, fun P _ h x hx => by rw [List.mem_singleton.1 hx]; exact h⟩
    obtain ⟨B, s1, s2, s3, ⟨K1, f1⟩⟩ := sreach_l0 ⟨d0, d1⟩ ⟨d2, d3⟩ d4 d5 _ 0 [0] rfl (by omega) (by omega) (by simp) h0 (.inr (by simp))
    obtain ⟨A, t1, t2, t3, ⟨K2, f2⟩⟩ := ireach_l0 ⟨d0, d1⟩ ⟨d2, d3⟩ d4 d5 _ 0 [0] rfl (by omega) (by simp) (by simp) h0 (fun j j0 j1 => by omega)
    have e : A.mergeSort (fun x y => decide (x ≤ y)) = B := by
      refine strict_ext (sort_strict t1) s1 fun x => ?_
      rw [List.mem_mergeSort]
      exact ⟨fun hx => t2.2.2 _ s3 s2.1 x hx, fun hx => s2.2.2 _ t3 t2.1 x hx⟩
    have hlen := rea_len ⟨d0, d1⟩ s2 (strict_nodup s1)
    rw [e] at f2
    refine ⟨B, true, by omega, ⟨K + K1, fun k hk => ?_⟩, ⟨K2, fun k hk => ?_⟩⟩
    · have f : spec_taGood.f k a0 a1 l = some true := f k (by omega)
      have f1 := f1 k (by omega)
      dsimp only at f1 ⊢
      rw [spec_StatesReached.f, f, Option.bind_some, if_pos rfl, f1]
    · have f2 := f2 k (by omega)
      dsimp only at f2 ⊢
      rw [impl_StatesReached.f, g, Option.bind_some, if_pos rfl, f2]
  · have ct : tabB a0 a1 l = false := by simpa using ct
    rw [ct] at f g
    refine ⟨[], false, by simp, ⟨K, fun k hk => ?_⟩, ⟨0, fun k hk => ?_⟩⟩
    · have f : spec_taGood.f k a0 a1 l = some false := f k (by omega)
      dsimp only
      rw [spec_StatesReached.f, f, Option.bind_some, if_neg (by simp)]
    · dsimp only
      rw [impl_StatesReached.f, g, Option.bind_some, if_neg (by simp)]
theorem FnExactStatesReached (a0_0 : Int) (a0_1 : Int) (l0_2 : List (S57)) (h0 : ((Lit.int .i64 a0_0).wf = true) ∧ ((Lit.int .i64 a0_1).wf = true) ∧ (l0_2.length ≤ 9223372036854775807 ∧ ∀ e_ ∈ l0_2, ((Lit.int .i64 e_.f0).wf = true) ∧ (e_.f1.size ≤ maxLen) ∧ ((Lit.int .i64 e_.f2).wf = true))) : ∃ k, laws_FnExactStatesReached.f k a0_0 a0_1 l0_2 = some true := by
  obtain ⟨_, _, hl, he⟩ := h0
  obtain ⟨v, ⟨K1, f1⟩, v0, v1, hv⟩ := szTable_val (l := l0_2) (fun e h => Pl.le_max (he e h).2.1) hl a0_0 a0_1
  by_cases c : v < 0
  · refine ⟨K1, ?_⟩
    have f1 : laws_szTable.f K1 a0_0 a0_1 l0_2 1048576 = some v := f1 K1 (Nat.le_refl _)
    rw [laws_FnExactStatesReached.f, f1, Option.bind_some, if_pos c]
  · have hl' := hv (by omega)
    obtain ⟨K2, f2⟩ := toTable_val hl' a0_0 a0_1
    have hm : (l0_2.map cv).length ≤ 1048576 := by rw [List.length_map]; exact hl'
    obtain ⟨L, b, hL, ⟨K3, f3⟩, ⟨K4, f4⟩⟩ := reached_both hm a0_0 a0_1
    obtain ⟨K5, f5⟩ := eqTable_self hm a0_0 a0_1
    obtain ⟨K6, f6⟩ := eqIntS_self (l := L) (by omega)
    obtain ⟨t', ⟨K7, f7⟩⟩ := mark_only hm
    obtain ⟨L', ⟨K8, f8⟩, ⟨K9, f9⟩, _⟩ := mark_held (a := 1) (l := L) (by omega) (by omega) (by omega)
    obtain ⟨K, hK⟩ : ∃ K, K = K1 + K2 + K3 + K4 + K5 + K6 + K7 + K8 + K9 := ⟨_, rfl⟩
    have g1 : laws_szTable.f (K + 3) a0_0 a0_1 l0_2 1048576 = some v := f1 (K + 3) (by omega)
    have g2 : ∀ k, K ≤ k → laws_toTable.f k a0_0 a0_1 l0_2 = some (a0_0, a0_1, l0_2.map cv) := fun k hk => f2 k (by omega)
    have g3 : spec_StatesReached.f (K + 3) a0_0 a0_1 (l0_2.map cv) = some (L, b) := f3 (K + 3) (by omega)
    have g4 : ∀ k, K ≤ k → impl_StatesReached.f k a0_0 a0_1 (l0_2.map cv) = some (L, b) := fun k hk => f4 k (by omega)
    have g5 : laws_eqTable.f (K + 2) a0_0 a0_1 (l0_2.map cv) a0_0 a0_1 (l0_2.map cv) = some true := f5 (K + 2) (by omega)
    have g6 : ∀ k, K ≤ k → laws_eqIntS.f k L L = some true := fun k hk => f6 k (by omega)
    have g7 : laws_markTable.f (K + 2) a0_0 a0_1 (l0_2.map cv) 1 = some (1 + 3 * ((l0_2.map cv).length : Int), t') := by
      have f7 : laws_markRowS.f (K + 2) (l0_2.map cv) 1 = some (1 + 3 * ((l0_2.map cv).length : Int), t') := f7 (K + 2) (by omega)
      rw [laws_markTable.f, f7, Option.bind_some]
    have g8 : laws_markIntS.f (K + 1) L 1 = some (1 + (L.length : Int), L') := f8 (K + 1) (by omega)
    have g9 : ∀ k, K ≤ k → laws_heldIntS.f k L' 1 = some (1 + (L.length : Int)) := fun k hk => f9 k (by omega)
    refine ⟨K + 3, ?_⟩
    rw [laws_FnExactStatesReached.f, g1, Option.bind_some, if_neg c, g2 (K + 3) (by omega)]
    simp only [Option.bind_some]
    rw [g3, g4 (K + 3) (by omega)]
    simp only [Option.bind_some]
    rw [g6 (K + 3) (by omega), Option.bind_some, if_pos rfl, bne_self_eq_false, laws_FnExactStatesReached.j0, if_neg (by simp), g2 (K + 2) (by omega)]
    simp only [Option.bind_some]
    rw [g5, Option.bind_some, if_pos rfl, g7]
    simp only [Option.bind_some]
    rw [if_neg (by omega), g6 (K + 2) (by omega), Option.bind_some, if_pos rfl, bne_self_eq_false, laws_FnExactStatesReached.j1, if_neg (by simp), g8]
    simp only [Option.bind_some]
    rw [g9 (K + 1) (by omega), Option.bind_some, if_neg (by omega), if_pos rfl, g2 (K + 1) (by omega)]
    simp only [Option.bind_some]
    rw [g4 (K + 1) (by omega)]
    simp only [Option.bind_some]
    rw [g6 (K + 1) (by omega), Option.bind_some, if_pos rfl, bne_self_eq_false, laws_FnExactStatesReached.j2, if_neg (by simp), g9 K (by omega), Option.bind_some, if_neg (by omega), if_pos rfl]

end Go.Proofs.Ytmjjmibgoeobpaa.Pure
