/- The plain law of RenameTints: for every table and list the program's answer (the rows of a copy written over) is the reference's (the rows written into an empty table). No condition. -/
import Derived.Test.YtmjjmibgoeobpaaPUx2
import Derived.Test.YtmjjmibgoeobpaaPUx3
import Derived.Test.YtmjjmibgoeobpaaPUx4
import Derived.Test.YtmjjmibgoeobpaaPUx5
import Derived.Test.YtmjjmibgoeobpaaPUx6
import Derived.Test.YtmjjmibgoeobpaaPUx7
import Derived.Test.YtmjjmibgoeobpaaPUx8
import Derived.Test.YtmjjmibgoeobpaaPUx9
import Derived.Test.YtmjjmibgoeobpaaUPuMark
import Derived.Test.YtmjjmibgoeobpaaUPuHas
namespace Go.Proofs.Ytmjjmibgoeobpaa.Pure
open Go.RowKit Go.Proofs.Ytmjjmibgoeobpaa Go.Proofs.Ytmjjmibgoeobpaa.PU Go.Proofs.YtmjjmibgoeobpaaW.PrintWords Go.Proofs.YtmjjmibgoeobpaaW.PrintLast
set_option linter.unusedVariables false
set_option linter.unusedSimpArgs false

theorem l1all_l0 {l : List Int} (hl : l.length ≤ 1048576) (a b : Int) (n : Nat) : ∀ i : Int, ((l.length : Int) - i).toNat = n → 0 ≤ i → i ≤ l.length → Ev (fun k => spec_l1All.l0 k a b l l.length i) ((l.drop i.toNat).all fun n => decide (a ≤ n) && decide (n ≤ b)) := by
  induction n with
  | zero =>
    intro i hn h0 h1
    have e : l.drop i.toNat = [] := List.drop_eq_nil_of_le (by omega)
    refine Pl.ev_unf ⟨0, fun k _ => ?_⟩
    rw [spec_l1All.l0, if_neg (by omega), e]
    rfl
  | succ n ih =>
    intro i hn h0 h1
    obtain ⟨K, f⟩ := ih (i + 1) (by omega) (by omega) (by omega)
    have w1 : wrap64 (i + 1) = i + 1 := Pl.w64 (by omega) (by omega)
    have e : l.drop i.toNat = rd l i :: l.drop (i + 1).toNat := by
      rw [List.drop_eq_getElem_cons (by omega), Pl.rd_get (by omega), show (i + 1).toNat = i.toNat + 1 by omega]
    rw [e, List.all_cons]
    refine Pl.ev_unf ⟨K, fun k hk => ?_⟩
    have f : spec_l1All.l0 k a b l l.length (i + 1) = some ((l.drop (i + 1).toNat).all fun n => decide (a ≤ n) && decide (n ≤ b)) := f k (by omega)
    rw [spec_l1All.l0, if_pos (by omega), if_pos h0, if_pos (by omega), in_val, Option.bind_some, w1, f]
    cases (decide (a ≤ rd l i) && decide (rd l i ≤ b)) <;> rfl
theorem sdiff_l0 {l : List Int} (hl : l.length ≤ 1000000000) (n : Nat) : ∀ i : Int, ((l.length : Int) - i).toNat = n → 0 ≤ i → i ≤ l.length → ∃ b, Ev (fun k => spec_taOrder.l0 k l l l.length i) b ∧ (b = true ↔ ∀ j : Int, i ≤ j → j < l.length → ¬ ∃ m : Int, 0 ≤ m ∧ m < j ∧ rd l m = rd l j) := by
  induction n with
  | zero =>
    intro i hn h0 h1
    refine ⟨true, Pl.ev_unf ⟨0, fun k _ => ?_⟩, ⟨fun _ j _ _ => by omega, fun _ => rfl⟩⟩
    rw [spec_taOrder.l0, if_neg (by omega)]
  | succ n ih =>
    intro i hn h0 h1
    obtain ⟨b, ⟨K, f⟩, hb⟩ := ih (i + 1) (by omega) (by omega) (by omega)
    have w1 : wrap64 (i + 1) = i + 1 := Pl.w64 (by omega) (by omega)
    have hlt : (l.take i.toNat).length = i.toNat := by rw [List.length_take]; omega
    obtain ⟨c, ⟨K2, f2⟩, _, hc⟩ := has_val (l := l.take i.toNat) (by omega) (rd l i)
    have hc' : c = true ↔ ∃ m : Int, 0 ≤ m ∧ m < i ∧ rd l m = rd l i := by
      rw [hc]
      constructor
      · rintro ⟨m, m0, m1, e⟩
        rw [rd_take m0 (by omega) (by omega)] at e
        exact ⟨m, m0, by omega, e⟩
      · rintro ⟨m, m0, m1, e⟩
        exact ⟨m, m0, by omega, by rw [rd_take m0 (by omega) (by omega)]; exact e⟩
    clear hc
    have HC := Aside0.mk hc'
    clear hc'
    cases c with
    | true =>
      refine ⟨false, Pl.ev_unf ⟨K2, fun k hk => ?_⟩, ⟨fun h => by simp at h, fun h => absurd (HC.out.1 rfl) (h i (by omega) (by omega))⟩⟩
      have f2 : spec_l1Has.f k (l.take i.toNat) (rd l i) = some true := f2 k hk
      rw [spec_taOrder.l0, if_pos (by omega), if_pos (by omega), if_pos (by omega), if_pos (by omega), f2, Option.bind_some, if_pos rfl]
    | false =>
      refine ⟨b, Pl.ev_unf ⟨K + K2, fun k hk => ?_⟩, hb.trans ⟨fun h j j0 j1 => ?_, fun h j j0 j1 => h j (by omega) j1⟩⟩
      · have f2 : spec_l1Has.f k (l.take i.toNat) (rd l i) = some false := f2 k (by omega)
        rw [spec_taOrder.l0, if_pos (by omega), if_pos (by omega), if_pos (by omega), if_pos (by omega), f2, Option.bind_some, if_neg (by simp), w1]
        exact f k (by omega)
      · by_cases e : j = i
        · subst e
          intro hm
          exact absurd (HC.out.2 hm) (by simp)
        · exact h j (by omega) j1

theorem order_both {l : List Int} (hl : l.length ≤ 1048576) {n : Int} (n0 : 1 ≤ n) (n1 : n ≤ 4) : ∃ b, Ev (fun k => spec_taOrder.f k n l) b ∧ Ev (fun k => impl_isOrder.f k l n) b ∧ (b = true → (l.length : Int) = n ∧ (∀ x ∈ l, 0 ≤ x ∧ x < n) ∧ l.Nodup) := by
  have w1 : wrap64 (n - 1) = n - 1 := Pl.w64 (by omega) (by omega)
  by_cases c : (l.length : Int) = n
  · obtain ⟨K, f⟩ := l1all_l0 hl 0 (n - 1) _ 0 rfl (by omega) (by omega)
    rw [Int.toNat_zero, List.drop_zero] at f
    have g : impl_areWithin.f l 0 (n - 1) = some (l.all fun x => decide (0 ≤ x) && decide (x ≤ n - 1)) := rfl
    have hall : (l.all fun x => decide (0 ≤ x) && decide (x ≤ n - 1)) = true → ∀ x ∈ l, 0 ≤ x ∧ x < n := by
      intro h x hx
      have := List.all_eq_true.1 h x hx
      simp only [Bool.and_eq_true, decide_eq_true_eq] at this
      omega
    generalize (l.all fun x => decide (0 ≤ x) && decide (x ≤ n - 1)) = q at f g hall
    obtain ⟨b1, ⟨K1, f1⟩, h1⟩ := sdiff_l0 (l := l) (by omega) _ 0 rfl (by omega) (by omega)
    obtain ⟨b2, ⟨K2, f2⟩, h2⟩ := diff_l0 (l := l) (by omega) _ 0 rfl (by omega) (by omega)
    have hb : b2 = b1 := by rw [Bool.eq_iff_iff, h1, h2]
    subst hb
    have hnd : b2 = true → l.Nodup := fun h => nodup_of (h1.1 h)
    clear h1 h2
    cases q with
    | true =>
      refine ⟨b2, ⟨K + K1 + 1, fun k hk => ?_⟩, ⟨K2, fun k hk => ?_⟩, fun h => ⟨c, hall rfl, hnd h⟩⟩
      · obtain ⟨m, rfl⟩ : ∃ m, k = m + 1 := ⟨k - 1, by omega⟩
        have f : spec_l1All.l0 (m + 1) 0 (n - 1) l l.length 0 = some true := f (m + 1) (by omega)
        have f1 : spec_taOrder.l0 m l l l.length 0 = some b2 := f1 m (by omega)
        dsimp only
        rw [spec_taOrder.f, if_pos c, w1, spec_l1All.f, f, Option.bind_some, spec_taOrder.j0, if_neg (by simp), f1]
      · have f2 : impl_areDifferent.l0 k l l l.length 0 = some b2 := f2 k hk
        dsimp only
        rw [impl_isOrder.f, if_pos c, w1, g, Option.bind_some, if_pos rfl, impl_areDifferent.f, f2, Option.bind_some]
    | false =>
      refine ⟨false, ⟨K + 1, fun k hk => ?_⟩, ⟨0, fun k hk => ?_⟩, fun h => by simp at h⟩
      · obtain ⟨m, rfl⟩ : ∃ m, k = m + 1 := ⟨k - 1, by omega⟩
        have f : spec_l1All.l0 (m + 1) 0 (n - 1) l l.length 0 = some false := f (m + 1) (by omega)
        dsimp only
        rw [spec_taOrder.f, if_pos c, w1, spec_l1All.f, f, Option.bind_some, spec_taOrder.j0, if_pos (by rfl)]
      · dsimp only
        rw [impl_isOrder.f, if_pos c, w1, g, Option.bind_some, if_neg (by simp)]
  · refine ⟨false, ⟨1, fun k hk => ?_⟩, ⟨0, fun k hk => ?_⟩, fun h => by simp at h⟩
    · obtain ⟨m, rfl⟩ : ∃ m, k = m + 1 := ⟨k - 1, by omega⟩
      dsimp only
      rw [spec_taOrder.f, if_neg c, spec_taOrder.j0, if_pos rfl]
    · dsimp only
      rw [impl_isOrder.f, if_neg c]
theorem row_ok {S T : Int} {l : List R1} (hS : 1 ≤ S ∧ S ≤ 4) (hT : 1 ≤ T ∧ T ≤ 4) (h : l.all (impl_IsTable.ok S T) = true) {i : Int} (h0 : 0 ≤ i) (h1 : i < l.length) : (0 ≤ (rd_T46 l i).f0 ∧ (rd_T46 l i).f0 < T) ∧ (0 ≤ (rd_T46 l i).f2 ∧ (rd_T46 l i).f2 < S) := by
  have hm : impl_IsTable.ok S T (rd_T46 l i) = true := List.all_eq_true.1 h _ (by rw [rd1 (by omega)]; exact List.getElem_mem _)
  have ho : impl_IsTable.ok S T (rd_T46 l i) = ((decide (0 ≤ (rd_T46 l i).f0) && decide ((rd_T46 l i).f0 ≤ wrap64 (T - 1))) && ((decide (0 ≤ (rd_T46 l i).f2) && decide ((rd_T46 l i).f2 ≤ wrap64 (S - 1))) && (decide ((rd_T46 l i).f1.size = 1) && signB (rd_T46 l i).f1))) := rfl
  rw [ho, show wrap64 (T - 1) = T - 1 from Pl.w64 (by omega) (by omega), show wrap64 (S - 1) = S - 1 from Pl.w64 (by omega) (by omega)] at hm
  simp only [Bool.and_eq_true, decide_eq_true_eq] at hm
  have a := hm.1
  have b := hm.2.1
  omega
def pos (o : List Int) (T j : Int) : Int := j / T * T + rd o (j % T)
theorem pos_onto {S T : Int} {o : List Int} (hS : 1 ≤ S) (hT : 1 ≤ T) (ho : (o.length : Int) = T) (hx : ∀ x ∈ o, 0 ≤ x ∧ x < T) (hd : o.Nodup) {p : Int} (p0 : 0 ≤ p) (p1 : p < T * S) : ∃ j : Int, 0 ≤ j ∧ j < T * S ∧ pos o T j = p := by
  obtain ⟨m0, m1, m2, m3, m4⟩ := Pl.node_at (n := p) (w := T) (h := S) (by omega) p0 p1
  obtain ⟨s, s0, s1, e⟩ := rd_mem (onto (n := o.length) hd (fun x h => by have := hx x h; omega) rfl (p % T) m0 (by omega))
  obtain ⟨j0, j1⟩ := Pl.node_lt (x := s) (y := p / T) (w := T) (h := S) s0 (by omega) m2 m3
  refine ⟨p / T * T + s, j0, j1, ?_⟩
  unfold pos
  rw [Pl.node_div s0 (by omega), Pl.node_mod s0 (by omega), e, m4]
theorem ren_l0 {S T : Int} {l : List R1} {o : List Int} (hS : 1 ≤ S ∧ S ≤ 4) (hT : 1 ≤ T ∧ T ≤ 4) (hl : (l.length : Int) = S * T) (hr : l.all (impl_IsTable.ok S T) = true) (ho : (o.length : Int) = T) (hx : ∀ x ∈ o, 0 ≤ x ∧ x < T) (n : Nat) : ∀ (i : Int) (a b : List R1), ((l.length : Int) - i).toNat = n → 0 ≤ i → i ≤ l.length → a.length = l.length → b.length = l.length → (∀ p : Int, 0 ≤ p → p < l.length → (∃ j : Int, 0 ≤ j ∧ j < i ∧ pos o T j = p) → rd_T46 a p = rd_T46 b p) →
    ∃ ra rb : List R1, Ev (fun k => spec_RenameTints.l0 k o l l.length i S T l S T a) (S, T, ra, true) ∧ Ev (fun k => impl_Table_renamed.l0 (fun x => some x) (impl_RenameTints.pick o) k l l.length i S T l S T b) (S, T, rb) ∧ ra.length = l.length ∧ rb.length = l.length ∧ (∀ p : Int, 0 ≤ p → p < l.length → (∃ j : Int, 0 ≤ j ∧ j < l.length ∧ pos o T j = p) → rd_T46 ra p = rd_T46 rb p) := by
  obtain ⟨q0, q1⟩ := Pl.mul_in (a := S) (b := T) (A := 4) (B := 4) (by omega) hS.2 (by omega) hT.2
  induction n with
  | zero =>
    intro i a b hn h0 h1 ha hb hp
    obtain rfl : i = l.length := by omega
    refine ⟨a, b, Pl.ev_unf ⟨0, fun k _ => ?_⟩, Pl.ev_unf ⟨0, fun k _ => ?_⟩, ha, hb, hp⟩
    · rw [spec_RenameTints.l0, if_neg (by omega)]
    · rw [impl_Table_renamed.l0, if_neg (by omega)]
  | succ n ih =>
    intro i a b hn h0 h1 ha hb hp
    have w1 : wrap64 (i + 1) = i + 1 := Pl.w64 (by omega) (by omega)
    obtain ⟨p0, p1, p2, p3, p4⟩ := Pl.node_at (n := i) (w := T) (h := S) (by omega) h0 (by rw [Int.mul_comm]; omega)
    have ed : wrap64 (Int.tdiv i T) = i / T := by rw [Pl.tdiv_nn h0]; exact Pl.w64 (by omega) (by omega)
    have em : Int.tmod i T = i % T := Pl.tmod_nn h0
    obtain ⟨⟨r0, r1⟩, r2, r3⟩ := row_ok hS hT hr (i := i) h0 (by omega)
    have hq := hx _ (mem_rd (l := o) (j := i % T) p0 (by omega))
    obtain ⟨j0, j1⟩ := Pl.node_lt (x := rd o (i % T)) (y := i / T) (w := T) (h := S) hq.1 hq.2 p2 p3
    rw [Int.mul_comm T S] at j1
    obtain ⟨P, hP⟩ : ∃ P, P = pos o T i := ⟨_, rfl⟩
    have hP' : i / T * T + rd o (i % T) = P := hP.symm
    have ew : wrap64 (wrap64 (i / T * T) + rd o (i % T)) = P := by
      have m0 : 0 ≤ i / T * T := Int.mul_nonneg p2 (by omega)
      rw [Pl.w64 (n := i / T * T) (by omega) (by omega), hP']
      exact Pl.w64 (by omega) (by omega)
    obtain ⟨v, hv⟩ : ∃ v : R1, v = ⟨rd o (rd_T46 l i).f0, (rd_T46 l i).f1, (rd_T46 l i).f2⟩ := ⟨_, rfl⟩
    obtain ⟨ra, rb, ⟨K, f⟩, ⟨K2, f2⟩, ea, eb, e⟩ := ih (i + 1) (a.set P.toNat v) (b.set P.toNat v) (by omega) (by omega) (by omega) (by rw [List.length_set]; exact ha) (by rw [List.length_set]; exact hb) (fun p p0 p1 ⟨j, j0, j1, ej⟩ => by
      rw [rd1_set (by omega) (by omega) p0, rd1_set (by omega) (by omega) p0]
      by_cases c : p = P
      · rw [if_pos c, if_pos c]
      · rw [if_neg c, if_neg c]
        refine hp p p0 p1 ⟨j, j0, ?_, ej⟩
        by_cases d : j = i
        · subst d
          exact absurd (hP.trans ej).symm c
        · omega)
    refine ⟨ra, rb, Pl.ev_unf ⟨K, fun k hk => ?_⟩, Pl.ev_unf ⟨K2, fun k hk => ?_⟩, ea, eb, e⟩
    · have f := f k hk
      dsimp only at f
      rw [spec_RenameTints.l0, if_pos (by omega), if_pos h0, if_pos (by omega), if_neg (by omega), em, if_pos p0, if_pos (by omega), if_pos r0, if_pos (by omega), ed, ew, if_pos (by omega), if_pos (by omega), w1, ← hv, f]
    · have f2 := f2 k hk
      dsimp only at f2
      have e1 : impl_RenameTints.pick o (i % T) = some (rd o (i % T)) := if_pos ⟨p0, by omega⟩
      have e2 : impl_RenameTints.pick o (rd_T46 l i).f0 = some (rd o (rd_T46 l i).f0) := if_pos ⟨r0, by omega⟩
      rw [impl_Table_renamed.l0, if_pos (by omega), if_pos h0, if_pos (by omega), if_neg (by omega), ed, em, e1, e2]
      simp only [Option.bind_some]
      rw [ew, if_pos (by omega), if_pos (by omega), w1, ← hv, f2]
theorem renamed_both {l : List R1} (hl : l.length ≤ 1048576) {o : List Int} (hol : o.length ≤ 1048576) (a0 a1 : Int) : ∃ (r0 r1 : Int) (L : List R1) (b : Bool), L.length ≤ 1048576 ∧ Ev (fun k => spec_RenameTints.f k a0 a1 l o) (r0, r1, L, b) ∧ Ev (fun k => impl_RenameTints.f k a0 a1 l o) (r0, r1, L, b) := by
  obtain ⟨⟨K, f⟩, g⟩ := tab_both hl a0 a1
  by_cases ct : tabB a0 a1 l = true
  · rw [ct] at f g
    obtain ⟨d0, d1, d2, d3, d4, d5⟩ := tab_dims ct
    obtain ⟨q0, q1⟩ := Pl.mul_in (a := a0) (b := a1) (A := 4) (B := 4) (by omega) d1 (by omega) d3
    have qp := Int.mul_pos (a := a0) (b := a1) (by omega) (by omega)
    obtain ⟨b, ⟨K1, f1⟩, ⟨K2, f2⟩, hb⟩ := order_both hol (n := a1) (by omega) (by omega)
    cases b with
    | true =>
      obtain ⟨o0, o1, o2⟩ := hb rfl
      obtain ⟨ra, rb, ⟨K3, f3⟩, ⟨K4, f4⟩, ea, eb, e⟩ := ren_l0 (S := a0) (T := a1) (l := l) (o := o) ⟨d0, d1⟩ ⟨d2, d3⟩ d4 d5 o0 o1 _ 0 (List.replicate l.length z46) l rfl (by omega) (by omega) (by simp) rfl (fun p _ _ h => by obtain ⟨j, _, _, _⟩ := h; omega)
      have hab : rb = ra := by
        refine List.ext_getElem (by omega) fun m h2 h3 => ?_
        have := e m (by omega) (by omega) (pos_onto (S := a0) (T := a1) (by omega) (by omega) o0 o1 o2 (by omega) (by rw [Int.mul_comm]; omega) |> fun ⟨j, j0, j1, e⟩ => ⟨j, j0, by rw [Int.mul_comm] at j1; omega, e⟩)
        rw [rd1 (by omega), rd1 (by omega)] at this
        simpa using this.symm
      subst hab
      refine ⟨a0, a1, rb, true, by omega, ⟨K + K1 + K3 + 1, fun k hk => ?_⟩, ⟨K2 + K4, fun k hk => ?_⟩⟩
      · obtain ⟨m, rfl⟩ : ∃ m, k = m + 1 := ⟨k - 1, by omega⟩
        have f : spec_taGood.f (m + 1) a0 a1 l = some true := f (m + 1) (by omega)
        have f1 : spec_taOrder.f (m + 1) a1 o = some true := f1 (m + 1) (by omega)
        have f3 := f3 m (by omega)
        dsimp only at f3 ⊢
        rw [spec_RenameTints.f, f, Option.bind_some, if_pos rfl, f1, Option.bind_some, spec_RenameTints.j0, if_neg (by simp), if_pos (by omega), if_pos (by omega), Int.toNat_natCast, f3]
      · have f2 : impl_isOrder.f k o a1 = some true := f2 k (by omega)
        have f4 := f4 k (by omega)
        dsimp only at f4 ⊢
        rw [impl_RenameTints.f, g, Option.bind_some, if_pos rfl, f2, Option.bind_some, if_pos rfl, impl_Table_renamed.f, impl_Table_own.f, impl_Row_64.f, if_pos (by omega), if_pos (by omega), Option.bind_some, Option.bind_some, f4, Option.bind_some]
    | false =>
      refine ⟨0, 0, [], false, by simp, ⟨K + K1 + 1, fun k hk => ?_⟩, ⟨K2, fun k hk => ?_⟩⟩
      · obtain ⟨m, rfl⟩ : ∃ m, k = m + 1 := ⟨k - 1, by omega⟩
        have f : spec_taGood.f (m + 1) a0 a1 l = some true := f (m + 1) (by omega)
        have f1 : spec_taOrder.f (m + 1) a1 o = some false := f1 (m + 1) (by omega)
        dsimp only
        rw [spec_RenameTints.f, f, Option.bind_some, if_pos rfl, f1, Option.bind_some, spec_RenameTints.j0, if_pos (by rfl)]
      · have f2 : impl_isOrder.f k o a1 = some false := f2 k (by omega)
        dsimp only
        rw [impl_RenameTints.f, g, Option.bind_some, if_pos rfl, f2, Option.bind_some, if_neg (by simp)]
  · have ct : tabB a0 a1 l = false := by simpa using ct
    rw [ct] at f g
    refine ⟨0, 0, [], false, by simp, ⟨K + 1, fun k hk => ?_⟩, ⟨0, fun k hk => ?_⟩⟩
    · obtain ⟨m, rfl⟩ : ∃ m, k = m + 1 := ⟨k - 1, by omega⟩
      have f : spec_taGood.f (m + 1) a0 a1 l = some false := f (m + 1) (by omega)
      dsimp only
      rw [spec_RenameTints.f, f, Option.bind_some, if_neg (by simp), spec_RenameTints.j0, if_pos rfl]
    · dsimp only
      rw [impl_RenameTints.f, g, Option.bind_some, if_neg (by simp)]
theorem FnExactRenameTints (a0_0 : Int) (a0_1 : Int) (l0_2 : List (S57)) (l1 : List Int) (h0 : ((Lit.int .i64 a0_0).wf = true) ∧ ((Lit.int .i64 a0_1).wf = true) ∧ (l0_2.length ≤ 9223372036854775807 ∧ ∀ e_ ∈ l0_2, ((Lit.int .i64 e_.f0).wf = true) ∧ (e_.f1.size ≤ maxLen) ∧ ((Lit.int .i64 e_.f2).wf = true))) (h1 : l1.length ≤ 9223372036854775807 ∧ ∀ e_ ∈ l1, (Lit.int .i64 e_).wf = true) : ∃ k, laws_FnExactRenameTints.f k a0_0 a0_1 l0_2 l1 = some true := by
  obtain ⟨_, _, hl, he⟩ := h0
  by_cases c1 : (l1.length : Int) > 1048576
  · refine ⟨0, ?_⟩
    rw [laws_FnExactRenameTints.f, if_pos c1]
  obtain ⟨v, ⟨K1, f1⟩, v0, v1, hv⟩ := szTable_val (l := l0_2) (fun e h => Pl.le_max (he e h).2.1) hl a0_0 a0_1
  by_cases c : v < 0
  · refine ⟨K1, ?_⟩
    have f1 : laws_szTable.f K1 a0_0 a0_1 l0_2 1048576 = some v := f1 K1 (Nat.le_refl _)
    rw [laws_FnExactRenameTints.f, if_neg c1, f1, Option.bind_some, if_pos c]
  · have hl' := hv (by omega)
    obtain ⟨K2, f2⟩ := toTable_val hl' a0_0 a0_1
    have hm : (l0_2.map cv).length ≤ 1048576 := by rw [List.length_map]; exact hl'
    obtain ⟨K10, f10⟩ := toIntS_val (l := l1) (by omega)
    obtain ⟨K11, f11⟩ := eqIntS_self (l := l1) (by omega)
    obtain ⟨r0, r1, L, b, hL, ⟨K3, f3⟩, ⟨K4, f4⟩⟩ := renamed_both hm (o := l1) (by omega) a0_0 a0_1
    obtain ⟨K5, f5⟩ := eqTable_self hm a0_0 a0_1
    obtain ⟨K6, f6⟩ := eqTable_self hL r0 r1
    obtain ⟨t', _, ⟨K7, f7⟩, _⟩ := mark_rows hm
    obtain ⟨L', _, ⟨K8, f8⟩, ⟨K9, f9⟩⟩ := mark_rows hL
    obtain ⟨u', ⟨K12, f12⟩, _⟩ := markIntS_l0 (a := 1 + 3 * ((l0_2.map cv).length : Int)) (by omega) (by omega) _ 0 l1 (by omega) rfl (by omega) (by omega) (fun j j0 j1 => by omega)
    rw [Int.add_zero] at f12
    obtain ⟨K, hK⟩ : ∃ K, K = K1 + K2 + K3 + K4 + K5 + K6 + K7 + K8 + K9 + K10 + K11 + K12 := ⟨_, rfl⟩
    have g1 : laws_szTable.f (K + 3) a0_0 a0_1 l0_2 1048576 = some v := f1 (K + 3) (by omega)
    have g2 : ∀ k, K ≤ k → laws_toTable.f k a0_0 a0_1 l0_2 = some (a0_0, a0_1, l0_2.map cv) := fun k hk => f2 k (by omega)
    have g10 : ∀ k, K ≤ k → laws_toIntS.f k l1 = some l1 := fun k hk => f10 k (by omega)
    have g11 : ∀ k, K ≤ k → laws_eqIntS.f k l1 l1 = some true := fun k hk => f11 k (by omega)
    have g3 : spec_RenameTints.f (K + 3) a0_0 a0_1 (l0_2.map cv) l1 = some (r0, r1, L, b) := f3 (K + 3) (by omega)
    have g4 : ∀ k, K ≤ k → impl_RenameTints.f k a0_0 a0_1 (l0_2.map cv) l1 = some (r0, r1, L, b) := fun k hk => f4 k (by omega)
    have g5 : laws_eqTable.f (K + 2) a0_0 a0_1 (l0_2.map cv) a0_0 a0_1 (l0_2.map cv) = some true := f5 (K + 2) (by omega)
    have g6 : ∀ k, K ≤ k → laws_eqTable.f k r0 r1 L r0 r1 L = some true := fun k hk => f6 k (by omega)
    have g7 : laws_markTable.f (K + 2) a0_0 a0_1 (l0_2.map cv) 1 = some (1 + 3 * ((l0_2.map cv).length : Int), t') := by
      have f7 : laws_markRowS.f (K + 2) (l0_2.map cv) 1 = some (1 + 3 * ((l0_2.map cv).length : Int), t') := f7 (K + 2) (by omega)
      rw [laws_markTable.f, f7, Option.bind_some]
    have g12 : laws_markIntS.f (K + 2) l1 (1 + 3 * ((l0_2.map cv).length : Int)) = some (1 + 3 * ((l0_2.map cv).length : Int) + (l1.length : Int), u') := by
      have f12 := f12 (K + 2) (by omega)
      rw [laws_markIntS.f]
      exact f12
    have g8 : laws_markTable.f (K + 1) r0 r1 L 1 = some (1 + 3 * (L.length : Int), L') := by
      have f8 : laws_markRowS.f (K + 1) L 1 = some (1 + 3 * (L.length : Int), L') := f8 (K + 1) (by omega)
      rw [laws_markTable.f, f8, Option.bind_some]
    have g9 : ∀ k, K ≤ k → laws_heldTable.f k r0 r1 L' 1 = some (1 + 3 * (L.length : Int)) := fun k hk => by
      have f9 : laws_heldRowS.f k L' 1 = some (1 + 3 * (L.length : Int)) := f9 k (by omega)
      rw [laws_heldTable.f, f9, Option.bind_some, if_neg (by omega)]
    refine ⟨K + 3, ?_⟩
    rw [laws_FnExactRenameTints.f, if_neg c1, g1, Option.bind_some, if_neg c, g2 (K + 3) (by omega)]
    simp only [Option.bind_some]
    rw [g10 (K + 3) (by omega)]
    simp only [Option.bind_some]
    rw [g3, g4 (K + 3) (by omega)]
    simp only [Option.bind_some]
    rw [g6 (K + 3) (by omega), Option.bind_some, if_pos rfl, bne_self_eq_false, laws_FnExactRenameTints.j0, if_neg (by simp), g2 (K + 2) (by omega)]
    simp only [Option.bind_some]
    rw [g5, Option.bind_some, if_pos rfl, g10 (K + 2) (by omega), Option.bind_some, g11 (K + 2) (by omega), Option.bind_some, if_pos rfl, g7]
    simp only [Option.bind_some]
    rw [g12]
    simp only [Option.bind_some]
    rw [if_neg (by omega), g6 (K + 2) (by omega), Option.bind_some, if_pos rfl, bne_self_eq_false, laws_FnExactRenameTints.j1, if_neg (by simp), g8]
    simp only [Option.bind_some]
    rw [g9 (K + 1) (by omega), Option.bind_some, if_neg (by omega), if_pos rfl, g2 (K + 1) (by omega)]
    simp only [Option.bind_some]
    rw [g10 (K + 1) (by omega)]
    simp only [Option.bind_some]
    rw [g4 (K + 1) (by omega)]
    simp only [Option.bind_some]
    rw [g6 (K + 1) (by omega), Option.bind_some, if_pos rfl, bne_self_eq_false, laws_FnExactRenameTints.j2, if_neg (by simp), g9 K (by omega), Option.bind_some, if_neg (by omega), if_pos rfl]

end Go.Proofs.Ytmjjmibgoeobpaa.Pure
