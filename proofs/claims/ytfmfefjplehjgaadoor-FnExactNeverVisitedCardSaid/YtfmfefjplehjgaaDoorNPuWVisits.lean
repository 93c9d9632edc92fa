/- The plain laws of VisitsAfter and CellsVisited: for every world and number of steps the program's answer is the reference's. No condition. -/
import Derived.Test.YtfmfefjplehjgaaDoorPNx5
import Derived.Test.YtfmfefjplehjgaaDoorPNx9
import Derived.Test.YtfmfefjplehjgaaDoorNPuWTrack
namespace Go.Proofs.YtfmfefjplehjgaaDoor.Pure
open Go.RowKit Go.Proofs.YtfmfefjplehjgaaDoor Go.Proofs.YtfmfefjplehjgaaDoor.PN Go.Proofs.YtfmfefjplehjgaaDoorW.PrintWords Go.Proofs.YtfmfefjplehjgaaDoorW.PrintLast
set_option linter.unusedVariables false
set_option linter.unusedSimpArgs false

def bump : List Int → List Int → List Int
  | l, [] => l
  | l, a :: r => bump (l.set a.toNat (rd l a + 1)) r
def Cnt (l : List Int) (B : Int) : Prop := ∀ e ∈ l, 0 ≤ e ∧ e ≤ B
theorem cnt_rd {l : List Int} {B i : Int} (h : Cnt l B) (h0 : 0 ≤ i) (h1 : i < l.length) : 0 ≤ rd l i ∧ rd l i ≤ B := by
  rw [Pl.rd_get (by omega)]
  exact h _ (List.getElem_mem _)
theorem cnt_set {l : List Int} {B i : Int} (h : Cnt l B) (h0 : 0 ≤ i) (h1 : i < l.length) : Cnt (l.set i.toNat (rd l i + 1)) (B + 1) := by
  intro e he
  have := cnt_rd h h0 h1
  rcases List.mem_or_eq_of_mem_set he with he | rfl
  · have := h e he
    omega
  · omega
theorem bump_length : ∀ (r l : List Int), (bump l r).length = l.length
  | [], l => rfl
  | a :: r, l => by rw [bump, bump_length r, List.length_set]
theorem bump_cnt : ∀ (r l : List Int) (B : Int), Cnt l B → (∀ a ∈ r, 0 ≤ a ∧ a < l.length) → Cnt (bump l r) (B + r.length)
  | [], l, B, h, _ => by simpa [bump] using h
  | a :: r, l, B, h, ha => by
    have h1 := ha a (List.mem_cons_self ..)
    have := bump_cnt r (l.set a.toNat (rd l a + 1)) (B + 1) (cnt_set h h1.1 h1.2) (fun b hb => by
      rw [List.length_set]
      exact ha b (List.mem_cons_of_mem _ hb))
    rw [bump]
    intro e he
    have := this e he
    simp only [List.length_cons]
    omega

theorem visits_spec (n : Nat) : ∀ {s : Wd} (g : GoodWd s) (m : Int) (l : List Int) (B : Int), m.toNat = n → 0 ≤ m → m ≤ 100000 → (l.length : Int) = s.w * s.h → Cnt l B → B + n ≤ 1000000 → Ev (fun k => spec_loVisits.l0 k m l s.ru s.w s.h s.c s.x s.y s.v) (bump l (s.trk n)) := by
  induction n with
  | zero =>
    intro s g m l B hm m0 m1 hl hc hB
    refine Pl.ev_unf ⟨0, fun k _ => ?_⟩
    rw [spec_loVisits.l0, if_neg (by omega)]
    rfl
  | succ n ih =>
    intro s g m l B hm m0 m1 hl hc hB
    have a := atW g
    have a0 := a.a0
    have a1 := a.a1
    have cs := g.cs
    have hb := cnt_rd hc a0 (by omega)
    obtain ⟨K, f⟩ := ih (good_nx g) (m - 1) (l.set s.ac.toNat (rd l s.ac + 1)) (B + 1) (by omega) (by omega) (by omega) (by rw [List.length_set]; exact hl) (cnt_set hc a0 (by omega)) (by omega)
    refine Pl.ev_unf ⟨K + 1, fun k hk => ?_⟩
    obtain ⟨q, rfl⟩ : ∃ q, k = q + 1 := ⟨k - 1, by omega⟩
    have w1 : wrap64 (m - 1) = m - 1 := Pl.w64 (by omega) (by omega)
    have w2 : wrap64 (rd l s.ac + 1) = rd l s.ac + 1 := Pl.w64 (by omega) (by omega)
    rw [spec_loVisits.l0, if_pos (by omega), ac_wrap g, if_pos a0, if_pos (by omega), step_spec g, Option.bind_some, w1, w2]
    exact f (q + 1) (by omega)
theorem visits_impl {T : List Int} (hT : T.length ≤ 100000) (n : Nat) : ∀ (i : Int) (l : List Int) (B : Int), ((T.length : Int) - i).toNat = n → 0 ≤ i → i ≤ T.length → (∀ a ∈ T, 0 ≤ a ∧ a < l.length) → Cnt l B → B + n ≤ 1000000 → Ev (fun k => impl_visits.l0 k l T T.length i) (bump l (T.drop i.toNat)) := by
  induction n with
  | zero =>
    intro i l B hn h0 h1 ha hc hB
    have e : T.drop i.toNat = [] := List.drop_eq_nil_of_le (by omega)
    refine Pl.ev_unf ⟨0, fun k _ => ?_⟩
    rw [impl_visits.l0, if_neg (by omega), e]
    rfl
  | succ n ih =>
    intro i l B hn h0 h1 ha hc hB
    have hi : i.toNat < T.length := by omega
    have e : T.drop i.toNat = rd T i :: T.drop (i + 1).toNat := by
      rw [List.drop_eq_getElem_cons hi, Pl.rd_get hi, show (i + 1).toNat = i.toNat + 1 by omega]
    have hm : rd T i ∈ T := by rw [Pl.rd_get hi]; exact List.getElem_mem _
    have h2 := ha _ hm
    have hb := cnt_rd hc h2.1 h2.2
    obtain ⟨K, f⟩ := ih (i + 1) (l.set (rd T i).toNat (rd l (rd T i) + 1)) (B + 1) (by omega) (by omega) (by omega) (by rw [List.length_set]; exact ha) (cnt_set hc h2.1 h2.2) (by omega)
    refine Pl.ev_unf ⟨K, fun k hk => ?_⟩
    have w1 : wrap64 (i + 1) = i + 1 := Pl.w64 (by omega) (by omega)
    have w2 : wrap64 (rd l (rd T i) + 1) = rd l (rd T i) + 1 := Pl.w64 (by omega) (by omega)
    rw [impl_visits.l0, if_pos (by omega), if_pos h0, if_pos (by omega), if_pos h2.1, if_pos h2.2, w1, w2, e]
    exact f k hk
def Wd.vis (s : Wd) (n : Nat) : List Int := bump (List.replicate s.c.size 0) (s.trk n)
theorem vis_length (s : Wd) (n : Nat) : (s.vis n).length = s.c.size := by
  unfold Wd.vis
  rw [bump_length, List.length_replicate]
theorem vis_cnt {s : Wd} (g : GoodWd s) (n : Nat) : Cnt (s.vis n) n := by
  have := bump_cnt (s.trk n) (List.replicate s.c.size 0) 0 (fun e he => by rw [List.eq_of_mem_replicate he]; omega) (fun a ha => by
    have := trk_in n g a ha
    have := g.cs
    rw [List.length_replicate]
    omega)
  rw [trk_length, Int.zero_add] at this
  exact this
theorem visits_val {s : Wd} (g : GoodWd s) (m : Int) (m0 : 0 ≤ m) (m1 : m ≤ 10000) : Ev (fun k => spec_loVisits.f k s.ru s.w s.h s.c s.x s.y s.v m) (s.vis m.toNat) ∧ Ev (fun k => impl_visits.f k s.ru s.w s.h s.c s.x s.y s.v m) (s.vis m.toNat) := by
  obtain ⟨q0, q1⟩ := Pl.mul_in (a := s.w) (b := s.h) (A := 9) (B := 9) (by have := g.w1; omega) g.w9 (by have := g.h1; omega) g.h9
  have cs := g.cs
  have em : wrap64 (s.w * s.h) = s.w * s.h := Pl.w64 (by omega) (by omega)
  have hz : Cnt (List.replicate s.c.size 0) 0 := fun e he => by rw [List.eq_of_mem_replicate he]; omega
  have en : (s.w * s.h).toNat = s.c.size := by omega
  obtain ⟨K1, f1⟩ := visits_spec m.toNat g m (List.replicate s.c.size 0) 0 rfl m0 (by omega) (by rw [List.length_replicate]; exact cs) hz (by omega)
  obtain ⟨K2, f2⟩ := track_val g m m0 (by omega)
  obtain ⟨K3, f3⟩ := visits_impl (T := s.trk m.toNat) (by rw [trk_length]; omega) _ 0 (List.replicate s.c.size 0) 0 rfl (by omega) (by omega) (fun a ha => by
    have := trk_in _ g a ha
    rw [List.length_replicate]
    omega) hz (by rw [trk_length]; omega)
  rw [Int.toNat_zero, List.drop_zero] at f3
  refine ⟨⟨K1, fun k hk => ?_⟩, ⟨K2 + K3, fun k hk => ?_⟩⟩
  · dsimp only
    rw [spec_loVisits.f, em, if_pos q0, if_pos (by omega), en]
    exact f1 k hk
  · have e2 : impl_track.f k s.ru s.w s.h s.c s.x s.y s.v m = some (s.trk m.toNat) := f2 k (by omega)
    dsimp only
    rw [impl_visits.f, if_pos (by omega), if_pos (by omega), e2, Option.bind_some, Int.toNat_natCast]
    exact f3 k (by omega)
def posN : List Int → Nat
  | [] => 0
  | a :: l => (if a > 0 then 1 else 0) + posN l
def zerN : List Int → Nat
  | [] => 0
  | a :: l => (if a = 0 then 1 else 0) + zerN l
theorem pos_zer : ∀ l : List Int, (∀ a ∈ l, 0 ≤ a) → posN l + zerN l = l.length
  | [], _ => rfl
  | a :: l, h => by
    have := pos_zer l (fun b hb => h b (List.mem_cons_of_mem _ hb))
    have h0 := h a (List.mem_cons_self ..)
    simp only [posN, zerN, List.length_cons]
    by_cases e : a = 0
    · rw [if_neg (by omega), if_pos e]
      omega
    · rw [if_pos (by omega), if_neg e]
      omega
theorem dropI {T : List Int} {i : Int} (h0 : 0 ≤ i) (h1 : i < T.length) : T.drop i.toNat = rd T i :: T.drop (i + 1).toNat := by
  rw [List.drop_eq_getElem_cons (by omega), Pl.rd_get (by omega), show (i + 1).toNat = i.toNat + 1 by omega]
theorem cells_impl {T : List Int} (hT : T.length ≤ 1000) (n : Nat) : ∀ (i : Int) (acc : List Int), ((T.length : Int) - i).toNat = n → 0 ≤ i → i ≤ T.length → acc.length + n ≤ 100000 → ∃ r, Ev (fun k => impl_unvisited.l0 k acc T T.length i) r ∧ r.length = acc.length + zerN (T.drop i.toNat) := by
  induction n with
  | zero =>
    intro i acc hn h0 h1 ha
    have e : T.drop i.toNat = [] := List.drop_eq_nil_of_le (by omega)
    refine ⟨acc, Pl.ev_unf ⟨0, fun k _ => ?_⟩, by rw [e]; rfl⟩
    rw [impl_unvisited.l0, if_neg (by omega)]
  | succ n ih =>
    intro i acc hn h0 h1 ha
    have w1 : wrap64 (i + 1) = i + 1 := Pl.w64 (by omega) (by omega)
    rw [dropI h0 (by omega), zerN]
    by_cases c : rd T i = 0
    · obtain ⟨r, ⟨K, f⟩, hr⟩ := ih (i + 1) (acc ++ [i]) (by omega) (by omega) (by omega) (by simp <;> omega)
      refine ⟨r, Pl.ev_unf ⟨K, fun k hk => ?_⟩, ?_⟩
      · have f : impl_unvisited.l0 k (acc ++ [i]) T T.length (i + 1) = _ := f k hk
        rw [impl_unvisited.l0, if_pos (by omega), if_pos h0, if_pos (by omega), if_pos c, if_pos (by omega), w1, f]
      · rw [hr, if_pos c]
        simp
        omega
    · obtain ⟨r, ⟨K, f⟩, hr⟩ := ih (i + 1) acc (by omega) (by omega) (by omega) (by omega)
      refine ⟨r, Pl.ev_unf ⟨K, fun k hk => ?_⟩, ?_⟩
      · have f : impl_unvisited.l0 k acc T T.length (i + 1) = _ := f k hk
        rw [impl_unvisited.l0, if_pos (by omega), if_pos h0, if_pos (by omega), if_neg c, w1, f]
      · rw [hr, if_neg c]
        omega
end Go.Proofs.YtfmfefjplehjgaaDoor.Pure
