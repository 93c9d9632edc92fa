/- Plain lemmas: boards and their numbers: how many there are on both sides, the board with a number, the number of a board; the texts of digits. No condition. -/
import Derived.Test.YtgaplnhjddlieaaDoorPNx1
import Derived.Test.YtgaplnhjddlieaaDoorPNx2
import Derived.Test.YtgaplnhjddlieaaDoorPNx5
import Derived.Test.YtgaplnhjddlieaaDoorNPuWorld
import Derived.Test.YtgaplnhjddlieaaDoorPuStr
namespace Go.Proofs.YtgaplnhjddlieaaDoor.Pure
open Go.RowKit Go.Proofs.YtgaplnhjddlieaaDoor Go.Proofs.YtgaplnhjddlieaaDoor.PN Go.Proofs.YtgaplnhjddlieaaDoorW.PrintWords Go.Proofs.YtgaplnhjddlieaaDoorW.PrintLast
set_option linter.unusedVariables false
set_option linter.unusedSimpArgs false

/-! powers -/
theorem pow_pos' {t : Int} (h : 1 ≤ t) (n : Nat) : 1 ≤ t ^ n := by
  induction n with
  | zero => rw [Int.pow_zero]; exact Int.le_refl 1
  | succ n ih =>
    rw [Int.pow_succ]
    have := Int.mul_le_mul ih h (by omega) (by omega)
    simpa using this
theorem pow_le' {t : Int} (h : 1 ≤ t) {a b : Nat} (hab : a ≤ b) : t ^ a ≤ t ^ b := by
  obtain ⟨d, rfl⟩ := Nat.exists_eq_add_of_le hab
  rw [Int.pow_add]
  have h1 := pow_pos' h a
  have h2 := pow_pos' h d
  have := Int.mul_le_mul (Int.le_refl (t ^ a)) h2 (by omega) (by omega)
  simpa using this
theorem mul_ge {a b : Int} (ha : 0 ≤ a) (hb : 1 ≤ b) : a ≤ a * b := by
  have := Int.mul_le_mul (Int.le_refl a) hb (by omega) ha
  simpa using this
/-! how many there are -/
theorem many_l0 {ru : ByteArray} (r1 : 1 ≤ (ru.size : Int)) (r6 : (ru.size : Int) ≤ 6) (n : Nat) : ∀ x d : Int, d.toNat = n → 0 ≤ d → d ≤ 1000 → 1 ≤ x → x ≤ 3000 →
    Ev (fun k => spec_loMany.l0 k ru x d) (if x * (ru.size : Int) ^ n ≤ 3000 then x * (ru.size : Int) ^ n else 0) := by
  induction n with
  | zero =>
    intro x d hn d0 d1 x1 x2
    refine Pl.ev_unf ⟨0, fun k _ => ?_⟩
    rw [spec_loMany.l0, if_neg (by omega), Int.pow_zero, Int.mul_one, if_pos x2]
  | succ n ih =>
    intro x d hn d0 d1 x1 x2
    have m0 := mul_ge (a := x) (b := (ru.size : Int)) (by omega) r1
    have m1 : x * (ru.size : Int) ≤ 18000 := by
      have := Int.mul_le_mul x2 r6 (by omega) (by omega)
      omega
    have w1 : wrap64 (x * (ru.size : Int)) = x * (ru.size : Int) := Pl.w64 (by omega) (by omega)
    have w2 : wrap64 (d - 1) = d - 1 := Pl.w64 (by omega) (by omega)
    have e : x * (ru.size : Int) ^ (n + 1) = x * (ru.size : Int) * (ru.size : Int) ^ n := by rw [Int.pow_succ, Int.mul_assoc, Int.mul_comm (_ ^ n)]
    by_cases c : x * (ru.size : Int) > 3000
    · refine Pl.ev_unf ⟨0, fun k _ => ?_⟩
      have := mul_ge (a := x * (ru.size : Int)) (b := (ru.size : Int) ^ n) (by omega) (pow_pos' r1 n)
      rw [spec_loMany.l0, if_pos (by omega), w1, if_pos c, e, if_neg (by omega)]
    · obtain ⟨K, f⟩ := ih (x * (ru.size : Int)) (d - 1) (by omega) (by omega) (by omega) (by omega) (by omega)
      refine Pl.ev_unf ⟨K, fun k hk => ?_⟩
      have f := f k hk
      dsimp only at f
      rw [spec_loMany.l0, if_pos (by omega), w1, if_neg c, w2, e]
      exact f
theorem boards_l0 {t m : Int} (t1 : 1 ≤ t) (t6 : t ≤ 6) (m1 : m ≤ 1000) (n : Nat) : ∀ i : Int, (m - i).toNat = n → 0 ≤ i → i ≤ m →
    Ev (fun k => impl_boards.l0 k t 3000 (mn (t ^ i.toNat) 3001) m i) (mn (t ^ m.toNat) 3001) := by
  induction n with
  | zero =>
    intro i hn h0 h1
    refine Pl.ev_unf ⟨0, fun k _ => ?_⟩
    rw [impl_boards.l0, if_neg (by omega), show i = m by omega]
  | succ n ih =>
    intro i hn h0 h1
    have p1 := pow_pos' t1 i.toNat
    have w1 : wrap64 (i + 1) = i + 1 := Pl.w64 (by omega) (by omega)
    have w2 : wrap64 (3000 + 1) = 3001 := Pl.w64 (by omega) (by omega)
    have e1 : (i + 1).toNat = i.toNat + 1 := by omega
    have e2 : mn (wrap64 (mn (t ^ i.toNat) 3001 * t)) 3001 = mn (t ^ (i + 1).toNat) 3001 := by
      have hle : 1 ≤ mn (t ^ i.toNat) 3001 ∧ mn (t ^ i.toNat) 3001 ≤ 3001 := by unfold mn; split <;> omega
      have hm := Int.mul_le_mul hle.2 t6 (by omega) (by omega)
      have hg := mul_ge (a := mn (t ^ i.toNat) 3001) (by omega) t1
      rw [Pl.w64 (by omega) (by omega), e1, Int.pow_succ]
      by_cases c : t ^ i.toNat ≤ 3001
      · have : mn (t ^ i.toNat) 3001 = t ^ i.toNat := by unfold mn; split <;> omega
        rw [this]
      · have e3 : mn (t ^ i.toNat) 3001 = 3001 := by unfold mn; split <;> omega
        rw [e3] at hg ⊢
        have h4 := mul_ge (a := t ^ i.toNat) (by omega) t1
        have : mn (t ^ i.toNat * t) 3001 = 3001 := by unfold mn; split <;> omega
        rw [this]
        unfold mn
        split <;> omega
    obtain ⟨K, f⟩ := ih (i + 1) (by omega) (by omega) (by omega)
    refine Pl.ev_unf ⟨K, fun k hk => ?_⟩
    have f := f k hk
    dsimp only at f
    rw [impl_boards.l0, if_pos (by omega), w1, w2, e2]
    exact f
structure Few (ru : ByteArray) (w h : Int) : Prop where
  r : RuleP ru
  w1 : 1 ≤ w
  w9 : w ≤ 9
  h1 : 1 ≤ h
  h9 : h ≤ 9
  n : 4 * (w * h) * (ru.size : Int) ^ (w * h).toNat ≤ 3000
theorem wh_in {w h : Int} (w1 : 1 ≤ w) (w9 : w ≤ 9) (h1 : 1 ≤ h) (h9 : h ≤ 9) : 1 ≤ w * h ∧ w * h ≤ 81 := by
  have a := mul_ge (a := w) (b := h) (by omega) h1
  have b := Int.mul_le_mul w9 h9 (by omega) (by omega)
  omega
theorem many_val {ru : ByteArray} {w h : Int} (r : RuleP ru) (w1 : 1 ≤ w) (w9 : w ≤ 9) (h1 : 1 ≤ h) (h9 : h ≤ 9) : Ev (fun k => spec_loMany.f k ru w h) (if 4 * (w * h) * (ru.size : Int) ^ (w * h).toNat ≤ 3000 then 4 * (w * h) * (ru.size : Int) ^ (w * h).toNat else 0) := by
  obtain ⟨a0, a1⟩ := wh_in w1 w9 h1 h9
  obtain ⟨K, f⟩ := many_l0 r.lo r.hi _ (4 * (w * h)) (w * h) rfl (by omega) (by omega) (by omega) (by omega)
  refine ⟨K, fun k hk => ?_⟩
  have f := f k hk
  dsimp only at f ⊢
  have e1 : wrap64 (wrap64 (4 * w) * h) = 4 * (w * h) := by
    rw [Pl.w64 (n := 4 * w) (by omega) (by omega), Int.mul_assoc, Pl.w64 (by omega) (by omega)]
  have e2 : wrap64 (w * h) = w * h := Pl.w64 (by omega) (by omega)
  rw [spec_loMany.f, e1, e2]
  exact f
theorem in_val (a b c : Int) : spec_l1In.f a b c = some (decide (b ≤ a ∧ a ≤ c)) := by
  unfold spec_l1In.f
  by_cases h1 : a ≥ b
  · rw [if_pos h1]
    by_cases h2 : a ≤ c
    · rw [decide_eq_true h2, decide_eq_true ⟨h1, h2⟩]
    · rw [decide_eq_false h2, decide_eq_false (fun h => h2 h.2)]
  · rw [if_neg h1, decide_eq_false (fun h => h1 h.1)]
theorem asked_val (ru : ByteArray) (w h : Int) : ∃ b, Ev (fun k => spec_loAsked.f k ru w h) b ∧ (b = true ↔ Few ru w h) := by
  obtain ⟨b, ⟨K1, e1⟩, hb⟩ := spec_rule ru
  cases b with
  | false =>
    refine ⟨false, ⟨K1, fun k hk => ?_⟩, ⟨fun q => (Bool.false_ne_true q).elim, fun q => hb.2 q.r⟩⟩
    have e1 := e1 k hk
    dsimp only at e1 ⊢
    rw [spec_loAsked.f, e1, Option.bind_some, if_neg (by simp)]
  | true =>
    have r := hb.1 rfl
    by_cases cw : 1 ≤ w ∧ w ≤ 9
    · by_cases ch : 1 ≤ h ∧ h ≤ 9
      · obtain ⟨K2, e2⟩ := many_val r cw.1 cw.2 ch.1 ch.2
        obtain ⟨a0, a1⟩ := wh_in cw.1 cw.2 ch.1 ch.2
        have p1 := pow_pos' r.lo (w * h).toNat
        have g := mul_ge (a := 4 * (w * h)) (by omega) p1
        have e3 : wrap64 (wrap64 (4 * w) * h) = 4 * (w * h) := by
          rw [Pl.w64 (n := 4 * w) (by omega) (by omega), Int.mul_assoc, Pl.w64 (by omega) (by omega)]
        by_cases cn : 4 * (w * h) * (ru.size : Int) ^ (w * h).toNat ≤ 3000
        · refine ⟨true, ⟨K1 + K2, fun k hk => ?_⟩, ⟨fun _ => ⟨r, cw.1, cw.2, ch.1, ch.2, cn⟩, fun _ => rfl⟩⟩
          have e1 := e1 k (by omega)
          have e2 := e2 k (by omega)
          dsimp only at e1 e2 ⊢
          rw [if_pos cn] at e2
          rw [spec_loAsked.f, e1, Option.bind_some, if_pos rfl, in_val, Option.bind_some, decide_eq_true cw, if_pos rfl, in_val, Option.bind_some, decide_eq_true ch, if_pos rfl, e2, Option.bind_some, if_pos (by omega), e3, decide_eq_true (by omega)]
        · refine ⟨false, ⟨K1 + K2, fun k hk => ?_⟩, ⟨fun q => (Bool.false_ne_true q).elim, fun q => absurd q.n cn⟩⟩
          have e1 := e1 k (by omega)
          have e2 := e2 k (by omega)
          dsimp only at e1 e2 ⊢
          rw [if_neg cn] at e2
          rw [spec_loAsked.f, e1, Option.bind_some, if_pos rfl, in_val, Option.bind_some, decide_eq_true cw, if_pos rfl, in_val, Option.bind_some, decide_eq_true ch, if_pos rfl, e2, Option.bind_some, if_neg (by omega)]
      · refine ⟨false, ⟨K1, fun k hk => ?_⟩, ⟨fun q => (Bool.false_ne_true q).elim, fun q => absurd ⟨q.h1, q.h9⟩ ch⟩⟩
        have e1 := e1 k (by omega)
        dsimp only at e1 ⊢
        rw [spec_loAsked.f, e1, Option.bind_some, if_pos rfl, in_val, Option.bind_some, decide_eq_true cw, if_pos rfl, in_val, Option.bind_some, decide_eq_false ch, if_neg (by simp)]
    · refine ⟨false, ⟨K1, fun k hk => ?_⟩, ⟨fun q => (Bool.false_ne_true q).elim, fun q => absurd ⟨q.w1, q.w9⟩ cw⟩⟩
      have e1 := e1 k (by omega)
      dsimp only at e1 ⊢
      rw [spec_loAsked.f, e1, Option.bind_some, if_pos rfl, in_val, Option.bind_some, decide_eq_false cw, if_neg (by simp)]
theorem counted_val (ru : ByteArray) (w h : Int) : ∃ b x, Ev (fun k => impl_CountWorlds.f k ru w h) (x, b) ∧ (b = true ↔ Few ru w h) := by
  obtain ⟨b, e1, hb⟩ := impl_rule ru
  have hj : ∀ k, impl_CountWorlds.j0 (k + 1) ru w h true = some (0, false) := fun k => by rw [impl_CountWorlds.j0, if_pos rfl]
  cases b with
  | false =>
    refine ⟨false, 0, ⟨1, fun k hk => ?_⟩, ⟨fun q => (Bool.false_ne_true q).elim, fun q => hb.2 q.r⟩⟩
    obtain ⟨k, rfl⟩ : ∃ m, k = m + 1 := ⟨k - 1, by omega⟩
    dsimp only
    rw [impl_CountWorlds.f, e1, Option.bind_some, if_neg (by simp), hj]
  | true =>
    have r := hb.1 rfl
    have hs : ∀ b', (b' = decide ((1 ≤ w ∧ w ≤ 9) ∧ (1 ≤ h ∧ h ≤ 9))) → impl_isSize.f w h = some b' := fun b' hb' => by
      rw [impl_isSize.f, within_val, Option.bind_some, hb']
      by_cases cw : 1 ≤ w ∧ w ≤ 9
      · rw [decide_eq_true cw, if_pos rfl, within_val, Option.bind_some]
        by_cases ch : 1 ≤ h ∧ h ≤ 9
        · rw [decide_eq_true ch, decide_eq_true ⟨cw, ch⟩]
        · rw [decide_eq_false ch, decide_eq_false (fun q => ch q.2)]
      · rw [decide_eq_false cw, if_neg (by simp), decide_eq_false (fun q => cw q.1)]
    by_cases cb : (1 ≤ w ∧ w ≤ 9) ∧ (1 ≤ h ∧ h ≤ 9)
    · obtain ⟨cw, ch⟩ := cb
      have e2 := hs true (decide_eq_true ⟨cw, ch⟩).symm
      obtain ⟨a0, a1⟩ := wh_in cw.1 cw.2 ch.1 ch.2
      have w0 : wrap64 (w * h) = w * h := Pl.w64 (by omega) (by omega)
      obtain ⟨K, e3⟩ := boards_l0 (m := w * h) r.lo r.hi (by omega) _ 0 rfl (by omega) (by omega)
      have e4 : mn ((ru.size : Int) ^ (0 : Int).toNat) 3001 = 1 := by
        show mn ((ru.size : Int) ^ 0) 3001 = 1
        rw [Int.pow_zero]
        decide
      rw [e4] at e3
      have p1 := pow_pos' r.lo (w * h).toNat
      obtain ⟨B, hB⟩ : ∃ B, B = mn ((ru.size : Int) ^ (w * h).toNat) 3001 := ⟨_, rfl⟩
      have hle : 1 ≤ B ∧ B ≤ 3001 := by rw [hB]; unfold mn; split <;> omega
      have b1 : B * w ≤ 27009 := by have := Int.mul_le_mul hle.2 cw.2 (by omega) (by omega); omega
      have b0 := mul_ge (a := B) (by omega) cw.1
      have b3 : B * w * h ≤ 243081 := by have := Int.mul_le_mul b1 ch.2 (by omega) (by omega); omega
      have b2 := mul_ge (a := B * w) (by omega) ch.1
      have e5 : wrap64 (wrap64 (wrap64 (B * w) * h) * 4) = 4 * (w * h) * B := by
        rw [Pl.w64 (n := B * w) (by omega) (by omega), Pl.w64 (n := B * w * h) (by omega) (by omega), Pl.w64 (by omega) (by omega), Int.mul_assoc B, Int.mul_comm B, Int.mul_comm _ 4, Int.mul_assoc 4]
      have hc : 4 * (w * h) * B > 3000 ↔ ¬ 4 * (w * h) * (ru.size : Int) ^ (w * h).toNat ≤ 3000 := by
        by_cases c : (ru.size : Int) ^ (w * h).toNat ≤ 3001
        · have : B = (ru.size : Int) ^ (w * h).toNat := by rw [hB]; unfold mn; split <;> omega
          rw [this]
          omega
        · have e6 : B = 3001 := by rw [hB]; unfold mn; split <;> omega
          have h7 : 4 * (w * h) * 3001 ≤ 4 * (w * h) * (ru.size : Int) ^ (w * h).toNat := Int.mul_le_mul_of_nonneg_left (by omega) (by omega)
          rw [e6]
          omega
      refine ⟨decide (4 * (w * h) * (ru.size : Int) ^ (w * h).toNat ≤ 3000), if 4 * (w * h) * B > 3000 then 0 else 4 * (w * h) * B, ⟨K + 1, fun k hk => ?_⟩, ?_⟩
      · obtain ⟨k, rfl⟩ : ∃ m, k = m + 1 := ⟨k - 1, by omega⟩
        have e3 := e3 k (by omega)
        dsimp only at e3 ⊢
        rw [impl_CountWorlds.f, e1, Option.bind_some, if_pos rfl, e2, Option.bind_some]
        show impl_CountWorlds.j0 (k + 1) ru w h false = _
        rw [impl_CountWorlds.j0, if_neg (by simp), w0, impl_boards.f, e3, Option.bind_some, ← hB, e5]
        by_cases c : 4 * (w * h) * B > 3000
        · rw [if_pos c, if_pos c, decide_eq_false (hc.1 c)]
        · rw [if_neg c, if_neg c, decide_eq_true (Decidable.not_not.1 (fun q => c (hc.2 q)))]
      · rw [decide_eq_true_eq]
        exact ⟨fun q => ⟨r, cw.1, cw.2, ch.1, ch.2, q⟩, fun q => q.n⟩
    · have e2 := hs false (decide_eq_false cb).symm
      refine ⟨false, 0, ⟨1, fun k hk => ?_⟩, ⟨fun q => (Bool.false_ne_true q).elim, fun q => absurd ⟨⟨q.w1, q.w9⟩, q.h1, q.h9⟩ cb⟩⟩
      obtain ⟨k, rfl⟩ : ∃ m, k = m + 1 := ⟨k - 1, by omega⟩
      dsimp only
      rw [impl_CountWorlds.f, e1, Option.bind_some, if_pos rfl, e2, Option.bind_some]
      exact hj k
/-! digits -/
def dg (t : Int) : Nat → Int → List Int
  | 0, _ => []
  | n + 1, x => dg t n (x / t) ++ [48 + x % t]
theorem dg_len (t : Int) : ∀ (n : Nat) (x : Int), (dg t n x).length = n
  | 0, _ => rfl
  | n + 1, x => by rw [dg, List.length_append, dg_len t n, List.length_singleton]
theorem dg_in {t : Int} (ht : 1 ≤ t) : ∀ (n : Nat) (x : Int), ∀ b ∈ dg t n x, 48 ≤ b ∧ b ≤ 47 + t
  | 0, _, b, h => by simp [dg] at h
  | n + 1, x, b, h => by
    rw [dg] at h
    rcases List.mem_append.1 h with h | h
    · exact dg_in ht n _ b h
    · rw [List.mem_singleton.1 h]
      have := Pl.mod_lo (a := x) (b := t) (by omega)
      have := Pl.mod_hi (a := x) (b := t) (by omega)
      omega
def wdAt (ru : ByteArray) (w h n : Int) : Wd := ⟨ru, w, h, strOfNums (dg ru.size (w * h).toNat (n / 4 / w / h)), n / 4 % w, n / 4 / w % h, n % 4⟩
theorem world_l0 {ru : ByteArray} (r1 : 1 ≤ (ru.size : Int)) (r6 : (ru.size : Int) ≤ 6) {a b : Int} {c : ByteArray} {x y v : Int} (n : Nat) : ∀ (q d : Int) (cells : List Int), d.toNat = n → 0 ≤ d → d ≤ 1000 → 0 ≤ q → q ≤ 1000000 → cells.length + n ≤ 1000 →
    Ev (fun k => spec_loWorld.l0 k ru q d ru a b (strOfNums cells) x y v) (ru, a, b, strOfNums (dg ru.size n q ++ cells), x, y, v) := by
  induction n with
  | zero =>
    intro q d cells hn d0 d1 q0 q1 hl
    refine Pl.ev_unf ⟨0, fun k _ => ?_⟩
    rw [spec_loWorld.l0, if_neg (by omega)]
    rfl
  | succ n ih =>
    intro q d cells hn d0 d1 q0 q1 hl
    have t0 := Pl.mod_lo (a := q) (b := (ru.size : Int)) (by omega)
    have t1 := Pl.mod_hi (a := q) (b := (ru.size : Int)) (by omega)
    have v0 : 0 ≤ q / (ru.size : Int) := Int.ediv_nonneg q0 (by omega)
    have v1 : q / (ru.size : Int) ≤ q := Int.ediv_le_self _ q0
    have w1 : wrap64 (Int.tdiv q (ru.size : Int)) = q / (ru.size : Int) := by rw [Pl.tdiv_nn q0]; exact Pl.w64 (by omega) (by omega)
    have w2 : wrap64 (d - 1) = d - 1 := Pl.w64 (by omega) (by omega)
    obtain ⟨K, f⟩ := ih (q / (ru.size : Int)) (d - 1) ([48 + q % (ru.size : Int)] ++ cells) (by omega) (by omega) (by omega) v0 (by omega) (by rw [List.length_append, List.length_singleton]; omega)
    refine Pl.ev_unf ⟨K + 1, fun k hk => ?_⟩
    obtain ⟨k, rfl⟩ : ∃ m, k = m + 1 := ⟨k - 1, by omega⟩
    have f := f (k + 1) (by omega)
    dsimp only at f
    rw [spec_loWorld.l0, if_pos (by omega), if_neg (by omega), Pl.tmod_nn q0, num_one t0 (by omega), Option.bind_some, if_pos (by rw [sSize, sSize]; simp; omega), w1, w2, sApp, f, dg, List.append_assoc]
theorem world_val {ru : ByteArray} {w h : Int} (g : Few ru w h) {n : Int} (n0 : 0 ≤ n) (n1 : n ≤ 3000) : Ev (fun k => spec_loWorld.f k ru w h n) ((wdAt ru w h n).ru, (wdAt ru w h n).w, (wdAt ru w h n).h, (wdAt ru w h n).c, (wdAt ru w h n).x, (wdAt ru w h n).y, (wdAt ru w h n).v) := by
  obtain ⟨a0, a1⟩ := wh_in g.w1 g.w9 g.h1 g.h9
  have gw := g.w1
  have gh := g.h1
  have v0 : 0 ≤ n / 4 := Int.ediv_nonneg n0 (by omega)
  have v1 : n / 4 ≤ n := Int.ediv_le_self _ n0
  have u0 : 0 ≤ n / 4 / w := Int.ediv_nonneg v0 (by omega)
  have u1 : n / 4 / w ≤ n / 4 := Int.ediv_le_self _ v0
  have s0 : 0 ≤ n / 4 / w / h := Int.ediv_nonneg u0 (by omega)
  have s1 : n / 4 / w / h ≤ n / 4 / w := Int.ediv_le_self _ u0
  have e1 : wrap64 (Int.tdiv n 4) = n / 4 := by rw [Pl.tdiv_nn n0]; exact Pl.w64 (by omega) (by omega)
  have e2 : wrap64 (Int.tdiv (n / 4) w) = n / 4 / w := by rw [Pl.tdiv_nn v0]; exact Pl.w64 (by omega) (by omega)
  have e3 : wrap64 (Int.tdiv (n / 4 / w) h) = n / 4 / w / h := by rw [Pl.tdiv_nn u0]; exact Pl.w64 (by omega) (by omega)
  have e4 : wrap64 (w * h) = w * h := Pl.w64 (by omega) (by omega)
  obtain ⟨K, f⟩ := world_l0 g.r.lo g.r.hi (a := w) (b := h) (c := ru) (x := n / 4 % w) (y := n / 4 / w % h) (v := n % 4) _ (n / 4 / w / h) (w * h) [] rfl (by omega) (by omega) s0 (by omega) (by simp; omega)
  refine ⟨K, fun k hk => ?_⟩
  have f := f k hk
  dsimp only at f ⊢
  rw [spec_loWorld.f, if_neg (by omega), if_neg (by omega), e1, e2, e3, e4, Pl.tmod_nn v0, Pl.tmod_nn u0, Pl.tmod_nn n0]
  rw [List.append_nil] at f
  exact f
theorem bt_str {l : List Int} (hl : ∀ b ∈ l, 0 ≤ b ∧ b ≤ 255) {j : Int} (h0 : 0 ≤ j) (h1 : j < (strOfNums l).size) : bt (strOfNums l) j ∈ l := by
  rw [sSize] at h1
  have hj : j.toNat < l.length := by omega
  rw [Pl.bt_rd, Pl.bytesOf_strOf hl, Pl.rd_get hj]
  exact List.getElem_mem _
theorem wdAt_good {ru : ByteArray} {w h : Int} (g : Few ru w h) {n : Int} (n0 : 0 ≤ n) : GoodWd (wdAt ru w h n) := by
  have r6 := g.r.hi
  have r1 := g.r.lo
  have gw := g.w1
  have gh := g.h1
  obtain ⟨a0, a1⟩ := wh_in g.w1 g.w9 g.h1 g.h9
  have hd := dg_in g.r.lo (w * h).toNat (n / 4 / w / h)
  refine ⟨r1, r6, g.r.al, g.w1, g.w9, g.h1, g.h9, ?_, ?_, Pl.mod_lo (by omega), Pl.mod_hi (by omega), Pl.mod_lo (by omega), Pl.mod_hi (by omega), Pl.mod_lo (by omega), ?_⟩
  · show ((strOfNums (dg ru.size (w * h).toNat (n / 4 / w / h))).size : Int) = w * h
    rw [sSize, dg_len]
    omega
  · intro j h0 h1
    exact hd _ (bt_str (fun b hb => by have := hd b hb; omega) h0 h1)
  · have := Pl.mod_hi (a := n) (b := 4) (by omega)
    show n % 4 ≤ 3
    omega
/-! the number of a board -/
def dN (t : Int) (c : ByteArray) : Nat → Int
  | 0 => 0
  | i + 1 => dN t c i * t + (bt c i - 48)
theorem dN_in {t : Int} {c : ByteArray} (t1 : 1 ≤ t) (hc : ∀ j : Int, 0 ≤ j → j < c.size → 48 ≤ bt c j ∧ bt c j ≤ 47 + t) : ∀ i : Nat, i ≤ c.size → 0 ≤ dN t c i ∧ dN t c i < t ^ i
  | 0, _ => by simp [dN]
  | i + 1, h => by
    obtain ⟨i0, i1⟩ := dN_in t1 hc i (by omega)
    have hb := hc i (by omega) (by omega)
    rw [dN, Int.pow_succ]
    have g1 : 0 ≤ dN t c i * t := Int.mul_nonneg i0 (by omega)
    have g2 : (dN t c i + 1) * t ≤ t ^ i * t := Int.mul_le_mul_of_nonneg_right (by omega) (by omega)
    rw [Int.add_mul, Int.one_mul] at g2
    omega
theorem dN_inj {t : Int} {c c' : ByteArray} (t1 : 1 ≤ t) (hc : ∀ j : Int, 0 ≤ j → j < c.size → 48 ≤ bt c j ∧ bt c j ≤ 47 + t) (hc' : ∀ j : Int, 0 ≤ j → j < c'.size → 48 ≤ bt c' j ∧ bt c' j ≤ 47 + t) : ∀ i : Nat, i ≤ c.size → i ≤ c'.size → dN t c i = dN t c' i → ∀ j : Nat, j < i → bt c j = bt c' j
  | 0, _, _, _, j, h => by omega
  | i + 1, h1, h2, e, j, hj => by
    have b1 := hc i (by omega) (by omega)
    have b2 := hc' i (by omega) (by omega)
    rw [dN, dN] at e
    have m1 := Pl.node_mod (x := bt c i - 48) (y := dN t c i) (w := t) (by omega) (by omega)
    have m2 := Pl.node_mod (x := bt c' i - 48) (y := dN t c' i) (w := t) (by omega) (by omega)
    have q1 := Pl.node_div (x := bt c i - 48) (y := dN t c i) (w := t) (by omega) (by omega)
    have q2 := Pl.node_div (x := bt c' i - 48) (y := dN t c' i) (w := t) (by omega) (by omega)
    rw [e] at m1 q1
    rcases Nat.lt_or_ge j i with hlt | hge
    · exact dN_inj t1 hc hc' i (by omega) (by omega) (q1.symm.trans q2) j hlt
    · have : j = i := by omega
      subst this
      omega
def idx (s : Wd) : Int := (dN s.ru.size s.c s.c.size * (s.w * s.h) + (s.y * s.w + s.x)) * 4 + s.v
structure GW (ru : ByteArray) (w h : Int) (s : Wd) : Prop where
  g : GoodWd s
  er : s.ru = ru
  ew : s.w = w
  eh : s.h = h
theorem gw_nx {ru : ByteArray} {w h : Int} {s : Wd} (g : GW ru w h s) : GW ru w h s.nx := ⟨good_nx g.g, g.er, g.ew, g.eh⟩
def Nn (ru : ByteArray) (w h : Int) : Int := 4 * (w * h) * (ru.size : Int) ^ (w * h).toNat
theorem idx_parts {ru : ByteArray} {w h : Int} {s : Wd} (g : GW ru w h s) : s.c.size = (w * h).toNat ∧ (0 ≤ dN ru.size s.c (w * h).toNat ∧ dN ru.size s.c (w * h).toNat < (ru.size : Int) ^ (w * h).toNat) ∧ (0 ≤ s.y * w + s.x ∧ s.y * w + s.x < w * h) ∧ idx s = (dN ru.size s.c (w * h).toNat * (w * h) + (s.y * w + s.x)) * 4 + s.v := by
  obtain ⟨g, rfl, rfl, rfl⟩ := g
  have hs : s.c.size = (s.w * s.h).toNat := by have := g.cs; omega
  refine ⟨hs, dN_in g.r1 (fun j h0 h1 => g.cb j h0 h1) _ (by omega), Pl.node_lt g.x0 g.xw g.y0 g.yh, ?_⟩
  unfold idx
  rw [hs]
theorem idx_in {ru : ByteArray} {w h : Int} (f : Few ru w h) {s : Wd} (g : GW ru w h s) : 0 ≤ idx s ∧ idx s < Nn ru w h := by
  obtain ⟨_, ⟨d0, d1⟩, ⟨p0, p1⟩, e⟩ := idx_parts g
  obtain ⟨a0, a1⟩ := wh_in f.w1 f.w9 f.h1 f.h9
  have v0 := g.g.v0
  have v3 := g.g.v3
  obtain ⟨q0, q1⟩ := Pl.node_lt (x := s.y * w + s.x) (y := dN ru.size s.c (w * h).toNat) (w := w * h) (h := (ru.size : Int) ^ (w * h).toNat) p0 p1 d0 d1
  rw [e]
  unfold Nn
  rw [Int.mul_assoc 4]
  omega
theorem idx_inj {ru : ByteArray} {w h : Int} {s s' : Wd} (g : GW ru w h s) (g' : GW ru w h s') (e : idx s = idx s') : s = s' := by
  obtain ⟨c1, ⟨d0, d1⟩, ⟨p0, p1⟩, e1⟩ := idx_parts g
  obtain ⟨c1', ⟨d0', d1'⟩, ⟨p0', p1'⟩, e1'⟩ := idx_parts g'
  rw [e1, e1'] at e
  have v0 := g.g.v0
  have v3 := g.g.v3
  have v0' := g'.g.v0
  have v3' := g'.g.v3
  have ev : s.v = s'.v := by omega
  have ez : dN ru.size s.c (w * h).toNat * (w * h) + (s.y * w + s.x) = dN ru.size s'.c (w * h).toNat * (w * h) + (s'.y * w + s'.x) := by omega
  have m1 := Pl.node_mod (x := s.y * w + s.x) (y := dN ru.size s.c (w * h).toNat) (w := w * h) p0 p1
  have m2 := Pl.node_mod (x := s'.y * w + s'.x) (y := dN ru.size s'.c (w * h).toNat) (w := w * h) p0' p1'
  have q1 := Pl.node_div (x := s.y * w + s.x) (y := dN ru.size s.c (w * h).toNat) (w := w * h) p0 p1
  have q2 := Pl.node_div (x := s'.y * w + s'.x) (y := dN ru.size s'.c (w * h).toNat) (w := w * h) p0' p1'
  rw [ez] at m1 q1
  have ep := m1.symm.trans m2
  have ed := q1.symm.trans q2
  have ex0 := g.g.x0
  have exw := g.g.xw
  have ex0' := g'.g.x0
  have exw' := g'.g.xw
  rw [g.ew] at exw
  rw [g'.ew] at exw'
  have n1 := Pl.node_mod (x := s.x) (y := s.y) (w := w) ex0 exw
  have n2 := Pl.node_mod (x := s'.x) (y := s'.y) (w := w) ex0' exw'
  have k1 := Pl.node_div (x := s.x) (y := s.y) (w := w) ex0 exw
  have k2 := Pl.node_div (x := s'.x) (y := s'.y) (w := w) ex0' exw'
  rw [ep] at n1 k1
  have ex := n1.symm.trans n2
  have ey := k1.symm.trans k2
  have cb := g.g.cb
  have cb' := g'.g.cb
  unfold CellsP at cb cb'
  rw [g.er] at cb
  rw [g'.er] at cb'
  have r1 := g.g.r1
  rw [g.er] at r1
  have hb := dN_inj r1 (fun j a b => cb j a b) (fun j a b => cb' j a b) _ (by omega) (by omega) ed
  have ec : s.c = s'.c := by
    apply Pl.bytesOf_inj.1
    refine List.ext_getElem (by rw [bytesOf_length, bytesOf_length, c1, c1']) fun j h1 h2 => ?_
    have hj : j < (w * h).toNat := by rw [bytesOf_length, c1] at h1; exact h1
    have h3 := hb j hj
    rw [Pl.bt_rd, Pl.bt_rd, Pl.rd_get (by simpa using h1), Pl.rd_get (by simpa using h2)] at h3
    simpa using h3
  cases s
  cases s'
  simp only [Wd.mk.injEq]
  exact ⟨g.er.trans g'.er.symm, g.ew.trans g'.ew.symm, g.eh.trans g'.eh.symm, ec, ex, ey, ev⟩
theorem few_T {ru : ByteArray} {w h : Int} (f : Few ru w h) : (ru.size : Int) ^ (w * h).toNat ≤ 3000 := by
  obtain ⟨a0, a1⟩ := wh_in f.w1 f.w9 f.h1 f.h9
  have p := pow_pos' f.r.lo (w * h).toNat
  have h1 := mul_ge (a := (ru.size : Int) ^ (w * h).toNat) (b := 4 * (w * h)) (Int.le_trans (by decide) p) (by omega)
  rw [Int.mul_comm ((ru.size : Int) ^ (w * h).toNat)] at h1
  exact Int.le_trans h1 f.n
theorem dN_few {ru : ByteArray} {w h : Int} (f : Few ru w h) {s : Wd} (g : GW ru w h s) (i : Nat) (hi : i ≤ s.c.size) : 0 ≤ dN ru.size s.c i ∧ dN ru.size s.c i ≤ 2999 := by
  have cb := g.g.cb
  unfold CellsP at cb
  rw [g.er] at cb
  obtain ⟨i0, i1⟩ := dN_in f.r.lo (fun j a b => cb j a b) i hi
  have hs := (idx_parts g).1
  have hp := pow_le' f.r.lo (a := i) (b := (w * h).toNat) (by omega)
  have := Int.lt_of_lt_of_le i1 (Int.le_trans hp (few_T f))
  exact ⟨i0, Int.le_of_lt_add_one this⟩
theorem index_l0 {ru : ByteArray} {w h : Int} (f : Few ru w h) {s : Wd} (g : GW ru w h s) (n : Nat) : ∀ i : Nat, s.c.size - i = n → i ≤ s.c.size → Ev (fun k => spec_loIndex.l0 k (dN ru.size s.c i) i s.ru s.w s.h s.c s.x s.y s.v) (idx s) := by
  obtain ⟨c1, -, -, e⟩ := idx_parts g
  obtain ⟨a0, a1⟩ := wh_in f.w1 f.w9 f.h1 f.h9
  have v0 := g.g.v0
  have v3 := g.g.v3
  have r1 := f.r.lo
  have r6 := f.r.hi
  have cb := g.g.cb
  unfold CellsP at cb
  rw [g.er] at cb
  have hdn := dN_few f g
  have ew := g.ew
  have eh := g.eh
  have er := g.er
  have w1 := f.w1
  have w9 := f.w9
  have h1' := f.h1
  have h9 := f.h9
  induction n with
  | zero =>
    intro i hn hi
    have : i = (w * h).toNat := by omega
    subst this
    refine Pl.ev_unf ⟨0, fun k _ => ?_⟩
    obtain ⟨d0, d1⟩ := hdn (w * h).toNat hi
    rw [spec_loIndex.l0, if_neg (by omega), ew, eh]
    have m0 : 0 ≤ dN ru.size s.c (w * h).toNat * w := Int.mul_nonneg d0 (by omega)
    have m1 : dN ru.size s.c (w * h).toNat * w ≤ 27000 := by have := Int.mul_le_mul (show dN ru.size s.c (w * h).toNat ≤ 3000 by omega) w9 (by omega) (by omega); omega
    have m2 : 0 ≤ dN ru.size s.c (w * h).toNat * w * h := Int.mul_nonneg m0 (by omega)
    have m3 : dN ru.size s.c (w * h).toNat * w * h ≤ 243000 := by have := Int.mul_le_mul m1 h9 (by omega) (by omega); omega
    have y0 := g.g.y0
    have yh := g.g.yh
    rw [eh] at yh
    have x0 := g.g.x0
    have xw := g.g.xw
    rw [ew] at xw
    have k0 : 0 ≤ s.y * w := Int.mul_nonneg y0 (by omega)
    have k1 : s.y * w ≤ 81 := by have := Int.mul_le_mul (show s.y ≤ 9 by omega) w9 (by omega) (by omega); omega
    rw [Pl.w64 (n := dN ru.size s.c (w * h).toNat * w) (by omega) (by omega), Pl.w64 (n := dN ru.size s.c (w * h).toNat * w * h) (by omega) (by omega), Pl.w64 (n := s.y * w) (by omega) (by omega), Pl.w64 (n := dN ru.size s.c (w * h).toNat * w * h + s.y * w) (by omega) (by omega), Pl.w64 (n := dN ru.size s.c (w * h).toNat * w * h + s.y * w + s.x) (by omega) (by omega), Pl.w64 (n := (dN ru.size s.c (w * h).toNat * w * h + s.y * w + s.x) * 4) (by omega) (by omega), Pl.w64 (by omega) (by omega), e, ← Int.mul_assoc]
    congr 1
    omega
  | succ n ih =>
    intro i hn hi
    have hi2 : i < s.c.size := by clear cb hdn; omega
    have c4 : ((i : Nat) : Int) < (s.c.size : Int) := Int.ofNat_lt.2 hi2
    have c0 : (0 : Int) ≤ ((i : Nat) : Int) := Int.natCast_nonneg _
    obtain ⟨K, q⟩ := ih (i + 1) (by omega) (by omega)
    have hb := cb i (by omega) (by omega)
    obtain ⟨i0, i1⟩ := hdn i hi
    have m0 : 0 ≤ dN ru.size s.c i * (ru.size : Int) := Int.mul_nonneg i0 (by omega)
    have m1 : dN ru.size s.c i * (ru.size : Int) ≤ 18000 := by have := Int.mul_le_mul (show dN ru.size s.c i ≤ 3000 by omega) r6 (by omega) (by omega); omega
    have w2 : wrap64 ((i : Int) + 1) = ((i + 1 : Nat) : Int) := by rw [Pl.w64 (by omega) (by omega)]; omega
    refine Pl.ev_unf ⟨K, fun k hk => ?_⟩
    have q := q k hk
    dsimp only at q
    rw [spec_loIndex.l0, if_pos c4, if_pos c0, er, w2, Pl.w64 (n := dN ru.size s.c i * (ru.size : Int)) (by omega) (by omega), show (bt s.c i - 48) % 256 = bt s.c i - 48 by omega, Pl.w64 (n := dN ru.size s.c i * (ru.size : Int) + (bt s.c i - 48)) (by omega) (by omega)]
    rw [er] at q
    exact q
theorem index_val {ru : ByteArray} {w h : Int} (f : Few ru w h) {s : Wd} (g : GW ru w h s) : Ev (fun k => spec_loIndex.f k s.ru s.w s.h s.c s.x s.y s.v) (idx s) := by
  obtain ⟨K, q⟩ := index_l0 f g _ 0 rfl (by omega)
  refine ⟨K, fun k hk => ?_⟩
  exact q k hk
/-! the texts of digits -/
def dgs (t : Int) (q : Nat) (n : Nat) : List ByteArray := (List.range n).map fun (j : Nat) => strOfNums (dg t q (j : Int))
theorem dgs_len (t : Int) (q n : Nat) : (dgs t q n).length = n := by unfold dgs; rw [List.length_map, List.length_range]
theorem dgs_snoc (t : Int) (q n : Nat) : dgs t q (n + 1) = dgs t q n ++ [strOfNums (dg t q (n : Int))] := by
  unfold dgs
  rw [List.range_succ, List.map_append]
  rfl
theorem dgs_at {t : Int} {q n : Nat} {i : Int} (h0 : 0 ≤ i) (h1 : i < n) : rdOf ByteArray.empty (dgs t q n) i = strOfNums (dg t q i) := by
  have hi : i.toNat < (dgs t q n).length := by rw [dgs_len]; omega
  unfold rdOf
  rw [List.getD_eq_getElem?_getD, List.getElem?_eq_getElem hi]
  show (dgs t q n)[i.toNat] = _
  have hr : i.toNat < (List.range n).length := by rw [List.length_range]; omega
  have e : (dgs t q n)[i.toNat] = strOfNums (dg t q (((List.range n)[i.toNat] : Nat) : Int)) := List.getElem_map (fun (j : Nat) => strOfNums (dg t q (j : Int))) (h := hi)
  rw [e, List.getElem_range]
  congr 2
  omega
theorem digits_l2 {T q : Nat} (t1 : 1 ≤ T) (t6 : T ≤ 6) (hq : q ≤ 100) {x11 x12 : Int} {x15 : List ByteArray} {x16 x17 : Int} {j : Nat} (hjT : j * T + T ≤ 3000) {res : List ByteArray} (n : Nat) : ∀ c : Nat, T - c = n → c ≤ T →
    Ev (fun k => impl_digits.l1 k T (dgs T (q + 1) (j * T + T)) x11 x12 x15 x16 (wrap64 (x17 + 1))) res →
    Ev (fun k => impl_digits.l2 k T (dgs T (q + 1) (j * T + c)) (strOfNums (dg T q (j : Int))) x11 x12 x15 x16 x17 T (c : Int)) res := by
  induction n with
  | zero =>
    intro c hn hc ⟨K, f⟩
    have : c = T := by omega
    subst this
    refine Pl.ev_unf ⟨K, fun k hk => ?_⟩
    rw [impl_digits.l2, if_neg (by omega)]
    exact f k hk
  | succ n ih =>
    intro c hn hc hf
    obtain ⟨K, f⟩ := ih (c + 1) (by omega) (by omega) hf
    have w1 : wrap64 ((c : Int) + 1) = ((c + 1 : Nat) : Int) := by rw [Pl.w64 (by omega) (by omega)]; omega
    have w2 : wrap64 (48 + (c : Int)) % 256 = 48 + (c : Int) := by rw [Pl.w64 (by omega) (by omega)]; omega
    have e1 : ((j * T + c : Nat) : Int) / (T : Int) = (j : Int) := by
      have := Pl.node_div (x := (c : Int)) (y := (j : Int)) (w := (T : Int)) (by omega) (by omega)
      simpa using this
    have e2 : ((j * T + c : Nat) : Int) % (T : Int) = (c : Int) := by
      have := Pl.node_mod (x := (c : Int)) (y := (j : Int)) (w := (T : Int)) (by omega) (by omega)
      simpa using this
    have e3 : dgs T (q + 1) (j * T + c) ++ [strOfNums (dg T q (j : Int)) ++ strOfNums [48 + (c : Int)]] = dgs T (q + 1) (j * T + (c + 1)) := by
      rw [← Nat.add_assoc, dgs_snoc, dg, e1, e2, sApp]
    refine Pl.ev_unf ⟨K, fun k hk => ?_⟩
    have f := f k hk
    dsimp only at f
    rw [impl_digits.l2, if_pos (by omega), Option.bind_some, w2, if_pos (by rw [sSize, sSize, dg_len]; simp; omega), if_pos (by rw [dgs_len]; omega), e3, w1]
    exact f
theorem digits_bound {T q M j : Nat} (t1 : 1 ≤ T) (hN : (T : Int) ^ M ≤ 3000) (hq : q + 1 ≤ M) (hj : j < T ^ q) : j * T + T ≤ 3000 := by
  have h1 : (j + 1) * T ≤ T ^ q * T := Nat.mul_le_mul_right _ hj
  rw [← Nat.pow_succ, Nat.add_mul, Nat.one_mul] at h1
  have h2 : T ^ (q + 1) ≤ T ^ M := Nat.pow_le_pow_right t1 hq
  have h3 : T ^ M ≤ 3000 := by
    have : ((T ^ M : Nat) : Int) ≤ ((3000 : Nat) : Int) := by simpa using hN
    exact Int.ofNat_le.1 this
  exact Nat.le_trans h1 (Nat.le_trans h2 h3)
theorem digits_l1 {T M : Nat} (t1 : 1 ≤ T) (t6 : T ≤ 6) (hN : (T : Int) ^ M ≤ 3000) (hM : M ≤ 100) {q : Nat} (hq : q + 1 ≤ M) {x11 x12 : Int} {res : List ByteArray} {Q : Nat} (hQ : Q = T ^ q) (hQ3 : Q ≤ 3000) (hb : ∀ j, j < Q → j * T + T ≤ 3000) (n : Nat) : ∀ j : Nat, Q - j = n → j ≤ Q →
    Ev (fun k => impl_digits.l0 k T (dgs T (q + 1) (Q * T)) x11 (wrap64 (x12 + 1))) res →
    Ev (fun k => impl_digits.l1 k T (dgs T (q + 1) (j * T)) x11 x12 (dgs T q Q) ((dgs T q Q).length : Int) (j : Int)) res := by
  clear hN hQ
  induction n with
  | zero =>
    intro j hn hj ⟨K, f⟩
    have : j = Q := by omega
    subst this
    refine Pl.ev_unf ⟨K, fun k hk => ?_⟩
    rw [impl_digits.l1, dgs_len, if_neg (by omega)]
    exact f k hk
  | succ n ih =>
    intro j hn hj hf
    have w1 : wrap64 ((j : Int) + 1) = ((j + 1 : Nat) : Int) := by rw [Pl.w64 (by omega) (by omega)]; omega
    have h1 := ih (j + 1) (by omega) (by omega) hf
    rw [Nat.add_mul, Nat.one_mul] at h1
    obtain ⟨K, f⟩ := digits_l2 (q := q) (x11 := x11) (x12 := x12) (x15 := dgs T q Q) (x16 := ((dgs T q Q).length : Int)) (x17 := (j : Int)) (j := j) (res := res) t1 t6 (by omega) (hb j (by omega)) _ 0 rfl (by omega) (by rw [w1]; exact h1)
    refine Pl.ev_unf ⟨K, fun k hk => ?_⟩
    have f := f k hk
    dsimp only at f
    rw [impl_digits.l1, dgs_len, if_pos (by omega), if_pos (by omega), if_pos (by omega), dgs_at (by omega) (by omega)]
    rw [dgs_len] at f
    exact f
theorem digits_l0 {T M : Nat} (t1 : 1 ≤ T) (t6 : T ≤ 6) (hN : (T : Int) ^ M ≤ 3000) (hM : M ≤ 100) (n : Nat) : ∀ q : Nat, M - q = n → q ≤ M → Ev (fun k => impl_digits.l0 k T (dgs T q (T ^ q)) M (q : Int)) (dgs T M (T ^ M)) := by
  have h3 : T ^ M ≤ 3000 := by
    have : ((T ^ M : Nat) : Int) ≤ ((3000 : Nat) : Int) := by simpa using hN
    exact Int.ofNat_le.1 this
  induction n with
  | zero =>
    intro q hn hq
    have : q = M := by omega
    subst this
    refine Pl.ev_unf ⟨0, fun k _ => ?_⟩
    rw [impl_digits.l0, if_neg (Int.lt_irrefl _)]
  | succ n ih =>
    intro q hn hq
    have hq1 : q + 1 ≤ M := by clear hN h3; omega
    have w1 : wrap64 ((q : Int) + 1) = ((q + 1 : Nat) : Int) := by clear hN h3; rw [Pl.w64 (by omega) (by omega)]; omega
    obtain ⟨K, f⟩ := digits_l1 t1 t6 hN hM (q := q) hq1 (x11 := (M : Int)) (x12 := (q : Int)) rfl (Nat.le_trans (Nat.pow_le_pow_right t1 hq) h3) (fun j hj => digits_bound t1 hN hq1 hj) _ 0 rfl (Nat.zero_le _) (by rw [w1, ← Nat.pow_succ]; exact ih (q + 1) (by clear hN h3; omega) hq1)
    refine Pl.ev_unf ⟨K, fun k hk => ?_⟩
    have f := f k hk
    dsimp only at f
    rw [Nat.zero_mul] at f
    rw [impl_digits.l0, if_pos (Int.ofNat_lt.2 hq1)]
    exact f
theorem digits_val {T M : Nat} (t1 : 1 ≤ T) (t6 : T ≤ 6) (hN : (T : Int) ^ M ≤ 3000) (hM : M ≤ 100) : Ev (fun k => impl_digits.f k T M) (dgs T M (T ^ M)) := digits_l0 t1 t6 hN hM _ 0 rfl (Nat.zero_le _)

end Go.Proofs.YtgaplnhjddlieaaDoor.Pure
