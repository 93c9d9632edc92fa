/- The plain law of ShiftWorm: for every worm and place the program's answer is the reference's. No condition. -/
import Derived.Test.YthffmjmcgafciaaPKx1
import Derived.Test.YthffmjmcgafciaaPKx2
import Derived.Test.YthffmjmcgafciaaPKx3
import Derived.Test.YthffmjmcgafciaaPKx4
import Derived.Test.YthffmjmcgafciaaKPuWorm
namespace Go.Proofs.Ythffmjmcgafciaa.Pure
open Go.RowKit Go.Proofs.Ythffmjmcgafciaa Go.Proofs.Ythffmjmcgafciaa.PK Go.Proofs.YthffmjmcgafciaaW.PrintWords Go.Proofs.YthffmjmcgafciaaW.PrintLast
set_option linter.unusedVariables false
set_option linter.unusedSimpArgs false

theorem drop_bt {s : ByteArray} {i : Int} (h0 : 0 ≤ i) (h : i < s.size) : (bytesOf s).drop i.toNat = bt s i :: (bytesOf s).drop (i + 1).toNat := by
  have hi : i.toNat < (bytesOf s).length := by rw [bytesOf_length]; omega
  rw [List.drop_eq_getElem_cons hi, Pl.bt_rd, Pl.rd_get hi, show (i + 1).toNat = i.toNat + 1 by omega]
theorem str_piece {s : ByteArray} {i : Int} (h0 : 0 ≤ i) (h1 : i < s.size) : s.extract i.toNat (i + 1).toNat = strOfNums [bt s i] := by
  have hb := bt_range s i
  apply Pl.bytesOf_inj.1
  rw [Pl.bytesOf_strOf (by simpa using hb), Pl.bytesOf_extract, List.drop_take, drop_bt h0 h1, show (i + 1).toNat - i.toNat = 1 by omega]
  rfl
theorem str_app (a b : List Int) : strOfNums a ++ strOfNums b = strOfNums (a ++ b) := by
  apply Pl.ba_ext
  rw [ByteArray.toList_data_append, strOfNums_data, strOfNums_data, strOfNums_data, List.map_append]
theorem str_size (a : List Int) : (strOfNums a).size = a.length := by
  rw [← data_length, strOfNums_data, List.length_map]
theorem z_len (f : Nat → Int) (i : Nat) (x : Int) (h : i ≤ 1000) : (strOfNums ((List.range i).map f)).size + (strOfNums [x]).size ≤ 9223372036854775807 := by
  rw [str_size, str_size, List.length_map, List.length_range, List.length_singleton]
  omega
theorem eqW_self (a b : Int) (c d : ByteArray) (e f g : Int) : laws_eqWorm.f a b c d e f g a b c d e f g = some true := by
  simp [laws_eqWorm.f]

/-! places: where a cell goes, whence a cell comes -/
def tow (W H a b n : Int) : Int := ((n / W + b) % H) * W + (n % W + a) % W
def fro (W H a b p : Int) : Int := ((p / W - b) % H) * W + (p % W - a) % W
theorem one_to {H b y : Int} (h0 : 3 ≤ H) (h1 : H ≤ 6) (b0 : 0 ≤ b) (b1 : b < H) (y0 : 0 ≤ y) (y1 : y < H) : (0 ≤ (y + b) % H ∧ (y + b) % H < H) ∧ (0 ≤ (y - b) % H ∧ (y - b) % H < H) ∧ ((y + b) % H - b) % H = y ∧ ((y - b) % H + b) % H = y := by
  have hh : H = 3 ∨ H = 4 ∨ H = 5 ∨ H = 6 := by omega
  rcases hh with rfl | rfl | rfl | rfl <;> omega
theorem two_of {W Y X : Int} (w0 : 0 < W) (x0 : 0 ≤ X) (x1 : X < W) : (Y * W + X) / W = Y ∧ (Y * W + X) % W = X := by
  rw [Int.add_comm]
  exact ⟨by rw [Int.add_mul_ediv_right _ _ (by omega), Int.ediv_eq_zero_of_lt x0 x1]; omega, by rw [Int.add_mul_emod_self_right, Int.emod_eq_of_lt x0 x1]⟩
theorem two_in {W H Y X : Int} (x0 : 0 ≤ X) (x1 : X < W) (y0 : 0 ≤ Y) (y1 : Y < H) : 0 ≤ Y * W + X ∧ Y * W + X < W * H := by
  have h1 := Int.mul_nonneg y0 (show 0 ≤ W by omega)
  have h2 : (Y + 1) * W ≤ H * W := Int.mul_le_mul_of_nonneg_right (by omega) (by omega)
  rw [Int.add_mul, Int.one_mul, Int.mul_comm H W] at h2
  omega
theorem two_at {W H n : Int} (w0 : 0 < W) (n0 : 0 ≤ n) (n1 : n < W * H) : (0 ≤ n / W ∧ n / W < H) ∧ (0 ≤ n % W ∧ n % W < W) ∧ n / W * W + n % W = n :=
  ⟨⟨Int.ediv_nonneg n0 (by omega), Int.ediv_lt_of_lt_mul w0 (by rw [Int.mul_comm]; exact n1)⟩, ⟨Int.emod_nonneg _ (by omega), Int.emod_lt_of_pos _ w0⟩, by rw [Int.mul_comm]; exact Int.mul_ediv_add_emod n W⟩
theorem to_fro {W H a b n : Int} (w0 : 3 ≤ W) (w1 : W ≤ 6) (h0 : 3 ≤ H) (h1 : H ≤ 6) (a0 : 0 ≤ a) (a1 : a < W) (b0 : 0 ≤ b) (b1 : b < H) (n0 : 0 ≤ n) (n1 : n < W * H) :
    (0 ≤ tow W H a b n ∧ tow W H a b n < W * H) ∧ (0 ≤ fro W H a b n ∧ fro W H a b n < W * H) ∧ fro W H a b (tow W H a b n) = n ∧ tow W H a b (fro W H a b n) = n := by
  obtain ⟨⟨q0, q1⟩, ⟨q2, q3⟩, e⟩ := two_at (show 0 < W by omega) n0 n1
  obtain ⟨⟨y1, y2⟩, ⟨y3, y4⟩, y5, y6⟩ := one_to h0 h1 b0 b1 q0 q1
  obtain ⟨⟨x1, x2⟩, ⟨x3, x4⟩, x5, x6⟩ := one_to w0 w1 a0 a1 q2 q3
  unfold tow fro
  obtain ⟨f1, f2⟩ := two_of (W := W) (Y := (n / W + b) % H) (show 0 < W by omega) x1 x2
  obtain ⟨g1, g2⟩ := two_of (W := W) (Y := (n / W - b) % H) (show 0 < W by omega) x3 x4
  refine ⟨two_in x1 x2 y1 y2, two_in x3 x4 y3 y4, ?_, ?_⟩
  · rw [f1, f2, y5, x5, e]
  · rw [g1, g2, y6, x6, e]
section
variable {W H a b : Int} (w0 : 3 ≤ W) (w1 : W ≤ 6) (h0 : 3 ≤ H) (h1 : H ≤ 6) (a0 : 0 ≤ a) (a1 : a < W) (b0 : 0 ≤ b) (b1 : b < H)
set_option linter.unusedSectionVars false
include w0 w1 h0 h1 a0 a1 b0 b1
theorem mul_36 : 9 ≤ W * H ∧ W * H ≤ 36 := by
  have hw : W = 3 ∨ W = 4 ∨ W = 5 ∨ W = 6 := by omega
  rcases hw with rfl | rfl | rfl | rfl <;> omega
theorem div_in {n : Int} (n0 : 0 ≤ n) (n1 : n < W * H) : 0 ≤ n / W ∧ n / W < H ∧ 0 ≤ n % W ∧ n % W < W := by
  obtain ⟨⟨q0, q1⟩, ⟨q2, q3⟩, _⟩ := two_at (show 0 < W by omega) n0 n1
  exact ⟨q0, q1, q2, q3⟩
theorem place_val {n : Nat} (n1 : (n : Int) < W * H) : Shift.place (Shift.go W H a b) W W n = tow W H a b n := by
  obtain ⟨q0, q1, q2, q3⟩ := div_in w0 w1 h0 h1 a0 a1 b0 b1 (n := (n : Int)) (by omega) n1
  obtain ⟨m0, m1⟩ := mul_36 w0 w1 h0 h1 a0 a1 b0 b1
  unfold Shift.place Shift.go
  dsimp only
  have t := (to_fro w0 w1 h0 h1 a0 a1 b0 b1 (n := (n : Int)) (by omega) n1).1
  unfold tow at t ⊢
  have e1 : wrap64 ((n : Int) / W) = (n : Int) / W := Pl.w64 (by omega) (by omega)
  have e2 : wrap64 ((n : Int) / W + b) = (n : Int) / W + b := Pl.w64 (by omega) (by omega)
  have e3 : wrap64 ((n : Int) % W + a) = (n : Int) % W + a := Pl.w64 (by omega) (by omega)
  have r1 := Int.emod_nonneg ((n : Int) / W + b) (show H ≠ 0 by omega)
  have r2 := Int.emod_lt_of_pos ((n : Int) / W + b) (show 0 < H by omega)
  have r3 := Int.emod_nonneg ((n : Int) % W + a) (show W ≠ 0 by omega)
  have r4 := Int.emod_lt_of_pos ((n : Int) % W + a) (show 0 < W by omega)
  have e4 := Pl.mul_in (a := ((n : Int) / W + b) % H) (b := W) (A := 6) (B := 6) r1 (by omega) (by omega) w1
  rw [e1, e2, e3, Int.tmod_eq_emod_of_nonneg (by omega), Int.tmod_eq_emod_of_nonneg (by omega), Pl.w64 (n := _ * W) (by omega) (by omega), Pl.w64 (by omega) (by omega)]
theorem laid_val {s : ByteArray} (hs : (s.size : Int) = W * H) (n : Nat) : n ≤ s.size → ∀ p : Int, 0 ≤ p → p < s.size → fro W H a b p < n → rd (Shift.laid (Shift.go W H a b) W W s s.size n) p = bt s (fro W H a b p) := by
  induction n with
  | zero =>
    intro _ p p0 p1 hf
    have := (to_fro w0 w1 h0 h1 a0 a1 b0 b1 p0 (by omega)).2.1.1
    omega
  | succ n ih =>
    intro hn p p0 p1 hf
    rw [Shift.laid, place_val w0 w1 h0 h1 a0 a1 b0 b1 (by omega)]
    obtain ⟨t1, _, t3, _⟩ := to_fro w0 w1 h0 h1 a0 a1 b0 b1 (n := (n : Int)) (by omega) (by omega)
    obtain ⟨_, t5, _, t7⟩ := to_fro w0 w1 h0 h1 a0 a1 b0 b1 p0 (by omega)
    have hl := Shift.laid_length (Shift.go W H a b) W W s s.size n
    rw [Pl.rd_get (by rw [List.length_set]; omega), List.getElem_set]
    by_cases e : (tow W H a b n).toNat = p.toNat
    · have e' : p = tow W H a b n := by omega
      rw [if_pos e, e', t3]
    · rw [if_neg e, ← Pl.rd_get (l := Shift.laid (Shift.go W H a b) W W s s.size n) (by omega)]
      refine ih (by omega) p p0 p1 ?_
      have : fro W H a b p ≠ n := fun e2 => by
        rw [e2] at t7
        omega
      omega
theorem laid_map {s : ByteArray} (hs : (s.size : Int) = W * H) : Shift.laid (Shift.go W H a b) W W s s.size s.size = (List.range s.size).map fun (i : Nat) => bt s (fro W H a b (i : Int)) := by
  refine List.ext_getElem (by rw [Shift.laid_length, List.length_map, List.length_range]) fun i h1' h2' => ?_
  rw [Shift.laid_length] at h1'
  have := laid_val w0 w1 h0 h1 a0 a1 b0 b1 hs s.size (Nat.le_refl _) (i : Int) (by omega) (by omega) (by have := (to_fro w0 w1 h0 h1 a0 a1 b0 b1 (n := (i : Int)) (by omega) (by omega)).2.1; omega)
  rw [Pl.rd_get (by rw [Shift.laid_length]; omega)] at this
  simp only [Int.toNat_natCast] at this
  rw [this, List.getElem_map, List.getElem_range]
theorem spec_l0 {r d : ByteArray} {x y v : Int} (hr : (r.size : Int) = W * H) (hd : (d.size : Int) = W * H) (x0 : 0 ≤ x) (x1 : x < W) (y0 : 0 ≤ y) (y1 : y < H) (n : Nat) : ∀ i : Nat, r.size - i = n → i ≤ r.size →
    Ev (fun k => spec_ShiftWorm.l0 k a b i W H r d x y v W H (strOfNums ((List.range i).map fun (i : Nat) => bt r (fro W H a b (i : Int)))) (strOfNums ((List.range i).map fun (i : Nat) => bt d (fro W H a b (i : Int)))) 0 0 v)
      (W, H, strOfNums ((List.range r.size).map fun (i : Nat) => bt r (fro W H a b (i : Int))), strOfNums ((List.range r.size).map fun (i : Nat) => bt d (fro W H a b (i : Int))), Int.tmod (wrap64 (x + a)) W, Int.tmod (wrap64 (y + b)) H, v, true) := by
  obtain ⟨m0, m1⟩ := mul_36 w0 w1 h0 h1 a0 a1 b0 b1
  induction n with
  | zero =>
    intro i hn hi
    obtain rfl : i = r.size := by omega
    refine Pl.ev_unf ⟨0, fun k _ => ?_⟩
    rw [spec_ShiftWorm.l0, if_neg (by omega), if_neg (by omega), if_neg (by omega)]
  | succ n ih =>
    intro i hn hi
    have hi36 : i ≤ 1000 := by omega
    have c1 : (i : Int) < (r.size : Int) := by omega
    have c2 : ¬ W = 0 := by omega
    obtain ⟨K, f⟩ := ih (i + 1) (by omega) (by omega)
    obtain ⟨q0, q1, q2, q3⟩ := div_in w0 w1 h0 h1 a0 a1 b0 b1 (n := (i : Int)) (by omega) (by omega)
    have tf := (to_fro w0 w1 h0 h1 a0 a1 b0 b1 (n := (i : Int)) (by omega) (by omega)).2.1
    have w2 : wrap64 ((i : Int) + 1) = ((i + 1 : Nat) : Int) := by rw [Pl.w64 (by omega) (by omega)]; omega
    have e0 : Int.tdiv (i : Int) W = (i : Int) / W := Int.tdiv_eq_ediv_of_nonneg (Int.natCast_nonneg i)
    have e1 : wrap64 (Int.tdiv (i : Int) W) = (i : Int) / W := by
      have e0b : wrap64 ((i : Int) / W) = (i : Int) / W := Pl.w64 (by omega) (by omega)
      rw [e0]
      exact e0b
    have e2 : Int.tmod (i : Int) W = (i : Int) % W := Int.tmod_eq_emod_of_nonneg (Int.natCast_nonneg i)
    have e3 : wrap64 ((i : Int) / W - b) = (i : Int) / W - b := Pl.w64 (by omega) (by omega)
    have e4 : wrap64 ((i : Int) % W - a) = (i : Int) % W - a := Pl.w64 (by omega) (by omega)
    have r1 := Int.emod_nonneg ((i : Int) / W - b) (show H ≠ 0 by omega)
    have r2 := Int.emod_lt_of_pos ((i : Int) / W - b) (show 0 < H by omega)
    have e5 := Pl.mul_in (a := ((i : Int) / W - b) % H) (b := W) (A := 6) (B := 6) r1 (by omega) (by omega) w1
    have e6 : wrap64 (wrap64 (((i : Int) / W - b) % H * W) + ((i : Int) % W - a) % W) = fro W H a b i := by
      unfold fro at tf ⊢
      rw [Pl.w64 (n := _ * W) (by omega) (by omega), Pl.w64 (by omega) (by omega)]
    have e7 : wrap64 (fro W H a b i + 1) = fro W H a b i + 1 := Pl.w64 (by omega) (by omega)
    refine Pl.ev_unf ⟨K, fun k hk => ?_⟩
    have f := f k hk
    dsimp only at f
    rw [List.range_succ, List.map_append, List.map_append, List.map_singleton, List.map_singleton] at f
    obtain ⟨p, hp⟩ : ∃ p, p = fro W H a b i := ⟨_, rfl⟩
    rw [← hp] at tf e6 e7 f
    have l1 : spec_l1Mod.f ((i : Int) / W - b) H = some (((i : Int) / W - b) % H) := l1Mod_val (by omega) (by omega) (by omega) (by omega)
    have l2 : spec_l1Mod.f ((i : Int) % W - a) W = some (((i : Int) % W - a) % W) := l1Mod_val (by omega) (by omega) (by omega) (by omega)
    have p1 : r.extract p.toNat (p + 1).toNat = strOfNums [bt r p] := str_piece (by omega) (by omega)
    have p2 : d.extract p.toNat (p + 1).toNat = strOfNums [bt d p] := str_piece (by omega) (by omega)
    have zr := z_len (fun (i : Nat) => bt r (fro W H a b (i : Int))) i (bt r p) hi36
    have zd := z_len (fun (i : Nat) => bt d (fro W H a b (i : Int))) i (bt d p) hi36
    have c3 : 0 ≤ p := tf.1
    have c4 : p ≤ p + 1 := Int.le_add_one (Int.le_refl p)
    have c5 : p + 1 ≤ (r.size : Int) := by rw [hr]; exact Int.add_one_le_of_lt tf.2
    have c6 : p + 1 ≤ (d.size : Int) := by rw [hd]; exact Int.add_one_le_of_lt tf.2
    clear tf e5 q0 q1 q2 q3 r1 r2 m0 m1 ih hp
    rw [spec_ShiftWorm.l0, if_pos c1, if_neg c2, e1, e3, l1, Option.bind_some, e2, e4, l2, Option.bind_some, e6, e7, if_pos c3, if_pos c4, if_pos c5, p1, if_pos zr, if_pos c6, p2, if_pos zd, w2, str_app, str_app]
    exact f
end
theorem shift_both (w h : Int) (r d : ByteArray) (x y way a b : Int) (hr : r.size ≤ 9223372036854775807) (hd : d.size ≤ 9223372036854775807) :
    ∃ R, Ev (fun k => spec_ShiftWorm.f k w h r d x y way a b) R ∧ Ev (fun k => impl_ShiftWorm.f k w h r d x y way a b) R := by
  obtain ⟨g, ⟨K1, e1⟩, ⟨K2, e2⟩, hg⟩ := good_both w h r d x y way hr hd
  cases g with
  | false =>
    refine ⟨(0, 0, (⟨#[]⟩ : ByteArray), (⟨#[]⟩ : ByteArray), 0, 0, 0, false), ⟨K1 + 1, fun k hk => ?_⟩, ⟨K2, fun k hk => ?_⟩⟩
    · obtain ⟨m, rfl⟩ : ∃ m, k = m + 1 := ⟨k - 1, by omega⟩
      have e1 := e1 (m + 1) (by omega)
      dsimp only at e1 ⊢
      rw [spec_ShiftWorm.f, e1, Option.bind_some, if_neg (by simp), spec_ShiftWorm.j0, if_pos rfl]
    · have e2 := e2 k (by omega)
      dsimp only at e2 ⊢
      rw [impl_ShiftWorm.f, e2, Option.bind_some, if_neg (by simp)]
  | true =>
    have G := hg.1 rfl
    have := G.w3
    have := G.w6
    have := G.h3
    have := G.h6
    have wa : wrap64 (w - 1) = w - 1 := Pl.w64 (by omega) (by omega)
    have wb : wrap64 (h - 1) = h - 1 := Pl.w64 (by omega) (by omega)
    have hant : impl_isAnt.f w h a b 0 = some (decide (0 ≤ a ∧ a ≤ w - 1) && decide (0 ≤ b ∧ b ≤ h - 1)) := by
      rw [impl_isAnt.f, wa, wb, within_val, within_val, isWay_val]
      by_cases c1 : 0 ≤ a ∧ a ≤ w - 1 <;> by_cases c2 : 0 ≤ b ∧ b ≤ h - 1 <;> simp [c1, c2]
    by_cases c1 : 0 ≤ a ∧ a ≤ w - 1
    · by_cases c2 : 0 ≤ b ∧ b ≤ h - 1
      · obtain ⟨K3, f3⟩ := spec_l0 (v := way) G.w3 G.w6 G.h3 G.h6 c1.1 (by omega) c2.1 (by omega) G.rs G.ds G.x0 G.xw G.y0 G.yh _ 0 rfl (by omega)
        obtain ⟨m0, m1⟩ := mul_36 G.w3 G.w6 G.h3 G.h6 c1.1 (by omega) c2.1 (show b < h by omega)
        have hrs := G.rs
        have hds := G.ds
        have hsz : d.size = r.size := by omega
        have hcd : impl_ShiftWorm.cond w h r d a b := by
          refine ⟨by omega, by omega, by omega, by omega, hsz, by rw [Pl.w64 (by omega) (by omega)]; omega, fun n hn => ?_⟩
          rw [place_val G.w3 G.w6 G.h3 G.h6 c1.1 (by omega) c2.1 (by omega) (by omega)]
          have := (to_fro G.w3 G.w6 G.h3 G.h6 c1.1 (show a < w by omega) c2.1 (show b < h by omega) (n := (n : Int)) (by omega) (by omega)).1
          omega
        have l1 := laid_map G.w3 G.w6 G.h3 G.h6 c1.1 (show a < w by omega) c2.1 (show b < h by omega) G.rs
        have l2 := laid_map G.w3 G.w6 G.h3 G.h6 c1.1 (show a < w by omega) c2.1 (show b < h by omega) G.ds
        rw [hsz] at l2
        refine ⟨(w, h, strOfNums (Shift.laid (Shift.go w h a b) w w r r.size r.size), strOfNums (Shift.laid (Shift.go w h a b) w w d r.size r.size), Int.tmod (wrap64 (x + a)) w, Int.tmod (wrap64 (y + b)) h, way, true), ⟨K1 + K3 + 1, fun k hk => ?_⟩, ⟨K2, fun k hk => ?_⟩⟩
        rotate_left
        · have e2 := e2 k (by omega)
          dsimp only at e2 ⊢
          rw [impl_ShiftWorm.f, e2, Option.bind_some, if_pos rfl, hant, decide_eq_true c1, decide_eq_true c2, Option.bind_some, if_pos (by rfl), if_pos hcd]
        · obtain ⟨m, rfl⟩ : ∃ m, k = m + 1 := ⟨k - 1, by omega⟩
          have e1 := e1 (m + 1) (by omega)
          have f3 := f3 m (by omega)
          dsimp only at e1 f3 ⊢
          rw [spec_ShiftWorm.f, e1, Option.bind_some, if_pos rfl, wa, l1In_t c1.1 c1.2, Option.bind_some, if_pos rfl, wb, l1In_t c2.1 c2.2, Option.bind_some, spec_ShiftWorm.j0, if_neg (by simp), l1, l2]
          exact f3
      · refine ⟨(0, 0, (⟨#[]⟩ : ByteArray), (⟨#[]⟩ : ByteArray), 0, 0, 0, false), ⟨K1 + 1, fun k hk => ?_⟩, ⟨K2, fun k hk => ?_⟩⟩
        · obtain ⟨m, rfl⟩ : ∃ m, k = m + 1 := ⟨k - 1, by omega⟩
          have e1 := e1 (m + 1) (by omega)
          dsimp only at e1 ⊢
          rw [spec_ShiftWorm.f, e1, Option.bind_some, if_pos rfl, wa, l1In_t c1.1 c1.2, Option.bind_some, if_pos rfl, wb, l1In_f (by omega), Option.bind_some, spec_ShiftWorm.j0, if_pos (by rfl)]
        · have e2 := e2 k (by omega)
          dsimp only at e2 ⊢
          rw [impl_ShiftWorm.f, e2, Option.bind_some, if_pos rfl, hant, decide_eq_false c2, Bool.and_false, Option.bind_some, if_neg (by simp)]
    · refine ⟨(0, 0, (⟨#[]⟩ : ByteArray), (⟨#[]⟩ : ByteArray), 0, 0, 0, false), ⟨K1 + 1, fun k hk => ?_⟩, ⟨K2, fun k hk => ?_⟩⟩
      · obtain ⟨m, rfl⟩ : ∃ m, k = m + 1 := ⟨k - 1, by omega⟩
        have e1 := e1 (m + 1) (by omega)
        dsimp only at e1 ⊢
        rw [spec_ShiftWorm.f, e1, Option.bind_some, if_pos rfl, wa, l1In_f (by omega), Option.bind_some, if_neg (by simp), spec_ShiftWorm.j0, if_pos rfl]
      · have e2 := e2 k (by omega)
        dsimp only at e2 ⊢
        rw [impl_ShiftWorm.f, e2, Option.bind_some, if_pos rfl, hant, decide_eq_false c1, Bool.false_and, Option.bind_some, if_neg (by simp)]
theorem FnExactShiftWorm (a0_0 : Int) (a0_1 : Int) (a0_2 : ByteArray) (a0_3 : ByteArray) (a0_4 : Int) (a0_5 : Int) (a0_6 : Int) (a1 : Int) (a2 : Int) (h0 : ((Lit.int .i64 a0_0).wf = true) ∧ ((Lit.int .i64 a0_1).wf = true) ∧ (a0_2.size ≤ maxLen) ∧ (a0_3.size ≤ maxLen) ∧ ((Lit.int .i64 a0_4).wf = true) ∧ ((Lit.int .i64 a0_5).wf = true) ∧ ((Lit.int .i64 a0_6).wf = true)) (h1 : (Lit.int .i64 a1).wf = true) (h2 : (Lit.int .i64 a2).wf = true) : ∃ k, laws_FnExactShiftWorm.f k a0_0 a0_1 a0_2 a0_3 a0_4 a0_5 a0_6 a1 a2 = some true := by
  obtain ⟨_, _, hr, hd, _⟩ := h0
  have hr := Pl.le_max hr
  have hd := Pl.le_max hd
  by_cases hs : (a0_2.size : Int) + a0_3.size ≤ 1048576
  · have s1 := sz_small (w := a0_0) (h := a0_1) (x := a0_4) (y := a0_5) (way := a0_6) hs
    obtain ⟨⟨r1, r2, r3, r4, r5, r6, r7, r8⟩, ⟨K1, e1⟩, ⟨K2, e2⟩⟩ := shift_both a0_0 a0_1 a0_2 a0_3 a0_4 a0_5 a0_6 a1 a2 hr hd
    refine ⟨K1 + K2, ?_⟩
    have e1 := e1 (K1 + K2) (by omega)
    have e2 := e2 (K1 + K2) (by omega)
    have e3 := eqW_self r1 r2 r3 r4 r5 r6 r7
    simp (disch := omega) only [↓reduceIte, Pl.lt_t, Pl.lt_f, Pl.le_t, Pl.le_f, Pl.ge_t, Pl.ge_f, Pl.gt_t, Pl.gt_f, Pl.eq_t, Pl.eq_f, Pl.nlt_t, Pl.nle_t, Pl.w64, Option.bind_some, Bool.false_eq_true, decide_eq_true_eq, laws_FnExactShiftWorm.f, ↓Pl.bnd s1, s1, laws_toWorm.f, ↓Pl.bnd e1, e1, ↓Pl.bnd e2, e2, ↓Pl.bnd e3, e3, bne_self_eq_false]
  · refine ⟨0, ?_⟩
    simp (disch := omega) only [↓reduceIte, Pl.lt_t, Pl.lt_f, Pl.le_t, Pl.le_f, Pl.ge_t, Pl.ge_f, Pl.gt_t, Pl.gt_f, Pl.eq_t, Pl.eq_f, Pl.nlt_t, Pl.nle_t, Pl.w64, Option.bind_some, Bool.false_eq_true, decide_eq_true_eq, laws_FnExactShiftWorm.f, sz_big]

end Go.Proofs.Ythffmjmcgafciaa.Pure
