-- Printed for this claim by gprint.py, a program of this session round the kit's printer. Lean checks it.
import Derived.Test.YtgaplnhjddlieaaDoorPNx0
import Derived.Test.YtgaplnhjddlieaaDoorPNx4
import Derived.Test.YtgaplnhjddlieaaDoorPNx8
namespace Go.Proofs.YtgaplnhjddlieaaDoor.PN
open Go.RowKit Go.Proofs.YtgaplnhjddlieaaDoorW.PrintWords Go.Proofs.YtgaplnhjddlieaaDoorW.PrintLast Go.Proofs.YtgaplnhjddlieaaDoorW.PrintMore
attribute [local go_sem] max2_int min2_int max_two min_two max_three min_three max_four min_four   -- for this text's walks alone
set_option linter.unusedVariables false
set_option linter.unusedSimpArgs false

/-! ### laws_heldIntSS: function 12 -/
def laws_heldIntSS.l0 : Nat → List (List Int) → Int → Int → Option (Int)
  | 0, _, _, _ => none
  | k + 1, x0, x1, x5 => if x5 < (x0.length : Int) then (if 0 ≤ x5 then ((laws_heldIntS.f k (rd_L4 x0 x5) x1).bind fun t165 => (if t165 < 0 then (some (-1)) else (laws_heldIntSS.l0 k x0 t165 (wrap64 (x5 + 1))))) else (none)) else (some x1)
def laws_heldIntSS.f (k : Nat) (l0 : List (List Int)) (a1 : Int) : Option (Int) := laws_heldIntSS.l0 k l0 a1 0
theorem laws_heldIntSS.mono_l : ∀ k, (∀ y0 y1 y2, LeO (laws_heldIntSS.l0 k y0 y1 y2) (laws_heldIntSS.l0 (k + 1) y0 y1 y2))
  | 0 => fun _ _ _ r h => by simp [laws_heldIntSS.l0] at h
  | k + 1 => by
    have ih0 := laws_heldIntSS.mono_l k
    · intro y0 y1 y2
      unfold laws_heldIntSS.l0
      repeat' first
      | (with_reducible exact ih0 _ _ _)
      | (with_reducible exact laws_heldIntS.mono _ _ _)
      | (with_reducible exact LeO.refl _)
      | (with_reducible exact LeO.none _)
      | (with_reducible refine LeO.ite ?_ ?_)
      | (with_reducible refine LeO.bind ?_ (fun _ => ?_))
      | exact ih0 _ _ _
      | exact laws_heldIntS.mono _ _ _
      | exact LeO.none _
      | refine LeO.ite ?_ ?_
      | refine LeO.bind ?_ (fun _ => ?_)
theorem laws_heldIntSS.mono : ∀ a0 a1 k, LeO (laws_heldIntSS.f k a0 a1) (laws_heldIntSS.f (k + 1) a0 a1) := by
  intro a0 a1 k
  have ih0 := laws_heldIntSS.mono_l k
  unfold laws_heldIntSS.f
  repeat' first
      | (with_reducible exact ih0 _ _ _)
      | (with_reducible exact laws_heldIntS.mono _ _ _)
      | (with_reducible exact LeO.refl _)
      | (with_reducible exact LeO.none _)
      | (with_reducible refine LeO.ite ?_ ?_)
      | (with_reducible refine LeO.bind ?_ (fun _ => ?_))
      | exact ih0 _ _ _
      | exact laws_heldIntS.mono _ _ _
      | exact LeO.none _
      | refine LeO.ite ?_ ?_
      | refine LeO.bind ?_ (fun _ => ?_)
set_option maxHeartbeats 8000000 in
set_option maxRecDepth 100000 in
theorem laws_heldIntSS.calls (k : Nat) (A0 : Option Addr) (c0 : Nat) (l0 : List (List Int)) (a1 : Int) (r : Int) (w : World) (hr0 : Kd.C (Kd.slice 3 (Kd.int .i64)) w A0 l0.length l0) (hc0 : l0.length ≤ c0) (h : laws_heldIntSS.f k l0 a1 = some r) :
    Calls Tryd.prog 12 #[.slice A0 l0.length c0, .int .i64 a1] w fun e w' => e = .returned (.int .i64 r) ∧ Drawn0 w w' := by
  have HR0 := Aside0.mk hr0
  have HC0 := Aside0.mk hc0
  clear hr0 hc0
  have H : (laws_heldIntSS.l0 k l0 a1 0) = some r := h
  clear h
  have H' := Aside0.mk H
  clear H
  go_enter Tryd.func12, Tryd.ntmps12
  go_wp2
  go_loopg [1, 5] k (fun kq v1 v5 w' => ∃ (x1_1 : Int) (x5_1 : Int), v1 = .int .i64 x1_1 ∧ v5 = .int .i64 x5_1 ∧ Aside0 (laws_heldIntSS.l0 kq l0 x1_1 x5_1 = some r) ∧ Aside0 (kq ≤ k) ∧ Drawn0 w w')
  case atStart => exact ⟨(a1), (0), (by first | rfl | (simp; done) | (simp [*]; done)), (by first | rfl | (simp; done) | (simp [*]; done)), H', ⟨Nat.le_refl _⟩, by repeat (first | exact Drawn0.refl _ | apply Drawn0.step)⟩
  case round =>
    clear H'
    try clear c1
    try clear p2
    obtain ⟨x1_1, x5_1, rfl, rfl, HA, HK1, ⟨m1, rfl⟩⟩ := hrel
    cases gk with
    | zero => exact absurd HA.out (by simp [laws_heldIntSS.l0])
    | succ k1 =>
      have H := HA.out
      clear HA
      simp only [laws_heldIntSS.l0] at H
      by_cases c3 : x5_1 < (l0.length : Int)
      · rw [if_pos c3] at H
        have c3b0 : decide (x5_1 < (l0.length : Int)) = true := decide_eq_true c3
        (try (first | rw [hl164_0] at c3b0))
        clear c3
        by_cases c4 : 0 ≤ x5_1
        · rw [if_pos c4] at H
          have c4b0 : decide (0 ≤ x5_1) = true := decide_eq_true c4
          clear c4
          replace H := Option.bind_eq_some_iff.mp H
          obtain ⟨t165, A50, H⟩ := H
          replace H : (if t165 < 0 then (some (-1)) else (laws_heldIntSS.l0 k1 l0 t165 (wrap64 (x5_1 + 1)))) = some r := H
          have A5 := Aside0.mk A50
          clear A50
          by_cases c6 : t165 < 0
          · rw [if_pos c6] at H
            have c6b0 : decide (t165 < 0) = true := decide_eq_true c6
            clear c6
            obtain rfl := Option.some.inj H
            have p164 : 0 ≤ (x5_1 : Int) := of_decide_eq_true (by first | (with_reducible assumption) | assumption)
            have q164 : x5_1 < (l0.length : Int) := of_decide_eq_true (by first | (with_reducible assumption) | assumption)
            obtain ⟨ad164, A164_0, c164_0, e164, hx164_0, hl164_0, hi164_0⟩ := at_L4 HR0.out x5_1 p164 q164
            cases e164
            have HR164_0 := Aside0.mk hi164_0
            have HC164_0 := Aside0.mk hl164_0
            clear hi164_0 hl164_0
            replace p164 := eq_true p164
            replace q164 := eq_true q164
            go_wp2_with (first | ((with_reducible refine gate_callee (f := 20) rfl ?_); refine goesL_ (some 17) rfl rfl Tryd.func20 (by kernel_rfl) rfl #[.slice A164_0 (rd_L4 l0 x5_1).length c164_0, .int .i64 x1_1] rfl (by (try simp only [List.map_toArray, List.map_cons, List.map_nil]); first | done | rfl | (simp only [List.length_drop, List.length_take]; rfl)) ?_; (with_reducible refine (laws_heldIntS.calls k1 _ _ (rd_L4 l0 x5_1) x1_1 t165 _ ?side1 ?side2 A5.out).mono ?_); (case side1 => repeat (first | exact HR164_0.out | (with_reducible refine Kd.C_alloc ?_ _) | (with_reducible refine Kd.C_drewN ?_ _) | (with_reducible refine Kd.C_drew ?_))); (case side2 => exact HC164_0.out); rintro e w' ⟨rfl, ⟨nd, rfl⟩⟩; refine ⟨_, rfl, ?_⟩))
            go_ret
            exact ⟨by first | rfl | (simp; done) | (simp [*]; done), by repeat (first | exact Drawn0.refl _ | apply Drawn0.step)⟩
          · rw [if_neg c6] at H
            have c6b0 : decide (t165 < 0) = false := decide_eq_false c6
            clear c6
            have H' := Aside0.mk H
            clear H
            have p164 : 0 ≤ (x5_1 : Int) := of_decide_eq_true (by first | (with_reducible assumption) | assumption)
            have q164 : x5_1 < (l0.length : Int) := of_decide_eq_true (by first | (with_reducible assumption) | assumption)
            obtain ⟨ad164, A164_0, c164_0, e164, hx164_0, hl164_0, hi164_0⟩ := at_L4 HR0.out x5_1 p164 q164
            cases e164
            have HR164_0 := Aside0.mk hi164_0
            have HC164_0 := Aside0.mk hl164_0
            clear hi164_0 hl164_0
            replace p164 := eq_true p164
            replace q164 := eq_true q164
            go_wp2_with (first | ((with_reducible refine gate_callee (f := 20) rfl ?_); refine goesL_ (some 17) rfl rfl Tryd.func20 (by kernel_rfl) rfl #[.slice A164_0 (rd_L4 l0 x5_1).length c164_0, .int .i64 x1_1] rfl (by (try simp only [List.map_toArray, List.map_cons, List.map_nil]); first | done | rfl | (simp only [List.length_drop, List.length_take]; rfl)) ?_; (with_reducible refine (laws_heldIntS.calls k1 _ _ (rd_L4 l0 x5_1) x1_1 t165 _ ?side1 ?side2 A5.out).mono ?_); (case side1 => repeat (first | exact HR164_0.out | (with_reducible refine Kd.C_alloc ?_ _) | (with_reducible refine Kd.C_drewN ?_ _) | (with_reducible refine Kd.C_drew ?_))); (case side2 => exact HC164_0.out); rintro e w' ⟨rfl, ⟨nd, rfl⟩⟩; refine ⟨_, rfl, ?_⟩))
            go_roundg k1
            case measure => have := HK1.out; omega
            case rel => exact ⟨(t165), (wrap64 (x5_1 + 1)), (by first | rfl | (simp; done) | (simp [*]; done)), (by first | rfl | (simp; done) | (simp [*]; done)), H', ⟨by have := HK1.out; omega⟩, by repeat (first | exact Drawn0.refl _ | apply Drawn0.step)⟩
        · rw [if_neg c4] at H
          exact absurd H (by simp)
      · rw [if_neg c3] at H
        have c3b0 : decide (x5_1 < (l0.length : Int)) = false := decide_eq_false c3
        (try (first | rw [hl164_0] at c3b0))
        clear c3
        obtain rfl := Option.some.inj H
        go_wp2
        go_ret
        exact ⟨by first | rfl | (simp; done) | (simp [*]; done), by repeat (first | exact Drawn0.refl _ | apply Drawn0.step)⟩

/-! ### laws_FnExactLoopLengths: function 4 -/
-- the law, walked in one line: it answers true where its calls answer as told; it calls 8 9 10 11 12
theorem laws_heldIntSS.rows {α : Type} {d : Kd α} {e : Nat} {w : World} {base : Nat} {ok : Nat → Prop} {A : Option Addr} {n c : Nat} {xs : List α} (h : Kd.S d e w base ok (.slice A n c) xs) : d.C w A n xs := by
  obtain ⟨h1, _, h2⟩ := Kd.S_reads' h
  rw [h1]
  exact h2
theorem laws_heldIntSS.at_ (k : Nat) (A : Option Addr) (n c : Nat) (l : List (List Int)) (a r : Int) (w : World) (hC : (Kd.slice 3 (Kd.int .i64)).C w A n l) (hc : n ≤ c) (h : laws_heldIntSS.f k l a = some r) :
    Calls Tryd.prog 12 #[.slice A n c, .int .i64 a] w fun e w' => e = .returned (.int .i64 r) ∧ Drawn0 w w' := by
  have hn := Kd.C_len hC
  subst hn
  exact laws_heldIntSS.calls k A c l a r w hC hc h
theorem laws_eqIntSS.at_ (k : Nat) (A B : Option Addr) (n c m d : Nat) (l l2 : List (List Int)) (r : Bool) (w : World) (hC : (Kd.slice 3 (Kd.int .i64)).C w A n l) (hc : n ≤ c) (hC2 : (Kd.slice 3 (Kd.int .i64)).C w B m l2) (hc2 : m ≤ d) (h : laws_eqIntSS.f k l l2 = some r) :
    Calls Tryd.prog 10 #[.slice A n c, .slice B m d] w fun e w' => e = .returned (.bool r) ∧ Drawn0 w w' := by
  have hn := Kd.C_len hC
  subst hn
  have hm := Kd.C_len hC2
  subst hm
  exact laws_eqIntSS.calls k A c l B d l2 r w hC hc hC2 hc2 h
def laws_FnExactLoopLengths.f (k : Nat) (a0 : ByteArray) (a1 : Int) (a2 : Int) : Option Bool := if (a0.size : Int) > 1048576 then (some true) else ((spec_LoopLengths.f k a0 a1 a2).bind fun s => (impl_LoopLengths.f k a0 a1 a2).bind fun g => (laws_eqIntSS.f k g.1 s.1).bind fun e => if e = true ∧ g.2 = s.2 then ((laws_markIntSS.f k g.1 1).bind fun m => (laws_heldIntSS.f k m.2 1).bind fun q => if 0 ≤ q ∧ q = m.1 then some true else none) else none)
set_option maxHeartbeats 8000000 in
set_option maxRecDepth 100000 in
theorem laws_FnExactLoopLengths.calls (k : Nat) (a0 : ByteArray) (a1 : Int) (a2 : Int) (r : Bool) (w : World) (h : laws_FnExactLoopLengths.f k a0 a1 a2 = some r) :
    Calls Tryd.prog 4 #[.string a0, .int .i64 a1, .int .i64 a2] w fun e w' => e = .returned (.bool r) ∧ Below w.heap.size w w' := by
  have HB := Aside0.mk (Below.refl w.heap.size w)
  unfold laws_FnExactLoopLengths.f at h
  by_cases c3 : (a0.size : Int) > 1048576
  · rw [if_pos c3] at h
    have c3b0 : decide (1048576 < (a0.size : Int)) = true := decide_eq_true c3
    have c3b1 : decide (1048576 < a0.size) = true := decide_eq_true (by omega)
    clear c3
    obtain rfl := Option.some.inj h
    go_enter Tryd.func4, Tryd.ntmps4
    go_wp2
    go_ret
    exact ⟨rfl, by repeat (first | (with_reducible first | exact HB.out | apply below_alloc | apply pw_below_drewN | apply below_drew1) | exact HB.out)⟩
  · rw [if_neg c3] at h
    have c3b0 : decide (1048576 < (a0.size : Int)) = false := decide_eq_false c3
    have c3b1 : decide (1048576 < a0.size) = false := decide_eq_false (by omega)
    clear c3
    replace h := Option.bind_eq_some_iff.mp h
    obtain ⟨⟨t1, b1⟩, A4, h⟩ := h
    try dsimp only at h A4
    replace h := Option.bind_eq_some_iff.mp h
    obtain ⟨⟨t2, b2⟩, A5, h⟩ := h
    try dsimp only at h A5
    replace h := Option.bind_eq_some_iff.mp h
    obtain ⟨e0, A6, h⟩ := h
    try dsimp only at h A6
    by_cases hc : e0 = true ∧ b2 = b1
    · rw [if_pos hc] at h
      obtain ⟨rfl, rfl⟩ := hc
      replace h := Option.bind_eq_some_iff.mp h
      obtain ⟨⟨m, t3⟩, A7, h⟩ := h
      try dsimp only at h A7
      replace h := Option.bind_eq_some_iff.mp h
      obtain ⟨q, A8, h⟩ := h
      try dsimp only at h A8
      by_cases hd : 0 ≤ q ∧ q = m
      · rw [if_pos hd] at h
        obtain ⟨hq, rfl⟩ := hd
        obtain rfl := Option.some.inj h
        have c18b0 : decide (q < 0) = false := decide_eq_false (by omega)
        have c20b1 : (q != q) = false := bne_self_eq_false q
        have c36 : (b2 != b2) = false := bne_self_eq_false b2
        clear hq
        replace A4 := Aside0.mk A4
        replace A5 := Aside0.mk A5
        replace A6 := Aside0.mk A6
        replace A7 := Aside0.mk A7
        replace A8 := Aside0.mk A8
        clear h
        go_enter Tryd.func4, Tryd.ntmps4
        go_wp2_with (first
          | ((with_reducible refine gate_callee (f := 8) rfl ?_); refine goesL_ (some 22) rfl rfl Tryd.func8 (by kernel_rfl) rfl #[.string a0, .int .i64 a1, .int .i64 a2] rfl (by (try simp only [List.map_toArray, List.map_cons, List.map_nil]); first | done | rfl | (simp only [List.length_drop, List.length_take]; rfl)) ?_; (with_reducible refine (spec_LoopLengths.calls k a0 a1 a2 t1 b2 _ A4.out).mono ?_); rintro e w7 ⟨v179, rfl, ho0, hb⟩; obtain ⟨P7, C7, rfl, hl7, hC7⟩ := Kd.S_reads ho0; refine ⟨_, rfl, ?_⟩; have n1_ := Aside0.mk (below_step (by repeat (first | (with_reducible first | exact HB.out | apply below_alloc | apply pw_below_drewN | apply below_drew1) | exact HB.out)) hb); have HL := Aside0.mk n1_.out.size; clear HB; have HB := n1_; have HS := Aside0.mk hC7; have HSC := Aside0.mk hl7; have H7 := Aside0.mk (Below.refl w7.heap.size w7); clear n1_ ho0 hb hC7 hl7)
          | ((with_reducible refine gate_callee (f := 9) rfl ?_); refine goesL_ (some 29) rfl rfl Tryd.func9 (by kernel_rfl) rfl #[.string a0, .int .i64 a1, .int .i64 a2] rfl (by (try simp only [List.map_toArray, List.map_cons, List.map_nil]); first | done | rfl | (simp only [List.length_drop, List.length_take]; rfl)) ?_; (with_reducible refine (impl_LoopLengths.calls k a0 a1 a2 t2 b2 _ A5.out).mono ?_); rintro e w8 ⟨v184, rfl, ho0, hb⟩; obtain ⟨P8, C8, rfl⟩ := Kd.S_slice ho0; refine ⟨_, rfl, ?_⟩; have HO8 := Aside0.mk (show Kd.S (Kd.slice 3 (Kd.int .i64)) 31 w8 w7.heap.size (fun _ => True) _ t2 from ho0); have n1_ := Aside0.mk (below_step (by repeat (first | (with_reducible first | exact H7.out | apply below_alloc | apply pw_below_drewN | apply below_drew1) | exact H7.out)) hb); clear H7; have H7 := n1_; clear n1_ ho0 hb)
          | ((with_reducible refine gate_callee (f := 10) rfl ?_); refine goesL_ (some 34) rfl rfl Tryd.func10 (by kernel_rfl) rfl #[.slice P8 t2.length C8, .slice P7 t1.length C7] rfl (by (try simp only [List.map_toArray, List.map_cons, List.map_nil]); first | done | rfl | (simp only [List.length_drop, List.length_take]; rfl)) ?_; (with_reducible refine (laws_eqIntSS.at_ k _ _ _ _ _ _ t2 t1 true _ ?side1 ?side2 ?side3 ?side4 A6.out).mono ?_); (case side1 => repeat (first | exact laws_heldIntSS.rows HO8.out | (with_reducible refine Kd.C_alloc ?_ _) | (with_reducible refine Kd.C_drewN ?_ _) | (with_reducible refine Kd.C_drew ?_))); (case side2 => exact (Kd.S_reads' HO8.out).2.1); (case side3 => exact Kd.C_below HS.out (by repeat (first | (with_reducible first | exact H7.out | apply below_alloc | apply pw_below_drewN | apply below_drew1) | exact H7.out))); (case side4 => exact HSC.out); rintro e w' ⟨rfl, ⟨nd, rfl⟩⟩; refine ⟨_, rfl, ?_⟩)
          | ((with_reducible refine gate_callee (f := 11) rfl ?_); refine goesL_ (some 43) rfl rfl Tryd.func11 (by kernel_rfl) rfl #[.slice P8 t2.length C8, .int .i64 1] rfl (by (try simp only [List.map_toArray, List.map_cons, List.map_nil]); first | done | rfl | (simp only [List.length_drop, List.length_take]; rfl)) ?_; (with_reducible refine (laws_markIntSS.calls k (fun _ => True) _ t2 1 q t3 w7 _ ?side1 ?side2 A7.out).mono ?_); (case side1 => repeat (first | (with_reducible first | exact H7.out | apply below_alloc | apply pw_below_drewN | apply below_drew1) | exact H7.out)); (case side2 => (with_reducible repeat (first | apply Kd.S_alloc | apply Kd.S_drewN | apply Kd.S_drew)); exact HO8.out); rintro e w20 ⟨rfl, ho, hb, _⟩; refine ⟨_, rfl, ?_⟩; clear H7 HO8; have H7 := Aside0.mk hb; have HO8 := Aside0.mk (Kd.S_mono (ok' := fun _ => True) ho (fun _ _ => trivial)); clear hb ho)
          | ((with_reducible refine gate_callee (f := 12) rfl ?_); refine goesL_ (some 46) rfl rfl Tryd.func12 (by kernel_rfl) rfl #[.slice P8 t2.length C8, .int .i64 1] rfl (by (try simp only [List.map_toArray, List.map_cons, List.map_nil]); first | done | rfl | (simp only [List.length_drop, List.length_take]; rfl)) ?_; (with_reducible refine (laws_heldIntSS.at_ k _ _ _ t3 1 q _ ?side1 ?side2 A8.out).mono ?_); (case side1 => repeat (first | exact laws_heldIntSS.rows HO8.out | (with_reducible refine Kd.C_alloc ?_ _) | (with_reducible refine Kd.C_drewN ?_ _) | (with_reducible refine Kd.C_drew ?_))); (case side2 => exact (Kd.S_reads' HO8.out).2.1); rintro e w' ⟨rfl, ⟨nd, rfl⟩⟩; refine ⟨_, rfl, ?_⟩)
          | ((with_reducible refine gate_callee (f := 9) rfl ?_); refine goesL_ (some 56) rfl rfl Tryd.func9 (by kernel_rfl) rfl #[.string a0, .int .i64 a1, .int .i64 a2] rfl (by (try simp only [List.map_toArray, List.map_cons, List.map_nil]); first | done | rfl | (simp only [List.length_drop, List.length_take]; rfl)) ?_; (with_reducible refine (impl_LoopLengths.calls k a0 a1 a2 t2 b2 _ A5.out).mono ?_); rintro e w25 ⟨v9, rfl, ho0, hb⟩; obtain ⟨P9, C9, rfl⟩ := Kd.S_slice ho0; refine ⟨_, rfl, ?_⟩; have HO9 := Aside0.mk ho0; have n1_ := Aside0.mk (below_step (by repeat (first | (with_reducible first | exact H7.out | apply below_alloc | apply pw_below_drewN | apply below_drew1) | exact H7.out)) hb); have n2_ := Aside0.mk (Kd.S_below (by (with_reducible repeat (first | apply Kd.S_alloc | apply Kd.S_drewN | apply Kd.S_drew)); exact HO8.out) hb); clear H7 HO8; have H7 := n1_; have HO8 := n2_; clear n1_ n2_ ho0 hb)
          | ((with_reducible refine gate_callee (f := 10) rfl ?_); refine goesL_ (some 61) rfl rfl Tryd.func10 (by kernel_rfl) rfl #[.slice P9 t2.length C9, .slice P7 t1.length C7] rfl (by (try simp only [List.map_toArray, List.map_cons, List.map_nil]); first | done | rfl | (simp only [List.length_drop, List.length_take]; rfl)) ?_; (with_reducible refine (laws_eqIntSS.at_ k _ _ _ _ _ _ t2 t1 true _ ?side1 ?side2 ?side3 ?side4 A6.out).mono ?_); (case side1 => repeat (first | exact laws_heldIntSS.rows HO9.out | (with_reducible refine Kd.C_alloc ?_ _) | (with_reducible refine Kd.C_drewN ?_ _) | (with_reducible refine Kd.C_drew ?_))); (case side2 => exact (Kd.S_reads' HO9.out).2.1); (case side3 => exact Kd.C_below HS.out (by repeat (first | (with_reducible first | exact H7.out | apply below_alloc | apply pw_below_drewN | apply below_drew1) | exact H7.out))); (case side4 => exact HSC.out); rintro e w' ⟨rfl, ⟨nd, rfl⟩⟩; refine ⟨_, rfl, ?_⟩)
          | ((with_reducible refine gate_callee (f := 12) rfl ?_); refine goesL_ (some 70) rfl rfl Tryd.func12 (by kernel_rfl) rfl #[.slice P8 t2.length C8, .int .i64 1] rfl (by (try simp only [List.map_toArray, List.map_cons, List.map_nil]); first | done | rfl | (simp only [List.length_drop, List.length_take]; rfl)) ?_; (with_reducible refine (laws_heldIntSS.at_ k _ _ _ t3 1 q _ ?side1 ?side2 A8.out).mono ?_); (case side1 => repeat (first | exact laws_heldIntSS.rows HO8.out | (with_reducible refine Kd.C_alloc ?_ _) | (with_reducible refine Kd.C_drewN ?_ _) | (with_reducible refine Kd.C_drew ?_))); (case side2 => exact (Kd.S_reads' HO8.out).2.1); rintro e w' ⟨rfl, ⟨nd, rfl⟩⟩; refine ⟨_, rfl, ?_⟩))
        go_ret
        exact ⟨rfl, HB.out.trans (Below.mono (by repeat (first | (with_reducible first | exact H7.out | apply below_alloc | apply pw_below_drewN | apply below_drew1) | exact H7.out)) HL.out)⟩
      · rw [if_neg hd] at h
        exact absurd h (by simp)
    · rw [if_neg hc] at h
      exact absurd h (by simp)
/-- THE ONE PURE STATEMENT of laws_FnExactLoopLengths. -/
def laws_FnExactLoopLengths.Pure : Prop := ∀ (a0 : ByteArray) (a1 : Int) (a2 : Int), a0.size ≤ 140737488351232 → (Lit.int .i64 a1).wf = true → (Lit.int .i64 a2).wf = true → ∃ k, laws_FnExactLoopLengths.f k a0 a1 a2 = some true
theorem laws_FnExactLoopLengths.walk (P : laws_FnExactLoopLengths.Pure) (a0 : ByteArray) (a1 : Int) (a2 : Int) (w : World) (w0 : a0.size ≤ 140737488351232) (w1 : (Lit.int .i64 a1).wf = true) (w2 : (Lit.int .i64 a2).wf = true) :
    Calls Tryd.prog 4 #[.string a0, .int .i64 a1, .int .i64 a2] w fun e w' => e = .returned (.bool true) ∧ Below w.heap.size w w' := by
  obtain ⟨k, h⟩ := P a0 a1 a2 w0 w1 w2
  refine (laws_FnExactLoopLengths.calls k a0 a1 a2 true w h).mono ?_
  rintro e w' ⟨rfl, hd⟩
  exact ⟨rfl, hd⟩

end Go.Proofs.YtgaplnhjddlieaaDoor.PN
