-- Printed for this claim by gprint.py, a program of this session round the kit's printer. Lean checks it.
import Derived.Test.YtgaplnhjddlieaaDoorPNx0
import Derived.Test.YtgaplnhjddlieaaDoorPNx5
import Derived.Test.YtgaplnhjddlieaaDoorPNx6
namespace Go.Proofs.YtgaplnhjddlieaaDoor.PN
open Go.RowKit Go.Proofs.YtgaplnhjddlieaaDoorW.PrintWords Go.Proofs.YtgaplnhjddlieaaDoorW.PrintLast Go.Proofs.YtgaplnhjddlieaaDoorW.PrintMore
attribute [local go_sem] max2_int min2_int max_two min_two max_three min_three max_four min_four   -- for this text's walks alone
set_option linter.unusedVariables false
set_option linter.unusedSimpArgs false

/-! ### impl_loopsOf: function 17 -/
-- it calls 27 28 29 30
theorem impl_loopsOf.laidOut : laidOutB Tryd.prog = true := by kernel_rfl
theorem impl_loopsOf.law : Go.WideMaps.KeyLaw Tryd.prog 41 := deep_law_laid impl_loopsOf.laidOut (m := 2) (by omega) (of_decide_eq_true (by kernel_rfl)) (by kernel_rfl) (by rw [Tryd.underlying41])
theorem impl_loopsOf.zero_ (u : World) : (zeroValue 4).run Tryd.prog u = .ok (.bool false) u := by kernel_rfl
/-! the key of a board -/
def impl_loopsOf.kw (ru : ByteArray) (w h : Int) (c : ByteArray) (x y v : Int) : Lit := .string (keyBytes [.string ru.data.toList, .int .i64 w, .int .i64 h, .string c.data.toList, .int .i64 x, .int .i64 y, .int .i64 v])
def impl_loopsOf.in64 (x : Int) : Prop := -9223372036854775808 ≤ x ∧ x ≤ 9223372036854775807
instance (x : Int) : Decidable (impl_loopsOf.in64 x) := by unfold impl_loopsOf.in64; infer_instance
theorem impl_loopsOf.wfi {x : Int} (h : impl_loopsOf.in64 x) : (Lit.int .i64 x).wf = true := by
  obtain ⟨h1, h2⟩ := h
  simp only [Lit.wf, IntKind.min, IntKind.max, IntKind.signed, IntKind.bits]
  simp
  omega
def impl_loopsOf.Wf (ru : ByteArray) (w h : Int) (c : ByteArray) (x y v : Int) : Prop := (ru.size ≤ 1000000 ∧ c.size ≤ 1000000) ∧ impl_loopsOf.in64 w ∧ impl_loopsOf.in64 h ∧ impl_loopsOf.in64 x ∧ impl_loopsOf.in64 y ∧ impl_loopsOf.in64 v
instance (ru : ByteArray) (w h : Int) (c : ByteArray) (x y v : Int) : Decidable (impl_loopsOf.Wf ru w h c x y v) := by unfold impl_loopsOf.Wf; infer_instance
theorem impl_loopsOf.key_of {ru : ByteArray} {w h : Int} {c : ByteArray} {x y v : Int} (hw : impl_loopsOf.Wf ru w h c x y v) : keyOf Tryd.prog 41 (.agg #[.string ru, .int .i64 w, .int .i64 h, .string c, .int .i64 x, .int .i64 y, .int .i64 v]) = some (impl_loopsOf.kw ru w h c x y v) := by
  obtain ⟨⟨s1, s2⟩, q1, q2, q3, q4, q5⟩ := hw
  have hk : Tryd.prog.keyType 41 = true := by kernel_rfl
  have hc : Tryd.prog.cellsOf 41 = 7 := by kernel_rfl
  have hc3 : Tryd.prog.cellsOf 3 = 1 := by kernel_rfl
  have hc9 : Tryd.prog.cellsOf 9 = 1 := by kernel_rfl
  have m1 : ru.size ≤ maxLen := Nat.le_trans s1 (by decide)
  have m2 : c.size ≤ maxLen := Nat.le_trans s2 (by decide)
  have hsz : ∃ m, Tryd.prog.types.size = m + 1 := ⟨Tryd.prog.types.size - 1, by have : 0 < Tryd.prog.types.size := of_decide_eq_true (by kernel_rfl); omega⟩
  obtain ⟨m, hm⟩ := hsz
  unfold keyOf
  simp only [Tryd.underlying41]
  rw [if_pos (by simp [hk, Value.formed, Tryd.underlying41, hc]), hm]
  unfold Program.keyLits
  simp [Tryd.underlying41, Value.cells, hc, hc3, hc9, Program.keyLits, Tryd.underlying3, Tryd.underlying9, m1, m2, impl_loopsOf.wfi q1, impl_loopsOf.wfi q2, impl_loopsOf.wfi q3, impl_loopsOf.wfi q4, impl_loopsOf.wfi q5, impl_loopsOf.kw]
theorem impl_loopsOf.isKey (ru : ByteArray) (w h : Int) (c : ByteArray) (x y v : Int) : WideAt.IsKeyLit (impl_loopsOf.kw ru w h c x y v) := trivial
theorem impl_loopsOf.kw_inj {ru ru' : ByteArray} {w h w' h' : Int} {c c' : ByteArray} {x y v x' y' v' : Int} (h1 : impl_loopsOf.Wf ru w h c x y v) (h2 : impl_loopsOf.Wf ru' w' h' c' x' y' v') (e : impl_loopsOf.kw ru w h c x y v = impl_loopsOf.kw ru' w' h' c' x' y' v') : ru = ru' ∧ w = w' ∧ h = h' ∧ c = c' ∧ x = x' ∧ y = y' ∧ v = v' := by
  have := impl_loopsOf.law.inj (impl_loopsOf.key_of h1) (e ▸ impl_loopsOf.key_of h2)
  simpa using this
open Go.Maps in
def impl_loopsOf.at_ (D : DataW Unit) (kl : Lit) : Bool := match D.atKey kl (.lit (.bool false)) with
  | .lit (.bool b) => b
  | _ => false
abbrev impl_loopsOf.MD := Nat × DataW Unit
def impl_loopsOf.putM (M : impl_loopsOf.MD) (kl : Lit) : impl_loopsOf.MD := (M.1 + 1, M.2.put kl (.lit (.bool true)))
abbrev impl_loopsOf.OMT (w : World) (gm : Nat) (M : impl_loopsOf.MD) : Prop := w.ownsMap Tryd.prog 41 (plainElem (H := Unit) Tryd.prog 4) gm M.1 M.2
section
variable {W W1 : World} {P : Program} {k : TypeId} {R : Value → Option (DataW Unit × List MemPlace)} {b n : Nat} {D : DataW Unit}
theorem impl_loopsOf.om_below (h : W.ownsMap P k R b n D) (hb : Below W.heap.size W W1) : W1.ownsMap P k R b n D := by
  obtain ⟨es, clock, h1, h2⟩ := h
  exact ⟨es, clock, blk_below h1 hb, h2⟩
theorem impl_loopsOf.om_drew (h : W.ownsMap P k R b n D) : W.drew.ownsMap P k R b n D := impl_loopsOf.om_below h (below_drew (Below.refl _ _))
theorem impl_loopsOf.om_grown {row : Option Nat} (h : W.ownsMap P k R b n D) (hg : W.grownBy W1 row) (hne : some b ≠ row) : W1.ownsMap P k R b n D := by
  obtain ⟨es, clock, h1, h2⟩ := h
  exact ⟨es, clock, blk_grown h1 hg hne, h2⟩
theorem impl_loopsOf.om_ne {g : Nat} {cells : Array Value} {t : Nat} {q : Nat × Nat} (h : W.ownsMap P k R b n D) (hc : W.heap[g]? = some (.cells cells t q)) : b ≠ g := by
  rintro rfl
  obtain ⟨es, clock, h1, _⟩ := h
  rw [h1] at hc
  cases hc
theorem impl_loopsOf.ne_map {α : Type} {d : Kd α} {e base : Nat} {ok : Nat → Prop} {v : Value} {xs : List α} (h : d.R e W base ok v xs) (hm : W.ownsMap P k R b n D) : some b ≠ v.ownBlock := fun he => by
  obtain ⟨es, clock, h1, _⟩ := hm
  obtain ⟨cells, hc⟩ := Kd.R_typed h b he.symm
  rw [h1] at hc
  cases hc
theorem impl_loopsOf.R_map {α : Type} {d : Kd α} {e base : Nat} {ok : Nat → Prop} {v : Value} {xs : List α} (h : d.R e W base ok v xs) (hm : W.ownsMap P k R b n D) (hg : W.grownBy W1 (some b)) : d.R e W1 base ok v xs := by
  obtain ⟨es, clock, h1, _⟩ := hm
  refine Kd.R_mono (Kd.R_step (Kd.R_bound h) (fun j hj hlt => hg.block j hlt (fun ej => ?_))) (fun _ hk => hk.1)
  obtain ⟨_, _, _, q, _, cells, hc⟩ := hj
  cases ej
  rw [h1] at hc
  cases hc
end
theorem impl_loopsOf.look {P : Program} (w : World) {ops : Array Oper} {rest : List Oper} {o : Oper} {a : Act} {Q : Exit → Act → World → Prop} (hg : o.guard = none) (m x : Operand) (t : TypeId) (hop : o.op = Op.lookup t m x false)
    (k e : TypeId) (K : Maps.Keyed P k) (ht : P.underlying t = some (.map k e)) (he : P.underlying e = some .bool) (hz : (zeroValue e).run P w = .ok (.bool false) w) (b n : Nat) (D : DataW Unit)
    (hm : a.eval m = .map (some b)) (hown : w.ownsMap P k (plainElem P e) b n D) (key : Value) (kl : Lit) (hx : a.eval x = key) (hkey : keyOf P k key = some kl) (v : Bool) (hat : impl_loopsOf.at_ D kl = v)
    (hK : wpList P ops Q rest (a.put o.dst (.bool v)) w) : wpList P ops Q (o :: rest) a w := by
  have hrun : (Instr.lookup t (.map (some b)) key false).run P w = .ok (.bool v) w := by
    obtain ⟨es, clock, hb, F, _, rfl⟩ := hown
    rcases Maps.fit_look false K ht hz hb F hkey with ⟨hr, _, h2⟩ | ⟨e0, y, _, _, hr, hRv, h2, _⟩
    · have : v = false := by rw [← hat]; unfold impl_loopsOf.at_; rw [h2]
      rw [this]
      exact hr
    · have hv : ∃ c, e0.val = .bool c ∧ y.1 = .lit (.bool c) := by
        unfold plainElem at hRv
        rw [he] at hRv
        cases hval : e0.val <;> rw [hval] at hRv <;> simp at hRv
        exact ⟨_, rfl, by rw [← hRv]⟩
      obtain ⟨c, hc1, hc2⟩ := hv
      have : v = c := by rw [← hat]; unfold impl_loopsOf.at_; rw [h2, hc2]
      rw [this, ← hc1]
      exact hr
  refine wpList_plain hg fun K' hK' => ?_
  unfold Oper.wp
  simp [execOp, hop, hm, hx, hrun, Result.andThen]
  exact hK' _ _ hK
mutual
def impl_loopsOf.l0 : Nat → ByteArray → Int → Int → List Int → impl_loopsOf.MD → List ByteArray → Int → Int → Option (List Int × Bool)
  | 0, _, _, _, _, _, _, _, _ => none
  | k + 1, x0, x1, x2, x10, x11, x34, x35, x36 => if x36 < x35 then (if 0 ≤ x36 then (if x36 < (x34.length : Int) then (impl_loopsOf.l1 k x0 x1 x2 x10 x11 (rdOf ByteArray.empty x34 x36) x34 x35 x36 (wrap64 (x1 * x2)) 0) else (none)) else (none)) else (if 0 < x10.length ∧ x10.length < 1000000000 then some ((x10.mergeSort fun x y => decide (x ≤ y)), true) else (none))
def impl_loopsOf.l1 : Nat → ByteArray → Int → Int → List Int → impl_loopsOf.MD → ByteArray → List ByteArray → Int → Int → Int → Int → Option (List Int × Bool)
  | 0, _, _, _, _, _, _, _, _, _, _, _ => none
  | k + 1, x0, x1, x2, x10, x11, x13, x34, x35, x36, x42, x43 => if x43 < x42 then (impl_loopsOf.l2 k x0 x1 x2 x10 x11 x13 x43 x34 x35 x36 x42 x43 0) else (impl_loopsOf.l0 k x0 x1 x2 x10 x11 x34 x35 (wrap64 (x36 + 1)))
def impl_loopsOf.l2 : Nat → ByteArray → Int → Int → List Int → impl_loopsOf.MD → ByteArray → Int → List ByteArray → Int → Int → Int → Int → Int → Option (List Int × Bool)
  | 0, _, _, _, _, _, _, _, _, _, _, _, _, _ => none
  | k + 1, x0, x1, x2, x10, x11, x13, x14, x34, x35, x36, x42, x43, x46 => if x46 < 4 then (if x1 = 0 then (none) else (impl_loopsOf.l3 k x0 x1 x2 x10 x11 x13 x14 0 x34 x35 x36 x42 x43 x46 x0 x1 x2 x13 (Int.tmod x14 x1) (wrap64 (Int.tdiv x14 x1)) x46)) else (impl_loopsOf.l1 k x0 x1 x2 x10 x11 x13 x34 x35 x36 x42 (wrap64 (x43 + 1)))
def impl_loopsOf.l3 : Nat → ByteArray → Int → Int → List Int → impl_loopsOf.MD → ByteArray → Int → Int → List ByteArray → Int → Int → Int → Int → Int → ByteArray → Int → Int → ByteArray → Int → Int → Int → Option (List Int × Bool)
  | 0, _, _, _, _, _, _, _, _, _, _, _, _, _, _, _, _, _, _, _, _, _ => none
  | k + 1, x0, x1, x2, x10, x11, x13, x14, x17, x34, x35, x36, x42, x43, x46, x169000, x169001, x169002, x169003, x169004, x169005, x169006 => if impl_loopsOf.Wf x169000 x169001 x169002 x169003 x169004 x169005 x169006 then (if impl_loopsOf.at_ x11.2 (impl_loopsOf.kw x169000 x169001 x169002 x169003 x169004 x169005 x169006) = true then (if x17 > 0 then (if x10.length < 17592186044416 then (impl_loopsOf.l2 k x0 x1 x2 (x10 ++ [x17]) x11 x13 x14 x34 x35 x36 x42 x43 (wrap64 (x46 + 1))) else (none)) else (impl_loopsOf.l2 k x0 x1 x2 x10 x11 x13 x14 x34 x35 x36 x42 x43 (wrap64 (x46 + 1)))) else (if x11.1 < 1000000 then ((impl_World_step.f x169000 x169001 x169002 x169003 x169004 x169005 x169006).bind fun bt172 => (impl_loopsOf.l3 k x0 x1 x2 x10 (impl_loopsOf.putM x11 (impl_loopsOf.kw x169000 x169001 x169002 x169003 x169004 x169005 x169006)) x13 x14 (wrap64 (x17 + 1)) x34 x35 x36 x42 x43 x46 bt172.1 bt172.2.1 bt172.2.2.1 bt172.2.2.2.1 bt172.2.2.2.2.1 bt172.2.2.2.2.2.1 bt172.2.2.2.2.2.2)) else (none))) else (none)
end
def impl_loopsOf.f (k : Nat) (a0 : ByteArray) (a1 : Int) (a2 : Int) : Option (List Int × Bool) := (impl_CountWorlds.f k a0 a1 a2).bind fun bt159 => (if bt159.2 = true then ((impl_digits.f k (a0.size : Int) (wrap64 (a1 * a2))).bind fun t164 => (impl_loopsOf.l0 k a0 a1 a2 (([] : List Int)) (0, .map []) t164 (t164.length : Int) 0)) else (some (([] : List Int), false)))
theorem impl_loopsOf.mono_l : ∀ k, (∀ y0 y1 y2 y3 y4 y5 y6 y7, LeO (impl_loopsOf.l0 k y0 y1 y2 y3 y4 y5 y6 y7) (impl_loopsOf.l0 (k + 1) y0 y1 y2 y3 y4 y5 y6 y7)) ∧ (∀ y0 y1 y2 y3 y4 y5 y6 y7 y8 y9 y10, LeO (impl_loopsOf.l1 k y0 y1 y2 y3 y4 y5 y6 y7 y8 y9 y10) (impl_loopsOf.l1 (k + 1) y0 y1 y2 y3 y4 y5 y6 y7 y8 y9 y10)) ∧ (∀ y0 y1 y2 y3 y4 y5 y6 y7 y8 y9 y10 y11 y12, LeO (impl_loopsOf.l2 k y0 y1 y2 y3 y4 y5 y6 y7 y8 y9 y10 y11 y12) (impl_loopsOf.l2 (k + 1) y0 y1 y2 y3 y4 y5 y6 y7 y8 y9 y10 y11 y12)) ∧ (∀ y0 y1 y2 y3 y4 y5 y6 y7 y8 y9 y10 y11 y12 y13 y14 y15 y16 y17 y18 y19 y20, LeO (impl_loopsOf.l3 k y0 y1 y2 y3 y4 y5 y6 y7 y8 y9 y10 y11 y12 y13 y14 y15 y16 y17 y18 y19 y20) (impl_loopsOf.l3 (k + 1) y0 y1 y2 y3 y4 y5 y6 y7 y8 y9 y10 y11 y12 y13 y14 y15 y16 y17 y18 y19 y20))
  | 0 => ⟨fun _ _ _ _ _ _ _ _ r h => by simp [impl_loopsOf.l0] at h, fun _ _ _ _ _ _ _ _ _ _ _ r h => by simp [impl_loopsOf.l1] at h, fun _ _ _ _ _ _ _ _ _ _ _ _ _ r h => by simp [impl_loopsOf.l2] at h, fun _ _ _ _ _ _ _ _ _ _ _ _ _ _ _ _ _ _ _ _ _ r h => by simp [impl_loopsOf.l3] at h⟩
  | k + 1 => by
    obtain ⟨ih0, ih1, ih2, ih3⟩ := impl_loopsOf.mono_l k
    refine ⟨?_, ?_, ?_, ?_⟩
    · intro y0 y1 y2 y3 y4 y5 y6 y7
      unfold impl_loopsOf.l0
      repeat' first
      | (with_reducible exact ih0 _ _ _ _ _ _ _ _)
      | (with_reducible exact ih1 _ _ _ _ _ _ _ _ _ _ _)
      | (with_reducible exact ih2 _ _ _ _ _ _ _ _ _ _ _ _ _)
      | (with_reducible exact ih3 _ _ _ _ _ _ _ _ _ _ _ _ _ _ _ _ _ _ _ _ _)
      | (with_reducible exact impl_CountWorlds.mono _ _ _ _)
      | (with_reducible exact impl_digits.mono _ _ _)
      | (with_reducible exact LeO.refl _)
      | (with_reducible exact LeO.none _)
      | (with_reducible refine LeO.ite ?_ ?_)
      | (with_reducible refine LeO.bind ?_ (fun _ => ?_))
      | exact ih0 _ _ _ _ _ _ _ _
      | exact ih1 _ _ _ _ _ _ _ _ _ _ _
      | exact ih2 _ _ _ _ _ _ _ _ _ _ _ _ _
      | exact ih3 _ _ _ _ _ _ _ _ _ _ _ _ _ _ _ _ _ _ _ _ _
      | exact impl_CountWorlds.mono _ _ _ _
      | exact impl_digits.mono _ _ _
      | exact LeO.none _
      | refine LeO.ite ?_ ?_
      | refine LeO.bind ?_ (fun _ => ?_)
    · intro y0 y1 y2 y3 y4 y5 y6 y7 y8 y9 y10
      unfold impl_loopsOf.l1
      repeat' first
      | (with_reducible exact ih0 _ _ _ _ _ _ _ _)
      | (with_reducible exact ih1 _ _ _ _ _ _ _ _ _ _ _)
      | (with_reducible exact ih2 _ _ _ _ _ _ _ _ _ _ _ _ _)
      | (with_reducible exact ih3 _ _ _ _ _ _ _ _ _ _ _ _ _ _ _ _ _ _ _ _ _)
      | (with_reducible exact impl_CountWorlds.mono _ _ _ _)
      | (with_reducible exact impl_digits.mono _ _ _)
      | (with_reducible exact LeO.refl _)
      | (with_reducible exact LeO.none _)
      | (with_reducible refine LeO.ite ?_ ?_)
      | (with_reducible refine LeO.bind ?_ (fun _ => ?_))
      | exact ih0 _ _ _ _ _ _ _ _
      | exact ih1 _ _ _ _ _ _ _ _ _ _ _
      | exact ih2 _ _ _ _ _ _ _ _ _ _ _ _ _
      | exact ih3 _ _ _ _ _ _ _ _ _ _ _ _ _ _ _ _ _ _ _ _ _
      | exact impl_CountWorlds.mono _ _ _ _
      | exact impl_digits.mono _ _ _
      | exact LeO.none _
      | refine LeO.ite ?_ ?_
      | refine LeO.bind ?_ (fun _ => ?_)
    · intro y0 y1 y2 y3 y4 y5 y6 y7 y8 y9 y10 y11 y12
      unfold impl_loopsOf.l2
      repeat' first
      | (with_reducible exact ih0 _ _ _ _ _ _ _ _)
      | (with_reducible exact ih1 _ _ _ _ _ _ _ _ _ _ _)
      | (with_reducible exact ih2 _ _ _ _ _ _ _ _ _ _ _ _ _)
      | (with_reducible exact ih3 _ _ _ _ _ _ _ _ _ _ _ _ _ _ _ _ _ _ _ _ _)
      | (with_reducible exact impl_CountWorlds.mono _ _ _ _)
      | (with_reducible exact impl_digits.mono _ _ _)
      | (with_reducible exact LeO.refl _)
      | (with_reducible exact LeO.none _)
      | (with_reducible refine LeO.ite ?_ ?_)
      | (with_reducible refine LeO.bind ?_ (fun _ => ?_))
      | exact ih0 _ _ _ _ _ _ _ _
      | exact ih1 _ _ _ _ _ _ _ _ _ _ _
      | exact ih2 _ _ _ _ _ _ _ _ _ _ _ _ _
      | exact ih3 _ _ _ _ _ _ _ _ _ _ _ _ _ _ _ _ _ _ _ _ _
      | exact impl_CountWorlds.mono _ _ _ _
      | exact impl_digits.mono _ _ _
      | exact LeO.none _
      | refine LeO.ite ?_ ?_
      | refine LeO.bind ?_ (fun _ => ?_)
    · intro y0 y1 y2 y3 y4 y5 y6 y7 y8 y9 y10 y11 y12 y13 y14 y15 y16 y17 y18 y19 y20
      unfold impl_loopsOf.l3
      repeat' first
      | (with_reducible exact ih0 _ _ _ _ _ _ _ _)
      | (with_reducible exact ih1 _ _ _ _ _ _ _ _ _ _ _)
      | (with_reducible exact ih2 _ _ _ _ _ _ _ _ _ _ _ _ _)
      | (with_reducible exact ih3 _ _ _ _ _ _ _ _ _ _ _ _ _ _ _ _ _ _ _ _ _)
      | (with_reducible exact impl_CountWorlds.mono _ _ _ _)
      | (with_reducible exact impl_digits.mono _ _ _)
      | (with_reducible exact LeO.refl _)
      | (with_reducible exact LeO.none _)
      | (with_reducible refine LeO.ite ?_ ?_)
      | (with_reducible refine LeO.bind ?_ (fun _ => ?_))
      | exact ih0 _ _ _ _ _ _ _ _
      | exact ih1 _ _ _ _ _ _ _ _ _ _ _
      | exact ih2 _ _ _ _ _ _ _ _ _ _ _ _ _
      | exact ih3 _ _ _ _ _ _ _ _ _ _ _ _ _ _ _ _ _ _ _ _ _
      | exact impl_CountWorlds.mono _ _ _ _
      | exact impl_digits.mono _ _ _
      | exact LeO.none _
      | refine LeO.ite ?_ ?_
      | refine LeO.bind ?_ (fun _ => ?_)
theorem impl_loopsOf.mono : ∀ a0 a1 a2 k, LeO (impl_loopsOf.f k a0 a1 a2) (impl_loopsOf.f (k + 1) a0 a1 a2) := by
  intro a0 a1 a2 k
  obtain ⟨ih0, ih1, ih2, ih3⟩ := impl_loopsOf.mono_l k
  unfold impl_loopsOf.f
  repeat' first
      | (with_reducible exact ih0 _ _ _ _ _ _ _ _)
      | (with_reducible exact ih1 _ _ _ _ _ _ _ _ _ _ _)
      | (with_reducible exact ih2 _ _ _ _ _ _ _ _ _ _ _ _ _)
      | (with_reducible exact ih3 _ _ _ _ _ _ _ _ _ _ _ _ _ _ _ _ _ _ _ _ _)
      | (with_reducible exact impl_CountWorlds.mono _ _ _ _)
      | (with_reducible exact impl_digits.mono _ _ _)
      | (with_reducible exact LeO.refl _)
      | (with_reducible exact LeO.none _)
      | (with_reducible refine LeO.ite ?_ ?_)
      | (with_reducible refine LeO.bind ?_ (fun _ => ?_))
      | exact ih0 _ _ _ _ _ _ _ _
      | exact ih1 _ _ _ _ _ _ _ _ _ _ _
      | exact ih2 _ _ _ _ _ _ _ _ _ _ _ _ _
      | exact ih3 _ _ _ _ _ _ _ _ _ _ _ _ _ _ _ _ _ _ _ _ _
      | exact impl_CountWorlds.mono _ _ _ _
      | exact impl_digits.mono _ _ _
      | exact LeO.none _
      | refine LeO.ite ?_ ?_
      | refine LeO.bind ?_ (fun _ => ?_)
def impl_loopsOf.T14 : Bool × List (List Nat × List Nat) := (true, [([], []), ([], []), ([], []), ([], []), ([], []), ([], []), ([4, 5], [4, 5]), ([], []), ([], []), ([7, 8], [7, 8]), ([], []), ([0, 1, 2, 3, 6, 9, 10], [0, 1, 2, 3, 6, 9, 10]), ([], []), ([12, 11, 0, 1, 2, 3, 4, 5, 6, 7, 8, 9, 10, 11, 12], [11, 12]), ([13, 0, 1, 2, 3, 4, 5, 6, 7, 8, 9, 10, 11, 12, 13], [])])
def impl_loopsOf.B14 : List Nat := [0, 0, 0, 0, 0, 0, 48, 0, 0, 384, 0, 2047, 0, 8191, 16383]
theorem impl_loopsOf.tab14 : rtab .any (opsOf Tryd.f17 14) = impl_loopsOf.T14 := by kernel_rfl
theorem impl_loopsOf.bits14 : waitsOk impl_loopsOf.T14.2 impl_loopsOf.B14 = true := by kernel_rfl
set_option maxHeartbeats 8000000 in
set_option maxRecDepth 100000 in
theorem impl_loopsOf.calls (k : Nat) (a0 : ByteArray) (a1 : Int) (a2 : Int) (r1 : List Int) (r2 : Bool) (w : World) (h : impl_loopsOf.f k a0 a1 a2 = some (r1, r2)) :
    Calls Tryd.prog 17 #[.string a0, .int .i64 a1, .int .i64 a2] w fun e w' => ∃ v0_ : Value, e = .returned (.tuple #[v0_, .bool r2]) ∧ Kd.R (Kd.int .i64) 3 w' w.heap.size (fun _ => True) v0_ r1 ∧ Below w.heap.size w w' := by
  have hu41 := Tryd.underlying41
  have HB := Aside0.mk (Below.refl w.heap.size w)
  have H : ((impl_CountWorlds.f k a0 a1 a2).bind fun bt159 => (if bt159.2 = true then ((impl_digits.f k (a0.size : Int) (wrap64 (a1 * a2))).bind fun t164 => (impl_loopsOf.l0 k a0 a1 a2 (([] : List Int)) (0, .map []) t164 (t164.length : Int) 0)) else (some (([] : List Int), false)))) = some (r1, r2) := h
  clear h
  replace H := Option.bind_eq_some_iff.mp H
  obtain ⟨⟨t159, t160⟩, A40, H⟩ := H
  replace H : (if t160 = true then ((impl_digits.f k (a0.size : Int) (wrap64 (a1 * a2))).bind fun t164 => (impl_loopsOf.l0 k a0 a1 a2 (([] : List Int)) (0, .map []) t164 (t164.length : Int) 0)) else (some (([] : List Int), false))) = some (r1, r2) := H
  have A4 := Aside0.mk A40
  clear A40
  by_cases c5 : t160 = true
  · subst c5
    have H1 : ((impl_digits.f k (a0.size : Int) (wrap64 (a1 * a2))).bind fun t164 => (impl_loopsOf.l0 k a0 a1 a2 (([] : List Int)) (0, .map []) t164 (t164.length : Int) 0)) = some (r1, r2) := by rw [if_pos rfl] at H; exact H
    clear H
    have H := H1
    clear H1
    obtain ⟨y161, hy161⟩ : ∃ y_ : List Int, y_ = (([] : List Int)) := ⟨_, rfl⟩
    replace H : ((impl_digits.f k (a0.size : Int) (wrap64 (a1 * a2))).bind fun t164 => (impl_loopsOf.l0 k a0 a1 a2 y161 (0, .map []) t164 (t164.length : Int) 0)) = some (r1, r2) := by first | (rw [hy161]; with_reducible exact H) | (have H2_ := (Option.bind_some _ _).symm.trans H; rw [hy161]; with_reducible exact H2_) | (have H2_ := (Option.bind_some _ _).symm.trans H; with_reducible exact H2_) | with_reducible exact H | (rw [hy161]; exact H) | exact H
    have Ny161 := Aside0.mk hy161
    clear hy161
    replace H := Option.bind_eq_some_iff.mp H
    obtain ⟨t164, A60, H⟩ := H
    replace H : (impl_loopsOf.l0 k a0 a1 a2 y161 (0, .map []) t164 (t164.length : Int) 0) = some (r1, r2) := H
    have A6 := Aside0.mk A60
    clear A60
    have H' := Aside0.mk H
    clear H
    go_enter Tryd.func17, Tryd.ntmps17
    have hmm := @run_makeMap Tryd.prog
    go_wp2_with (first | ((with_reducible refine gate_callee (f := 27) rfl ?_); refine goesL_ (some 22) rfl rfl Tryd.func27 (by kernel_rfl) rfl #[.string a0, .int .i64 a1, .int .i64 a2] rfl (by (try simp only [List.map_toArray, List.map_cons, List.map_nil]); first | done | rfl | (simp only [List.length_drop, List.length_take]; rfl)) ?_; (with_reducible refine (impl_CountWorlds.calls k a0 a1 a2 t159 true _ A4.out).mono ?_); rintro e w7 ⟨rfl, hb⟩; refine ⟨_, rfl, ?_⟩; have n0_ := Aside0.mk (below_step (by repeat (first | (with_reducible first | exact HB.out | apply below_alloc | apply pw_below_drewN | apply below_drew1) | exact HB.out)) hb); clear HB; have HB := n0_; clear n0_; (try clear hb); (try clear hb2); (try clear hk); (try clear hi)) | ((with_reducible refine gate_dst (N := 27) rfl ?_); refine Kd.R_lit (Kd.int .i64) _ 3 ?hg (N := 27) ?hd (xs := ([] : List Int)) (inner := []) (ok := fun _ => True) (okp := fun _ => True) ?hr ?hp (fun _ hk => hk) trivial (Below.refl _ _) (Nat.le_refl _) (by simp) ?_; (case hd => rfl); (case hg => rfl); (case hr => first | (go_simp; done) | (go_simp; rfl)); (case hp => exact (Reps.none _ _)); intro v162 w8 ho9 hb hg_ hnew_; clear hg_ hnew_; (first | rw [← Ny161.out] at ho9 | (simp only [Int.reduceToNat] at ho9; rw [← Ny161.out] at ho9)); have n0_ := Aside0.mk (Kd.R_lower ho9 (below_size (by repeat (first | (with_reducible first | exact HB.out | apply below_alloc | apply pw_below_drewN | apply below_drew1) | exact HB.out)))); have n1_ := Aside0.mk (below_step (by repeat (first | (with_reducible first | exact HB.out | apply below_alloc | apply pw_below_drewN | apply below_drew1) | exact HB.out)) hb); clear HB; have HO163 := n0_; have HB := n1_; clear n0_ n1_; clear hb ho9) | ((with_reducible refine gate_callee (f := 28) rfl ?_); refine goesL_ (some 34) rfl rfl Tryd.func28 (by kernel_rfl) rfl #[.int .i64 (a0.size : Int), .int .i64 (wrap64 (a1 * a2))] rfl (by (try simp only [List.map_toArray, List.map_cons, List.map_nil]); first | done | rfl | (simp only [List.length_drop, List.length_take]; rfl)) ?_; (with_reducible refine (impl_digits.calls k (a0.size : Int) (wrap64 (a1 * a2)) t164 _ A6.out).mono ?_); rintro e w10 ⟨v165, rfl, ho0, hb⟩; refine ⟨_, rfl, ?_⟩; have m0_ := Aside0.mk (impl_loopsOf.om_below (World.ownsMap_made w8 _ _ _ : (w8.alloc (.map #[] 0)).ownsMap Tryd.prog 41 (plainElem (H := Unit) Tryd.prog 4) w8.heap.size 0 (.map [])) hb); have m1_ := Aside0.mk (below_size HB.out : w.heap.size ≤ w8.heap.size); have n0_ := Aside0.mk (Kd.R_below (by (with_reducible repeat (first | apply Kd.R_alloc | apply Kd.R_drewN | apply Kd.R_drew)); exact HO163.out) hb); have n1_ := Aside0.mk (Kd.R_lower ho0 (below_size (by repeat (first | (with_reducible first | exact HB.out | apply below_alloc | apply pw_below_drewN | apply below_drew1) | exact HB.out)))); have n2_ := Aside0.mk (below_step (by repeat (first | (with_reducible first | exact HB.out | apply below_alloc | apply pw_below_drewN | apply below_drew1) | exact HB.out)) hb); clear HO163; clear HB; have HO163 := n0_; have HO166 := n1_; have HB := n2_; clear n0_ n1_ n2_; (try clear hb); (try clear hb2); (try clear hk); (try clear hi); (try clear ho0); obtain ⟨Ao11, co11, eo11⟩ := Kd.R_slice HO166.out; subst eo11))
    clear hmm
    have GM := m1_
    have OM := Aside0.mk (show impl_loopsOf.OMT w10 w8.heap.size (0, .map []) from m0_.out)
    clear m0_ m1_
    generalize w8.heap.size = gm at OM GM ⊢
    go_loopg [10, 36] k (fun kq v10 v36 w' => ∃ (x10_1 : List Int) (M_1 : impl_loopsOf.MD) (x36_1 : Int), v36 = .int .i64 x36_1 ∧ Aside0 (impl_loopsOf.l0 kq a0 a1 a2 x10_1 M_1 t164 (t164.length : Int) x36_1 = some (r1, r2)) ∧ Aside0 (kq ≤ k) ∧ Aside0 (Kd.R (Kd.int .i64) 3 w' w.heap.size (fun _ => True) v10 x10_1) ∧ Aside0 (Kd.R Kd.string 9 w' w.heap.size (fun _ => True) (.slice Ao11 t164.length co11) t164) ∧ Aside0 (impl_loopsOf.OMT w' gm M_1) ∧ Aside0 (Below w.heap.size w w'))
    case atStart => exact ⟨(y161), ((0, .map [])), (0), (by first | rfl | (simp; done) | (simp [*]; done)), H', ⟨Nat.le_refl _⟩, ⟨by (with_reducible repeat (first | apply Kd.R_alloc | apply Kd.R_drewN | apply Kd.R_drew)); exact HO163.out⟩, ⟨by (with_reducible repeat (first | apply Kd.R_alloc | apply Kd.R_drewN | apply Kd.R_drew)); exact HO166.out⟩, OM, ⟨by repeat (first | (with_reducible first | exact HB.out | apply below_alloc | apply pw_below_drewN | apply below_drew1) | exact HB.out)⟩⟩
    case round =>
      clear H'
      try clear c1
      try clear c2
      try clear p2
      try clear c5
      try clear p6
      clear OM
      obtain ⟨x10_1, M_1, x36_1, rfl, HA, HK1, HO_10, HO_34, OM, HB⟩ := hrel
      cases gk with
      | zero => exact absurd HA.out (by simp [impl_loopsOf.l0])
      | succ k1 =>
        have H := HA.out
        clear HA
        simp only [impl_loopsOf.l0] at H
        by_cases c12 : x36_1 < (t164.length : Int)
        · rw [if_pos c12] at H
          have c12b0 : decide (x36_1 < (t164.length : Int)) = true := decide_eq_true c12
          clear c12
          by_cases c13 : 0 ≤ x36_1
          · rw [if_pos c13] at H
            have c13b0 : decide (0 ≤ x36_1) = true := decide_eq_true c13
            clear c13
            by_cases c14 : x36_1 < (t164.length : Int)
            · rw [if_pos c14] at H
              have c14b0 : decide (x36_1 < (t164.length : Int)) = true := decide_eq_true c14
              clear c14
              have H' := Aside0.mk H
              clear H
              have p167 : 0 ≤ (x36_1 : Int) := of_decide_eq_true (by first | (with_reducible assumption) | assumption)
              have q167 : x36_1 < (t164.length : Int) := of_decide_eq_true (by first | (with_reducible assumption) | assumption)
              obtain ⟨ad167, e167, hx167_0⟩ := Kd.at_string (Kd.R_reads' HO_34.out).2.2 x36_1 p167 q167
              cases e167
              replace p167 := eq_true p167
              replace q167 := eq_true q167
              go_wp2
              go_loopg [10, 43] k1 (fun kq v10 v43 w' => ∃ (x10_2 : List Int) (M_2 : impl_loopsOf.MD) (x43_2 : Int), v43 = .int .i64 x43_2 ∧ Aside0 (impl_loopsOf.l1 kq a0 a1 a2 x10_2 M_2 (rdOf ByteArray.empty t164 x36_1) t164 (t164.length : Int) x36_1 (wrap64 (a1 * a2)) x43_2 = some (r1, r2)) ∧ Aside0 (kq ≤ k1) ∧ Aside0 (Kd.R (Kd.int .i64) 3 w' w.heap.size (fun _ => True) v10 x10_2) ∧ Aside0 (Kd.R Kd.string 9 w' w.heap.size (fun _ => True) (.slice (some ad167) t164.length co11) t164) ∧ Aside0 (impl_loopsOf.OMT w' gm M_2) ∧ Aside0 (Below w.heap.size w w'))
              case atStart => exact ⟨(x10_1), M_1, (0), (by first | rfl | (simp; done) | (simp [*]; done)), H', ⟨Nat.le_refl _⟩, ⟨by (with_reducible repeat (first | apply Kd.R_alloc | apply Kd.R_drewN | apply Kd.R_drew)); exact HO_10.out⟩, ⟨by (with_reducible repeat (first | apply Kd.R_alloc | apply Kd.R_drewN | apply Kd.R_drew)); exact HO_34.out⟩, OM, ⟨by repeat (first | (with_reducible first | exact HB.out | apply below_alloc | apply pw_below_drewN | apply below_drew1) | exact HB.out)⟩⟩
              case round =>
                clear H'
                try clear c1
                try clear p1
                try clear q1
                try clear hx1
                try clear c2
                try clear p2
                try clear c5
                try clear p6
                try clear c12
                try clear c12b0
                try clear c13
                try clear c13b0
                try clear c14
                try clear c14b0
                try clear hx167_0
                try clear p167
                try clear p2
                try clear p6
                try clear q167
                clear OM
                obtain ⟨x10_2, M_2, x43_2, rfl, HA, HK2, HO_10, HO_34, OM, HB⟩ := hrel
                cases gk with
                | zero => exact absurd HA.out (by simp [impl_loopsOf.l1])
                | succ k2 =>
                  have H := HA.out
                  clear HA
                  simp only [impl_loopsOf.l1] at H
                  by_cases c15 : x43_2 < (wrap64 (a1 * a2))
                  · rw [if_pos c15] at H
                    have c15b0 : decide (x43_2 < (wrap64 (a1 * a2))) = true := decide_eq_true c15
                    clear c15
                    have H' := Aside0.mk H
                    clear H
                    go_wp2
                    go_loopg [10, 46] k2 (fun kq v10 v46 w' => ∃ (x10_3 : List Int) (M_3 : impl_loopsOf.MD) (x46_3 : Int), v46 = .int .i64 x46_3 ∧ Aside0 (impl_loopsOf.l2 kq a0 a1 a2 x10_3 M_3 (rdOf ByteArray.empty t164 x36_1) x43_2 t164 (t164.length : Int) x36_1 (wrap64 (a1 * a2)) x43_2 x46_3 = some (r1, r2)) ∧ Aside0 (kq ≤ k2) ∧ Aside0 (Kd.R (Kd.int .i64) 3 w' w.heap.size (fun _ => True) v10 x10_3) ∧ Aside0 (Kd.R Kd.string 9 w' w.heap.size (fun _ => True) (.slice (some ad167) t164.length co11) t164) ∧ Aside0 (impl_loopsOf.OMT w' gm M_3) ∧ Aside0 (Below w.heap.size w w'))
                    case atStart => exact ⟨(x10_2), M_2, (0), (by first | rfl | (simp; done) | (simp [*]; done)), H', ⟨Nat.le_refl _⟩, ⟨by (with_reducible repeat (first | apply Kd.R_alloc | apply Kd.R_drewN | apply Kd.R_drew)); exact HO_10.out⟩, ⟨by (with_reducible repeat (first | apply Kd.R_alloc | apply Kd.R_drewN | apply Kd.R_drew)); exact HO_34.out⟩, OM, ⟨by repeat (first | (with_reducible first | exact HB.out | apply below_alloc | apply pw_below_drewN | apply below_drew1) | exact HB.out)⟩⟩
                    case round =>
                      clear H'
                      try clear c1
                      try clear p1
                      try clear q1
                      try clear hx1
                      try clear c2
                      try clear p2
                      try clear c5
                      try clear p6
                      try clear c12
                      try clear c12b0
                      try clear c13
                      try clear c13b0
                      try clear c14
                      try clear c14b0
                      try clear c15
                      try clear c15b0
                      try clear hx167_0
                      try clear p1
                      try clear p167
                      try clear p2
                      try clear p6
                      try clear q1
                      try clear q167
                      clear OM
                      obtain ⟨x10_3, M_3, x46_3, rfl, HA, HK3, HO_10, HO_34, OM, HB⟩ := hrel
                      cases gk with
                      | zero => exact absurd HA.out (by simp [impl_loopsOf.l2])
                      | succ k3 =>
                        have H := HA.out
                        clear HA
                        simp only [impl_loopsOf.l2] at H
                        by_cases c16 : x46_3 < 4
                        · rw [if_pos c16] at H
                          have c16b0 : decide (x46_3 < 4) = true := decide_eq_true c16
                          clear c16
                          by_cases c17 : a1 = 0
                          · rw [if_pos c17] at H
                            exact absurd H (by simp)
                          · rw [if_neg c17] at H
                            have c17b0 : (a1 == 0) = false := beq_eq_false_iff_ne.mpr c17
                            have c17b1 : (a1 != 0) = true := bne_iff_ne.mpr c17
                            have H' := Aside0.mk H
                            clear H
                            try go_wp2
                            have n0_ := Aside0.mk (Kd.R_drew HO_10.out)
                            have n1_ := Aside0.mk (Kd.R_drew HO_34.out)
                            have n2_ := Aside0.mk (below_drew1 HB.out)
                            clear HO_10
                            clear HO_34
                            clear HB
                            have HO_10 := n0_
                            have HO_34 := n1_
                            have HB := n2_
                            clear n0_ n1_ n2_
                            have m_ := Aside0.mk (impl_loopsOf.om_drew OM.out)
                            clear OM
                            have OM := m_
                            clear m_
                            refine start_ (n := 15) (S := fun w' => True) (ds := []) #[false, false, false, false, false, false, false, false, false, false, false, false, false, false, false] (by kernel_rfl) rfl rfl trivial (fun hHeld => ?_); refine with_tabW impl_loopsOf.tab14 impl_loopsOf.bits14 (fun HT_ HW_ => ?_)
                            generalize wr.drew = w18 at HO_10 HO_34 OM HB hHeld ⊢
                            refine pure_ (i := 0) (N := some 49) (v := ?_) (a' := ?_) #[true, false, false, false, false, false, false, false, false, false, false, false, false, false, false] rfl rfl (any_of HT_.out (by kernel_rfl)) (fun _ _ _ h => h) (Or.inl ⟨by rfl, ?_⟩) ?_ ?_
                            rotate_left
                            · intro w'
                              go_simp
                              with_reducible rfl
                            rotate_left
                            · simp only [Act.put, List.setIfInBounds_toArray, List.set_cons_zero, List.set_cons_succ, i64_w, i32_w]
                              rfl
                            refine pure_ (i := 1) (N := some 50) (v := ?_) (a' := ?_) #[true, true, false, false, false, false, false, false, false, false, false, false, false, false, false] rfl rfl (any_of HT_.out (by kernel_rfl)) (fun _ _ _ h => h) (Or.inl ⟨by rfl, ?_⟩) ?_ ?_
                            rotate_left
                            · intro w'
                              go_simp
                              with_reducible rfl
                            rotate_left
                            · simp only [Act.put, List.setIfInBounds_toArray, List.set_cons_zero, List.set_cons_succ, i64_w, i32_w]
                              rfl
                            refine pure_ (i := 2) (N := some 51) (v := ?_) (a' := ?_) #[true, true, true, false, false, false, false, false, false, false, false, false, false, false, false] rfl rfl (any_of HT_.out (by kernel_rfl)) (fun _ _ _ h => h) (Or.inl ⟨by rfl, ?_⟩) ?_ ?_
                            rotate_left
                            · intro w'
                              go_simp
                              with_reducible rfl
                            rotate_left
                            · simp only [Act.put, List.setIfInBounds_toArray, List.set_cons_zero, List.set_cons_succ, i64_w, i32_w]
                              rfl
                            refine pure_ (i := 3) (N := some 52) (v := ?_) (a' := ?_) #[true, true, true, true, false, false, false, false, false, false, false, false, false, false, false] rfl rfl (any_of HT_.out (by kernel_rfl)) (fun _ _ _ h => h) (Or.inl ⟨by rfl, ?_⟩) ?_ ?_
                            rotate_left
                            · intro w'
                              go_simp
                              with_reducible rfl
                            rotate_left
                            · simp only [Act.put, List.setIfInBounds_toArray, List.set_cons_zero, List.set_cons_succ, i64_w, i32_w]
                              rfl
                            refine pure_ (i := 4) (N := some 53) (v := ?_) (a' := ?_) #[true, true, true, true, true, false, false, false, false, false, false, false, false, false, false] rfl rfl (any_of HT_.out (by kernel_rfl)) (fun _ _ _ h => h) (Or.inl ⟨by rfl, ?_⟩) ?_ ?_
                            rotate_left
                            · intro w'
                              go_simp
                              with_reducible rfl
                            rotate_left
                            · simp only [Act.put, List.setIfInBounds_toArray, List.set_cons_zero, List.set_cons_succ, i64_w, i32_w]
                              rfl
                            refine pure_ (i := 5) (N := some 54) (v := ?_) (a' := ?_) #[true, true, true, true, true, true, false, false, false, false, false, false, false, false, false] rfl rfl (any_of HT_.out (by kernel_rfl)) (fun _ _ _ h => h) (Or.inl ⟨by rfl, ?_⟩) ?_ ?_
                            rotate_left
                            · intro w'
                              go_simp
                              with_reducible rfl
                            rotate_left
                            · simp only [Act.put, List.setIfInBounds_toArray, List.set_cons_zero, List.set_cons_succ, i64_w, i32_w]
                              rfl
                            refine pure_ (i := 6) (N := some 55) (v := ?_) (a' := ?_) #[true, true, true, true, true, true, true, false, false, false, false, false, false, false, false] rfl rfl (any_of HT_.out (by kernel_rfl)) (fun _ _ _ h => h) (Or.inl ⟨by rfl, ?_⟩) ?_ ?_
                            rotate_left
                            · intro w'
                              go_simp
                              with_reducible rfl
                            rotate_left
                            · simp only [Act.put, List.setIfInBounds_toArray, List.set_cons_zero, List.set_cons_succ, i64_w, i32_w]
                              rfl
                            refine pure_ (i := 7) (N := some 56) (v := ?_) (a' := ?_) #[true, true, true, true, true, true, true, true, false, false, false, false, false, false, false] rfl rfl (any_of HT_.out (by kernel_rfl)) (fun _ _ _ h => h) (Or.inl ⟨by rfl, ?_⟩) ?_ ?_
                            rotate_left
                            · intro w'
                              go_simp
                              with_reducible rfl
                            rotate_left
                            · simp only [Act.put, List.setIfInBounds_toArray, List.set_cons_zero, List.set_cons_succ, i64_w, i32_w]
                              rfl
                            refine pure_ (i := 8) (N := some 57) (v := ?_) (a' := ?_) #[true, true, true, true, true, true, true, true, true, false, false, false, false, false, false] rfl rfl (any_of HT_.out (by kernel_rfl)) (fun _ _ _ h => h) (Or.inl ⟨by rfl, ?_⟩) ?_ ?_
                            rotate_left
                            · intro w'
                              go_simp
                              with_reducible rfl
                            rotate_left
                            · simp only [Act.put, List.setIfInBounds_toArray, List.set_cons_zero, List.set_cons_succ, i64_w, i32_w]
                              rfl
                            refine pure_ (i := 9) (N := some 58) (v := ?_) (a' := ?_) #[true, true, true, true, true, true, true, true, true, true, false, false, false, false, false] rfl rfl (any_of HT_.out (by kernel_rfl)) (fun _ _ _ h => h) (Or.inl ⟨by rfl, ?_⟩) ?_ ?_
                            rotate_left
                            · intro w'
                              go_simp
                              with_reducible rfl
                            rotate_left
                            · simp only [Act.put, List.setIfInBounds_toArray, List.set_cons_zero, List.set_cons_succ, i64_w, i32_w]
                              rfl
                            refine pure_ (i := 10) (N := some 59) (v := ?_) (a' := ?_) #[true, true, true, true, true, true, true, true, true, true, true, false, false, false, false] rfl rfl (any_of HT_.out (by kernel_rfl)) (fun _ _ _ h => h) (Or.inl ⟨by rfl, ?_⟩) ?_ ?_
                            rotate_left
                            · intro w'
                              go_simp
                              with_reducible rfl
                            rotate_left
                            · simp only [Act.put, List.setIfInBounds_toArray, List.set_cons_zero, List.set_cons_succ, i64_w, i32_w]
                              rfl
                            refine pure_ (i := 11) (N := some 60) (v := ?_) (a' := ?_) #[true, true, true, true, true, true, true, true, true, true, true, true, false, false, false] rfl rfl (any_of HT_.out (by kernel_rfl)) (fun _ _ _ h => h) (Or.inl ⟨by rfl, ?_⟩) ?_ ?_
                            rotate_left
                            · intro w'
                              go_simp
                              with_reducible rfl
                            rotate_left
                            · simp only [Act.put, List.setIfInBounds_toArray, List.set_cons_zero, List.set_cons_succ, i64_w, i32_w]
                              rfl
                            refine one_ (i := 12) (N := some 16) #[true, true, true, true, true, true, true, true, true, true, true, true, true, false, false] rfl rfl (one_of HT_.out (by kernel_rfl)) (by decide) (fun K hK => ?_)
                            refine box_step ?hg (N := 16) ?hd (cs := #[.string (⟨#[]⟩ : ByteArray), .int .i64 0, .int .i64 0, .string (⟨#[]⟩ : ByteArray), .int .i64 0, .int .i64 0, .int .i64 0]) (t := 41) ?hr ?_; (case hd => rfl); (case hg => rfl); (case hr => first | (go_simp; done) | (go_simp; rfl))
                            intro gb168 hg w19 hbox hb
                            have n0_ := Aside0.mk (Kd.R_below (by (with_reducible repeat (first | apply Kd.R_alloc | apply Kd.R_drewN | apply Kd.R_drew)); exact HO_10.out) hb)
                            have n1_ := Aside0.mk (Kd.R_below (by (with_reducible repeat (first | apply Kd.R_alloc | apply Kd.R_drewN | apply Kd.R_drew)); exact HO_34.out) hb)
                            have n2_ := Aside0.mk (below_step (by repeat (first | (with_reducible first | exact HB.out | apply below_alloc | apply pw_below_drewN | apply below_drew1) | exact HB.out)) hb)
                            have n3_ := Aside0.mk (hbox)
                            have n4_ := Aside0.mk ((by rw [hg]; exact (below_size (by repeat (first | (with_reducible first | exact HB.out | apply below_alloc | apply pw_below_drewN | apply below_drew1) | exact HB.out))) : w.heap.size ≤ gb168))
                            have n5_ := Aside0.mk ((by rw [hg]; exact (below_size (by repeat (first | (with_reducible first | exact HB.out | apply below_alloc | apply pw_below_drewN | apply below_drew1) | exact HB.out))) : w.heap.size ≤ gb168))
                            clear HO_10
                            clear HO_34
                            clear HB
                            have HO_10 := n0_
                            have HO_34 := n1_
                            have HB := n2_
                            have BK168 := n3_
                            have GW168 := n4_
                            have GE168 := n5_
                            clear n0_ n1_ n2_ n3_ n4_ n5_
                            have m_ := Aside0.mk (impl_loopsOf.om_below OM.out hb)
                            clear OM
                            have OM := m_
                            clear m_
                            clear hb hbox hg
                            refine hK.out _ _ trivial (fun hHeld => ?_)
                            clear hK K
                            refine norm_ (a' := ?_) ?_ ?_
                            rotate_left
                            · show Act.put _ (some 16) _ = _
                              simp only [Act.put, List.setIfInBounds_toArray, List.set_cons_zero, List.set_cons_succ, i64_w, i32_w]
                              rfl
                            refine one_ (i := 13) (N := none) #[true, true, true, true, true, true, true, true, true, true, true, true, true, true, false] rfl rfl (one_of HT_.out (by kernel_rfl)) (by decide) (fun K hK => ?_)
                            have hs20 : w19.cell? ⟨gb168, 0, none⟩ = some (.string (⟨#[]⟩ : ByteArray)) := (blk_cell BK168.out 0).trans rfl
                            have hfs20 := blk_frozen BK168.out 0
                            have hs21 : w19.cell? ⟨gb168, 1, none⟩ = some (.int .i64 0) := (blk_cell BK168.out 1).trans rfl
                            have hfs21 := blk_frozen BK168.out 1
                            have hs22 : w19.cell? ⟨gb168, 2, none⟩ = some (.int .i64 0) := (blk_cell BK168.out 2).trans rfl
                            have hfs22 := blk_frozen BK168.out 2
                            have hs23 : w19.cell? ⟨gb168, 3, none⟩ = some (.string (⟨#[]⟩ : ByteArray)) := (blk_cell BK168.out 3).trans rfl
                            have hfs23 := blk_frozen BK168.out 3
                            have hs24 : w19.cell? ⟨gb168, 4, none⟩ = some (.int .i64 0) := (blk_cell BK168.out 4).trans rfl
                            have hfs24 := blk_frozen BK168.out 4
                            have hs25 : w19.cell? ⟨gb168, 5, none⟩ = some (.int .i64 0) := (blk_cell BK168.out 5).trans rfl
                            have hfs25 := blk_frozen BK168.out 5
                            have hs26 : w19.cell? ⟨gb168, 6, none⟩ = some (.int .i64 0) := (blk_cell BK168.out 6).trans rfl
                            have hfs26 := blk_frozen BK168.out 6
                            refine skip_ (w1 := ?_) (by rfl) rfl ?_ ?_
                            rotate_left
                            · go_simp
                              rfl
                            refine hK.out _ _ trivial (fun hHeld => ?_)
                            clear hK K
                            refine pure_ (i := 14) (N := some 17) (v := ?_) (a' := ?_) #[true, true, true, true, true, true, true, true, true, true, true, true, true, true, true] rfl rfl (any_of HT_.out (by kernel_rfl)) (fun _ _ _ h => h) (Or.inl ⟨by rfl, ?_⟩) ?_ ?_
                            rotate_left
                            · intro w'
                              go_simp
                              with_reducible rfl
                            rotate_left
                            · simp only [Act.put, List.setIfInBounds_toArray, List.set_cons_zero, List.set_cons_succ, i64_w, i32_w]
                              rfl
                            refine done_ (done_of HT_.out (by kernel_rfl)) ?_
                            try go_wp2
                            go_loopg [17] k3 (fun kq v17 w' => ∃ (M_4 : impl_loopsOf.MD) (x17_4 : Int) (x169000_4 : ByteArray) (x169001_4 : Int) (x169002_4 : Int) (x169003_4 : ByteArray) (x169004_4 : Int) (x169005_4 : Int) (x169006_4 : Int), v17 = .int .i64 x17_4 ∧ Aside0 (impl_loopsOf.l3 kq a0 a1 a2 x10_3 M_4 (rdOf ByteArray.empty t164 x36_1) x43_2 x17_4 t164 (t164.length : Int) x36_1 (wrap64 (a1 * a2)) x43_2 x46_3 x169000_4 x169001_4 x169002_4 x169003_4 x169004_4 x169005_4 x169006_4 = some (r1, r2)) ∧ Aside0 (kq ≤ k3) ∧ Aside0 (Kd.R (Kd.int .i64) 3 w' w.heap.size (fun _ => True) u10 x10_3) ∧ Aside0 (Kd.R Kd.string 9 w' w.heap.size (fun _ => True) (.slice (some ad167) t164.length co11) t164) ∧ Aside0 (w'.heap[gb168]? = some (.cells #[.string x169000_4, .int .i64 x169001_4, .int .i64 x169002_4, .string x169003_4, .int .i64 x169004_4, .int .i64 x169005_4, .int .i64 x169006_4] 41 (0, 0))) ∧ Aside0 (impl_loopsOf.OMT w' gm M_4) ∧ Aside0 (Below w.heap.size w w'))
                            case atStart => exact ⟨M_3, (0), (a0), (a1), (a2), ((rdOf ByteArray.empty t164 x36_1)), (Int.tmod x43_2 a1), (wrap64 (Int.tdiv x43_2 a1)), (x46_3), (by first | rfl | (simp; done) | (simp [*]; done)), H', ⟨Nat.le_refl _⟩, ⟨by (with_reducible repeat (first | apply Kd.R_alloc | apply Kd.R_drewN | apply Kd.R_drew)); exact Kd.R_mono (Kd.R_far (p := ⟨gb168, 6, none⟩) (Kd.R_far (p := ⟨gb168, 5, none⟩) (Kd.R_far (p := ⟨gb168, 4, none⟩) (Kd.R_far (p := ⟨gb168, 3, none⟩) (Kd.R_far (p := ⟨gb168, 2, none⟩) (Kd.R_far (p := ⟨gb168, 1, none⟩) (Kd.R_far (p := ⟨gb168, 0, none⟩) (Kd.R_types HO_10.out BK168.out (by decide)) (fun _ hk => hk.2) (.string a0)) (fun _ hk => hk.2) (.int .i64 a1)) (fun _ hk => hk.2) (.int .i64 a2)) (fun _ hk => hk.2) (.string (rdOf ByteArray.empty t164 x36_1))) (fun _ hk => hk.2) (.int .i64 (Int.tmod x43_2 a1))) (fun _ hk => hk.2) (.int .i64 (wrap64 (Int.tdiv x43_2 a1)))) (fun _ hk => hk.2) (.int .i64 x46_3)) (fun _ hk => trivial)⟩, ⟨by (with_reducible repeat (first | apply Kd.R_alloc | apply Kd.R_drewN | apply Kd.R_drew)); exact Kd.R_mono (Kd.R_far (p := ⟨gb168, 6, none⟩) (Kd.R_far (p := ⟨gb168, 5, none⟩) (Kd.R_far (p := ⟨gb168, 4, none⟩) (Kd.R_far (p := ⟨gb168, 3, none⟩) (Kd.R_far (p := ⟨gb168, 2, none⟩) (Kd.R_far (p := ⟨gb168, 1, none⟩) (Kd.R_far (p := ⟨gb168, 0, none⟩) (Kd.R_types HO_34.out BK168.out (by decide)) (fun _ hk => hk.2) (.string a0)) (fun _ hk => hk.2) (.int .i64 a1)) (fun _ hk => hk.2) (.int .i64 a2)) (fun _ hk => hk.2) (.string (rdOf ByteArray.empty t164 x36_1))) (fun _ hk => hk.2) (.int .i64 (Int.tmod x43_2 a1))) (fun _ hk => hk.2) (.int .i64 (wrap64 (Int.tdiv x43_2 a1)))) (fun _ hk => hk.2) (.int .i64 x46_3)) (fun _ hk => trivial)⟩, ⟨by (with_reducible repeat (first | refine blk_drewN ?_ _ | refine blk_drew ?_ | refine blk_alloc ?_ _)); refine blk_put (cs := #[.string a0, .int .i64 a1, .int .i64 a2, .string (rdOf ByteArray.empty t164 x36_1), .int .i64 (Int.tmod x43_2 a1), .int .i64 (wrap64 (Int.tdiv x43_2 a1)), .int .i64 0]) ?_ 6 _ rfl; (with_reducible repeat (first | refine blk_drewN ?_ _ | refine blk_drew ?_ | refine blk_alloc ?_ _)); refine blk_put (cs := #[.string a0, .int .i64 a1, .int .i64 a2, .string (rdOf ByteArray.empty t164 x36_1), .int .i64 (Int.tmod x43_2 a1), .int .i64 0, .int .i64 0]) ?_ 5 _ rfl; (with_reducible repeat (first | refine blk_drewN ?_ _ | refine blk_drew ?_ | refine blk_alloc ?_ _)); refine blk_put (cs := #[.string a0, .int .i64 a1, .int .i64 a2, .string (rdOf ByteArray.empty t164 x36_1), .int .i64 0, .int .i64 0, .int .i64 0]) ?_ 4 _ rfl; (with_reducible repeat (first | refine blk_drewN ?_ _ | refine blk_drew ?_ | refine blk_alloc ?_ _)); refine blk_put (cs := #[.string a0, .int .i64 a1, .int .i64 a2, .string (⟨#[]⟩ : ByteArray), .int .i64 0, .int .i64 0, .int .i64 0]) ?_ 3 _ rfl; (with_reducible repeat (first | refine blk_drewN ?_ _ | refine blk_drew ?_ | refine blk_alloc ?_ _)); refine blk_put (cs := #[.string a0, .int .i64 a1, .int .i64 0, .string (⟨#[]⟩ : ByteArray), .int .i64 0, .int .i64 0, .int .i64 0]) ?_ 2 _ rfl; (with_reducible repeat (first | refine blk_drewN ?_ _ | refine blk_drew ?_ | refine blk_alloc ?_ _)); refine blk_put (cs := #[.string a0, .int .i64 0, .int .i64 0, .string (⟨#[]⟩ : ByteArray), .int .i64 0, .int .i64 0, .int .i64 0]) ?_ 1 _ rfl; (with_reducible repeat (first | refine blk_drewN ?_ _ | refine blk_drew ?_ | refine blk_alloc ?_ _)); refine blk_put (cs := #[.string (⟨#[]⟩ : ByteArray), .int .i64 0, .int .i64 0, .string (⟨#[]⟩ : ByteArray), .int .i64 0, .int .i64 0, .int .i64 0]) ?_ 0 _ rfl; (with_reducible repeat (first | refine blk_drewN ?_ _ | refine blk_drew ?_ | refine blk_alloc ?_ _)); exact BK168.out⟩, ⟨by (repeat (refine World.ownsMap.setCell ?_ (impl_loopsOf.om_ne OM.out BK168.out) _)); exact OM.out⟩, ⟨by repeat (first | (with_reducible first | exact HB.out | apply below_alloc | apply pw_below_drewN | apply below_drew1 | refine below_set ?_ GE168.out) | exact HB.out)⟩⟩
                            case round =>
                              clear H'
                              try clear c1
                              try clear p1
                              try clear q1
                              try clear hx1
                              try clear c2
                              try clear p2
                              try clear c5
                              try clear p6
                              try clear c12
                              try clear c12b0
                              try clear c13
                              try clear c13b0
                              try clear c14
                              try clear c14b0
                              try clear c15
                              try clear c15b0
                              try clear c16
                              try clear c16b0
                              try clear p16
                              try clear q16
                              try clear hx16
                              try clear c17
                              try clear c17b0
                              try clear c17b1
                              try clear hx167_0
                              try clear p1
                              try clear p167
                              try clear p2
                              try clear p6
                              try clear q1
                              try clear q167
                              clear OM
                              obtain ⟨M_4, x17_4, x169000_4, x169001_4, x169002_4, x169003_4, x169004_4, x169005_4, x169006_4, rfl, HA, HK4, HO_10, HO_34, BK168, OM, HB⟩ := hrel
                              cases gk with
                              | zero => exact absurd HA.out (by simp [impl_loopsOf.l3])
                              | succ k4 =>
                                have H := HA.out
                                clear HA
                                simp only [impl_loopsOf.l3] at H
                                by_cases cw : impl_loopsOf.Wf x169000_4 x169001_4 x169002_4 x169003_4 x169004_4 x169005_4 x169006_4
                                case neg => rw [if_neg cw] at H; exact absurd H (by simp)
                                rw [if_pos cw] at H
                                have hkey := Aside0.mk (impl_loopsOf.key_of cw)
                                clear cw
                                by_cases c27 : impl_loopsOf.at_ M_4.2 (impl_loopsOf.kw x169000_4 x169001_4 x169002_4 x169003_4 x169004_4 x169005_4 x169006_4) = true
                                · rw [if_pos c27] at H
                                  have hat_ := Aside0.mk c27
                                  clear c27
                                  by_cases c28 : x17_4 > 0
                                  · rw [if_pos c28] at H
                                    have c28b0 : decide (0 < x17_4) = true := decide_eq_true c28
                                    clear c28
                                    by_cases c29 : x10_3.length < 17592186044416
                                    · rw [if_pos c29] at H
                                      have LMc29 := Aside0.mk c29
                                      clear c29
                                      obtain ⟨y169, hy169⟩ : ∃ y_ : List Int, y_ = (x10_3 ++ [x17_4]) := ⟨_, rfl⟩
                                      replace H : (impl_loopsOf.l2 k4 a0 a1 a2 y169 M_4 (rdOf ByteArray.empty t164 x36_1) x43_2 t164 (t164.length : Int) x36_1 (wrap64 (a1 * a2)) x43_2 (wrap64 (x46_3 + 1))) = some (r1, r2) := by first | (rw [hy169]; with_reducible exact H) | (have H2_ := (Option.bind_some _ _).symm.trans H; rw [hy169]; with_reducible exact H2_) | (have H2_ := (Option.bind_some _ _).symm.trans H; with_reducible exact H2_) | with_reducible exact H | (rw [hy169]; exact H) | exact H
                                      have Ny169 := Aside0.mk hy169
                                      clear hy169
                                      have H' := Aside0.mk H
                                      clear H
                                      have hcz30_0 : wr.cell? ⟨gb168, 0, none⟩ = some (.string x169000_4) := (blk_cell BK168.out 0).trans rfl
                                      have hcz30_1 : wr.cell? ⟨gb168, 1, none⟩ = some (.int .i64 x169001_4) := (blk_cell BK168.out 1).trans rfl
                                      have hcz30_2 : wr.cell? ⟨gb168, 2, none⟩ = some (.int .i64 x169002_4) := (blk_cell BK168.out 2).trans rfl
                                      have hcz30_3 : wr.cell? ⟨gb168, 3, none⟩ = some (.string x169003_4) := (blk_cell BK168.out 3).trans rfl
                                      have hcz30_4 : wr.cell? ⟨gb168, 4, none⟩ = some (.int .i64 x169004_4) := (blk_cell BK168.out 4).trans rfl
                                      have hcz30_5 : wr.cell? ⟨gb168, 5, none⟩ = some (.int .i64 x169005_4) := (blk_cell BK168.out 5).trans rfl
                                      have hcz30_6 : wr.cell? ⟨gb168, 6, none⟩ = some (.int .i64 x169006_4) := (blk_cell BK168.out 6).trans rfl
                                      have hfz30_0 := blk_frozen BK168.out 0
                                      have hfz30_1 := blk_frozen BK168.out 1
                                      have hfz30_2 := blk_frozen BK168.out 2
                                      have hfz30_3 := blk_frozen BK168.out 3
                                      have hfz30_4 := blk_frozen BK168.out 4
                                      have hfz30_5 := blk_frozen BK168.out 5
                                      have hfz30_6 := blk_frozen BK168.out 6
                                      go_wp2_with (first | (at_lookup; refine impl_loopsOf.look _ rfl _ _ 45 rfl 41 4 (Maps.Keyed.of_law impl_loopsOf.law) Tryd.underlying45 Tryd.underlying4 (impl_loopsOf.zero_ _) gm M_4.1 _ rfl OM.out _ _ rfl hkey.out _ hat_.out ?_) | ((with_reducible refine gate_builtin (b := .append) (xs := #[.tmp 73, .tmp 75]) rfl ?_); at_builtin; refine Kd.R_append (Kd.int .i64) (w0 := w) w.heap.size rfl (.tmp 73) (.tmp 75) 31 3 (.int .i64 0) 8 rfl Tryd.underlying31 info3 rfl (by decide) (by omega) u10 x10_3 x17_4 [.int .i64 x17_4] (fun _ => True) (fun _ => False) rfl rfl ?aP (fun _ hk => hk.elim) ?aF ?aO ?aB ?aS ?aL ?_; (case aP => exact rfl); (case aB => exact (by repeat (first | (with_reducible first | exact HB.out | apply below_alloc | apply pw_below_drewN | apply below_drew1 | refine below_set ?_ GE168.out) | exact HB.out))); (case aF => exact (fun _ _ => trivial)); (case aO => exact (by (with_reducible repeat (first | apply Kd.R_alloc | apply Kd.R_drewN | apply Kd.R_drew)); exact HO_10.out)); (case aS => exact (below_size (by repeat (first | (with_reducible first | exact HB.out | apply below_alloc | apply pw_below_drewN | apply below_drew1 | refine below_set ?_ GE168.out) | exact HB.out)))); (case aL => have := LMc29.out; omega); intro v170 w31 ho hb hg hat; have m_ := Aside0.mk (impl_loopsOf.om_grown OM.out hg (impl_loopsOf.ne_map HO_10.out OM.out)); clear OM; have OM := m_; clear m_; rw [← Ny169.out] at ho; have n0_ := Aside0.mk (Kd.R_over' (by (with_reducible repeat (first | apply Kd.R_alloc | apply Kd.R_drewN | apply Kd.R_drew)); exact HO_34.out) (Kd.R_typed (by (with_reducible repeat (first | apply Kd.R_alloc | apply Kd.R_drewN | apply Kd.R_drew)); exact HO_10.out)) (by decide) hg); have n1_ := Aside0.mk (blk_grown (g := gb168) (o := .cells #[.string x169000_4, .int .i64 x169001_4, .int .i64 x169002_4, .string x169003_4, .int .i64 x169004_4, .int .i64 x169005_4, .int .i64 x169006_4] 41 (0, 0)) (by (with_reducible repeat (first | refine blk_drewN ?_ _ | refine blk_drew ?_ | refine blk_alloc ?_ _)); exact BK168.out) hg (Kd.R_ne HO_10.out BK168.out (by decide))); have n2_ := Aside0.mk (hb); have n3_ := Aside0.mk (ho); clear HO_34; clear BK168; clear HB; clear HO_10; have HO_34 := n0_; have BK168 := n1_; have HB := n2_; have HO171 := n3_; clear n0_ n1_ n2_ n3_; clear ho hb hg hat))
                                      go_roundg k4
                                      case measure => have := HK1.out; have := HK2.out; have := HK3.out; have := HK4.out; omega
                                      case rel => exact ⟨(y169), M_4, (wrap64 (x46_3 + 1)), (by first | rfl | (simp; done) | (simp [*]; done)), H', ⟨by have := HK1.out; have := HK2.out; have := HK3.out; have := HK4.out; omega⟩, ⟨by (with_reducible repeat (first | apply Kd.R_alloc | apply Kd.R_drewN | apply Kd.R_drew)); exact HO171.out⟩, ⟨by (with_reducible repeat (first | apply Kd.R_alloc | apply Kd.R_drewN | apply Kd.R_drew)); exact HO_34.out⟩, OM, ⟨by repeat (first | (with_reducible first | exact HB.out | apply below_alloc | apply pw_below_drewN | apply below_drew1 | refine below_set ?_ GE168.out) | exact HB.out)⟩⟩
                                    · rw [if_neg c29] at H
                                      exact absurd H (by simp)
                                  · rw [if_neg c28] at H
                                    have c28b0 : decide (0 < x17_4) = false := decide_eq_false c28
                                    clear c28
                                    have H' := Aside0.mk H
                                    clear H
                                    have hcz32_0 : wr.cell? ⟨gb168, 0, none⟩ = some (.string x169000_4) := (blk_cell BK168.out 0).trans rfl
                                    have hcz32_1 : wr.cell? ⟨gb168, 1, none⟩ = some (.int .i64 x169001_4) := (blk_cell BK168.out 1).trans rfl
                                    have hcz32_2 : wr.cell? ⟨gb168, 2, none⟩ = some (.int .i64 x169002_4) := (blk_cell BK168.out 2).trans rfl
                                    have hcz32_3 : wr.cell? ⟨gb168, 3, none⟩ = some (.string x169003_4) := (blk_cell BK168.out 3).trans rfl
                                    have hcz32_4 : wr.cell? ⟨gb168, 4, none⟩ = some (.int .i64 x169004_4) := (blk_cell BK168.out 4).trans rfl
                                    have hcz32_5 : wr.cell? ⟨gb168, 5, none⟩ = some (.int .i64 x169005_4) := (blk_cell BK168.out 5).trans rfl
                                    have hcz32_6 : wr.cell? ⟨gb168, 6, none⟩ = some (.int .i64 x169006_4) := (blk_cell BK168.out 6).trans rfl
                                    have hfz32_0 := blk_frozen BK168.out 0
                                    have hfz32_1 := blk_frozen BK168.out 1
                                    have hfz32_2 := blk_frozen BK168.out 2
                                    have hfz32_3 := blk_frozen BK168.out 3
                                    have hfz32_4 := blk_frozen BK168.out 4
                                    have hfz32_5 := blk_frozen BK168.out 5
                                    have hfz32_6 := blk_frozen BK168.out 6
                                    go_wp2_with ((at_lookup; refine impl_loopsOf.look _ rfl _ _ 45 rfl 41 4 (Maps.Keyed.of_law impl_loopsOf.law) Tryd.underlying45 Tryd.underlying4 (impl_loopsOf.zero_ _) gm M_4.1 _ rfl OM.out _ _ rfl hkey.out _ hat_.out ?_))
                                    go_roundg k4
                                    case measure => have := HK1.out; have := HK2.out; have := HK3.out; have := HK4.out; omega
                                    case rel => exact ⟨(x10_3), M_4, (wrap64 (x46_3 + 1)), (by first | rfl | (simp; done) | (simp [*]; done)), H', ⟨by have := HK1.out; have := HK2.out; have := HK3.out; have := HK4.out; omega⟩, ⟨by (with_reducible repeat (first | apply Kd.R_alloc | apply Kd.R_drewN | apply Kd.R_drew)); exact HO_10.out⟩, ⟨by (with_reducible repeat (first | apply Kd.R_alloc | apply Kd.R_drewN | apply Kd.R_drew)); exact HO_34.out⟩, OM, ⟨by repeat (first | (with_reducible first | exact HB.out | apply below_alloc | apply pw_below_drewN | apply below_drew1 | refine below_set ?_ GE168.out) | exact HB.out)⟩⟩
                                · rw [if_neg c27] at H
                                  have hat_ := Aside0.mk (Bool.eq_false_iff.mpr c27)
                                  clear c27
                                  by_cases cn : M_4.1 < 1000000
                                  case neg => rw [if_neg cn] at H; exact absurd H (by simp)
                                  rw [if_pos cn] at H
                                  have HMX := Aside0.mk (show M_4.1 < maxLen from Nat.lt_trans cn (by decide))
                                  clear cn
                                  replace H := Option.bind_eq_some_iff.mp H
                                  obtain ⟨⟨t172, t173, t174, t175, t176, t177, t178⟩, A330, H⟩ := H
                                  replace H : (impl_loopsOf.l3 k4 a0 a1 a2 x10_3 (impl_loopsOf.putM M_4 (impl_loopsOf.kw x169000_4 x169001_4 x169002_4 x169003_4 x169004_4 x169005_4 x169006_4)) (rdOf ByteArray.empty t164 x36_1) x43_2 (wrap64 (x17_4 + 1)) t164 (t164.length : Int) x36_1 (wrap64 (a1 * a2)) x43_2 x46_3 t172 t173 t174 t175 t176 t177 t178) = some (r1, r2) := H
                                  have A33 := Aside0.mk A330
                                  clear A330
                                  have H' := Aside0.mk H
                                  clear H
                                  have hcz34_0 : wr.cell? ⟨gb168, 0, none⟩ = some (.string x169000_4) := (blk_cell BK168.out 0).trans rfl
                                  have hcz34_1 : wr.cell? ⟨gb168, 1, none⟩ = some (.int .i64 x169001_4) := (blk_cell BK168.out 1).trans rfl
                                  have hcz34_2 : wr.cell? ⟨gb168, 2, none⟩ = some (.int .i64 x169002_4) := (blk_cell BK168.out 2).trans rfl
                                  have hcz34_3 : wr.cell? ⟨gb168, 3, none⟩ = some (.string x169003_4) := (blk_cell BK168.out 3).trans rfl
                                  have hcz34_4 : wr.cell? ⟨gb168, 4, none⟩ = some (.int .i64 x169004_4) := (blk_cell BK168.out 4).trans rfl
                                  have hcz34_5 : wr.cell? ⟨gb168, 5, none⟩ = some (.int .i64 x169005_4) := (blk_cell BK168.out 5).trans rfl
                                  have hcz34_6 : wr.cell? ⟨gb168, 6, none⟩ = some (.int .i64 x169006_4) := (blk_cell BK168.out 6).trans rfl
                                  have hfz34_0 := blk_frozen BK168.out 0
                                  have hfz34_1 := blk_frozen BK168.out 1
                                  have hfz34_2 := blk_frozen BK168.out 2
                                  have hfz34_3 := blk_frozen BK168.out 3
                                  have hfz34_4 := blk_frozen BK168.out 4
                                  have hfz34_5 := blk_frozen BK168.out 5
                                  have hfz34_6 := blk_frozen BK168.out 6
                                  go_wp2_with (first | (at_lookup; refine impl_loopsOf.look _ rfl _ _ 45 rfl 41 4 (Maps.Keyed.of_law impl_loopsOf.law) Tryd.underlying45 Tryd.underlying4 (impl_loopsOf.zero_ _) gm M_4.1 _ rfl OM.out _ _ rfl hkey.out _ hat_.out ?_) | (at_mapUpdate; refine wpList_mapUpdate_own _ rfl _ _ _ 45 rfl 41 4 (Maps.Keyed.of_law impl_loopsOf.law) Tryd.underlying45 (plainElem (H := Unit) Tryd.prog 4) gm M_4.1 _ rfl OM.out HMX.out _ _ _ rfl rfl hkey.out _ [] (plainElem_bool Tryd.underlying4 true) ?_; intro w90 ho hgr; have n0_ := Aside0.mk (impl_loopsOf.R_map HO_10.out OM.out hgr); have n1_ := Aside0.mk (impl_loopsOf.R_map HO_34.out OM.out hgr); have n2_ := Aside0.mk (blk_grown BK168.out hgr (fun e_ => impl_loopsOf.om_ne OM.out BK168.out (Option.some.inj e_).symm)); have n3_ := Aside0.mk (HB.out.grown hgr (below_size HB.out) (fun j hj => by cases hj; exact GM.out)); have n4_ := Aside0.mk (show impl_loopsOf.OMT w90 gm (impl_loopsOf.putM M_4 (impl_loopsOf.kw x169000_4 x169001_4 x169002_4 x169003_4 x169004_4 x169005_4 x169006_4)) from ho); clear HO_10 HO_34 BK168 HB OM ho hgr; have HO_10 := n0_; have HO_34 := n1_; have BK168 := n2_; have HB := n3_; have OM := n4_; clear n0_ n1_ n2_ n3_ n4_; have hcz90_0 : w90.cell? ⟨gb168, 0, none⟩ = some (.string x169000_4) := (blk_cell BK168.out 0).trans rfl; have hcz90_1 : w90.cell? ⟨gb168, 1, none⟩ = some (.int .i64 x169001_4) := (blk_cell BK168.out 1).trans rfl; have hcz90_2 : w90.cell? ⟨gb168, 2, none⟩ = some (.int .i64 x169002_4) := (blk_cell BK168.out 2).trans rfl; have hcz90_3 : w90.cell? ⟨gb168, 3, none⟩ = some (.string x169003_4) := (blk_cell BK168.out 3).trans rfl; have hcz90_4 : w90.cell? ⟨gb168, 4, none⟩ = some (.int .i64 x169004_4) := (blk_cell BK168.out 4).trans rfl; have hcz90_5 : w90.cell? ⟨gb168, 5, none⟩ = some (.int .i64 x169005_4) := (blk_cell BK168.out 5).trans rfl; have hcz90_6 : w90.cell? ⟨gb168, 6, none⟩ = some (.int .i64 x169006_4) := (blk_cell BK168.out 6).trans rfl; have hfz90_0 := blk_frozen BK168.out 0; have hfz90_1 := blk_frozen BK168.out 1; have hfz90_2 := blk_frozen BK168.out 2; have hfz90_3 := blk_frozen BK168.out 3; have hfz90_4 := blk_frozen BK168.out 4; have hfz90_5 := blk_frozen BK168.out 5; have hfz90_6 := blk_frozen BK168.out 6) | ((with_reducible refine gate_callee (f := 29) rfl ?_); refine goesL_ (some 66) rfl rfl Tryd.func29 (by kernel_rfl) rfl #[.agg #[.string x169000_4, .int .i64 x169001_4, .int .i64 x169002_4, .string x169003_4, .int .i64 x169004_4, .int .i64 x169005_4, .int .i64 x169006_4]] rfl (by (try simp only [List.map_toArray, List.map_cons, List.map_nil]); first | done | rfl | (simp only [List.length_drop, List.length_take]; rfl)) ?_; (with_reducible refine (impl_World_step.calls x169000_4 x169001_4 x169002_4 x169003_4 x169004_4 x169005_4 x169006_4 t172 t173 t174 t175 t176 t177 t178 _ A33.out).mono ?_); rintro e w35 ⟨rfl, hb⟩; refine ⟨_, rfl, ?_⟩; have m_ := Aside0.mk (impl_loopsOf.om_below OM.out hb); clear OM; have OM := m_; clear m_; have n0_ := Aside0.mk (Kd.R_below (by (with_reducible repeat (first | apply Kd.R_alloc | apply Kd.R_drewN | apply Kd.R_drew)); exact HO_10.out) hb); have n1_ := Aside0.mk (Kd.R_below (by (with_reducible repeat (first | apply Kd.R_alloc | apply Kd.R_drewN | apply Kd.R_drew)); exact HO_34.out) hb); have n2_ := Aside0.mk (blk_below (g := gb168) (o := .cells #[.string x169000_4, .int .i64 x169001_4, .int .i64 x169002_4, .string x169003_4, .int .i64 x169004_4, .int .i64 x169005_4, .int .i64 x169006_4] 41 (0, 0)) (by (with_reducible repeat (first | refine blk_drewN ?_ _ | refine blk_drew ?_ | refine blk_alloc ?_ _)); exact BK168.out) hb); have n3_ := Aside0.mk (below_step (by repeat (first | (with_reducible first | exact HB.out | apply below_alloc | apply pw_below_drewN | apply below_drew1 | refine below_set ?_ GE168.out) | exact HB.out)) hb); clear HO_10; clear HO_34; clear BK168; clear HB; have HO_10 := n0_; have HO_34 := n1_; have BK168 := n2_; have HB := n3_; clear n0_ n1_ n2_ n3_; (try clear hb); (try clear hb2); (try clear hk); (try clear hi); have hcz36_0 : w35.cell? ⟨gb168, 0, none⟩ = some (.string x169000_4) := (blk_cell BK168.out 0).trans rfl; have hcz36_1 : w35.cell? ⟨gb168, 1, none⟩ = some (.int .i64 x169001_4) := (blk_cell BK168.out 1).trans rfl; have hcz36_2 : w35.cell? ⟨gb168, 2, none⟩ = some (.int .i64 x169002_4) := (blk_cell BK168.out 2).trans rfl; have hcz36_3 : w35.cell? ⟨gb168, 3, none⟩ = some (.string x169003_4) := (blk_cell BK168.out 3).trans rfl; have hcz36_4 : w35.cell? ⟨gb168, 4, none⟩ = some (.int .i64 x169004_4) := (blk_cell BK168.out 4).trans rfl; have hcz36_5 : w35.cell? ⟨gb168, 5, none⟩ = some (.int .i64 x169005_4) := (blk_cell BK168.out 5).trans rfl; have hcz36_6 : w35.cell? ⟨gb168, 6, none⟩ = some (.int .i64 x169006_4) := (blk_cell BK168.out 6).trans rfl; have hfz36_0 := blk_frozen BK168.out 0; have hfz36_1 := blk_frozen BK168.out 1; have hfz36_2 := blk_frozen BK168.out 2; have hfz36_3 := blk_frozen BK168.out 3; have hfz36_4 := blk_frozen BK168.out 4; have hfz36_5 := blk_frozen BK168.out 5; have hfz36_6 := blk_frozen BK168.out 6))
                                  go_roundg k4
                                  case measure => have := HK1.out; have := HK2.out; have := HK3.out; have := HK4.out; omega
                                  case rel => exact ⟨(impl_loopsOf.putM M_4 (impl_loopsOf.kw x169000_4 x169001_4 x169002_4 x169003_4 x169004_4 x169005_4 x169006_4)), (wrap64 (x17_4 + 1)), (t172), (t173), (t174), (t175), (t176), (t177), (t178), (by first | rfl | (simp; done) | (simp [*]; done)), H', ⟨by have := HK1.out; have := HK2.out; have := HK3.out; have := HK4.out; omega⟩, ⟨by (with_reducible repeat (first | apply Kd.R_alloc | apply Kd.R_drewN | apply Kd.R_drew)); exact Kd.R_mono (Kd.R_far (p := ⟨gb168, 6, none⟩) (Kd.R_far (p := ⟨gb168, 5, none⟩) (Kd.R_far (p := ⟨gb168, 4, none⟩) (Kd.R_far (p := ⟨gb168, 3, none⟩) (Kd.R_far (p := ⟨gb168, 2, none⟩) (Kd.R_far (p := ⟨gb168, 1, none⟩) (Kd.R_far (p := ⟨gb168, 0, none⟩) (Kd.R_types HO_10.out BK168.out (by decide)) (fun _ hk => hk.2) (.string t172)) (fun _ hk => hk.2) (.int .i64 t173)) (fun _ hk => hk.2) (.int .i64 t174)) (fun _ hk => hk.2) (.string t175)) (fun _ hk => hk.2) (.int .i64 t176)) (fun _ hk => hk.2) (.int .i64 t177)) (fun _ hk => hk.2) (.int .i64 t178)) (fun _ hk => trivial)⟩, ⟨by (with_reducible repeat (first | apply Kd.R_alloc | apply Kd.R_drewN | apply Kd.R_drew)); exact Kd.R_mono (Kd.R_far (p := ⟨gb168, 6, none⟩) (Kd.R_far (p := ⟨gb168, 5, none⟩) (Kd.R_far (p := ⟨gb168, 4, none⟩) (Kd.R_far (p := ⟨gb168, 3, none⟩) (Kd.R_far (p := ⟨gb168, 2, none⟩) (Kd.R_far (p := ⟨gb168, 1, none⟩) (Kd.R_far (p := ⟨gb168, 0, none⟩) (Kd.R_types HO_34.out BK168.out (by decide)) (fun _ hk => hk.2) (.string t172)) (fun _ hk => hk.2) (.int .i64 t173)) (fun _ hk => hk.2) (.int .i64 t174)) (fun _ hk => hk.2) (.string t175)) (fun _ hk => hk.2) (.int .i64 t176)) (fun _ hk => hk.2) (.int .i64 t177)) (fun _ hk => hk.2) (.int .i64 t178)) (fun _ hk => trivial)⟩, ⟨by (with_reducible repeat (first | refine blk_drewN ?_ _ | refine blk_drew ?_ | refine blk_alloc ?_ _)); refine blk_put (cs := #[.string t172, .int .i64 t173, .int .i64 t174, .string t175, .int .i64 t176, .int .i64 t177, .int .i64 x169006_4]) ?_ 6 _ rfl; (with_reducible repeat (first | refine blk_drewN ?_ _ | refine blk_drew ?_ | refine blk_alloc ?_ _)); refine blk_put (cs := #[.string t172, .int .i64 t173, .int .i64 t174, .string t175, .int .i64 t176, .int .i64 x169005_4, .int .i64 x169006_4]) ?_ 5 _ rfl; (with_reducible repeat (first | refine blk_drewN ?_ _ | refine blk_drew ?_ | refine blk_alloc ?_ _)); refine blk_put (cs := #[.string t172, .int .i64 t173, .int .i64 t174, .string t175, .int .i64 x169004_4, .int .i64 x169005_4, .int .i64 x169006_4]) ?_ 4 _ rfl; (with_reducible repeat (first | refine blk_drewN ?_ _ | refine blk_drew ?_ | refine blk_alloc ?_ _)); refine blk_put (cs := #[.string t172, .int .i64 t173, .int .i64 t174, .string x169003_4, .int .i64 x169004_4, .int .i64 x169005_4, .int .i64 x169006_4]) ?_ 3 _ rfl; (with_reducible repeat (first | refine blk_drewN ?_ _ | refine blk_drew ?_ | refine blk_alloc ?_ _)); refine blk_put (cs := #[.string t172, .int .i64 t173, .int .i64 x169002_4, .string x169003_4, .int .i64 x169004_4, .int .i64 x169005_4, .int .i64 x169006_4]) ?_ 2 _ rfl; (with_reducible repeat (first | refine blk_drewN ?_ _ | refine blk_drew ?_ | refine blk_alloc ?_ _)); refine blk_put (cs := #[.string t172, .int .i64 x169001_4, .int .i64 x169002_4, .string x169003_4, .int .i64 x169004_4, .int .i64 x169005_4, .int .i64 x169006_4]) ?_ 1 _ rfl; (with_reducible repeat (first | refine blk_drewN ?_ _ | refine blk_drew ?_ | refine blk_alloc ?_ _)); refine blk_put (cs := #[.string x169000_4, .int .i64 x169001_4, .int .i64 x169002_4, .string x169003_4, .int .i64 x169004_4, .int .i64 x169005_4, .int .i64 x169006_4]) ?_ 0 _ rfl; (with_reducible repeat (first | refine blk_drewN ?_ _ | refine blk_drew ?_ | refine blk_alloc ?_ _)); exact BK168.out⟩, ⟨by (repeat (refine World.ownsMap.setCell ?_ (impl_loopsOf.om_ne OM.out BK168.out) _)); exact OM.out⟩, ⟨by repeat (first | (with_reducible first | exact HB.out | apply below_alloc | apply pw_below_drewN | apply below_drew1 | refine below_set ?_ GE168.out) | exact HB.out)⟩⟩
                        · rw [if_neg c16] at H
                          have c16b0 : decide (x46_3 < 4) = false := decide_eq_false c16
                          clear c16
                          have H' := Aside0.mk H
                          clear H
                          go_wp2
                          go_roundg k3
                          case measure => have := HK1.out; have := HK2.out; have := HK3.out; omega
                          case rel => exact ⟨(x10_3), M_3, (wrap64 (x43_2 + 1)), (by first | rfl | (simp; done) | (simp [*]; done)), H', ⟨by have := HK1.out; have := HK2.out; have := HK3.out; omega⟩, ⟨by (with_reducible repeat (first | apply Kd.R_alloc | apply Kd.R_drewN | apply Kd.R_drew)); exact HO_10.out⟩, ⟨by (with_reducible repeat (first | apply Kd.R_alloc | apply Kd.R_drewN | apply Kd.R_drew)); exact HO_34.out⟩, OM, ⟨by repeat (first | (with_reducible first | exact HB.out | apply below_alloc | apply pw_below_drewN | apply below_drew1) | exact HB.out)⟩⟩
                  · rw [if_neg c15] at H
                    have c15b0 : decide (x43_2 < (wrap64 (a1 * a2))) = false := decide_eq_false c15
                    clear c15
                    have H' := Aside0.mk H
                    clear H
                    go_wp2
                    go_roundg k2
                    case measure => have := HK1.out; have := HK2.out; omega
                    case rel => exact ⟨(x10_2), M_2, (wrap64 (x36_1 + 1)), (by first | rfl | (simp; done) | (simp [*]; done)), H', ⟨by have := HK1.out; have := HK2.out; omega⟩, ⟨by (with_reducible repeat (first | apply Kd.R_alloc | apply Kd.R_drewN | apply Kd.R_drew)); exact HO_10.out⟩, ⟨by (with_reducible repeat (first | apply Kd.R_alloc | apply Kd.R_drewN | apply Kd.R_drew)); exact HO_34.out⟩, OM, ⟨by repeat (first | (with_reducible first | exact HB.out | apply below_alloc | apply pw_below_drewN | apply below_drew1) | exact HB.out)⟩⟩
            · rw [if_neg c14] at H
              exact absurd H (by simp)
          · rw [if_neg c13] at H
            exact absurd H (by simp)
        · rw [if_neg c12] at H
          have c12b0 : decide (x36_1 < (t164.length : Int)) = false := decide_eq_false c12
          clear c12
          by_cases cs : 0 < x10_1.length ∧ x10_1.length < 1000000000
          case neg => rw [if_neg cs] at H; exact absurd H (by simp)
          rw [if_pos cs] at H
          have HCS := Aside0.mk cs
          clear cs
          simp only [Option.some.injEq, Prod.mk.injEq] at H
          obtain ⟨rfl, rfl⟩ := H
          obtain ⟨Ao90, co90, eo90⟩ := Kd.R_slice HO_10.out
          subst eo90
          go_wp2_with (go_at_call 30; (with_reducible refine (slices_Sort_int_int.calls Ao90 co90 x10_1 _ w.heap.size ?side1 HCS.out.1 (Nat.lt_trans HCS.out.2 (by decide))).mono ?_); (case side1 => (with_reducible repeat (first | apply Kd.R_alloc | apply Kd.R_drewN | apply Kd.R_drew)); exact HO_10.out); rintro e w91 ⟨rfl, hr, row, hg, hrow⟩; have n0_ := Aside0.mk hr; have n1_ := Aside0.mk (Below.grown (by repeat (first | (with_reducible first | exact HB.out | apply below_alloc | apply pw_below_drewN | apply below_drew1) | exact HB.out)) hg (below_size (by repeat (first | (with_reducible first | exact HB.out | apply below_alloc | apply pw_below_drewN | apply below_drew1) | exact HB.out))) hrow); clear HO_10 HB hr hg hrow; have HO_10 := n0_; have HB := n1_; clear n0_ n1_)
          go_ret2
          exact ⟨_, by first | rfl | (simp; done), HO_10.out, by repeat (first | (with_reducible first | exact HB.out | apply below_alloc | apply pw_below_drewN | apply below_drew1) | exact HB.out)⟩
  · replace c5 := Bool.eq_false_iff.mpr c5
    subst c5
    have H1 : (some (([] : List Int), false)) = some (r1, r2) := by rw [if_neg (show ¬ (false = true) by decide)] at H; exact H
    clear H
    have H := H1
    clear H1
    simp only [Option.some.injEq, Prod.mk.injEq] at H
    obtain ⟨rfl, rfl⟩ := H
    go_enter Tryd.func17, Tryd.ntmps17
    go_wp2_with (first | ((with_reducible refine gate_callee (f := 27) rfl ?_); refine goesL_ (some 22) rfl rfl Tryd.func27 (by kernel_rfl) rfl #[.string a0, .int .i64 a1, .int .i64 a2] rfl (by (try simp only [List.map_toArray, List.map_cons, List.map_nil]); first | done | rfl | (simp only [List.length_drop, List.length_take]; rfl)) ?_; (with_reducible refine (impl_CountWorlds.calls k a0 a1 a2 t159 false _ A4.out).mono ?_); rintro e w37 ⟨rfl, hb⟩; refine ⟨_, rfl, ?_⟩; have n0_ := Aside0.mk (below_step (by repeat (first | (with_reducible first | exact HB.out | apply below_alloc | apply pw_below_drewN | apply below_drew1) | exact HB.out)) hb); clear HB; have HB := n0_; clear n0_; (try clear hb); (try clear hb2); (try clear hk); (try clear hi)))
    go_ret2
    exact ⟨_, by first | rfl | (simp [errW_none, errW_some] <;> rfl) | (simp [*, errW_none, errW_some] <;> rfl), by first | exact Kd.R_nil _ _ _ _ _ | exact Kd.N_nil _ _ _ _ _ | exact Kd.V_nil _ _ _ _ _ | exact Kd.Q_nil _ _ _ _ _ | exact Kd.S_nil _ _ _ _ _, by repeat (first | (with_reducible first | exact HB.out | apply below_alloc | apply pw_below_drewN | apply below_drew1) | exact HB.out)⟩

end Go.Proofs.YtgaplnhjddlieaaDoor.PN
