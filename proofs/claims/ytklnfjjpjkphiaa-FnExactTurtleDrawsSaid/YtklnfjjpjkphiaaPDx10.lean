-- Printed for this claim by gprint.py, a program of this session round the kit's printer. Lean checks it.
import Derived.Test.YtklnfjjpjkphiaaPDx0
import Derived.Test.YtklnfjjpjkphiaaPDx6
import Derived.Test.YtklnfjjpjkphiaaPDx8
import Derived.Test.YtklnfjjpjkphiaaPDx9
namespace Go.Proofs.Ytklnfjjpjkphiaa.PD
open Go.RowKit Go.Proofs.YtklnfjjpjkphiaaW.PrintWords Go.Proofs.YtklnfjjpjkphiaaW.PrintLast Go.Proofs.YtklnfjjpjkphiaaW.PrintMore
attribute [local go_sem] max2_int min2_int max_two min_two max_three min_three max_four min_four   -- for this text's walks alone
set_option linter.unusedVariables false
set_option linter.unusedSimpArgs false

/-! ### impl_TurtleDraws: function 5 -/
-- it calls 10 11 12 13 14
def impl_TurtleDraws.pts (l : impl_passes.E) : List S36 := l.map fun e => ⟨e.1, e.2.1⟩
def impl_TurtleDraws.rest (l : impl_passes.E) (left : Lit → Bool) : impl_passes.E := l.filter fun e => !left (impl_passes.kp e.1 e.2.1)
theorem impl_TurtleDraws.start {l : impl_passes.E} {D : DataW Unit} (h : impl_passes.Agree l D) : impl_TurtleDraws.rest l (Maps.has D) = [] := by
  unfold impl_TurtleDraws.rest
  rw [List.filter_eq_nil_iff]
  intro e he
  have hh : Maps.has D (impl_passes.kp e.1 e.2.1) = true := by
    rw [h.has e.1 e.2.1 (h.wf e he).1 (h.wf e he).2]
    unfold impl_passes.hasE
    exact List.any_eq_true.2 ⟨e, he, by simp⟩
  simp [hh]
theorem impl_TurtleDraws.stop {l : impl_passes.E} {left : Lit → Bool} (h : ∀ kl, left kl = false) : impl_TurtleDraws.rest l left = l := by
  unfold impl_TurtleDraws.rest
  rw [List.filter_eq_self]
  intro e _
  simp [h]
theorem impl_TurtleDraws.step : ∀ {l : impl_passes.E} {left : Lit → Bool} {kl : Lit} {e0 : Int × Int × Int}, (∀ e ∈ l, impl_passes.W e.1 ∧ impl_passes.W e.2.1) → (l.Pairwise fun a b => ¬ (a.1 = b.1 ∧ a.2.1 = b.2.1)) → e0 ∈ l → kl = impl_passes.kp e0.1 e0.2.1 → left kl = true →
    (impl_TurtleDraws.rest l (fun z => left z && !z.sameKey kl)).Perm (impl_TurtleDraws.rest l left ++ [e0])
  | [], _, _, _, _, _, h, _, _ => by simp at h
  | e :: l, left, kl, e0, hw, hd, hm, hk, hl => by
    obtain ⟨d1, d2⟩ := List.pairwise_cons.1 hd
    unfold impl_TurtleDraws.rest
    rcases List.mem_cons.1 hm with rfl | hm
    · have hs : (impl_passes.kp e0.1 e0.2.1).sameKey kl = true := by rw [hk]; exact WideAt.sameKey_self (impl_passes.isKey _ _)
      have hrest : (l.filter fun e => !(left (impl_passes.kp e.1 e.2.1) && !(impl_passes.kp e.1 e.2.1).sameKey kl)) = l.filter fun e => !left (impl_passes.kp e.1 e.2.1) := by
        refine List.filter_congr fun b hb => ?_
        have hne : impl_passes.kp b.1 b.2.1 ≠ kl := fun q => d1 b hb (by
          have w1 := hw e0 List.mem_cons_self
          have w2 := hw b (List.mem_cons_of_mem _ hb)
          rw [hk] at q
          obtain ⟨q1, q2⟩ := impl_passes.kp_inj w2.1 w2.2 w1.1 w1.2 q
          exact ⟨q1.symm, q2.symm⟩)
        rw [Maps.sameKey_ne hne]
        simp
      have kp1 : left (impl_passes.kp e0.1 e0.2.1) = true := by rw [← hk]; exact hl
      rw [List.filter_cons_of_pos (by simp [hs]), List.filter_cons_of_neg (by simp [kp1]), hrest]
      exact (List.perm_append_singleton e0 _).symm
    · have hne : impl_passes.kp e.1 e.2.1 ≠ kl := fun q => d1 e0 hm (by
        have w1 := hw e List.mem_cons_self
        have w2 := hw e0 (List.mem_cons_of_mem _ hm)
        rw [hk] at q
        exact impl_passes.kp_inj w1.1 w1.2 w2.1 w2.2 q)
      have ih := impl_TurtleDraws.step (fun b hb => hw b (List.mem_cons_of_mem _ hb)) d2 hm hk hl
      unfold impl_TurtleDraws.rest at ih
      have sk : (impl_passes.kp e.1 e.2.1).sameKey kl = false := Maps.sameKey_ne hne
      by_cases c : (!left (impl_passes.kp e.1 e.2.1)) = true
      · rw [List.filter_cons_of_pos (by simpa [sk] using c), List.filter_cons_of_pos (by simpa using c), List.cons_append]
        exact ih.cons e
      · rw [List.filter_cons_of_neg (by simpa [sk] using c), List.filter_cons_of_neg (by simpa using c)]
        exact ih
/-! box: the same for every order -/
theorem impl_TurtleDraws.mn_le (a b : Int) : mn a b ≤ a ∧ mn a b ≤ b ∧ (mn a b = a ∨ mn a b = b) := by
  unfold mn
  split <;> omega
theorem impl_TurtleDraws.mx_le (a b : Int) : a ≤ mx a b ∧ b ≤ mx a b ∧ (mx a b = a ∨ mx a b = b) := by
  unfold mx
  split <;> omega
theorem impl_TurtleDraws.least : ∀ (L : List Int) (a : Int), L.foldl mn a ≤ a ∧ (∀ x ∈ L, L.foldl mn a ≤ x) ∧ (L.foldl mn a = a ∨ L.foldl mn a ∈ L)
  | [], a => ⟨Int.le_refl _, fun x h => by simp at h, .inl rfl⟩
  | x :: L, a => by
    obtain ⟨h1, h2, h3⟩ := impl_TurtleDraws.least L (mn a x)
    obtain ⟨m1, m2, m3⟩ := impl_TurtleDraws.mn_le a x
    refine ⟨Int.le_trans h1 m1, fun y hy => ?_, ?_⟩
    · rcases List.mem_cons.1 hy with rfl | hy
      · exact Int.le_trans h1 m2
      · exact h2 y hy
    · rcases h3 with h3 | h3
      · rcases m3 with m3 | m3
        · exact .inl (h3.trans m3)
        · exact .inr (by rw [List.foldl_cons, h3, m3]; exact List.mem_cons_self)
      · exact .inr (List.mem_cons_of_mem _ h3)
theorem impl_TurtleDraws.most : ∀ (L : List Int) (a : Int), a ≤ L.foldl mx a ∧ (∀ x ∈ L, x ≤ L.foldl mx a) ∧ (L.foldl mx a = a ∨ L.foldl mx a ∈ L)
  | [], a => ⟨Int.le_refl _, fun x h => by simp at h, .inl rfl⟩
  | x :: L, a => by
    obtain ⟨h1, h2, h3⟩ := impl_TurtleDraws.most L (mx a x)
    obtain ⟨m1, m2, m3⟩ := impl_TurtleDraws.mx_le a x
    refine ⟨Int.le_trans m1 h1, fun y hy => ?_, ?_⟩
    · rcases List.mem_cons.1 hy with rfl | hy
      · exact Int.le_trans m2 h1
      · exact h2 y hy
    · rcases h3 with h3 | h3
      · rcases m3 with m3 | m3
        · exact .inl (h3.trans m3)
        · exact .inr (by rw [List.foldl_cons, h3, m3]; exact List.mem_cons_self)
      · exact .inr (List.mem_cons_of_mem _ h3)
theorem impl_TurtleDraws.least_eq {L L' : List Int} {a a' : Int} (h : ∀ x, x ∈ L ↔ x ∈ L') (ha : a ∈ L) (ha' : a' ∈ L') : L.foldl mn a = L'.foldl mn a' := by
  obtain ⟨h1, h2, h3⟩ := impl_TurtleDraws.least L a
  obtain ⟨k1, k2, k3⟩ := impl_TurtleDraws.least L' a'
  have m : L.foldl mn a ∈ L := by rcases h3 with h3 | h3; · rw [h3]; exact ha
                                  · exact h3
  have m' : L'.foldl mn a' ∈ L' := by rcases k3 with k3 | k3; · rw [k3]; exact ha'
                                      · exact k3
  exact Int.le_antisymm (h2 _ ((h _).2 m')) (k2 _ ((h _).1 m))
theorem impl_TurtleDraws.most_eq {L L' : List Int} {a a' : Int} (h : ∀ x, x ∈ L ↔ x ∈ L') (ha : a ∈ L) (ha' : a' ∈ L') : L.foldl mx a = L'.foldl mx a' := by
  obtain ⟨h1, h2, h3⟩ := impl_TurtleDraws.most L a
  obtain ⟨k1, k2, k3⟩ := impl_TurtleDraws.most L' a'
  have m : L.foldl mx a ∈ L := by rcases h3 with h3 | h3; · rw [h3]; exact ha
                                  · exact h3
  have m' : L'.foldl mx a' ∈ L' := by rcases k3 with k3 | k3; · rw [k3]; exact ha'
                                      · exact k3
  exact Int.le_antisymm (k2 _ ((h _).1 m)) (h2 _ ((h _).2 m'))
theorem impl_TurtleDraws.rdT {L : List S36} {i : Int} (h : i.toNat < L.length) : rd_T36 L i = L[i.toNat] := by
  unfold rd_T36
  rw [List.getD_eq_getElem?_getD, List.getElem?_eq_getElem h]
  rfl
theorem impl_TurtleDraws.box_l0 {L : List S36} (hL : L.length ≤ 1000000) : ∀ (k : Nat) (i a b c d : Int), 0 ≤ i → i ≤ L.length → impl_box.l0 k [a, b, c, d] L L.length i = if (L.length : Int) - i < k then some [((L.drop i.toNat).map S36.f0).foldl mn a, ((L.drop i.toNat).map S36.f0).foldl mx b, ((L.drop i.toNat).map S36.f1).foldl mn c, ((L.drop i.toNat).map S36.f1).foldl mx d] else none
  | 0, i, a, b, c, d, h0, h1 => by rw [impl_box.l0, if_neg (by omega)]
  | k + 1, i, a, b, c, d, h0, h1 => by
    rw [impl_box.l0]
    by_cases c1 : i < L.length
    · have hi : i.toNat < L.length := by omega
      have w1 : wrap64 (i + 1) = i + 1 := by unfold wrap64; omega
      rw [if_pos c1, if_pos h0, if_pos c1, if_pos (by simp), if_pos (by simp), if_pos (by simp), if_pos (by simp), w1]
      show impl_box.l0 k [mn a (rd_T36 L i).f0, mx b (rd_T36 L i).f0, mn c (rd_T36 L i).f1, mx d (rd_T36 L i).f1] L L.length (i + 1) = _
      rw [impl_TurtleDraws.box_l0 hL k (i + 1) _ _ _ _ (by omega) (by omega), List.drop_eq_getElem_cons hi, show (i + 1).toNat = i.toNat + 1 by omega, impl_TurtleDraws.rdT hi]
      by_cases c2 : (L.length : Int) - i < (k + 1 : Nat)
      · rw [if_pos c2, if_pos (by omega)]
        rfl
      · rw [if_neg c2, if_neg (by omega)]
    · rw [if_neg c1, if_pos (by omega), List.drop_eq_nil_of_le (by omega)]
      rfl
theorem impl_TurtleDraws.box_same {L L' : List S36} (hL : L.length ≤ 1000000) (hp : L.Perm L') (k : Nat) : impl_box.f k L = impl_box.f k L' := by
  have hl := hp.length_eq
  unfold impl_box.f
  by_cases c : 0 < (L.length : Int)
  · rw [if_pos c, if_pos (by omega), impl_TurtleDraws.box_l0 hL k 0 _ _ _ _ (by omega) (by omega), impl_TurtleDraws.box_l0 (by omega) k 0 _ _ _ _ (by omega) (by omega), hl]
    have m0 : ∀ (f : S36 → Int) x, x ∈ L.map f ↔ x ∈ L'.map f := fun f x => (hp.map f).mem_iff
    have e0 : (0 : Int).toNat < L.length := by omega
    have e0' : (0 : Int).toNat < L'.length := by omega
    have a0 : ∀ f : S36 → Int, f (rd_T36 L 0) ∈ L.map f := fun f => List.mem_map.2 ⟨_, by rw [impl_TurtleDraws.rdT e0]; exact List.getElem_mem _, rfl⟩
    have a1 : ∀ f : S36 → Int, f (rd_T36 L' 0) ∈ L'.map f := fun f => List.mem_map.2 ⟨_, by rw [impl_TurtleDraws.rdT e0']; exact List.getElem_mem _, rfl⟩
    have d0 : L.drop (0 : Int).toNat = L := rfl
    have d1 : L'.drop (0 : Int).toNat = L' := rfl
    rw [d0, d1, impl_TurtleDraws.least_eq (m0 S36.f0) (a0 S36.f0) (a1 S36.f0), impl_TurtleDraws.most_eq (m0 S36.f0) (a0 S36.f0) (a1 S36.f0), impl_TurtleDraws.least_eq (m0 S36.f1) (a0 S36.f1) (a1 S36.f1), impl_TurtleDraws.most_eq (m0 S36.f1) (a0 S36.f1) (a1 S36.f1)]
  · rw [if_neg c, if_neg (by omega)]
theorem impl_TurtleDraws.ne_obj {α : Type} {d : Kd α} {e base : Nat} {ok : Nat → Prop} {v : Value} {xs : List α} {W : World} {b : Nat} {o : Obj} (h : d.R e W base ok v xs) (hm : W.heap[b]? = some o) (ho : ∀ cells t q, o ≠ .cells cells t q) : some b ≠ v.ownBlock := fun he => by
  obtain ⟨cells, hc⟩ := Kd.R_typed h b he.symm
  rw [hm] at hc
  injection hc with hc
  exact ho _ _ _ hc
theorem impl_TurtleDraws.R_obj {α : Type} {d : Kd α} {e base : Nat} {ok : Nat → Prop} {v : Value} {xs : List α} {W W1 : World} {b : Nat} {o : Obj} (h : d.R e W base ok v xs) (hm : W.heap[b]? = some o) (ho : ∀ cells t q, o ≠ .cells cells t q) (hg : W.grownBy W1 (some b)) : d.R e W1 base ok v xs := by
  refine Kd.R_mono (Kd.R_step (Kd.R_bound h) (fun j hj hlt => hg.block j hlt (fun ej => ?_))) (fun _ hk => hk.1)
  obtain ⟨_, _, _, q, _, cells, hc⟩ := hj
  cases ej
  rw [hm] at hc
  injection hc with hc
  exact ho _ _ _ hc
theorem impl_TurtleDraws.rg_moved {H : Type} {P : Program} {k : TypeId} {R : Value → Option (DataW H × List MemPlace)} {w u : World} {b r n : Nat} {D : DataW H} {left : Lit → Bool} {cnt : Nat} (h : w.ranges P k R b r n D left cnt) (hb : u.heap[b]? = w.heap[b]?) (hr : u.heap[r]? = w.heap[r]?) : u.ranges P k R b r n D left cnt := by
  obtain ⟨es, clock, since, seen, c0, h1, h2, h3, h4, h5, h6⟩ := h
  exact ⟨es, clock, since, seen, c0, hb.trans h1, h2, h3, h4, hr.trans h5, h6⟩
theorem impl_TurtleDraws.rg_iter {H : Type} {P : Program} {k : TypeId} {R : Value → Option (DataW H × List MemPlace)} {w : World} {b r n : Nat} {D : DataW H} {left : Lit → Bool} {cnt : Nat} (h : w.ranges P k R b r n D left cnt) : ∃ m s q c, w.heap[r]? = some (.mapIter m s q c) := by
  obtain ⟨es, clock, since, seen, c0, h1, h2, h3, h4, h5, h6⟩ := h
  exact ⟨_, _, _, _, h5⟩
theorem impl_TurtleDraws.wfi {x : Int} (h : -9223372036854775808 ≤ x ∧ x ≤ 9223372036854775807) : (Lit.int .i64 x).wf = true := by
  simp only [Lit.wf, IntKind.min, IntKind.max, IntKind.signed, IntKind.bits]
  simp
  omega
theorem impl_TurtleDraws.look {H : Type} {P : Program} (w : World) {ops : Array Oper} {rest : List Oper} {o : Oper} {a : Act} {Q : Exit → Act → World → Prop} (hg : o.guard = none) (m x : Operand) (t : TypeId) (hop : o.op = Op.lookup t m x false)
    (k e : TypeId) (K : Maps.Keyed P k) (ht : P.underlying t = some (.map k e)) (he : P.underlying e = some (.int .i64)) (hz : (zeroValue e).run P w = .ok (.int .i64 0) w) (b n : Nat) (D : DataW H)
    (hm : a.eval m = .map (some b)) (hown : w.ownsMap P k (plainElem P e) b n D) (key : Value) (kl : Lit) (hx : a.eval x = key) (hkey : keyOf P k key = some kl) (v : Int) (hat : D.atKey kl (.lit (.int .i64 0)) = .lit (.int .i64 v))
    (hK : wpList P ops Q rest (a.put o.dst (.int .i64 v)) w) : wpList P ops Q (o :: rest) a w :=
  wpList_lookup_own_int w hg m x t hop k e .i64 K ht he hz b n D hm hown key kl hx hkey (fun c hc _ => by
    have h2 : c = v := by
      rw [hat] at hc
      injection hc with hc
      injection hc with _ hc
      exact hc.symm
    rw [h2]
    exact hK)
theorem impl_TurtleDraws.m_far {W : World} {g : Nat} {o : Obj} {p : Addr} (h : W.heap[g]? = some o) (hne : g ≠ p.block) (u : Value) : (W.setCell p u).heap[g]? = some o := (Below.heap_setCell W p u g hne).trans h
theorem impl_TurtleDraws.rg_objs {H : Type} {P : Program} {k : TypeId} {R : Value → Option (DataW H × List MemPlace)} {w : World} {b r n : Nat} {D : DataW H} {left : Lit → Bool} {cnt : Nat} (h : w.ranges P k R b r n D left cnt) : (∃ es c, w.heap[b]? = some (.map es c)) ∧ ∃ m s q c, w.heap[r]? = some (.mapIter m s q c) := by
  obtain ⟨es, clock, since, seen, c0, h1, h2, h3, h4, h5, h6⟩ := h
  exact ⟨⟨_, _, h1⟩, _, _, _, _, h5⟩
theorem impl_TurtleDraws.rg_below {H : Type} {P : Program} {k : TypeId} {R : Value → Option (DataW H × List MemPlace)} {w u : World} {b r n : Nat} {D : DataW H} {left : Lit → Bool} {cnt : Nat} (h : w.ranges P k R b r n D left cnt) (hb : Below w.heap.size w u) : u.ranges P k R b r n D left cnt := by
  obtain ⟨⟨es, c, h1⟩, m, s, q, c', h2⟩ := impl_TurtleDraws.rg_objs h
  exact impl_TurtleDraws.rg_moved h (hb.block _ (blk_lt h1)) (hb.block _ (blk_lt h2))
theorem impl_TurtleDraws.rg_app {α H : Type} {P : Program} {k : TypeId} {R : Value → Option (DataW H × List MemPlace)} {w u : World} {b r n : Nat} {D : DataW H} {left : Lit → Bool} {cnt : Nat} {d : Kd α} {e base : Nat} {ok : Nat → Prop} {v x0 x1 : Value} {xs : List α} {g : Nat} {cells : Array Value} {t : Nat} {q : Nat × Nat} (h : w.ranges P k R b r n D left cnt) (hR : d.R e w base ok v xs) (hc : w.heap[g]? = some (.cells cells t q)) (hg : ((w.setCell ⟨g, 0, none⟩ x0).setCell ⟨g, 1, none⟩ x1).grownBy u v.ownBlock) : u.ranges P k R b r n D left cnt := by
  obtain ⟨⟨es, c, h1⟩, m, s, q', c', h2⟩ := impl_TurtleDraws.rg_objs h
  have nb : b ≠ g := by rintro rfl; rw [h1] at hc; cases hc
  have nr : r ≠ g := by rintro rfl; rw [h2] at hc; cases hc
  have mb := impl_TurtleDraws.ne_obj hR h1 (by intros; nofun)
  have mr := impl_TurtleDraws.ne_obj hR h2 (by intros; nofun)
  have e1 : ∀ j, j ≠ g → ((w.setCell ⟨g, 0, none⟩ x0).setCell ⟨g, 1, none⟩ x1).heap[j]? = w.heap[j]? := fun j hj => by rw [Below.heap_setCell _ _ _ _ hj, Below.heap_setCell _ _ _ _ hj]
  have lt : ∀ j o, j ≠ g → w.heap[j]? = some o → j < ((w.setCell ⟨g, 0, none⟩ x0).setCell ⟨g, 1, none⟩ x1).heap.size := fun j o hj ho => blk_lt (o := o) ((e1 j hj).trans ho)
  exact impl_TurtleDraws.rg_moved h ((hg.block b (lt _ _ nb h1) mb).trans (e1 b nb)) ((hg.block r (lt _ _ nr h2) mr).trans (e1 r nr))
mutual
def impl_TurtleDraws.j1 : Nat → impl_passes.E → List ByteArray → List Int → Bool → Option (ByteArray × Bool)
  | 0, _, _, _, _ => none
  | k + 1, l, x8, x10, x52 => if x52 = true then (some ((⟨#[]⟩ : ByteArray), false)) else (if 2 < (x10.length : Int) then (impl_TurtleDraws.l1 k l x8 x10 (rd x10 2)) else (none))
def impl_TurtleDraws.l1 : Nat → impl_passes.E → List ByteArray → List Int → Int → Option (ByteArray × Bool)
  | 0, _, _, _, _ => none
  | k + 1, l, x8, x10, x11 => if 3 < (x10.length : Int) then (if x11 ≤ (rd x10 3) then (if 0 < (x10.length : Int) then (impl_TurtleDraws.l2 k l x8 x10 x11 (([] : List Int)) (rd x10 0)) else (none)) else ((strings_Join.f x8 (⟨#[47]⟩ : ByteArray)).bind fun t248 => (some (t248, true)))) else (none)
def impl_TurtleDraws.l2 : Nat → impl_passes.E → List ByteArray → List Int → Int → List Int → Int → Option (ByteArray × Bool)
  | 0, _, _, _, _, _, _ => none
  | k + 1, l, x8, x10, x11, x12, x13 => if 1 < (x10.length : Int) then (if x13 ≤ (rd x10 1) then (if ((-9223372036854775808 ≤ x13 ∧ x13 ≤ 9223372036854775807) ∧ (-9223372036854775808 ≤ x11 ∧ x11 ≤ 9223372036854775807)) then ((impl_bit.f (decide (impl_passes.cnt l x13 x11 > 0))).bind fun t254 => (if 0 ≤ t254 then (if t254 < 2 then (if x12.length < 140737488355328 then (impl_TurtleDraws.l2 k l x8 x10 x11 (x12 ++ [bt (⟨#[46, 35]⟩ : ByteArray) t254]) (wrap64 (x13 + 1))) else (none)) else (none)) else (none))) else (none)) else (if x8.length < 8796093022208 then (impl_TurtleDraws.l1 k l (x8 ++ [strOfNums x12]) x10 (wrap64 (x11 + 1))) else (none))) else (none)
end
def impl_TurtleDraws.Ok (l : impl_passes.E) : Prop := (l.Pairwise fun a b => ¬ (a.1 = b.1 ∧ a.2.1 = b.2.1)) ∧ l.length ≤ 1000000
instance (l : impl_passes.E) : Decidable (impl_TurtleDraws.Ok l) := by unfold impl_TurtleDraws.Ok; infer_instance
def impl_TurtleDraws.r (k : Nat) (l : impl_passes.E) (x8 : List ByteArray) : Option (ByteArray × Bool) := ((impl_box.f k (impl_TurtleDraws.pts l)).bind fun t239 => (if 1 < (t239.length : Int) then (if 0 < (t239.length : Int) then (if (wrap64 ((rd t239 1) - (rd t239 0))) ≥ 60 then (impl_TurtleDraws.j1 k l x8 t239 true) else (if 3 < (t239.length : Int) then (if 2 < (t239.length : Int) then (impl_TurtleDraws.j1 k l x8 t239 (decide ((wrap64 ((rd t239 3) - (rd t239 2))) ≥ 60))) else (none)) else (none))) else (none)) else (none)))
def impl_TurtleDraws.g (k : Nat) (a0 : ByteArray) (a1 : Int) : Option (ByteArray × Bool) := (impl_passes.f k a0 a1).bind fun l => if impl_TurtleDraws.Ok l then impl_TurtleDraws.r k l [] else none
def impl_TurtleDraws.f (k : Nat) (a0 : ByteArray) (a1 : Int) : Option (ByteArray × Bool) := (impl_isPassed.f k a0 a1).bind fun t227 => (if t227 = true then (impl_TurtleDraws.g k a0 a1) else (some ((⟨#[]⟩ : ByteArray), false)))
theorem impl_TurtleDraws.mono_l : ∀ k, (∀ y0 y1 y2 y3, LeO (impl_TurtleDraws.j1 k y0 y1 y2 y3) (impl_TurtleDraws.j1 (k + 1) y0 y1 y2 y3)) ∧ (∀ y0 y1 y2 y3, LeO (impl_TurtleDraws.l1 k y0 y1 y2 y3) (impl_TurtleDraws.l1 (k + 1) y0 y1 y2 y3)) ∧ (∀ y0 y1 y2 y3 y4 y5, LeO (impl_TurtleDraws.l2 k y0 y1 y2 y3 y4 y5) (impl_TurtleDraws.l2 (k + 1) y0 y1 y2 y3 y4 y5))
  | 0 => ⟨fun _ _ _ _ r h => by simp [impl_TurtleDraws.j1] at h, fun _ _ _ _ r h => by simp [impl_TurtleDraws.l1] at h, fun _ _ _ _ _ _ r h => by simp [impl_TurtleDraws.l2] at h⟩
  | k + 1 => by
    obtain ⟨ih1, ih2, ih3⟩ := impl_TurtleDraws.mono_l k
    refine ⟨?_, ?_, ?_⟩
    · intro y0 y1 y2 y3
      unfold impl_TurtleDraws.j1
      repeat' first
      | (with_reducible exact ih1 _ _ _ _)
      | (with_reducible exact ih2 _ _ _ _)
      | (with_reducible exact ih3 _ _ _ _ _ _)
      | (with_reducible exact impl_box.mono _ _)
      | (with_reducible exact LeO.refl _)
      | (with_reducible exact LeO.none _)
      | (with_reducible refine LeO.ite ?_ ?_)
      | (with_reducible refine LeO.bind ?_ (fun _ => ?_))
      | exact ih1 _ _ _ _
      | exact ih2 _ _ _ _
      | exact ih3 _ _ _ _ _ _
      | exact LeO.refl _
      | exact LeO.none _
      | refine LeO.ite ?_ ?_
      | refine LeO.bind ?_ (fun _ => ?_)
    · intro y0 y1 y2 y3
      unfold impl_TurtleDraws.l1
      repeat' first
      | (with_reducible exact ih1 _ _ _ _)
      | (with_reducible exact ih2 _ _ _ _)
      | (with_reducible exact ih3 _ _ _ _ _ _)
      | (with_reducible exact impl_box.mono _ _)
      | (with_reducible exact LeO.refl _)
      | (with_reducible exact LeO.none _)
      | (with_reducible refine LeO.ite ?_ ?_)
      | (with_reducible refine LeO.bind ?_ (fun _ => ?_))
      | exact ih1 _ _ _ _
      | exact ih2 _ _ _ _
      | exact ih3 _ _ _ _ _ _
      | exact LeO.refl _
      | exact LeO.none _
      | refine LeO.ite ?_ ?_
      | refine LeO.bind ?_ (fun _ => ?_)
    · intro y0 y1 y2 y3 y4 y5
      unfold impl_TurtleDraws.l2
      repeat' first
      | (with_reducible exact ih1 _ _ _ _)
      | (with_reducible exact ih2 _ _ _ _)
      | (with_reducible exact ih3 _ _ _ _ _ _)
      | (with_reducible exact impl_box.mono _ _)
      | (with_reducible exact LeO.refl _)
      | (with_reducible exact LeO.none _)
      | (with_reducible refine LeO.ite ?_ ?_)
      | (with_reducible refine LeO.bind ?_ (fun _ => ?_))
      | exact ih1 _ _ _ _
      | exact ih2 _ _ _ _
      | exact ih3 _ _ _ _ _ _
      | exact LeO.refl _
      | exact LeO.none _
      | refine LeO.ite ?_ ?_
      | refine LeO.bind ?_ (fun _ => ?_)
theorem impl_TurtleDraws.mono_r (k : Nat) (l : impl_passes.E) (x : List ByteArray) : LeO (impl_TurtleDraws.r k l x) (impl_TurtleDraws.r (k + 1) l x) := by
  obtain ⟨ih1, ih2, ih3⟩ := impl_TurtleDraws.mono_l k
  unfold impl_TurtleDraws.r
  repeat' first
  | (with_reducible exact ih1 _ _ _ _)
  | (with_reducible exact ih2 _ _ _ _)
  | (with_reducible exact ih3 _ _ _ _ _ _)
  | (with_reducible exact impl_box.mono _ _)
  | (with_reducible exact LeO.refl _)
  | (with_reducible exact LeO.none _)
  | (with_reducible refine LeO.ite ?_ ?_)
  | (with_reducible refine LeO.bind ?_ (fun _ => ?_))
  | exact ih1 _ _ _ _
  | exact ih2 _ _ _ _
  | exact ih3 _ _ _ _ _ _
  | exact LeO.refl _
  | exact LeO.none _
  | refine LeO.ite ?_ ?_
  | refine LeO.bind ?_ (fun _ => ?_)
theorem impl_TurtleDraws.mono_g (k : Nat) (a0 : ByteArray) (a1 : Int) : LeO (impl_TurtleDraws.g k a0 a1) (impl_TurtleDraws.g (k + 1) a0 a1) := LeO.bind (impl_passes.mono _ _ _) (fun _ => LeO.ite (impl_TurtleDraws.mono_r _ _ _) (LeO.none _))
theorem impl_TurtleDraws.mono : ∀ a0 a1 k, LeO (impl_TurtleDraws.f k a0 a1) (impl_TurtleDraws.f (k + 1) a0 a1) := fun _ _ _ => LeO.bind (impl_isPassed.mono _ _ _) (fun _ => LeO.ite (impl_TurtleDraws.mono_g _ _ _) (LeO.refl _))
set_option maxHeartbeats 8000000 in
set_option maxRecDepth 100000 in
theorem impl_TurtleDraws.calls (k : Nat) (a0 : ByteArray) (a1 : Int) (r1 : ByteArray) (r2 : Bool) (w : World) (h : impl_TurtleDraws.f k a0 a1 = some (r1, r2)) :
    Calls Try.prog 5 #[.string a0, .int .i64 a1] w fun e w' => e = .returned (.tuple #[.string r1, .bool r2]) ∧ Below w.heap.size w w' := by
  have hu36 := Try.underlying36
  have HB := Aside0.mk (Below.refl w.heap.size w)
  have H : ((impl_isPassed.f k a0 a1).bind fun t227 => (if t227 = true then (impl_TurtleDraws.g k a0 a1) else (some ((⟨#[]⟩ : ByteArray), false)))) = some (r1, r2) := h
  clear h
  replace H := Option.bind_eq_some_iff.mp H
  obtain ⟨t227, A30, H⟩ := H
  replace H : (if t227 = true then (impl_TurtleDraws.g k a0 a1) else (some ((⟨#[]⟩ : ByteArray), false))) = some (r1, r2) := H
  have A3 := Aside0.mk A30
  clear A30
  by_cases c4 : t227 = true
  · subst c4
    have H1 : (impl_TurtleDraws.g k a0 a1) = some (r1, r2) := by rw [if_pos rfl] at H; exact H
    clear H
    have H := H1
    clear H1
    unfold impl_TurtleDraws.g at H
    obtain ⟨l, e2, H⟩ := Option.bind_eq_some_iff.mp H
    have A2 := Aside0.mk e2
    clear e2
    by_cases hc : impl_TurtleDraws.Ok l
    case neg => rw [if_neg hc] at H; cases H
    rw [if_pos hc] at H
    have HD := Aside0.mk hc.1
    have HN := Aside0.mk hc.2
    clear hc
    obtain ⟨y229, hy229⟩ : ∃ y_ : List (S36), y_ = (([] : List (S36))) := ⟨_, rfl⟩
    have Ny229 := Aside0.mk hy229
    clear hy229
    obtain ⟨y232, hy232⟩ : ∃ y_ : List ByteArray, y_ = (([] : List ByteArray)) := ⟨_, rfl⟩
    replace H : impl_TurtleDraws.r k l y232 = some (r1, r2) := by rw [hy232]; exact H
    have Ny232 := Aside0.mk hy232
    clear hy232
    have H' := Aside0.mk H
    clear H
    go_enter Try.func5, Try.ntmps5
    go_wp2_with (first | (at_range; refine wpList_range_own _ rfl _ 31 rfl 36 3 (Maps.Keyed.of_law impl_passes.law) Try.underlying31 _ gb228 _ D rfl (HM.out _ BK228.out) ?_; intro w4 hrg hgr hsz; have GI := Aside0.mk (below_size HB.out); have n0_ := Aside0.mk (Kd.R_grown HO231.out hgr (fun _ _ => nofun)); have n1_ := Aside0.mk (Kd.R_grown HO234.out hgr (fun _ _ => nofun)); have n2_ := Aside0.mk (blk_grown BK228.out hgr nofun); have n3_ := Aside0.mk (HB.out.grown hgr (below_size HB.out) (fun j hj => by cases hj)); have HR := Aside0.mk hrg; clear HO231 HO234 BK228 HB hrg hgr hsz; have HO231 := n0_; have HO234 := n1_; have BK228 := n2_; have HB := n3_; clear n0_ n1_ n2_ n3_) | (go_at_call 10; (with_reducible refine (impl_isPassed.calls k a0 a1 true _ A3.out).mono ?_); rintro e w5 ⟨rfl, hb⟩; have n0_ := Aside0.mk (below_step (by repeat (first | (with_reducible first | exact HB.out | apply below_alloc | apply pw_below_drewN | apply below_drew1) | exact HB.out)) hb); clear HB; have HB := n0_; clear n0_; (try clear hb); (try clear hb2); (try clear hk); (try clear hi)) | (go_at_call 11; refine (impl_passes.calls k a0 a1 l _ A2.out).mono ?_; rintro e w6 ⟨gb228, D, rfl, ho, ha, hge, hb⟩; obtain ⟨es, clock, hbox, hfit⟩ := ho; have n0_ := Aside0.mk (below_step (by repeat (first | (with_reducible first | exact HB.out | apply below_alloc | apply pw_below_drewN | apply below_drew1) | exact HB.out)) hb); have n1_ := Aside0.mk hbox; have n2_ := Aside0.mk (Nat.le_trans (below_size HB.out) hge); have n3_ := Aside0.mk (Nat.le_trans (below_size HB.out) hge); have HM := Aside0.mk (fun (u : World) (hu : u.heap[gb228]? = some (.map es clock)) => (show u.ownsMap Try.prog 36 (plainElem (H := Unit) Try.prog 3) gb228 l.length D from ⟨es, clock, hu, hfit⟩)); have HAg := Aside0.mk ha; clear HB; have HB := n0_; have BK228 := n1_; have GW228 := n2_; have GE228 := n3_; clear n0_ n1_ n2_ n3_; clear hb hbox hge ha hfit) | ((with_reducible refine gate_dst (N := 21) rfl ?_); refine Kd.R_lit k36 _ 36 ?hg (N := 21) ?hd (xs := ([] : List (S36))) (inner := []) (ok := fun _ => True) (okp := fun _ => True) ?hr ?hp (fun _ hk => hk) trivial (Below.refl _ _) (Nat.le_refl _) (by simp) ?_; (case hd => rfl); (case hg => rfl); (case hr => first | (go_simp; done) | (go_simp; rfl)); (case hp => exact (Reps.none _ _)); intro v230 w7 ho8 hb hg_ hnew_; clear hg_ hnew_; (first | rw [← Ny229.out] at ho8 | (simp only [Int.reduceToNat] at ho8; rw [← Ny229.out] at ho8)); have n0_ := Aside0.mk (Kd.R_lower (Kd.R_newB ho8 (g := gb228) (o := .map es clock) (by (with_reducible repeat (first | refine blk_drewN ?_ _ | refine blk_drew ?_ | refine blk_alloc ?_ _)); exact BK228.out)) (below_size (by repeat (first | (with_reducible first | exact HB.out | apply below_alloc | apply pw_below_drewN | apply below_drew1 | refine below_set ?_ GE228.out) | exact HB.out)))); have n1_ := Aside0.mk (blk_below (g := gb228) (o := .map es clock) (by (with_reducible repeat (first | refine blk_drewN ?_ _ | refine blk_drew ?_ | refine blk_alloc ?_ _)); exact BK228.out) hb); have n2_ := Aside0.mk (below_step (by repeat (first | (with_reducible first | exact HB.out | apply below_alloc | apply pw_below_drewN | apply below_drew1 | refine below_set ?_ GE228.out) | exact HB.out)) hb); clear BK228; clear HB; have HO231 := n0_; have BK228 := n1_; have HB := n2_; clear n0_ n1_ n2_; clear hb ho8) | ((with_reducible refine gate_dst (N := 22) rfl ?_); refine Kd.R_lit Kd.string _ 9 ?hg (N := 22) ?hd (xs := ([] : List ByteArray)) (inner := []) (ok := fun _ => True) (okp := fun _ => True) ?hr ?hp (fun _ hk => hk) trivial (Below.refl _ _) (Nat.le_refl _) (by simp) ?_; (case hd => rfl); (case hg => rfl); (case hr => first | (go_simp; done) | (go_simp; rfl)); (case hp => exact (Reps.none _ _)); intro v233 w9 ho10 hb hg_ hnew_; clear hg_ hnew_; (first | rw [← Ny232.out] at ho10 | (simp only [Int.reduceToNat] at ho10; rw [← Ny232.out] at ho10)); have n0_ := Aside0.mk (Kd.R_below (by (with_reducible repeat (first | apply Kd.R_alloc | apply Kd.R_drewN | apply Kd.R_drew)); exact HO231.out) hb); have n1_ := Aside0.mk (Kd.R_lower ho10 (below_size (by repeat (first | (with_reducible first | exact HB.out | apply below_alloc | apply pw_below_drewN | apply below_drew1 | refine below_set ?_ GE228.out) | exact HB.out)))); have n2_ := Aside0.mk (blk_below (g := gb228) (o := .map es clock) (by (with_reducible repeat (first | refine blk_drewN ?_ _ | refine blk_drew ?_ | refine blk_alloc ?_ _)); exact BK228.out) hb); have n3_ := Aside0.mk (below_step (by repeat (first | (with_reducible first | exact HB.out | apply below_alloc | apply pw_below_drewN | apply below_drew1 | refine below_set ?_ GE228.out) | exact HB.out)) hb); clear HO231; clear BK228; clear HB; have HO231 := n0_; have HO234 := n1_; have BK228 := n2_; have HB := n3_; clear n0_ n1_ n2_ n3_; clear hb ho10))
    repeat (go_quiet (first | (at_range; refine wpList_range_own _ rfl _ 31 rfl 36 3 (Maps.Keyed.of_law impl_passes.law) Try.underlying31 _ gb228 _ D rfl (HM.out _ BK228.out) ?_; intro w4 hrg hgr hsz; have GI := Aside0.mk (below_size HB.out); have n0_ := Aside0.mk (Kd.R_grown HO231.out hgr (fun _ _ => nofun)); have n1_ := Aside0.mk (Kd.R_grown HO234.out hgr (fun _ _ => nofun)); have n2_ := Aside0.mk (blk_grown BK228.out hgr nofun); have n3_ := Aside0.mk (HB.out.grown hgr (below_size HB.out) (fun j hj => by cases hj)); have HR := Aside0.mk hrg; clear HO231 HO234 BK228 HB hrg hgr hsz; have HO231 := n0_; have HO234 := n1_; have BK228 := n2_; have HB := n3_; clear n0_ n1_ n2_ n3_) | (go_at_call 10; (with_reducible refine (impl_isPassed.calls k a0 a1 true _ A3.out).mono ?_); rintro e w5 ⟨rfl, hb⟩; have n0_ := Aside0.mk (below_step (by repeat (first | (with_reducible first | exact HB.out | apply below_alloc | apply pw_below_drewN | apply below_drew1) | exact HB.out)) hb); clear HB; have HB := n0_; clear n0_; (try clear hb); (try clear hb2); (try clear hk); (try clear hi)) | (go_at_call 11; refine (impl_passes.calls k a0 a1 l _ A2.out).mono ?_; rintro e w6 ⟨gb228, D, rfl, ho, ha, hge, hb⟩; obtain ⟨es, clock, hbox, hfit⟩ := ho; have n0_ := Aside0.mk (below_step (by repeat (first | (with_reducible first | exact HB.out | apply below_alloc | apply pw_below_drewN | apply below_drew1) | exact HB.out)) hb); have n1_ := Aside0.mk hbox; have n2_ := Aside0.mk (Nat.le_trans (below_size HB.out) hge); have n3_ := Aside0.mk (Nat.le_trans (below_size HB.out) hge); have HM := Aside0.mk (fun (u : World) (hu : u.heap[gb228]? = some (.map es clock)) => (show u.ownsMap Try.prog 36 (plainElem (H := Unit) Try.prog 3) gb228 l.length D from ⟨es, clock, hu, hfit⟩)); have HAg := Aside0.mk ha; clear HB; have HB := n0_; have BK228 := n1_; have GW228 := n2_; have GE228 := n3_; clear n0_ n1_ n2_ n3_; clear hb hbox hge ha hfit) | ((with_reducible refine gate_dst (N := 21) rfl ?_); refine Kd.R_lit k36 _ 36 ?hg (N := 21) ?hd (xs := ([] : List (S36))) (inner := []) (ok := fun _ => True) (okp := fun _ => True) ?hr ?hp (fun _ hk => hk) trivial (Below.refl _ _) (Nat.le_refl _) (by simp) ?_; (case hd => rfl); (case hg => rfl); (case hr => first | (go_simp; done) | (go_simp; rfl)); (case hp => exact (Reps.none _ _)); intro v230 w7 ho8 hb hg_ hnew_; clear hg_ hnew_; (first | rw [← Ny229.out] at ho8 | (simp only [Int.reduceToNat] at ho8; rw [← Ny229.out] at ho8)); have n0_ := Aside0.mk (Kd.R_lower (Kd.R_newB ho8 (g := gb228) (o := .map es clock) (by (with_reducible repeat (first | refine blk_drewN ?_ _ | refine blk_drew ?_ | refine blk_alloc ?_ _)); exact BK228.out)) (below_size (by repeat (first | (with_reducible first | exact HB.out | apply below_alloc | apply pw_below_drewN | apply below_drew1 | refine below_set ?_ GE228.out) | exact HB.out)))); have n1_ := Aside0.mk (blk_below (g := gb228) (o := .map es clock) (by (with_reducible repeat (first | refine blk_drewN ?_ _ | refine blk_drew ?_ | refine blk_alloc ?_ _)); exact BK228.out) hb); have n2_ := Aside0.mk (below_step (by repeat (first | (with_reducible first | exact HB.out | apply below_alloc | apply pw_below_drewN | apply below_drew1 | refine below_set ?_ GE228.out) | exact HB.out)) hb); clear BK228; clear HB; have HO231 := n0_; have BK228 := n1_; have HB := n2_; clear n0_ n1_ n2_; clear hb ho8) | ((with_reducible refine gate_dst (N := 22) rfl ?_); refine Kd.R_lit Kd.string _ 9 ?hg (N := 22) ?hd (xs := ([] : List ByteArray)) (inner := []) (ok := fun _ => True) (okp := fun _ => True) ?hr ?hp (fun _ hk => hk) trivial (Below.refl _ _) (Nat.le_refl _) (by simp) ?_; (case hd => rfl); (case hg => rfl); (case hr => first | (go_simp; done) | (go_simp; rfl)); (case hp => exact (Reps.none _ _)); intro v233 w9 ho10 hb hg_ hnew_; clear hg_ hnew_; (first | rw [← Ny232.out] at ho10 | (simp only [Int.reduceToNat] at ho10; rw [← Ny232.out] at ho10)); have n0_ := Aside0.mk (Kd.R_below (by (with_reducible repeat (first | apply Kd.R_alloc | apply Kd.R_drewN | apply Kd.R_drew)); exact HO231.out) hb); have n1_ := Aside0.mk (Kd.R_lower ho10 (below_size (by repeat (first | (with_reducible first | exact HB.out | apply below_alloc | apply pw_below_drewN | apply below_drew1 | refine below_set ?_ GE228.out) | exact HB.out)))); have n2_ := Aside0.mk (blk_below (g := gb228) (o := .map es clock) (by (with_reducible repeat (first | refine blk_drewN ?_ _ | refine blk_drew ?_ | refine blk_alloc ?_ _)); exact BK228.out) hb); have n3_ := Aside0.mk (below_step (by repeat (first | (with_reducible first | exact HB.out | apply below_alloc | apply pw_below_drewN | apply below_drew1 | refine below_set ?_ GE228.out) | exact HB.out)) hb); clear HO231; clear BK228; clear HB; have HO231 := n0_; have HO234 := n1_; have BK228 := n2_; have HB := n3_; clear n0_ n1_ n2_ n3_; clear hb ho10)); try go_wp2_with (first | (at_range; refine wpList_range_own _ rfl _ 31 rfl 36 3 (Maps.Keyed.of_law impl_passes.law) Try.underlying31 _ gb228 _ D rfl (HM.out _ BK228.out) ?_; intro w4 hrg hgr hsz; have GI := Aside0.mk (below_size HB.out); have n0_ := Aside0.mk (Kd.R_grown HO231.out hgr (fun _ _ => nofun)); have n1_ := Aside0.mk (Kd.R_grown HO234.out hgr (fun _ _ => nofun)); have n2_ := Aside0.mk (blk_grown BK228.out hgr nofun); have n3_ := Aside0.mk (HB.out.grown hgr (below_size HB.out) (fun j hj => by cases hj)); have HR := Aside0.mk hrg; clear HO231 HO234 BK228 HB hrg hgr hsz; have HO231 := n0_; have HO234 := n1_; have BK228 := n2_; have HB := n3_; clear n0_ n1_ n2_ n3_) | (go_at_call 10; (with_reducible refine (impl_isPassed.calls k a0 a1 true _ A3.out).mono ?_); rintro e w5 ⟨rfl, hb⟩; have n0_ := Aside0.mk (below_step (by repeat (first | (with_reducible first | exact HB.out | apply below_alloc | apply pw_below_drewN | apply below_drew1) | exact HB.out)) hb); clear HB; have HB := n0_; clear n0_; (try clear hb); (try clear hb2); (try clear hk); (try clear hi)) | (go_at_call 11; refine (impl_passes.calls k a0 a1 l _ A2.out).mono ?_; rintro e w6 ⟨gb228, D, rfl, ho, ha, hge, hb⟩; obtain ⟨es, clock, hbox, hfit⟩ := ho; have n0_ := Aside0.mk (below_step (by repeat (first | (with_reducible first | exact HB.out | apply below_alloc | apply pw_below_drewN | apply below_drew1) | exact HB.out)) hb); have n1_ := Aside0.mk hbox; have n2_ := Aside0.mk (Nat.le_trans (below_size HB.out) hge); have n3_ := Aside0.mk (Nat.le_trans (below_size HB.out) hge); have HM := Aside0.mk (fun (u : World) (hu : u.heap[gb228]? = some (.map es clock)) => (show u.ownsMap Try.prog 36 (plainElem (H := Unit) Try.prog 3) gb228 l.length D from ⟨es, clock, hu, hfit⟩)); have HAg := Aside0.mk ha; clear HB; have HB := n0_; have BK228 := n1_; have GW228 := n2_; have GE228 := n3_; clear n0_ n1_ n2_ n3_; clear hb hbox hge ha hfit) | ((with_reducible refine gate_dst (N := 21) rfl ?_); refine Kd.R_lit k36 _ 36 ?hg (N := 21) ?hd (xs := ([] : List (S36))) (inner := []) (ok := fun _ => True) (okp := fun _ => True) ?hr ?hp (fun _ hk => hk) trivial (Below.refl _ _) (Nat.le_refl _) (by simp) ?_; (case hd => rfl); (case hg => rfl); (case hr => first | (go_simp; done) | (go_simp; rfl)); (case hp => exact (Reps.none _ _)); intro v230 w7 ho8 hb hg_ hnew_; clear hg_ hnew_; (first | rw [← Ny229.out] at ho8 | (simp only [Int.reduceToNat] at ho8; rw [← Ny229.out] at ho8)); have n0_ := Aside0.mk (Kd.R_lower (Kd.R_newB ho8 (g := gb228) (o := .map es clock) (by (with_reducible repeat (first | refine blk_drewN ?_ _ | refine blk_drew ?_ | refine blk_alloc ?_ _)); exact BK228.out)) (below_size (by repeat (first | (with_reducible first | exact HB.out | apply below_alloc | apply pw_below_drewN | apply below_drew1 | refine below_set ?_ GE228.out) | exact HB.out)))); have n1_ := Aside0.mk (blk_below (g := gb228) (o := .map es clock) (by (with_reducible repeat (first | refine blk_drewN ?_ _ | refine blk_drew ?_ | refine blk_alloc ?_ _)); exact BK228.out) hb); have n2_ := Aside0.mk (below_step (by repeat (first | (with_reducible first | exact HB.out | apply below_alloc | apply pw_below_drewN | apply below_drew1 | refine below_set ?_ GE228.out) | exact HB.out)) hb); clear BK228; clear HB; have HO231 := n0_; have BK228 := n1_; have HB := n2_; clear n0_ n1_ n2_; clear hb ho8) | ((with_reducible refine gate_dst (N := 22) rfl ?_); refine Kd.R_lit Kd.string _ 9 ?hg (N := 22) ?hd (xs := ([] : List ByteArray)) (inner := []) (ok := fun _ => True) (okp := fun _ => True) ?hr ?hp (fun _ hk => hk) trivial (Below.refl _ _) (Nat.le_refl _) (by simp) ?_; (case hd => rfl); (case hg => rfl); (case hr => first | (go_simp; done) | (go_simp; rfl)); (case hp => exact (Reps.none _ _)); intro v233 w9 ho10 hb hg_ hnew_; clear hg_ hnew_; (first | rw [← Ny232.out] at ho10 | (simp only [Int.reduceToNat] at ho10; rw [← Ny232.out] at ho10)); have n0_ := Aside0.mk (Kd.R_below (by (with_reducible repeat (first | apply Kd.R_alloc | apply Kd.R_drewN | apply Kd.R_drew)); exact HO231.out) hb); have n1_ := Aside0.mk (Kd.R_lower ho10 (below_size (by repeat (first | (with_reducible first | exact HB.out | apply below_alloc | apply pw_below_drewN | apply below_drew1 | refine below_set ?_ GE228.out) | exact HB.out)))); have n2_ := Aside0.mk (blk_below (g := gb228) (o := .map es clock) (by (with_reducible repeat (first | refine blk_drewN ?_ _ | refine blk_drew ?_ | refine blk_alloc ?_ _)); exact BK228.out) hb); have n3_ := Aside0.mk (below_step (by repeat (first | (with_reducible first | exact HB.out | apply below_alloc | apply pw_below_drewN | apply below_drew1 | refine below_set ?_ GE228.out) | exact HB.out)) hb); clear HO231; clear BK228; clear HB; have HO231 := n0_; have HO234 := n1_; have BK228 := n2_; have HB := n3_; clear n0_ n1_ n2_ n3_; clear hb ho10)))
    go_frame
    generalize w9.heap.size = gi at HR GI ⊢
    go_loopg [7] (Maps.size D) (fun kq v7 w' => ∃ (x7_1 : List (S36)) (left : Lit → Bool), Aside0 (x7_1.Perm (impl_TurtleDraws.pts (impl_TurtleDraws.rest l left))) ∧ Aside0 (w'.ranges Try.prog 36 (plainElem (H := Unit) Try.prog 3) gb228 gi l.length D left kq) ∧ Aside0 (Kd.R k36 36 w' w.heap.size (fun k_ => k_ ≠ gb228) v7 x7_1) ∧ Aside0 (Kd.R Kd.string 9 w' w.heap.size (fun _ => True) v233 y232) ∧ Aside0 (w'.heap[gb228]? = some (.map es clock)) ∧ Aside0 (Below w.heap.size w w'))
    case atStart => exact ⟨(y229), Maps.has D, ⟨by rw [impl_TurtleDraws.start HAg.out, Ny229.out]; exact List.Perm.refl _⟩, HR, ⟨by (with_reducible repeat (first | apply Kd.R_alloc | apply Kd.R_drewN | apply Kd.R_drew)); exact Kd.R_mono HO231.out (fun _ hk => hk.2)⟩, ⟨by (with_reducible repeat (first | apply Kd.R_alloc | apply Kd.R_drewN | apply Kd.R_drew)); exact HO234.out⟩, ⟨by (with_reducible repeat (first | refine blk_drewN ?_ _ | refine blk_drew ?_ | refine blk_alloc ?_ _)); exact BK228.out⟩, ⟨by repeat (first | (with_reducible first | exact HB.out | apply below_alloc | apply pw_below_drewN | apply below_drew1 | refine below_set ?_ GE228.out) | exact HB.out)⟩⟩
    case round =>
      clear HR
      try clear p2
      try clear c4
      try clear c5
      try clear hcz11_0
      try clear hcz11_1
      try clear hfz11_0
      try clear hfz11_1
      obtain ⟨x7_1, left, HPm, HR, HO_7, HO_8, BK228, HB⟩ := hrel
      go_wp2_with (first | (at_next; refine wpList_next_ranges _ rfl _ rfl 36 (Maps.Keyed.of_law impl_passes.law) (plainElem (H := Unit) Try.prog 3) (α := Value) (β := Int) id (Value.int .i64) (fun key kl _ => ⟨key, rfl⟩) (fun v y hv => by obtain ⟨c, rfl, _⟩ := plainElem_int_inv Try.underlying3 hv; exact ⟨c, rfl⟩) gb228 gi l.length D left _ rfl HR.out ?_ ?_))
      · intro _ hl0
        have H := H'.out
        clear H'
        unfold impl_TurtleDraws.r at H
        obtain ⟨k1, hk1⟩ : ∃ k1, k1 = k := ⟨_, rfl⟩
        rw [← hk1] at H
        have HK1 := Aside0.mk (Nat.le_refl k1)
        have hpm := HPm.out
        rw [impl_TurtleDraws.stop hl0] at hpm
        have hlen : x7_1.length ≤ 1000000 := by have := hpm.length_eq; have := HN.out; unfold impl_TurtleDraws.pts at *; simp at *; omega
        replace H := Option.bind_eq_some_iff.mp H
        obtain ⟨t239, A180, H⟩ := H
        rw [← impl_TurtleDraws.box_same hlen hpm] at A180
        replace H : (if 1 < (t239.length : Int) then (if 0 < (t239.length : Int) then (if (wrap64 ((rd t239 1) - (rd t239 0))) ≥ 60 then (impl_TurtleDraws.j1 k1 l y232 t239 true) else (if 3 < (t239.length : Int) then (if 2 < (t239.length : Int) then (impl_TurtleDraws.j1 k1 l y232 t239 (decide ((wrap64 ((rd t239 3) - (rd t239 2))) ≥ 60))) else (none)) else (none))) else (none)) else (none)) = some (r1, r2) := H
        have A18 := Aside0.mk A180
        clear A180
        have HC19 := Aside0.mk H
        clear H
        obtain ⟨Ao20, co20, eo20⟩ := Kd.R_slice HO_7.out
        subst eo20
        go_upto_region 9 with (first | (go_at_call 12; (with_reducible refine (impl_box.calls k1 _ _ x7_1 t239 _ ?side1 ?side2 A18.out).mono ?_); (case side1 => repeat (first | exact (Kd.R_reads' HO_7.out).2.2 | (with_reducible refine Kd.C_alloc ?_ _) | (with_reducible refine Kd.C_drewN ?_ _) | (with_reducible refine Kd.C_drew ?_))); (case side2 => exact (Kd.R_reads' HO_7.out).2.1); rintro e w21 ⟨v240, rfl, ho0, hb⟩; have n0_ := Aside0.mk (Kd.R_below (by (with_reducible repeat (first | apply Kd.R_alloc | apply Kd.R_drewN | apply Kd.R_drew)); exact HO_7.out) hb); have n1_ := Aside0.mk (Kd.R_below (by (with_reducible repeat (first | apply Kd.R_alloc | apply Kd.R_drewN | apply Kd.R_drew)); exact HO_8.out) hb); have n2_ := Aside0.mk (Kd.R_lower ho0 (below_size (by repeat (first | (with_reducible first | exact HB.out | apply below_alloc | apply pw_below_drewN | apply below_drew1 | refine below_set ?_ GE228.out) | exact HB.out)))); have n3_ := Aside0.mk (blk_below (g := gb228) (o := .map es clock) (by (with_reducible repeat (first | refine blk_drewN ?_ _ | refine blk_drew ?_ | refine blk_alloc ?_ _)); exact BK228.out) hb); have n4_ := Aside0.mk (below_step (by repeat (first | (with_reducible first | exact HB.out | apply below_alloc | apply pw_below_drewN | apply below_drew1 | refine below_set ?_ GE228.out) | exact HB.out)) hb); clear HO_7; clear HO_8; clear BK228; clear HB; have HO_7 := n0_; have HO_8 := n1_; have HO241 := n2_; have BK228 := n3_; have HB := n4_; clear n0_ n1_ n2_ n3_ n4_; (try clear hb); (try clear hb2); (try clear hk); (try clear hi); (try clear ho0)))
        repeat (go_quiet (first | (go_at_call 12; (with_reducible refine (impl_box.calls k1 _ _ x7_1 t239 _ ?side1 ?side2 A18.out).mono ?_); (case side1 => repeat (first | exact (Kd.R_reads' HO_7.out).2.2 | (with_reducible refine Kd.C_alloc ?_ _) | (with_reducible refine Kd.C_drewN ?_ _) | (with_reducible refine Kd.C_drew ?_))); (case side2 => exact (Kd.R_reads' HO_7.out).2.1); rintro e w21 ⟨v240, rfl, ho0, hb⟩; have n0_ := Aside0.mk (Kd.R_below (by (with_reducible repeat (first | apply Kd.R_alloc | apply Kd.R_drewN | apply Kd.R_drew)); exact HO_7.out) hb); have n1_ := Aside0.mk (Kd.R_below (by (with_reducible repeat (first | apply Kd.R_alloc | apply Kd.R_drewN | apply Kd.R_drew)); exact HO_8.out) hb); have n2_ := Aside0.mk (Kd.R_lower ho0 (below_size (by repeat (first | (with_reducible first | exact HB.out | apply below_alloc | apply pw_below_drewN | apply below_drew1 | refine below_set ?_ GE228.out) | exact HB.out)))); have n3_ := Aside0.mk (blk_below (g := gb228) (o := .map es clock) (by (with_reducible repeat (first | refine blk_drewN ?_ _ | refine blk_drew ?_ | refine blk_alloc ?_ _)); exact BK228.out) hb); have n4_ := Aside0.mk (below_step (by repeat (first | (with_reducible first | exact HB.out | apply below_alloc | apply pw_below_drewN | apply below_drew1 | refine below_set ?_ GE228.out) | exact HB.out)) hb); clear HO_7; clear HO_8; clear BK228; clear HB; have HO_7 := n0_; have HO_8 := n1_; have HO241 := n2_; have BK228 := n3_; have HB := n4_; clear n0_ n1_ n2_ n3_ n4_; (try clear hb); (try clear hb2); (try clear hk); (try clear hi); (try clear ho0))); go_upto_region 9 with (first | (go_at_call 12; (with_reducible refine (impl_box.calls k1 _ _ x7_1 t239 _ ?side1 ?side2 A18.out).mono ?_); (case side1 => repeat (first | exact (Kd.R_reads' HO_7.out).2.2 | (with_reducible refine Kd.C_alloc ?_ _) | (with_reducible refine Kd.C_drewN ?_ _) | (with_reducible refine Kd.C_drew ?_))); (case side2 => exact (Kd.R_reads' HO_7.out).2.1); rintro e w21 ⟨v240, rfl, ho0, hb⟩; have n0_ := Aside0.mk (Kd.R_below (by (with_reducible repeat (first | apply Kd.R_alloc | apply Kd.R_drewN | apply Kd.R_drew)); exact HO_7.out) hb); have n1_ := Aside0.mk (Kd.R_below (by (with_reducible repeat (first | apply Kd.R_alloc | apply Kd.R_drewN | apply Kd.R_drew)); exact HO_8.out) hb); have n2_ := Aside0.mk (Kd.R_lower ho0 (below_size (by repeat (first | (with_reducible first | exact HB.out | apply below_alloc | apply pw_below_drewN | apply below_drew1 | refine below_set ?_ GE228.out) | exact HB.out)))); have n3_ := Aside0.mk (blk_below (g := gb228) (o := .map es clock) (by (with_reducible repeat (first | refine blk_drewN ?_ _ | refine blk_drew ?_ | refine blk_alloc ?_ _)); exact BK228.out) hb); have n4_ := Aside0.mk (below_step (by repeat (first | (with_reducible first | exact HB.out | apply below_alloc | apply pw_below_drewN | apply below_drew1 | refine below_set ?_ GE228.out) | exact HB.out)) hb); clear HO_7; clear HO_8; clear BK228; clear HB; have HO_7 := n0_; have HO_8 := n1_; have HO241 := n2_; have BK228 := n3_; have HB := n4_; clear n0_ n1_ n2_ n3_ n4_; (try clear hb); (try clear hb2); (try clear hk); (try clear hi); (try clear ho0))))
        (try simp only [Act.put, List.setIfInBounds_toArray, List.set_cons_zero, List.set_cons_succ])
        go_cut [52] (fun v52 wc => ∃ (kq : Nat) (x52_18 : Bool), v52 = .bool x52_18 ∧ Aside0 (impl_TurtleDraws.j1 kq l y232 t239 x52_18 = some (r1, r2)) ∧ Aside0 (kq ≤ k1) ∧ Aside0 (Kd.R Kd.string 9 wc w.heap.size (fun _ => True) v233 y232) ∧ Aside0 (Kd.R (Kd.int .i64) 3 wc w.heap.size (fun _ => True) v240 t239) ∧ Aside0 (wc.heap[gb228]? = some (.map es clock)) ∧ Aside0 (Below w.heap.size w wc))
        case first =>
          have H := HC19.out
          clear HC19
          by_cases c22 : 1 < (t239.length : Int)
          · rw [if_pos c22] at H
            have c22b0 : decide (1 < (t239.length : Int)) = true := decide_eq_true c22
            have c22b1 : decide (1 < t239.length) = true := decide_eq_true (by omega)
            clear c22
            (first | rw [c22b0] | (simp only [i64_w, i32_w]; rw [c22b0]) | skip)
            by_cases c23 : 0 < (t239.length : Int)
            · rw [if_pos c23] at H
              have c23b0 : decide (0 < (t239.length : Int)) = true := decide_eq_true c23
              have c23b1 : decide (0 < t239.length) = true := decide_eq_true (by omega)
              clear c23
              by_cases c24 : (wrap64 ((rd t239 1) - (rd t239 0))) ≥ 60
              · rw [if_pos c24] at H
                have c24b0 : decide (60 ≤ (wrap64 ((rd t239 1) - (rd t239 0)))) = true := decide_eq_true c24
                clear c24
                have H' := Aside0.mk H
                clear H
                obtain ⟨Ao25, co25, eo25⟩ := Kd.R_slice HO241.out
                subst eo25
                have p242 : 0 ≤ (1 : Int) := (by omega)
                have q242 : 1 < (t239.length : Int) := of_decide_eq_true (by first | (with_reducible assumption) | assumption)
                obtain ⟨ad242, e242, hx242_0⟩ := Kd.at_int (Kd.R_reads' HO241.out).2.2 1 p242 q242
                cases e242
                (try simp only [show (1 : Int).toNat = 1 from rfl, Nat.reduceMul, Nat.reduceEqDiff, Go.Addr.add, ↓reduceIte] at hx242_0)
                have qi242 : (1 < t239.length) = True := eq_true (by omega)
                (try rw [show ((1 : Int)).toNat = 1 from rfl] at hx242_0)
                replace p242 := eq_true p242
                replace q242 := eq_true q242
                have p243 : 0 ≤ (0 : Int) := (by omega)
                have q243 : 0 < (t239.length : Int) := of_decide_eq_true (by first | (with_reducible assumption) | assumption)
                obtain ⟨ad243, e243, hx243_0⟩ := Kd.at_int (Kd.R_reads' HO241.out).2.2 0 p243 q243
                obtain rfl : ad242 = ad243 := (by injection e243)
                have qi243 : (0 < t239.length) = True := eq_true (by omega)
                (try rw [show ((0 : Int)).toNat = 0 from rfl] at hx243_0)
                (try rw [Addr.add_zero'] at hx243_0)
                replace p243 := eq_true p243
                replace q243 := eq_true q243
                go_wp2
                repeat (go_quiet (fail); try go_wp2)
                go_meet
                case rel => exact ⟨_, (true), (by first | rfl | (simp; done) | (simp [*]; done)), H', ⟨by have := HK1.out; first | omega | exact Nat.le_refl _⟩, ⟨by (with_reducible repeat (first | apply Kd.R_alloc | apply Kd.R_drewN | apply Kd.R_drew)); exact HO_8.out⟩, ⟨by (with_reducible repeat (first | apply Kd.R_alloc | apply Kd.R_drewN | apply Kd.R_drew)); exact HO241.out⟩, ⟨by (with_reducible repeat (first | refine blk_drewN ?_ _ | refine blk_drew ?_ | refine blk_alloc ?_ _)); exact BK228.out⟩, ⟨by repeat (first | (with_reducible first | exact HB.out | apply below_alloc | apply pw_below_drewN | apply below_drew1 | refine below_set ?_ GE228.out) | exact HB.out)⟩⟩
              · rw [if_neg c24] at H
                have c24b0 : decide (60 ≤ (wrap64 ((rd t239 1) - (rd t239 0)))) = false := decide_eq_false c24
                clear c24
                by_cases c26 : 3 < (t239.length : Int)
                · rw [if_pos c26] at H
                  have c26b0 : decide (3 < (t239.length : Int)) = true := decide_eq_true c26
                  have c26b1 : decide (3 < t239.length) = true := decide_eq_true (by omega)
                  clear c26
                  by_cases c27 : 2 < (t239.length : Int)
                  · rw [if_pos c27] at H
                    have c27b0 : decide (2 < (t239.length : Int)) = true := decide_eq_true c27
                    have c27b1 : decide (2 < t239.length) = true := decide_eq_true (by omega)
                    clear c27
                    have H' := Aside0.mk H
                    clear H
                    obtain ⟨Ao28, co28, eo28⟩ := Kd.R_slice HO241.out
                    subst eo28
                    have p242 : 0 ≤ (1 : Int) := (by omega)
                    have q242 : 1 < (t239.length : Int) := of_decide_eq_true (by first | (with_reducible assumption) | assumption)
                    obtain ⟨ad242, e242, hx242_0⟩ := Kd.at_int (Kd.R_reads' HO241.out).2.2 1 p242 q242
                    cases e242
                    (try simp only [show (1 : Int).toNat = 1 from rfl, Nat.reduceMul, Nat.reduceEqDiff, Go.Addr.add, ↓reduceIte] at hx242_0)
                    have qi242 : (1 < t239.length) = True := eq_true (by omega)
                    (try rw [show ((1 : Int)).toNat = 1 from rfl] at hx242_0)
                    replace p242 := eq_true p242
                    replace q242 := eq_true q242
                    have p243 : 0 ≤ (0 : Int) := (by omega)
                    have q243 : 0 < (t239.length : Int) := of_decide_eq_true (by first | (with_reducible assumption) | assumption)
                    obtain ⟨ad243, e243, hx243_0⟩ := Kd.at_int (Kd.R_reads' HO241.out).2.2 0 p243 q243
                    obtain rfl : ad242 = ad243 := (by injection e243)
                    have qi243 : (0 < t239.length) = True := eq_true (by omega)
                    (try rw [show ((0 : Int)).toNat = 0 from rfl] at hx243_0)
                    (try rw [Addr.add_zero'] at hx243_0)
                    replace p243 := eq_true p243
                    replace q243 := eq_true q243
                    have p244 : 0 ≤ (3 : Int) := (by omega)
                    have q244 : 3 < (t239.length : Int) := of_decide_eq_true (by first | (with_reducible assumption) | assumption)
                    obtain ⟨ad244, e244, hx244_0⟩ := Kd.at_int (Kd.R_reads' HO241.out).2.2 3 p244 q244
                    obtain rfl : ad242 = ad244 := (by injection e244)
                    (try simp only [show (3 : Int).toNat = 3 from rfl, Nat.reduceMul, Nat.reduceEqDiff, Go.Addr.add, ↓reduceIte] at hx244_0)
                    have qi244 : (3 < t239.length) = True := eq_true (by omega)
                    (try rw [show ((3 : Int)).toNat = 3 from rfl] at hx244_0)
                    replace p244 := eq_true p244
                    replace q244 := eq_true q244
                    have p245 : 0 ≤ (2 : Int) := (by omega)
                    have q245 : 2 < (t239.length : Int) := of_decide_eq_true (by first | (with_reducible assumption) | assumption)
                    obtain ⟨ad245, e245, hx245_0⟩ := Kd.at_int (Kd.R_reads' HO241.out).2.2 2 p245 q245
                    obtain rfl : ad242 = ad245 := (by injection e245)
                    (try simp only [show (2 : Int).toNat = 2 from rfl, Nat.reduceMul, Nat.reduceEqDiff, Go.Addr.add, ↓reduceIte] at hx245_0)
                    have qi245 : (2 < t239.length) = True := eq_true (by omega)
                    (try rw [show ((2 : Int)).toNat = 2 from rfl] at hx245_0)
                    replace p245 := eq_true p245
                    replace q245 := eq_true q245
                    go_wp2
                    repeat (go_quiet (fail); try go_wp2)
                    go_meet
                    case rel => exact ⟨_, (decide ((wrap64 ((rd t239 3) - (rd t239 2))) ≥ 60)), (by first | rfl | (simp; done) | (simp [*]; done)), H', ⟨by have := HK1.out; first | omega | exact Nat.le_refl _⟩, ⟨by (with_reducible repeat (first | apply Kd.R_alloc | apply Kd.R_drewN | apply Kd.R_drew)); exact HO_8.out⟩, ⟨by (with_reducible repeat (first | apply Kd.R_alloc | apply Kd.R_drewN | apply Kd.R_drew)); exact HO241.out⟩, ⟨by (with_reducible repeat (first | refine blk_drewN ?_ _ | refine blk_drew ?_ | refine blk_alloc ?_ _)); exact BK228.out⟩, ⟨by repeat (first | (with_reducible first | exact HB.out | apply below_alloc | apply pw_below_drewN | apply below_drew1 | refine below_set ?_ GE228.out) | exact HB.out)⟩⟩
                  · rw [if_neg c27] at H
                    exact absurd H (by simp)
                · rw [if_neg c26] at H
                  exact absurd H (by simp)
            · rw [if_neg c23] at H
              exact absurd H (by simp)
          · rw [if_neg c22] at H
            exact absurd H (by simp)
        case rest =>
          clear HC19
          try clear c1
          try clear c2
          try clear p2
          try clear q2
          try clear hx2
          try clear qi2
          try clear c4
          try clear c5
          try clear p6
          try clear c12
          try clear c12b0
          try clear c13
          try clear c15
          try clear c22
          try clear c22b0
          try clear c22b1
          try clear c23
          try clear c23b0
          try clear c23b1
          try clear c24
          try clear c24b0
          try clear p24
          try clear q24
          try clear hx24
          try clear qi24
          try clear c26
          try clear c26b0
          try clear c26b1
          try clear c27
          try clear c27b0
          try clear c27b1
          try clear hcz11_0
          try clear hcz11_1
          try clear hcz16_0
          try clear hcz16_1
          try clear hfz11_0
          try clear hfz11_1
          try clear hfz16_0
          try clear hfz16_1
          try clear hx242_0
          try clear hx243_0
          try clear hx244_0
          try clear hx245_0
          try clear p2
          try clear p242
          try clear p243
          try clear p244
          try clear p245
          try clear q242
          try clear q243
          try clear q244
          try clear q245
          obtain ⟨kq, x52_18, rfl, HA, HJ18, HO_8, HO_10, BK228, HB⟩ := hcut
          cases kq with
          | zero => exact absurd HA.out (by simp [impl_TurtleDraws.j1])
          | succ kj18 =>
            have H := HA.out
            clear HA
            simp only [impl_TurtleDraws.j1] at H
            by_cases c29 : x52_18 = true
            · subst c29
              have H1 : (some ((⟨#[]⟩ : ByteArray), false)) = some (r1, r2) := by rw [if_pos rfl] at H; exact H
              clear H
              have H := H1
              clear H1
              simp only [Option.some.injEq, Prod.mk.injEq] at H
              obtain ⟨rfl, rfl⟩ := H
              go_wp2
              repeat (go_quiet (fail); try go_wp2)
              go_ret2
              exact ⟨by first | rfl | (simp [errW_none, errW_some] <;> rfl) | (simp [*, errW_none, errW_some] <;> rfl), by repeat (first | (with_reducible first | exact HB.out | apply below_alloc | apply pw_below_drewN | apply below_drew1 | refine below_set ?_ GE228.out) | exact HB.out)⟩
            · replace c29 := Bool.eq_false_iff.mpr c29
              subst c29
              have H1 : (if 2 < (t239.length : Int) then (impl_TurtleDraws.l1 kj18 l y232 t239 (rd t239 2)) else (none)) = some (r1, r2) := by rw [if_neg (show ¬ (false = true) by decide)] at H; exact H
              clear H
              have H := H1
              clear H1
              by_cases c30 : 2 < (t239.length : Int)
              · rw [if_pos c30] at H
                have c30b0 : decide (2 < (t239.length : Int)) = true := decide_eq_true c30
                have c30b1 : decide (2 < t239.length) = true := decide_eq_true (by omega)
                clear c30
                have H' := Aside0.mk H
                clear H
                obtain ⟨Ao31, co31, eo31⟩ := Kd.R_slice HO_10.out
                subst eo31
                have p246 : 0 ≤ (2 : Int) := (by omega)
                have q246 : 2 < (t239.length : Int) := of_decide_eq_true (by first | (with_reducible assumption) | assumption)
                obtain ⟨ad246, e246, hx246_0⟩ := Kd.at_int (Kd.R_reads' HO_10.out).2.2 2 p246 q246
                cases e246
                (try simp only [show (2 : Int).toNat = 2 from rfl, Nat.reduceMul, Nat.reduceEqDiff, Go.Addr.add, ↓reduceIte] at hx246_0)
                have qi246 : (2 < t239.length) = True := eq_true (by omega)
                (try rw [show ((2 : Int)).toNat = 2 from rfl] at hx246_0)
                replace p246 := eq_true p246
                replace q246 := eq_true q246
                go_wp2
                repeat (go_quiet (fail); try go_wp2)
                go_loopg [8, 11] kj18 (fun kq v8 v11 w' => ∃ (x8_3 : List ByteArray) (x11_3 : Int), v11 = .int .i64 x11_3 ∧ Aside0 (impl_TurtleDraws.l1 kq l x8_3 t239 x11_3 = some (r1, r2)) ∧ Aside0 (kq ≤ kj18) ∧ Aside0 (Kd.R Kd.string 9 w' w.heap.size (fun _ => True) v8 x8_3) ∧ Aside0 (Kd.R (Kd.int .i64) 3 w' w.heap.size (fun _ => True) (.slice (some ad246) t239.length co31) t239) ∧ Aside0 (w'.heap[gb228]? = some (.map es clock)) ∧ Aside0 (Below w.heap.size w w'))
                case atStart => exact ⟨(y232), (rd t239 2), (by first | rfl | (simp; done) | (simp [*]; done)), H', ⟨Nat.le_refl _⟩, ⟨by (with_reducible repeat (first | apply Kd.R_alloc | apply Kd.R_drewN | apply Kd.R_drew)); exact HO_8.out⟩, ⟨by (with_reducible repeat (first | apply Kd.R_alloc | apply Kd.R_drewN | apply Kd.R_drew)); exact HO_10.out⟩, ⟨by (with_reducible repeat (first | refine blk_drewN ?_ _ | refine blk_drew ?_ | refine blk_alloc ?_ _)); exact BK228.out⟩, ⟨by repeat (first | (with_reducible first | exact HB.out | apply below_alloc | apply pw_below_drewN | apply below_drew1 | refine below_set ?_ GE228.out) | exact HB.out)⟩⟩
                case round =>
                  clear H'
                  try clear c1
                  try clear c2
                  try clear p2
                  try clear q2
                  try clear hx2
                  try clear qi2
                  try clear c3
                  try clear c4
                  try clear c5
                  try clear p6
                  try clear c12
                  try clear c12b0
                  try clear c13
                  try clear c15
                  try clear c22
                  try clear c22b0
                  try clear c22b1
                  try clear c23
                  try clear c23b0
                  try clear c23b1
                  try clear c24
                  try clear c24b0
                  try clear p24
                  try clear q24
                  try clear hx24
                  try clear qi24
                  try clear c26
                  try clear c26b0
                  try clear c26b1
                  try clear c27
                  try clear c27b0
                  try clear c27b1
                  try clear c29
                  try clear c30
                  try clear c30b0
                  try clear c30b1
                  try clear hcz11_0
                  try clear hcz11_1
                  try clear hcz16_0
                  try clear hcz16_1
                  try clear hfz11_0
                  try clear hfz11_1
                  try clear hfz16_0
                  try clear hfz16_1
                  try clear hx242_0
                  try clear hx243_0
                  try clear hx244_0
                  try clear hx245_0
                  try clear hx246_0
                  try clear p2
                  try clear p24
                  try clear p242
                  try clear p243
                  try clear p244
                  try clear p245
                  try clear p246
                  try clear p6
                  try clear q2
                  try clear q24
                  try clear q242
                  try clear q243
                  try clear q244
                  try clear q245
                  try clear q246
                  obtain ⟨x8_3, x11_3, rfl, HA, HK3, HO_8, HO_10, BK228, HB⟩ := hrel
                  cases gk with
                  | zero => exact absurd HA.out (by simp [impl_TurtleDraws.l1])
                  | succ k3 =>
                    have H := HA.out
                    clear HA
                    simp only [impl_TurtleDraws.l1] at H
                    by_cases c32 : 3 < (t239.length : Int)
                    · rw [if_pos c32] at H
                      have c32b0 : decide (3 < (t239.length : Int)) = true := decide_eq_true c32
                      have c32b1 : decide (3 < t239.length) = true := decide_eq_true (by omega)
                      clear c32
                      by_cases c33 : x11_3 ≤ (rd t239 3)
                      · rw [if_pos c33] at H
                        have c33b0 : decide (x11_3 ≤ (rd t239 3)) = true := decide_eq_true c33
                        clear c33
                        obtain ⟨y249, hy249⟩ : ∃ y_ : List Int, y_ = (([] : List Int)) := ⟨_, rfl⟩
                        replace H : (if 0 < (t239.length : Int) then (impl_TurtleDraws.l2 k3 l x8_3 t239 x11_3 y249 (rd t239 0)) else (none)) = some (r1, r2) := by first | (rw [hy249]; with_reducible exact H) | (have H2_ := (Option.bind_some _ _).symm.trans H; rw [hy249]; with_reducible exact H2_) | (have H2_ := (Option.bind_some _ _).symm.trans H; with_reducible exact H2_) | with_reducible exact H | (rw [hy249]; exact H) | exact H
                        have Ny249 := Aside0.mk hy249
                        clear hy249
                        by_cases c34 : 0 < (t239.length : Int)
                        · rw [if_pos c34] at H
                          have c34b0 : decide (0 < (t239.length : Int)) = true := decide_eq_true c34
                          have c34b1 : decide (0 < t239.length) = true := decide_eq_true (by omega)
                          clear c34
                          have H' := Aside0.mk H
                          clear H
                          have p247 : 0 ≤ (3 : Int) := (by omega)
                          have q247 : 3 < (t239.length : Int) := of_decide_eq_true (by first | (with_reducible assumption) | assumption)
                          obtain ⟨ad247, e247, hx247_0⟩ := Kd.at_int (Kd.R_reads' HO_10.out).2.2 3 p247 q247
                          obtain rfl : ad246 = ad247 := (by injection e247)
                          (try simp only [show (3 : Int).toNat = 3 from rfl, Nat.reduceMul, Nat.reduceEqDiff, Go.Addr.add, ↓reduceIte] at hx247_0)
                          have qi247 : (3 < t239.length) = True := eq_true (by omega)
                          (try rw [show ((3 : Int)).toNat = 3 from rfl] at hx247_0)
                          replace p247 := eq_true p247
                          replace q247 := eq_true q247
                          go_wp2_with (first | ((with_reducible refine gate_dst (N := 63) rfl ?_); refine Kd.R_lit (Kd.int .u8) _ 5 ?hg (N := 63) ?hd (xs := ([] : List Int)) (inner := []) (ok := fun _ => True) (okp := fun _ => True) ?hr ?hp (fun _ hk => hk) trivial (Below.refl _ _) (Nat.le_refl _) (by simp) ?_; (case hd => rfl); (case hg => rfl); (case hr => first | (go_simp; done) | (go_simp; rfl)); (case hp => exact (Reps.none _ _)); intro v250 w35 ho36 hb hg_ hnew_; clear hg_ hnew_; (first | rw [← Ny249.out] at ho36 | (simp only [Int.reduceToNat] at ho36; rw [← Ny249.out] at ho36)); have n0_ := Aside0.mk (Kd.R_below (by (with_reducible repeat (first | apply Kd.R_alloc | apply Kd.R_drewN | apply Kd.R_drew)); exact HO_8.out) hb); have n1_ := Aside0.mk (Kd.R_below (by (with_reducible repeat (first | apply Kd.R_alloc | apply Kd.R_drewN | apply Kd.R_drew)); exact HO_10.out) hb); have n2_ := Aside0.mk (Kd.R_lower ho36 (below_size (by repeat (first | (with_reducible first | exact HB.out | apply below_alloc | apply pw_below_drewN | apply below_drew1 | refine below_set ?_ GE228.out) | exact HB.out)))); have n3_ := Aside0.mk (blk_below (g := gb228) (o := .map es clock) (by (with_reducible repeat (first | refine blk_drewN ?_ _ | refine blk_drew ?_ | refine blk_alloc ?_ _)); exact BK228.out) hb); have n4_ := Aside0.mk (below_step (by repeat (first | (with_reducible first | exact HB.out | apply below_alloc | apply pw_below_drewN | apply below_drew1 | refine below_set ?_ GE228.out) | exact HB.out)) hb); clear HO_8; clear HO_10; clear BK228; clear HB; have HO_8 := n0_; have HO_10 := n1_; have HO251 := n2_; have BK228 := n3_; have HB := n4_; clear n0_ n1_ n2_ n3_ n4_; clear hb ho36; have p252 : 0 ≤ (0 : Int) := (by omega); have q252 : 0 < (t239.length : Int) := of_decide_eq_true (by first | (with_reducible assumption) | assumption); obtain ⟨ad252, e252, hx252_0⟩ := Kd.at_int (Kd.R_reads' HO_10.out).2.2 0 p252 q252; obtain rfl : ad246 = ad252 := (by injection e252); have qi252 : (0 < t239.length) = True := eq_true (by omega); (try rw [show ((0 : Int)).toNat = 0 from rfl] at hx252_0); (try rw [Addr.add_zero'] at hx252_0); replace p252 := eq_true p252; replace q252 := eq_true q252))
                          repeat (go_quiet (first | ((with_reducible refine gate_dst (N := 63) rfl ?_); refine Kd.R_lit (Kd.int .u8) _ 5 ?hg (N := 63) ?hd (xs := ([] : List Int)) (inner := []) (ok := fun _ => True) (okp := fun _ => True) ?hr ?hp (fun _ hk => hk) trivial (Below.refl _ _) (Nat.le_refl _) (by simp) ?_; (case hd => rfl); (case hg => rfl); (case hr => first | (go_simp; done) | (go_simp; rfl)); (case hp => exact (Reps.none _ _)); intro v250 w35 ho36 hb hg_ hnew_; clear hg_ hnew_; (first | rw [← Ny249.out] at ho36 | (simp only [Int.reduceToNat] at ho36; rw [← Ny249.out] at ho36)); have n0_ := Aside0.mk (Kd.R_below (by (with_reducible repeat (first | apply Kd.R_alloc | apply Kd.R_drewN | apply Kd.R_drew)); exact HO_8.out) hb); have n1_ := Aside0.mk (Kd.R_below (by (with_reducible repeat (first | apply Kd.R_alloc | apply Kd.R_drewN | apply Kd.R_drew)); exact HO_10.out) hb); have n2_ := Aside0.mk (Kd.R_lower ho36 (below_size (by repeat (first | (with_reducible first | exact HB.out | apply below_alloc | apply pw_below_drewN | apply below_drew1 | refine below_set ?_ GE228.out) | exact HB.out)))); have n3_ := Aside0.mk (blk_below (g := gb228) (o := .map es clock) (by (with_reducible repeat (first | refine blk_drewN ?_ _ | refine blk_drew ?_ | refine blk_alloc ?_ _)); exact BK228.out) hb); have n4_ := Aside0.mk (below_step (by repeat (first | (with_reducible first | exact HB.out | apply below_alloc | apply pw_below_drewN | apply below_drew1 | refine below_set ?_ GE228.out) | exact HB.out)) hb); clear HO_8; clear HO_10; clear BK228; clear HB; have HO_8 := n0_; have HO_10 := n1_; have HO251 := n2_; have BK228 := n3_; have HB := n4_; clear n0_ n1_ n2_ n3_ n4_; clear hb ho36; have p252 : 0 ≤ (0 : Int) := (by omega); have q252 : 0 < (t239.length : Int) := of_decide_eq_true (by first | (with_reducible assumption) | assumption); obtain ⟨ad252, e252, hx252_0⟩ := Kd.at_int (Kd.R_reads' HO_10.out).2.2 0 p252 q252; obtain rfl : ad246 = ad252 := (by injection e252); have qi252 : (0 < t239.length) = True := eq_true (by omega); (try rw [show ((0 : Int)).toNat = 0 from rfl] at hx252_0); (try rw [Addr.add_zero'] at hx252_0); replace p252 := eq_true p252; replace q252 := eq_true q252)); try go_wp2_with (first | ((with_reducible refine gate_dst (N := 63) rfl ?_); refine Kd.R_lit (Kd.int .u8) _ 5 ?hg (N := 63) ?hd (xs := ([] : List Int)) (inner := []) (ok := fun _ => True) (okp := fun _ => True) ?hr ?hp (fun _ hk => hk) trivial (Below.refl _ _) (Nat.le_refl _) (by simp) ?_; (case hd => rfl); (case hg => rfl); (case hr => first | (go_simp; done) | (go_simp; rfl)); (case hp => exact (Reps.none _ _)); intro v250 w35 ho36 hb hg_ hnew_; clear hg_ hnew_; (first | rw [← Ny249.out] at ho36 | (simp only [Int.reduceToNat] at ho36; rw [← Ny249.out] at ho36)); have n0_ := Aside0.mk (Kd.R_below (by (with_reducible repeat (first | apply Kd.R_alloc | apply Kd.R_drewN | apply Kd.R_drew)); exact HO_8.out) hb); have n1_ := Aside0.mk (Kd.R_below (by (with_reducible repeat (first | apply Kd.R_alloc | apply Kd.R_drewN | apply Kd.R_drew)); exact HO_10.out) hb); have n2_ := Aside0.mk (Kd.R_lower ho36 (below_size (by repeat (first | (with_reducible first | exact HB.out | apply below_alloc | apply pw_below_drewN | apply below_drew1 | refine below_set ?_ GE228.out) | exact HB.out)))); have n3_ := Aside0.mk (blk_below (g := gb228) (o := .map es clock) (by (with_reducible repeat (first | refine blk_drewN ?_ _ | refine blk_drew ?_ | refine blk_alloc ?_ _)); exact BK228.out) hb); have n4_ := Aside0.mk (below_step (by repeat (first | (with_reducible first | exact HB.out | apply below_alloc | apply pw_below_drewN | apply below_drew1 | refine below_set ?_ GE228.out) | exact HB.out)) hb); clear HO_8; clear HO_10; clear BK228; clear HB; have HO_8 := n0_; have HO_10 := n1_; have HO251 := n2_; have BK228 := n3_; have HB := n4_; clear n0_ n1_ n2_ n3_ n4_; clear hb ho36; have p252 : 0 ≤ (0 : Int) := (by omega); have q252 : 0 < (t239.length : Int) := of_decide_eq_true (by first | (with_reducible assumption) | assumption); obtain ⟨ad252, e252, hx252_0⟩ := Kd.at_int (Kd.R_reads' HO_10.out).2.2 0 p252 q252; obtain rfl : ad246 = ad252 := (by injection e252); have qi252 : (0 < t239.length) = True := eq_true (by omega); (try rw [show ((0 : Int)).toNat = 0 from rfl] at hx252_0); (try rw [Addr.add_zero'] at hx252_0); replace p252 := eq_true p252; replace q252 := eq_true q252)))
                          go_loopg [12, 13] k3 (fun kq v12 v13 w' => ∃ (x12_4 : List Int) (x13_4 : Int), v13 = .int .i64 x13_4 ∧ Aside0 (impl_TurtleDraws.l2 kq l x8_3 t239 x11_3 x12_4 x13_4 = some (r1, r2)) ∧ Aside0 (kq ≤ k3) ∧ Aside0 (Kd.R Kd.string 9 w' w.heap.size (fun _ => True) u8 x8_3) ∧ Aside0 (Kd.R (Kd.int .i64) 3 w' w.heap.size (fun _ => True) (.slice (some ad246) t239.length co31) t239) ∧ Aside0 (Kd.R (Kd.int .u8) 5 w' w.heap.size (fun _ => True) v12 x12_4) ∧ Aside0 (w'.heap[gb228]? = some (.map es clock)) ∧ Aside0 (Below w.heap.size w w'))
                          case atStart => exact ⟨(y249), (rd t239 0), (by first | rfl | (simp; done) | (simp [*]; done)), H', ⟨Nat.le_refl _⟩, ⟨by (with_reducible repeat (first | apply Kd.R_alloc | apply Kd.R_drewN | apply Kd.R_drew)); exact HO_8.out⟩, ⟨by (with_reducible repeat (first | apply Kd.R_alloc | apply Kd.R_drewN | apply Kd.R_drew)); exact HO_10.out⟩, ⟨by (with_reducible repeat (first | apply Kd.R_alloc | apply Kd.R_drewN | apply Kd.R_drew)); exact HO251.out⟩, ⟨by (with_reducible repeat (first | refine blk_drewN ?_ _ | refine blk_drew ?_ | refine blk_alloc ?_ _)); exact BK228.out⟩, ⟨by repeat (first | (with_reducible first | exact HB.out | apply below_alloc | apply pw_below_drewN | apply below_drew1 | refine below_set ?_ GE228.out) | exact HB.out)⟩⟩
                          case round =>
                            clear H'
                            try clear c1
                            try clear c2
                            try clear p2
                            try clear q2
                            try clear hx2
                            try clear qi2
                            try clear c3
                            try clear c4
                            try clear c5
                            try clear p6
                            try clear c12
                            try clear c12b0
                            try clear c13
                            try clear c15
                            try clear c22
                            try clear c22b0
                            try clear c22b1
                            try clear c23
                            try clear c23b0
                            try clear c23b1
                            try clear c24
                            try clear c24b0
                            try clear p24
                            try clear q24
                            try clear hx24
                            try clear qi24
                            try clear p25
                            try clear q25
                            try clear hx25
                            try clear qi25
                            try clear c26
                            try clear c26b0
                            try clear c26b1
                            try clear c27
                            try clear c27b0
                            try clear c27b1
                            try clear c29
                            try clear c30
                            try clear c30b0
                            try clear c30b1
                            try clear c32
                            try clear c32b0
                            try clear c32b1
                            try clear c33
                            try clear c33b0
                            try clear c34
                            try clear c34b0
                            try clear c34b1
                            try clear hcz11_0
                            try clear hcz11_1
                            try clear hcz16_0
                            try clear hcz16_1
                            try clear hfz11_0
                            try clear hfz11_1
                            try clear hfz16_0
                            try clear hfz16_1
                            try clear hx242_0
                            try clear hx243_0
                            try clear hx244_0
                            try clear hx245_0
                            try clear hx246_0
                            try clear hx247_0
                            try clear hx252_0
                            try clear p2
                            try clear p24
                            try clear p242
                            try clear p243
                            try clear p244
                            try clear p245
                            try clear p246
                            try clear p247
                            try clear p252
                            try clear p6
                            try clear q2
                            try clear q24
                            try clear q242
                            try clear q243
                            try clear q244
                            try clear q245
                            try clear q246
                            try clear q247
                            try clear q252
                            obtain ⟨x12_4, x13_4, rfl, HA, HK4, HO_8, HO_10, HO_12, BK228, HB⟩ := hrel
                            cases gk with
                            | zero => exact absurd HA.out (by simp [impl_TurtleDraws.l2])
                            | succ k4 =>
                              have H := HA.out
                              clear HA
                              simp only [impl_TurtleDraws.l2] at H
                              by_cases c37 : 1 < (t239.length : Int)
                              · rw [if_pos c37] at H
                                have c37b0 : decide (1 < (t239.length : Int)) = true := decide_eq_true c37
                                have c37b1 : decide (1 < t239.length) = true := decide_eq_true (by omega)
                                clear c37
                                by_cases c38 : x13_4 ≤ (rd t239 1)
                                · rw [if_pos c38] at H
                                  have c38b0 : decide (x13_4 ≤ (rd t239 1)) = true := decide_eq_true c38
                                  clear c38
                                  by_cases cw : (-9223372036854775808 ≤ x13_4 ∧ x13_4 ≤ 9223372036854775807) ∧ (-9223372036854775808 ≤ x11_3 ∧ x11_3 ≤ 9223372036854775807)
                                  case neg => rw [if_neg cw] at H; exact absurd H (by simp)
                                  rw [if_pos cw] at H
                                  have hkey := Aside0.mk (impl_passes.key_of (impl_TurtleDraws.wfi cw.1) (impl_TurtleDraws.wfi cw.2))
                                  have hat_ := Aside0.mk (HAg.out.at_ x13_4 x11_3 (impl_TurtleDraws.wfi cw.1) (impl_TurtleDraws.wfi cw.2))
                                  clear cw
                                  replace H := Option.bind_eq_some_iff.mp H
                                  obtain ⟨t254, A390, H⟩ := H
                                  replace H : (if 0 ≤ t254 then (if t254 < 2 then (if x12_4.length < 140737488355328 then (impl_TurtleDraws.l2 k4 l x8_3 t239 x11_3 (x12_4 ++ [bt (⟨#[46, 35]⟩ : ByteArray) t254]) (wrap64 (x13_4 + 1))) else (none)) else (none)) else (none)) = some (r1, r2) := H
                                  have A39 := Aside0.mk A390
                                  clear A390
                                  by_cases c40 : 0 ≤ t254
                                  · rw [if_pos c40] at H
                                    have c40b0 : decide (0 ≤ t254) = true := decide_eq_true c40
                                    clear c40
                                    by_cases c41 : t254 < 2
                                    · rw [if_pos c41] at H
                                      have c41b0 : decide (t254 < 2) = true := decide_eq_true c41
                                      clear c41
                                      by_cases c43 : x12_4.length < 140737488355328
                                      · rw [if_pos c43] at H
                                        have LMc43 := Aside0.mk c43
                                        clear c43
                                        obtain ⟨y255, hy255⟩ : ∃ y_ : List Int, y_ = (x12_4 ++ [bt (⟨#[46, 35]⟩ : ByteArray) t254]) := ⟨_, rfl⟩
                                        replace H : (impl_TurtleDraws.l2 k4 l x8_3 t239 x11_3 y255 (wrap64 (x13_4 + 1))) = some (r1, r2) := by first | (rw [hy255]; with_reducible exact H) | (have H2_ := (Option.bind_some _ _).symm.trans H; rw [hy255]; with_reducible exact H2_) | (have H2_ := (Option.bind_some _ _).symm.trans H; with_reducible exact H2_) | with_reducible exact H | (rw [hy255]; exact H) | exact H
                                        have Ny255 := Aside0.mk hy255
                                        clear hy255
                                        have H' := Aside0.mk H
                                        clear H
                                        have p253 : 0 ≤ (1 : Int) := (by omega)
                                        have q253 : 1 < (t239.length : Int) := of_decide_eq_true (by first | (with_reducible assumption) | assumption)
                                        obtain ⟨ad253, e253, hx253_0⟩ := Kd.at_int (Kd.R_reads' HO_10.out).2.2 1 p253 q253
                                        obtain rfl : ad246 = ad253 := (by injection e253)
                                        (try simp only [show (1 : Int).toNat = 1 from rfl, Nat.reduceMul, Nat.reduceEqDiff, Go.Addr.add, ↓reduceIte] at hx253_0)
                                        have qi253 : (1 < t239.length) = True := eq_true (by omega)
                                        (try rw [show ((1 : Int)).toNat = 1 from rfl] at hx253_0)
                                        replace p253 := eq_true p253
                                        replace q253 := eq_true q253
                                        go_wp2_with (first | (at_lookup; refine impl_TurtleDraws.look _ rfl _ _ 31 rfl 36 3 (Maps.Keyed.of_law impl_passes.law) Try.underlying31 Try.underlying3 (impl_passes.zero _) gb228 l.length D rfl (HM.out _ (by (with_reducible repeat (first | refine blk_drewN ?_ _ | refine blk_drew ?_ | refine blk_alloc ?_ _)); exact BK228.out)) _ _ rfl hkey.out _ hat_.out ?_) | (go_at_call 13; (with_reducible refine (impl_bit.calls (decide (impl_passes.cnt l x13_4 x11_3 > 0)) t254 _ A39.out).mono ?_); rintro e w' ⟨rfl, ⟨nd, rfl⟩⟩; (try first | exact ⟨rfl, _, World.drewN_drewN _ _ _⟩ | exact ⟨rfl, _, Eq.trans (World.drewN_drewN _ _ _) (congrArg (World.drewN _) (Nat.add_assoc _ _ _))⟩); have p42 : 0 ≤ (t254 : Int) := of_decide_eq_true (by first | (with_reducible assumption) | assumption); have q42 : t254 < (2 : Int) := of_decide_eq_true (by first | (with_reducible assumption) | assumption); have hx42 := bt_at (⟨#[46, 35]⟩ : ByteArray) t254; replace p42 := eq_true p42; replace q42 := eq_true q42) | ((with_reducible refine gate_builtin (b := .append) (xs := #[.tmp 74, .tmp 83]) rfl ?_); at_builtin; refine Kd.R_append (Kd.int .u8) (w0 := w) w.heap.size rfl (.tmp 74) (.tmp 83) 38 5 (.int .u8 0) 1 rfl Try.underlying38 info5 rfl (by decide) (by omega) u12 x12_4 (bt (⟨#[46, 35]⟩ : ByteArray) t254) [.int .u8 (bt (⟨#[46, 35]⟩ : ByteArray) t254)] (fun _ => True) (fun _ => False) rfl rfl ?aP (fun _ hk => hk.elim) ?aF ?aO ?aB ?aS ?aL ?_; (case aP => exact rfl); (case aB => exact (by repeat (first | (with_reducible first | exact HB.out | apply below_alloc | apply pw_below_drewN | apply below_drew1 | refine below_set ?_ GE228.out) | exact HB.out))); (case aF => exact (fun _ _ => trivial)); (case aO => exact (by (with_reducible repeat (first | apply Kd.R_alloc | apply Kd.R_drewN | apply Kd.R_drew)); exact HO_12.out)); (case aS => exact (below_size (by repeat (first | (with_reducible first | exact HB.out | apply below_alloc | apply pw_below_drewN | apply below_drew1 | refine below_set ?_ GE228.out) | exact HB.out)))); (case aL => have := LMc43.out; omega); intro v256 w45 ho hb hg hat; rw [← Ny255.out] at ho; have n0_ := Aside0.mk (Kd.R_over' (by (with_reducible repeat (first | apply Kd.R_alloc | apply Kd.R_drewN | apply Kd.R_drew)); exact HO_8.out) (Kd.R_typed (by (with_reducible repeat (first | apply Kd.R_alloc | apply Kd.R_drewN | apply Kd.R_drew)); exact HO_12.out)) (by decide) hg); have n1_ := Aside0.mk (Kd.R_over' (by (with_reducible repeat (first | apply Kd.R_alloc | apply Kd.R_drewN | apply Kd.R_drew)); exact HO_10.out) (Kd.R_typed (by (with_reducible repeat (first | apply Kd.R_alloc | apply Kd.R_drewN | apply Kd.R_drew)); exact HO_12.out)) (by decide) hg); have n2_ := Aside0.mk (blk_grown (g := gb228) (o := .map es clock) (by (with_reducible repeat (first | refine blk_drewN ?_ _ | refine blk_drew ?_ | refine blk_alloc ?_ _)); exact BK228.out) hg (impl_TurtleDraws.ne_obj HO_12.out BK228.out (by intros; nofun))); have n3_ := Aside0.mk (hb); have n4_ := Aside0.mk (ho); clear HO_8; clear HO_10; clear BK228; clear HB; clear HO_12; have HO_8 := n0_; have HO_10 := n1_; have BK228 := n2_; have HB := n3_; have HO257 := n4_; clear n0_ n1_ n2_ n3_ n4_; clear ho hb hg hat))
                                        repeat (go_quiet (first | (at_lookup; refine impl_TurtleDraws.look _ rfl _ _ 31 rfl 36 3 (Maps.Keyed.of_law impl_passes.law) Try.underlying31 Try.underlying3 (impl_passes.zero _) gb228 l.length D rfl (HM.out _ (by (with_reducible repeat (first | refine blk_drewN ?_ _ | refine blk_drew ?_ | refine blk_alloc ?_ _)); exact BK228.out)) _ _ rfl hkey.out _ hat_.out ?_) | (go_at_call 13; (with_reducible refine (impl_bit.calls (decide (impl_passes.cnt l x13_4 x11_3 > 0)) t254 _ A39.out).mono ?_); rintro e w' ⟨rfl, ⟨nd, rfl⟩⟩; (try first | exact ⟨rfl, _, World.drewN_drewN _ _ _⟩ | exact ⟨rfl, _, Eq.trans (World.drewN_drewN _ _ _) (congrArg (World.drewN _) (Nat.add_assoc _ _ _))⟩); have p42 : 0 ≤ (t254 : Int) := of_decide_eq_true (by first | (with_reducible assumption) | assumption); have q42 : t254 < (2 : Int) := of_decide_eq_true (by first | (with_reducible assumption) | assumption); have hx42 := bt_at (⟨#[46, 35]⟩ : ByteArray) t254; replace p42 := eq_true p42; replace q42 := eq_true q42) | ((with_reducible refine gate_builtin (b := .append) (xs := #[.tmp 74, .tmp 83]) rfl ?_); at_builtin; refine Kd.R_append (Kd.int .u8) (w0 := w) w.heap.size rfl (.tmp 74) (.tmp 83) 38 5 (.int .u8 0) 1 rfl Try.underlying38 info5 rfl (by decide) (by omega) u12 x12_4 (bt (⟨#[46, 35]⟩ : ByteArray) t254) [.int .u8 (bt (⟨#[46, 35]⟩ : ByteArray) t254)] (fun _ => True) (fun _ => False) rfl rfl ?aP (fun _ hk => hk.elim) ?aF ?aO ?aB ?aS ?aL ?_; (case aP => exact rfl); (case aB => exact (by repeat (first | (with_reducible first | exact HB.out | apply below_alloc | apply pw_below_drewN | apply below_drew1 | refine below_set ?_ GE228.out) | exact HB.out))); (case aF => exact (fun _ _ => trivial)); (case aO => exact (by (with_reducible repeat (first | apply Kd.R_alloc | apply Kd.R_drewN | apply Kd.R_drew)); exact HO_12.out)); (case aS => exact (below_size (by repeat (first | (with_reducible first | exact HB.out | apply below_alloc | apply pw_below_drewN | apply below_drew1 | refine below_set ?_ GE228.out) | exact HB.out)))); (case aL => have := LMc43.out; omega); intro v256 w45 ho hb hg hat; rw [← Ny255.out] at ho; have n0_ := Aside0.mk (Kd.R_over' (by (with_reducible repeat (first | apply Kd.R_alloc | apply Kd.R_drewN | apply Kd.R_drew)); exact HO_8.out) (Kd.R_typed (by (with_reducible repeat (first | apply Kd.R_alloc | apply Kd.R_drewN | apply Kd.R_drew)); exact HO_12.out)) (by decide) hg); have n1_ := Aside0.mk (Kd.R_over' (by (with_reducible repeat (first | apply Kd.R_alloc | apply Kd.R_drewN | apply Kd.R_drew)); exact HO_10.out) (Kd.R_typed (by (with_reducible repeat (first | apply Kd.R_alloc | apply Kd.R_drewN | apply Kd.R_drew)); exact HO_12.out)) (by decide) hg); have n2_ := Aside0.mk (blk_grown (g := gb228) (o := .map es clock) (by (with_reducible repeat (first | refine blk_drewN ?_ _ | refine blk_drew ?_ | refine blk_alloc ?_ _)); exact BK228.out) hg (impl_TurtleDraws.ne_obj HO_12.out BK228.out (by intros; nofun))); have n3_ := Aside0.mk (hb); have n4_ := Aside0.mk (ho); clear HO_8; clear HO_10; clear BK228; clear HB; clear HO_12; have HO_8 := n0_; have HO_10 := n1_; have BK228 := n2_; have HB := n3_; have HO257 := n4_; clear n0_ n1_ n2_ n3_ n4_; clear ho hb hg hat)); try go_wp2_with (first | (at_lookup; refine impl_TurtleDraws.look _ rfl _ _ 31 rfl 36 3 (Maps.Keyed.of_law impl_passes.law) Try.underlying31 Try.underlying3 (impl_passes.zero _) gb228 l.length D rfl (HM.out _ (by (with_reducible repeat (first | refine blk_drewN ?_ _ | refine blk_drew ?_ | refine blk_alloc ?_ _)); exact BK228.out)) _ _ rfl hkey.out _ hat_.out ?_) | (go_at_call 13; (with_reducible refine (impl_bit.calls (decide (impl_passes.cnt l x13_4 x11_3 > 0)) t254 _ A39.out).mono ?_); rintro e w' ⟨rfl, ⟨nd, rfl⟩⟩; (try first | exact ⟨rfl, _, World.drewN_drewN _ _ _⟩ | exact ⟨rfl, _, Eq.trans (World.drewN_drewN _ _ _) (congrArg (World.drewN _) (Nat.add_assoc _ _ _))⟩); have p42 : 0 ≤ (t254 : Int) := of_decide_eq_true (by first | (with_reducible assumption) | assumption); have q42 : t254 < (2 : Int) := of_decide_eq_true (by first | (with_reducible assumption) | assumption); have hx42 := bt_at (⟨#[46, 35]⟩ : ByteArray) t254; replace p42 := eq_true p42; replace q42 := eq_true q42) | ((with_reducible refine gate_builtin (b := .append) (xs := #[.tmp 74, .tmp 83]) rfl ?_); at_builtin; refine Kd.R_append (Kd.int .u8) (w0 := w) w.heap.size rfl (.tmp 74) (.tmp 83) 38 5 (.int .u8 0) 1 rfl Try.underlying38 info5 rfl (by decide) (by omega) u12 x12_4 (bt (⟨#[46, 35]⟩ : ByteArray) t254) [.int .u8 (bt (⟨#[46, 35]⟩ : ByteArray) t254)] (fun _ => True) (fun _ => False) rfl rfl ?aP (fun _ hk => hk.elim) ?aF ?aO ?aB ?aS ?aL ?_; (case aP => exact rfl); (case aB => exact (by repeat (first | (with_reducible first | exact HB.out | apply below_alloc | apply pw_below_drewN | apply below_drew1 | refine below_set ?_ GE228.out) | exact HB.out))); (case aF => exact (fun _ _ => trivial)); (case aO => exact (by (with_reducible repeat (first | apply Kd.R_alloc | apply Kd.R_drewN | apply Kd.R_drew)); exact HO_12.out)); (case aS => exact (below_size (by repeat (first | (with_reducible first | exact HB.out | apply below_alloc | apply pw_below_drewN | apply below_drew1 | refine below_set ?_ GE228.out) | exact HB.out)))); (case aL => have := LMc43.out; omega); intro v256 w45 ho hb hg hat; rw [← Ny255.out] at ho; have n0_ := Aside0.mk (Kd.R_over' (by (with_reducible repeat (first | apply Kd.R_alloc | apply Kd.R_drewN | apply Kd.R_drew)); exact HO_8.out) (Kd.R_typed (by (with_reducible repeat (first | apply Kd.R_alloc | apply Kd.R_drewN | apply Kd.R_drew)); exact HO_12.out)) (by decide) hg); have n1_ := Aside0.mk (Kd.R_over' (by (with_reducible repeat (first | apply Kd.R_alloc | apply Kd.R_drewN | apply Kd.R_drew)); exact HO_10.out) (Kd.R_typed (by (with_reducible repeat (first | apply Kd.R_alloc | apply Kd.R_drewN | apply Kd.R_drew)); exact HO_12.out)) (by decide) hg); have n2_ := Aside0.mk (blk_grown (g := gb228) (o := .map es clock) (by (with_reducible repeat (first | refine blk_drewN ?_ _ | refine blk_drew ?_ | refine blk_alloc ?_ _)); exact BK228.out) hg (impl_TurtleDraws.ne_obj HO_12.out BK228.out (by intros; nofun))); have n3_ := Aside0.mk (hb); have n4_ := Aside0.mk (ho); clear HO_8; clear HO_10; clear BK228; clear HB; clear HO_12; have HO_8 := n0_; have HO_10 := n1_; have BK228 := n2_; have HB := n3_; have HO257 := n4_; clear n0_ n1_ n2_ n3_ n4_; clear ho hb hg hat)))
                                        go_roundg k4
                                        case measure => have := HK1.out; have := HJ18.out; have := HK3.out; have := HK4.out; omega
                                        case rel => exact ⟨(y255), (wrap64 (x13_4 + 1)), (by first | rfl | (simp; done) | (simp [*]; done)), H', ⟨by have := HK1.out; have := HJ18.out; have := HK3.out; have := HK4.out; omega⟩, ⟨by (with_reducible repeat (first | apply Kd.R_alloc | apply Kd.R_drewN | apply Kd.R_drew)); exact HO_8.out⟩, ⟨by (with_reducible repeat (first | apply Kd.R_alloc | apply Kd.R_drewN | apply Kd.R_drew)); exact HO_10.out⟩, ⟨by (with_reducible repeat (first | apply Kd.R_alloc | apply Kd.R_drewN | apply Kd.R_drew)); exact HO257.out⟩, ⟨by (with_reducible repeat (first | refine blk_drewN ?_ _ | refine blk_drew ?_ | refine blk_alloc ?_ _)); exact BK228.out⟩, ⟨by repeat (first | (with_reducible first | exact HB.out | apply below_alloc | apply pw_below_drewN | apply below_drew1 | refine below_set ?_ GE228.out) | exact HB.out)⟩⟩
                                      · rw [if_neg c43] at H
                                        exact absurd H (by simp)
                                    · rw [if_neg c41] at H
                                      exact absurd H (by simp)
                                  · rw [if_neg c40] at H
                                    exact absurd H (by simp)
                                · rw [if_neg c38] at H
                                  have c38b0 : decide (x13_4 ≤ (rd t239 1)) = false := decide_eq_false c38
                                  clear c38
                                  by_cases c46 : x8_3.length < 8796093022208
                                  · rw [if_pos c46] at H
                                    have LMc46 := Aside0.mk c46
                                    clear c46
                                    obtain ⟨y258, hy258⟩ : ∃ y_ : List ByteArray, y_ = (x8_3 ++ [strOfNums x12_4]) := ⟨_, rfl⟩
                                    replace H : (impl_TurtleDraws.l1 k4 l y258 t239 (wrap64 (x11_3 + 1))) = some (r1, r2) := by first | (rw [hy258]; with_reducible exact H) | (have H2_ := (Option.bind_some _ _).symm.trans H; rw [hy258]; with_reducible exact H2_) | (have H2_ := (Option.bind_some _ _).symm.trans H; with_reducible exact H2_) | with_reducible exact H | (rw [hy258]; exact H) | exact H
                                    have Ny258 := Aside0.mk hy258
                                    clear hy258
                                    have H' := Aside0.mk H
                                    clear H
                                    have p253 : 0 ≤ (1 : Int) := (by omega)
                                    have q253 : 1 < (t239.length : Int) := of_decide_eq_true (by first | (with_reducible assumption) | assumption)
                                    obtain ⟨ad253, e253, hx253_0⟩ := Kd.at_int (Kd.R_reads' HO_10.out).2.2 1 p253 q253
                                    obtain rfl : ad246 = ad253 := (by injection e253)
                                    (try simp only [show (1 : Int).toNat = 1 from rfl, Nat.reduceMul, Nat.reduceEqDiff, Go.Addr.add, ↓reduceIte] at hx253_0)
                                    have qi253 : (1 < t239.length) = True := eq_true (by omega)
                                    (try rw [show ((1 : Int)).toNat = 1 from rfl] at hx253_0)
                                    replace p253 := eq_true p253
                                    replace q253 := eq_true q253
                                    have hcv47 := own_string (P := Try.prog) Try.underlying38 Try.underlying5 Try.underlying9 (Kd.own_of_R HO_12.out)
                                    go_wp2_with (first | ((with_reducible refine gate_builtin (b := .append) (xs := #[.tmp 85, .tmp 88]) rfl ?_); at_builtin; refine Kd.R_append Kd.string (w0 := w) w.heap.size rfl (.tmp 85) (.tmp 88) 34 9 (.string ⟨#[]⟩) 16 rfl Try.underlying34 info9 rfl (by decide) (by omega) u8 x8_3 (strOfNums x12_4) [.string (strOfNums x12_4)] (fun _ => True) (fun _ => False) rfl rfl ?aP (fun _ hk => hk.elim) ?aF ?aO ?aB ?aS ?aL ?_; (case aP => exact rfl); (case aB => exact (by repeat (first | (with_reducible first | exact HB.out | apply below_alloc | apply pw_below_drewN | apply below_drew1 | refine below_set ?_ GE228.out) | exact HB.out))); (case aF => exact (fun _ _ => trivial)); (case aO => exact (by (with_reducible repeat (first | apply Kd.R_alloc | apply Kd.R_drewN | apply Kd.R_drew)); exact HO_8.out)); (case aS => exact (below_size (by repeat (first | (with_reducible first | exact HB.out | apply below_alloc | apply pw_below_drewN | apply below_drew1 | refine below_set ?_ GE228.out) | exact HB.out)))); (case aL => have := LMc46.out; omega); intro v259 w48 ho hb hg hat; rw [← Ny258.out] at ho; have n0_ := Aside0.mk (Kd.R_over' (by (with_reducible repeat (first | apply Kd.R_alloc | apply Kd.R_drewN | apply Kd.R_drew)); exact HO_10.out) (Kd.R_typed (by (with_reducible repeat (first | apply Kd.R_alloc | apply Kd.R_drewN | apply Kd.R_drew)); exact HO_8.out)) (by decide) hg); have n1_ := Aside0.mk (Kd.R_over' (by (with_reducible repeat (first | apply Kd.R_alloc | apply Kd.R_drewN | apply Kd.R_drew)); exact HO_12.out) (Kd.R_typed (by (with_reducible repeat (first | apply Kd.R_alloc | apply Kd.R_drewN | apply Kd.R_drew)); exact HO_8.out)) (by decide) hg); have n2_ := Aside0.mk (blk_grown (g := gb228) (o := .map es clock) (by (with_reducible repeat (first | refine blk_drewN ?_ _ | refine blk_drew ?_ | refine blk_alloc ?_ _)); exact BK228.out) hg (impl_TurtleDraws.ne_obj HO_8.out BK228.out (by intros; nofun))); have n3_ := Aside0.mk (hb); have n4_ := Aside0.mk (ho); clear HO_10; clear HO_12; clear BK228; clear HB; clear HO_8; have HO_10 := n0_; have HO_12 := n1_; have BK228 := n2_; have HB := n3_; have HO260 := n4_; clear n0_ n1_ n2_ n3_ n4_; clear ho hb hg hat))
                                    repeat (go_quiet (first | ((with_reducible refine gate_builtin (b := .append) (xs := #[.tmp 85, .tmp 88]) rfl ?_); at_builtin; refine Kd.R_append Kd.string (w0 := w) w.heap.size rfl (.tmp 85) (.tmp 88) 34 9 (.string ⟨#[]⟩) 16 rfl Try.underlying34 info9 rfl (by decide) (by omega) u8 x8_3 (strOfNums x12_4) [.string (strOfNums x12_4)] (fun _ => True) (fun _ => False) rfl rfl ?aP (fun _ hk => hk.elim) ?aF ?aO ?aB ?aS ?aL ?_; (case aP => exact rfl); (case aB => exact (by repeat (first | (with_reducible first | exact HB.out | apply below_alloc | apply pw_below_drewN | apply below_drew1 | refine below_set ?_ GE228.out) | exact HB.out))); (case aF => exact (fun _ _ => trivial)); (case aO => exact (by (with_reducible repeat (first | apply Kd.R_alloc | apply Kd.R_drewN | apply Kd.R_drew)); exact HO_8.out)); (case aS => exact (below_size (by repeat (first | (with_reducible first | exact HB.out | apply below_alloc | apply pw_below_drewN | apply below_drew1 | refine below_set ?_ GE228.out) | exact HB.out)))); (case aL => have := LMc46.out; omega); intro v259 w48 ho hb hg hat; rw [← Ny258.out] at ho; have n0_ := Aside0.mk (Kd.R_over' (by (with_reducible repeat (first | apply Kd.R_alloc | apply Kd.R_drewN | apply Kd.R_drew)); exact HO_10.out) (Kd.R_typed (by (with_reducible repeat (first | apply Kd.R_alloc | apply Kd.R_drewN | apply Kd.R_drew)); exact HO_8.out)) (by decide) hg); have n1_ := Aside0.mk (Kd.R_over' (by (with_reducible repeat (first | apply Kd.R_alloc | apply Kd.R_drewN | apply Kd.R_drew)); exact HO_12.out) (Kd.R_typed (by (with_reducible repeat (first | apply Kd.R_alloc | apply Kd.R_drewN | apply Kd.R_drew)); exact HO_8.out)) (by decide) hg); have n2_ := Aside0.mk (blk_grown (g := gb228) (o := .map es clock) (by (with_reducible repeat (first | refine blk_drewN ?_ _ | refine blk_drew ?_ | refine blk_alloc ?_ _)); exact BK228.out) hg (impl_TurtleDraws.ne_obj HO_8.out BK228.out (by intros; nofun))); have n3_ := Aside0.mk (hb); have n4_ := Aside0.mk (ho); clear HO_10; clear HO_12; clear BK228; clear HB; clear HO_8; have HO_10 := n0_; have HO_12 := n1_; have BK228 := n2_; have HB := n3_; have HO260 := n4_; clear n0_ n1_ n2_ n3_ n4_; clear ho hb hg hat)); try go_wp2_with (first | ((with_reducible refine gate_builtin (b := .append) (xs := #[.tmp 85, .tmp 88]) rfl ?_); at_builtin; refine Kd.R_append Kd.string (w0 := w) w.heap.size rfl (.tmp 85) (.tmp 88) 34 9 (.string ⟨#[]⟩) 16 rfl Try.underlying34 info9 rfl (by decide) (by omega) u8 x8_3 (strOfNums x12_4) [.string (strOfNums x12_4)] (fun _ => True) (fun _ => False) rfl rfl ?aP (fun _ hk => hk.elim) ?aF ?aO ?aB ?aS ?aL ?_; (case aP => exact rfl); (case aB => exact (by repeat (first | (with_reducible first | exact HB.out | apply below_alloc | apply pw_below_drewN | apply below_drew1 | refine below_set ?_ GE228.out) | exact HB.out))); (case aF => exact (fun _ _ => trivial)); (case aO => exact (by (with_reducible repeat (first | apply Kd.R_alloc | apply Kd.R_drewN | apply Kd.R_drew)); exact HO_8.out)); (case aS => exact (below_size (by repeat (first | (with_reducible first | exact HB.out | apply below_alloc | apply pw_below_drewN | apply below_drew1 | refine below_set ?_ GE228.out) | exact HB.out)))); (case aL => have := LMc46.out; omega); intro v259 w48 ho hb hg hat; rw [← Ny258.out] at ho; have n0_ := Aside0.mk (Kd.R_over' (by (with_reducible repeat (first | apply Kd.R_alloc | apply Kd.R_drewN | apply Kd.R_drew)); exact HO_10.out) (Kd.R_typed (by (with_reducible repeat (first | apply Kd.R_alloc | apply Kd.R_drewN | apply Kd.R_drew)); exact HO_8.out)) (by decide) hg); have n1_ := Aside0.mk (Kd.R_over' (by (with_reducible repeat (first | apply Kd.R_alloc | apply Kd.R_drewN | apply Kd.R_drew)); exact HO_12.out) (Kd.R_typed (by (with_reducible repeat (first | apply Kd.R_alloc | apply Kd.R_drewN | apply Kd.R_drew)); exact HO_8.out)) (by decide) hg); have n2_ := Aside0.mk (blk_grown (g := gb228) (o := .map es clock) (by (with_reducible repeat (first | refine blk_drewN ?_ _ | refine blk_drew ?_ | refine blk_alloc ?_ _)); exact BK228.out) hg (impl_TurtleDraws.ne_obj HO_8.out BK228.out (by intros; nofun))); have n3_ := Aside0.mk (hb); have n4_ := Aside0.mk (ho); clear HO_10; clear HO_12; clear BK228; clear HB; clear HO_8; have HO_10 := n0_; have HO_12 := n1_; have BK228 := n2_; have HB := n3_; have HO260 := n4_; clear n0_ n1_ n2_ n3_ n4_; clear ho hb hg hat)))
                                    go_roundg k4
                                    case measure => have := HK1.out; have := HJ18.out; have := HK3.out; have := HK4.out; omega
                                    case rel => exact ⟨(y258), (wrap64 (x11_3 + 1)), (by first | rfl | (simp; done) | (simp [*]; done)), H', ⟨by have := HK1.out; have := HJ18.out; have := HK3.out; have := HK4.out; omega⟩, ⟨by (with_reducible repeat (first | apply Kd.R_alloc | apply Kd.R_drewN | apply Kd.R_drew)); exact HO260.out⟩, ⟨by (with_reducible repeat (first | apply Kd.R_alloc | apply Kd.R_drewN | apply Kd.R_drew)); exact HO_10.out⟩, ⟨by (with_reducible repeat (first | refine blk_drewN ?_ _ | refine blk_drew ?_ | refine blk_alloc ?_ _)); exact BK228.out⟩, ⟨by repeat (first | (with_reducible first | exact HB.out | apply below_alloc | apply pw_below_drewN | apply below_drew1 | refine below_set ?_ GE228.out) | exact HB.out)⟩⟩
                                  · rw [if_neg c46] at H
                                    exact absurd H (by simp)
                              · rw [if_neg c37] at H
                                exact absurd H (by simp)
                        · rw [if_neg c34] at H
                          exact absurd H (by simp)
                      · rw [if_neg c33] at H
                        have c33b0 : decide (x11_3 ≤ (rd t239 3)) = false := decide_eq_false c33
                        clear c33
                        replace H := Option.bind_eq_some_iff.mp H
                        obtain ⟨t248, A490, H⟩ := H
                        replace H : (some (t248, true)) = some (r1, r2) := H
                        have A49 := Aside0.mk A490
                        clear A490
                        simp only [Option.some.injEq, Prod.mk.injEq] at H
                        obtain ⟨rfl, rfl⟩ := H
                        have p247 : 0 ≤ (3 : Int) := (by omega)
                        have q247 : 3 < (t239.length : Int) := of_decide_eq_true (by first | (with_reducible assumption) | assumption)
                        obtain ⟨ad247, e247, hx247_0⟩ := Kd.at_int (Kd.R_reads' HO_10.out).2.2 3 p247 q247
                        obtain rfl : ad246 = ad247 := (by injection e247)
                        (try simp only [show (3 : Int).toNat = 3 from rfl, Nat.reduceMul, Nat.reduceEqDiff, Go.Addr.add, ↓reduceIte] at hx247_0)
                        have qi247 : (3 < t239.length) = True := eq_true (by omega)
                        (try rw [show ((3 : Int)).toNat = 3 from rfl] at hx247_0)
                        replace p247 := eq_true p247
                        replace q247 := eq_true q247
                        obtain ⟨Ao50, co50, eo50⟩ := Kd.R_slice HO_8.out
                        subst eo50
                        go_wp2_with (first | (go_at_call 14; (with_reducible refine (strings_Join.calls _ _ x8_3 (⟨#[47]⟩ : ByteArray) t248 _ ?side1 ?side2 A49.out).mono ?_); (case side1 => repeat (first | exact (Kd.R_reads' HO_8.out).2.2 | (with_reducible refine Kd.C_alloc ?_ _) | (with_reducible refine Kd.C_drewN ?_ _) | (with_reducible refine Kd.C_drew ?_))); (case side2 => exact (Kd.R_reads' HO_8.out).2.1); rintro e w51 ⟨rfl, hb⟩; have n0_ := Aside0.mk (Kd.R_below (by (with_reducible repeat (first | apply Kd.R_alloc | apply Kd.R_drewN | apply Kd.R_drew)); exact HO_8.out) hb); have n1_ := Aside0.mk (Kd.R_below (by (with_reducible repeat (first | apply Kd.R_alloc | apply Kd.R_drewN | apply Kd.R_drew)); exact HO_10.out) hb); have n2_ := Aside0.mk (blk_below (g := gb228) (o := .map es clock) (by (with_reducible repeat (first | refine blk_drewN ?_ _ | refine blk_drew ?_ | refine blk_alloc ?_ _)); exact BK228.out) hb); have n3_ := Aside0.mk (below_step (by repeat (first | (with_reducible first | exact HB.out | apply below_alloc | apply pw_below_drewN | apply below_drew1 | refine below_set ?_ GE228.out) | exact HB.out)) hb); clear HO_8; clear HO_10; clear BK228; clear HB; have HO_8 := n0_; have HO_10 := n1_; have BK228 := n2_; have HB := n3_; clear n0_ n1_ n2_ n3_; (try clear hb); (try clear hb2); (try clear hk); (try clear hi)))
                        repeat (go_quiet (first | (go_at_call 14; (with_reducible refine (strings_Join.calls _ _ x8_3 (⟨#[47]⟩ : ByteArray) t248 _ ?side1 ?side2 A49.out).mono ?_); (case side1 => repeat (first | exact (Kd.R_reads' HO_8.out).2.2 | (with_reducible refine Kd.C_alloc ?_ _) | (with_reducible refine Kd.C_drewN ?_ _) | (with_reducible refine Kd.C_drew ?_))); (case side2 => exact (Kd.R_reads' HO_8.out).2.1); rintro e w51 ⟨rfl, hb⟩; have n0_ := Aside0.mk (Kd.R_below (by (with_reducible repeat (first | apply Kd.R_alloc | apply Kd.R_drewN | apply Kd.R_drew)); exact HO_8.out) hb); have n1_ := Aside0.mk (Kd.R_below (by (with_reducible repeat (first | apply Kd.R_alloc | apply Kd.R_drewN | apply Kd.R_drew)); exact HO_10.out) hb); have n2_ := Aside0.mk (blk_below (g := gb228) (o := .map es clock) (by (with_reducible repeat (first | refine blk_drewN ?_ _ | refine blk_drew ?_ | refine blk_alloc ?_ _)); exact BK228.out) hb); have n3_ := Aside0.mk (below_step (by repeat (first | (with_reducible first | exact HB.out | apply below_alloc | apply pw_below_drewN | apply below_drew1 | refine below_set ?_ GE228.out) | exact HB.out)) hb); clear HO_8; clear HO_10; clear BK228; clear HB; have HO_8 := n0_; have HO_10 := n1_; have BK228 := n2_; have HB := n3_; clear n0_ n1_ n2_ n3_; (try clear hb); (try clear hb2); (try clear hk); (try clear hi))); try go_wp2_with (first | (go_at_call 14; (with_reducible refine (strings_Join.calls _ _ x8_3 (⟨#[47]⟩ : ByteArray) t248 _ ?side1 ?side2 A49.out).mono ?_); (case side1 => repeat (first | exact (Kd.R_reads' HO_8.out).2.2 | (with_reducible refine Kd.C_alloc ?_ _) | (with_reducible refine Kd.C_drewN ?_ _) | (with_reducible refine Kd.C_drew ?_))); (case side2 => exact (Kd.R_reads' HO_8.out).2.1); rintro e w51 ⟨rfl, hb⟩; have n0_ := Aside0.mk (Kd.R_below (by (with_reducible repeat (first | apply Kd.R_alloc | apply Kd.R_drewN | apply Kd.R_drew)); exact HO_8.out) hb); have n1_ := Aside0.mk (Kd.R_below (by (with_reducible repeat (first | apply Kd.R_alloc | apply Kd.R_drewN | apply Kd.R_drew)); exact HO_10.out) hb); have n2_ := Aside0.mk (blk_below (g := gb228) (o := .map es clock) (by (with_reducible repeat (first | refine blk_drewN ?_ _ | refine blk_drew ?_ | refine blk_alloc ?_ _)); exact BK228.out) hb); have n3_ := Aside0.mk (below_step (by repeat (first | (with_reducible first | exact HB.out | apply below_alloc | apply pw_below_drewN | apply below_drew1 | refine below_set ?_ GE228.out) | exact HB.out)) hb); clear HO_8; clear HO_10; clear BK228; clear HB; have HO_8 := n0_; have HO_10 := n1_; have BK228 := n2_; have HB := n3_; clear n0_ n1_ n2_ n3_; (try clear hb); (try clear hb2); (try clear hk); (try clear hi))))
                        go_ret2
                        exact ⟨by first | rfl | (simp [errW_none, errW_some] <;> rfl) | (simp [*, errW_none, errW_some] <;> rfl), by repeat (first | (with_reducible first | exact HB.out | apply below_alloc | apply pw_below_drewN | apply below_drew1 | refine below_set ?_ GE228.out) | exact HB.out)⟩
                    · rw [if_neg c32] at H
                      exact absurd H (by simp)
              · rw [if_neg c30] at H
                exact absurd H (by simp)

      · intro x c kl q1 q2 w90 cnt5 hkey hlk hv hat hrg1 hlt hg1 hs1 hen
        obtain ⟨e, he, hke⟩ := HAg.out.keys kl (Maps.has_true_of_atKey hat)
        have hx : x = .agg #[.int .i64 e.1, .int .i64 e.2.1] := keyOf_inj_deep (m := 2) (of_decide_eq_true (by kernel_rfl)) (by rw [Try.underlying36]) hkey (by rw [hke]; exact impl_passes.key_of (HAg.out.wf e he).1 (HAg.out.wf e he).2)
        subst hx
        have HS := Aside0.mk (impl_TurtleDraws.step HAg.out.wf HD.out he hke hlk)
        have LMc13 := Aside0.mk (show x7_1.length < 8796093022208 by have h1 := HPm.out.length_eq; have h2 := HN.out; have h3 : (impl_TurtleDraws.rest l left).length ≤ l.length := List.length_filter_le _ _; unfold impl_TurtleDraws.pts at h1; rw [List.length_map] at h1; omega)
        obtain ⟨im, is, iq, ic, hit⟩ := impl_TurtleDraws.rg_iter HR.out
        have n0_ := Aside0.mk (impl_TurtleDraws.R_obj HO_7.out hit (by intros; nofun) hg1)
        have n1_ := Aside0.mk (impl_TurtleDraws.R_obj HO_8.out hit (by intros; nofun) hg1)
        have n2_ := Aside0.mk (blk_grown BK228.out hg1 (fun e_ => HR.out.ne (Option.some.inj e_).symm))
        have n3_ := Aside0.mk (HB.out.grown hg1 (below_size HB.out) (fun j hj => by cases hj; exact GI.out))
        have n4_ := Aside0.mk hrg1
        have HLT := Aside0.mk hlt
        clear HO_7 HO_8 BK228 HB HR hrg1 hg1 hit hlt hat hv
        have HO_7 := n0_
        have HO_8 := n1_
        have BK228 := n2_
        have HB := n3_
        have HR := n4_
        clear n0_ n1_ n2_ n3_ n4_
        obtain ⟨y236, hy236⟩ : ∃ y_ : List (S36), y_ = (x7_1 ++ [(⟨e.1, e.2.1⟩ : S36)]) := ⟨_, rfl⟩
        have Ny236 := Aside0.mk hy236
        clear hy236
        go_wp2_with (first | ((with_reducible refine gate_dst (N := 9) rfl ?_); refine box_event ?hg (N := 9) ?hd (cs := #[.int .i64 0, .int .i64 0]) (t := 36) ?hr ?_; (case hd => rfl); (case hg => rfl); (case hr => first | (go_simp; done) | (go_simp; rfl)); intro gb235 hg w14 hbox hb; have n0_ := Aside0.mk (Kd.R_below (Kd.R_elderB (by (with_reducible repeat (first | apply Kd.R_alloc | apply Kd.R_drewN | apply Kd.R_drew)); exact HO_7.out) gb235 (Nat.le_of_eq hg.symm)) hb); have n1_ := Aside0.mk (Kd.R_below (by (with_reducible repeat (first | apply Kd.R_alloc | apply Kd.R_drewN | apply Kd.R_drew)); exact HO_8.out) hb); have n2_ := Aside0.mk (blk_below (g := gb228) (o := .map es clock) (by (with_reducible repeat (first | refine blk_drewN ?_ _ | refine blk_drew ?_ | refine blk_alloc ?_ _)); exact BK228.out) hb); have n3_ := Aside0.mk (below_step (by repeat (first | (with_reducible first | exact HB.out | apply below_alloc | apply pw_below_drewN | apply below_drew1 | refine below_set ?_ GE228.out) | exact HB.out)) hb); have n4_ := Aside0.mk (hbox); have n5_ := Aside0.mk ((by rw [hg]; exact (below_size (by repeat (first | (with_reducible first | exact HB.out | apply below_alloc | apply pw_below_drewN | apply below_drew1 | refine below_set ?_ GE228.out) | exact HB.out))) : w.heap.size ≤ gb235)); have n6_ := Aside0.mk ((by rw [hg]; exact (below_size (by repeat (first | (with_reducible first | exact HB.out | apply below_alloc | apply pw_below_drewN | apply below_drew1 | refine below_set ?_ GE228.out) | exact HB.out))) : w.heap.size ≤ gb235)); have n7_ := Aside0.mk ((by rw [hg]; exact Nat.ne_of_lt (blk_lt (g := gb228) (o := .map es clock) (by (with_reducible repeat (first | refine blk_drewN ?_ _ | refine blk_drew ?_ | refine blk_alloc ?_ _)); exact BK228.out)) : gb228 ≠ gb235)); have n8_ := Aside0.mk ((by rw [hg]; exact Nat.ne_of_gt (blk_lt (g := gb228) (o := .map es clock) (by (with_reducible repeat (first | refine blk_drewN ?_ _ | refine blk_drew ?_ | refine blk_alloc ?_ _)); exact BK228.out)) : gb235 ≠ gb228)); have m_ := Aside0.mk (impl_TurtleDraws.rg_below HR.out hb); clear HR; have HR := m_; clear m_; clear HO_7; clear HO_8; clear BK228; clear HB; have HO_7 := n0_; have HO_8 := n1_; have BK228 := n2_; have HB := n3_; have BK235 := n4_; have GW235 := n5_; have GE235 := n6_; have NB228_235 := n7_; have NB235_228 := n8_; clear n0_ n1_ n2_ n3_ n4_ n5_ n6_ n7_ n8_; clear hb hbox hg; have hnb15 := NB235_228.out; have hnc15 := NB228_235.out; have hcz16_0 : w14.cell? ⟨gb235, 0, none⟩ = some (.int .i64 0) := (blk_cell BK235.out 0).trans rfl; have hcz16_1 : w14.cell? ⟨gb235, 1, none⟩ = some (.int .i64 0) := (blk_cell BK235.out 1).trans rfl; have hfz16_0 := blk_frozen BK235.out 0; have hfz16_1 := blk_frozen BK235.out 1) | ((with_reducible refine gate_builtin (b := .append) (xs := #[.tmp 29, .tmp 31]) rfl ?_); at_builtin; refine Kd.R_append k36 (w0 := w) w.heap.size rfl (.tmp 29) (.tmp 31) 33 36 (.agg #[(.int .i64 0), (.int .i64 0)]) 16 rfl Try.underlying33 info36 rfl (by decide) (by omega) u7 x7_1 (⟨e.1, e.2.1⟩ : S36) [.int .i64 e.1, .int .i64 e.2.1] (fun k_ => k_ ≠ gb228 ∧ k_ ≠ gb235) (fun _ => False) rfl (by first | (go_simp; done) | (go_simp; rfl)) ?aP (fun _ hk => hk.elim) ?aF ?aO ?aB ?aS ?aL ?_; (case aP => exact k36_mkM _ _ _ (⟨e.1, e.2.1⟩ : S36)); (case aB => exact (by repeat (first | (with_reducible first | exact HB.out | apply below_alloc | apply pw_below_drewN | apply below_drew1 | refine below_set ?_ GE228.out | refine below_set ?_ GE235.out) | exact HB.out))); (case aF => exact (fun k_ hk => ⟨Kd.freshB (g := gb228) (o := .map es clock) (by (with_reducible repeat (first | refine blk_drewN ?_ _ | refine blk_drew ?_ | refine blk_alloc ?_ _)); refine impl_TurtleDraws.m_far ?_ NB228_235.out _; (with_reducible repeat (first | refine blk_drewN ?_ _ | refine blk_drew ?_ | refine blk_alloc ?_ _)); refine impl_TurtleDraws.m_far ?_ NB228_235.out _; (with_reducible repeat (first | refine blk_drewN ?_ _ | refine blk_drew ?_ | refine blk_alloc ?_ _)); exact BK228.out) k_ hk, Kd.freshB (g := gb235) (o := .cells #[.int .i64 e.1, .int .i64 e.2.1] 36 (0, 0)) (by (with_reducible repeat (first | refine blk_drewN ?_ _ | refine blk_drew ?_ | refine blk_alloc ?_ _)); refine blk_put (cs := #[.int .i64 e.1, .int .i64 0]) ?_ 1 _ rfl; (with_reducible repeat (first | refine blk_drewN ?_ _ | refine blk_drew ?_ | refine blk_alloc ?_ _)); refine blk_put (cs := #[.int .i64 0, .int .i64 0]) ?_ 0 _ rfl; (with_reducible repeat (first | refine blk_drewN ?_ _ | refine blk_drew ?_ | refine blk_alloc ?_ _)); exact BK235.out) k_ hk⟩)); (case aO => exact (by (with_reducible repeat (first | apply Kd.R_alloc | apply Kd.R_drewN | apply Kd.R_drew)); exact Kd.R_mono (Kd.R_far (p := ⟨gb235, 1, none⟩) (Kd.R_far (p := ⟨gb235, 0, none⟩) (Kd.R_mono HO_7.out (fun k_ hk => (⟨hk, hk.2⟩ : _ ∧ k_ ≠ gb235))) (fun _ hk => hk.2) (.int .i64 e.1)) (fun _ hk => hk.2) (.int .i64 e.2.1)) (fun _ hk => ⟨hk.1.1, hk.1.2⟩))); (case aS => exact (below_size (by repeat (first | (with_reducible first | exact HB.out | apply below_alloc | apply pw_below_drewN | apply below_drew1 | refine below_set ?_ GE228.out | refine below_set ?_ GE235.out) | exact HB.out)))); (case aL => have := LMc13.out; omega); intro v237 w17 ho hb hg hat; rw [← Ny236.out] at ho; have n0_ := Aside0.mk (Kd.R_over' (by (with_reducible repeat (first | apply Kd.R_alloc | apply Kd.R_drewN | apply Kd.R_drew)); exact (Kd.R_mono (Kd.R_far (p := ⟨gb235, 1, none⟩) (Kd.R_far (p := ⟨gb235, 0, none⟩) (Kd.R_types HO_8.out BK235.out (by decide)) (fun _ hk => hk.2) (.int .i64 e.1)) (fun _ hk => hk.2) (.int .i64 e.2.1)) (fun _ h_ => h_.1))) (Kd.R_typed (by (with_reducible repeat (first | apply Kd.R_alloc | apply Kd.R_drewN | apply Kd.R_drew)); exact (Kd.R_mono (Kd.R_far (p := ⟨gb235, 1, none⟩) (Kd.R_far (p := ⟨gb235, 0, none⟩) (Kd.R_mono HO_7.out (fun k_ hk => (⟨hk, hk.2⟩ : _ ∧ k_ ≠ gb235))) (fun _ hk => hk.2) (.int .i64 e.1)) (fun _ hk => hk.2) (.int .i64 e.2.1)) (fun _ h_ => h_.1)))) (by decide) hg); have n1_ := Aside0.mk (blk_grown (g := gb228) (o := .map es clock) (by (with_reducible repeat (first | refine blk_drewN ?_ _ | refine blk_drew ?_ | refine blk_alloc ?_ _)); refine impl_TurtleDraws.m_far ?_ NB228_235.out _; (with_reducible repeat (first | refine blk_drewN ?_ _ | refine blk_drew ?_ | refine blk_alloc ?_ _)); refine impl_TurtleDraws.m_far ?_ NB228_235.out _; (with_reducible repeat (first | refine blk_drewN ?_ _ | refine blk_drew ?_ | refine blk_alloc ?_ _)); exact BK228.out) hg (Kd.R_away HO_7.out (fun _ hk => hk.1))); have n2_ := Aside0.mk (blk_grown (g := gb235) (o := .cells #[.int .i64 e.1, .int .i64 e.2.1] 36 (0, 0)) (by (with_reducible repeat (first | refine blk_drewN ?_ _ | refine blk_drew ?_ | refine blk_alloc ?_ _)); refine blk_put (cs := #[.int .i64 e.1, .int .i64 0]) ?_ 1 _ rfl; (with_reducible repeat (first | refine blk_drewN ?_ _ | refine blk_drew ?_ | refine blk_alloc ?_ _)); refine blk_put (cs := #[.int .i64 0, .int .i64 0]) ?_ 0 _ rfl; (with_reducible repeat (first | refine blk_drewN ?_ _ | refine blk_drew ?_ | refine blk_alloc ?_ _)); exact BK235.out) hg (Kd.R_away HO_7.out (fun _ hk => hk.2))); have n3_ := Aside0.mk (hb); have n4_ := Aside0.mk (ho); have m_ := Aside0.mk (impl_TurtleDraws.rg_app HR.out HO_7.out BK235.out hg); clear HR; have HR := m_; clear m_; clear HO_8; clear BK228; clear BK235; clear HB; clear HO_7; have HO_8 := n0_; have BK228 := n1_; have BK235 := n2_; have HB := n3_; have HO238 := n4_; clear n0_ n1_ n2_ n3_ n4_; clear ho hb hg hat))
        repeat (go_quiet (first | ((with_reducible refine gate_dst (N := 9) rfl ?_); refine box_event ?hg (N := 9) ?hd (cs := #[.int .i64 0, .int .i64 0]) (t := 36) ?hr ?_; (case hd => rfl); (case hg => rfl); (case hr => first | (go_simp; done) | (go_simp; rfl)); intro gb235 hg w14 hbox hb; have n0_ := Aside0.mk (Kd.R_below (Kd.R_elderB (by (with_reducible repeat (first | apply Kd.R_alloc | apply Kd.R_drewN | apply Kd.R_drew)); exact HO_7.out) gb235 (Nat.le_of_eq hg.symm)) hb); have n1_ := Aside0.mk (Kd.R_below (by (with_reducible repeat (first | apply Kd.R_alloc | apply Kd.R_drewN | apply Kd.R_drew)); exact HO_8.out) hb); have n2_ := Aside0.mk (blk_below (g := gb228) (o := .map es clock) (by (with_reducible repeat (first | refine blk_drewN ?_ _ | refine blk_drew ?_ | refine blk_alloc ?_ _)); exact BK228.out) hb); have n3_ := Aside0.mk (below_step (by repeat (first | (with_reducible first | exact HB.out | apply below_alloc | apply pw_below_drewN | apply below_drew1 | refine below_set ?_ GE228.out) | exact HB.out)) hb); have n4_ := Aside0.mk (hbox); have n5_ := Aside0.mk ((by rw [hg]; exact (below_size (by repeat (first | (with_reducible first | exact HB.out | apply below_alloc | apply pw_below_drewN | apply below_drew1 | refine below_set ?_ GE228.out) | exact HB.out))) : w.heap.size ≤ gb235)); have n6_ := Aside0.mk ((by rw [hg]; exact (below_size (by repeat (first | (with_reducible first | exact HB.out | apply below_alloc | apply pw_below_drewN | apply below_drew1 | refine below_set ?_ GE228.out) | exact HB.out))) : w.heap.size ≤ gb235)); have n7_ := Aside0.mk ((by rw [hg]; exact Nat.ne_of_lt (blk_lt (g := gb228) (o := .map es clock) (by (with_reducible repeat (first | refine blk_drewN ?_ _ | refine blk_drew ?_ | refine blk_alloc ?_ _)); exact BK228.out)) : gb228 ≠ gb235)); have n8_ := Aside0.mk ((by rw [hg]; exact Nat.ne_of_gt (blk_lt (g := gb228) (o := .map es clock) (by (with_reducible repeat (first | refine blk_drewN ?_ _ | refine blk_drew ?_ | refine blk_alloc ?_ _)); exact BK228.out)) : gb235 ≠ gb228)); have m_ := Aside0.mk (impl_TurtleDraws.rg_below HR.out hb); clear HR; have HR := m_; clear m_; clear HO_7; clear HO_8; clear BK228; clear HB; have HO_7 := n0_; have HO_8 := n1_; have BK228 := n2_; have HB := n3_; have BK235 := n4_; have GW235 := n5_; have GE235 := n6_; have NB228_235 := n7_; have NB235_228 := n8_; clear n0_ n1_ n2_ n3_ n4_ n5_ n6_ n7_ n8_; clear hb hbox hg; have hnb15 := NB235_228.out; have hnc15 := NB228_235.out; have hcz16_0 : w14.cell? ⟨gb235, 0, none⟩ = some (.int .i64 0) := (blk_cell BK235.out 0).trans rfl; have hcz16_1 : w14.cell? ⟨gb235, 1, none⟩ = some (.int .i64 0) := (blk_cell BK235.out 1).trans rfl; have hfz16_0 := blk_frozen BK235.out 0; have hfz16_1 := blk_frozen BK235.out 1) | ((with_reducible refine gate_builtin (b := .append) (xs := #[.tmp 29, .tmp 31]) rfl ?_); at_builtin; refine Kd.R_append k36 (w0 := w) w.heap.size rfl (.tmp 29) (.tmp 31) 33 36 (.agg #[(.int .i64 0), (.int .i64 0)]) 16 rfl Try.underlying33 info36 rfl (by decide) (by omega) u7 x7_1 (⟨e.1, e.2.1⟩ : S36) [.int .i64 e.1, .int .i64 e.2.1] (fun k_ => k_ ≠ gb228 ∧ k_ ≠ gb235) (fun _ => False) rfl (by first | (go_simp; done) | (go_simp; rfl)) ?aP (fun _ hk => hk.elim) ?aF ?aO ?aB ?aS ?aL ?_; (case aP => exact k36_mkM _ _ _ (⟨e.1, e.2.1⟩ : S36)); (case aB => exact (by repeat (first | (with_reducible first | exact HB.out | apply below_alloc | apply pw_below_drewN | apply below_drew1 | refine below_set ?_ GE228.out | refine below_set ?_ GE235.out) | exact HB.out))); (case aF => exact (fun k_ hk => ⟨Kd.freshB (g := gb228) (o := .map es clock) (by (with_reducible repeat (first | refine blk_drewN ?_ _ | refine blk_drew ?_ | refine blk_alloc ?_ _)); refine impl_TurtleDraws.m_far ?_ NB228_235.out _; (with_reducible repeat (first | refine blk_drewN ?_ _ | refine blk_drew ?_ | refine blk_alloc ?_ _)); refine impl_TurtleDraws.m_far ?_ NB228_235.out _; (with_reducible repeat (first | refine blk_drewN ?_ _ | refine blk_drew ?_ | refine blk_alloc ?_ _)); exact BK228.out) k_ hk, Kd.freshB (g := gb235) (o := .cells #[.int .i64 e.1, .int .i64 e.2.1] 36 (0, 0)) (by (with_reducible repeat (first | refine blk_drewN ?_ _ | refine blk_drew ?_ | refine blk_alloc ?_ _)); refine blk_put (cs := #[.int .i64 e.1, .int .i64 0]) ?_ 1 _ rfl; (with_reducible repeat (first | refine blk_drewN ?_ _ | refine blk_drew ?_ | refine blk_alloc ?_ _)); refine blk_put (cs := #[.int .i64 0, .int .i64 0]) ?_ 0 _ rfl; (with_reducible repeat (first | refine blk_drewN ?_ _ | refine blk_drew ?_ | refine blk_alloc ?_ _)); exact BK235.out) k_ hk⟩)); (case aO => exact (by (with_reducible repeat (first | apply Kd.R_alloc | apply Kd.R_drewN | apply Kd.R_drew)); exact Kd.R_mono (Kd.R_far (p := ⟨gb235, 1, none⟩) (Kd.R_far (p := ⟨gb235, 0, none⟩) (Kd.R_mono HO_7.out (fun k_ hk => (⟨hk, hk.2⟩ : _ ∧ k_ ≠ gb235))) (fun _ hk => hk.2) (.int .i64 e.1)) (fun _ hk => hk.2) (.int .i64 e.2.1)) (fun _ hk => ⟨hk.1.1, hk.1.2⟩))); (case aS => exact (below_size (by repeat (first | (with_reducible first | exact HB.out | apply below_alloc | apply pw_below_drewN | apply below_drew1 | refine below_set ?_ GE228.out | refine below_set ?_ GE235.out) | exact HB.out)))); (case aL => have := LMc13.out; omega); intro v237 w17 ho hb hg hat; rw [← Ny236.out] at ho; have n0_ := Aside0.mk (Kd.R_over' (by (with_reducible repeat (first | apply Kd.R_alloc | apply Kd.R_drewN | apply Kd.R_drew)); exact (Kd.R_mono (Kd.R_far (p := ⟨gb235, 1, none⟩) (Kd.R_far (p := ⟨gb235, 0, none⟩) (Kd.R_types HO_8.out BK235.out (by decide)) (fun _ hk => hk.2) (.int .i64 e.1)) (fun _ hk => hk.2) (.int .i64 e.2.1)) (fun _ h_ => h_.1))) (Kd.R_typed (by (with_reducible repeat (first | apply Kd.R_alloc | apply Kd.R_drewN | apply Kd.R_drew)); exact (Kd.R_mono (Kd.R_far (p := ⟨gb235, 1, none⟩) (Kd.R_far (p := ⟨gb235, 0, none⟩) (Kd.R_mono HO_7.out (fun k_ hk => (⟨hk, hk.2⟩ : _ ∧ k_ ≠ gb235))) (fun _ hk => hk.2) (.int .i64 e.1)) (fun _ hk => hk.2) (.int .i64 e.2.1)) (fun _ h_ => h_.1)))) (by decide) hg); have n1_ := Aside0.mk (blk_grown (g := gb228) (o := .map es clock) (by (with_reducible repeat (first | refine blk_drewN ?_ _ | refine blk_drew ?_ | refine blk_alloc ?_ _)); refine impl_TurtleDraws.m_far ?_ NB228_235.out _; (with_reducible repeat (first | refine blk_drewN ?_ _ | refine blk_drew ?_ | refine blk_alloc ?_ _)); refine impl_TurtleDraws.m_far ?_ NB228_235.out _; (with_reducible repeat (first | refine blk_drewN ?_ _ | refine blk_drew ?_ | refine blk_alloc ?_ _)); exact BK228.out) hg (Kd.R_away HO_7.out (fun _ hk => hk.1))); have n2_ := Aside0.mk (blk_grown (g := gb235) (o := .cells #[.int .i64 e.1, .int .i64 e.2.1] 36 (0, 0)) (by (with_reducible repeat (first | refine blk_drewN ?_ _ | refine blk_drew ?_ | refine blk_alloc ?_ _)); refine blk_put (cs := #[.int .i64 e.1, .int .i64 0]) ?_ 1 _ rfl; (with_reducible repeat (first | refine blk_drewN ?_ _ | refine blk_drew ?_ | refine blk_alloc ?_ _)); refine blk_put (cs := #[.int .i64 0, .int .i64 0]) ?_ 0 _ rfl; (with_reducible repeat (first | refine blk_drewN ?_ _ | refine blk_drew ?_ | refine blk_alloc ?_ _)); exact BK235.out) hg (Kd.R_away HO_7.out (fun _ hk => hk.2))); have n3_ := Aside0.mk (hb); have n4_ := Aside0.mk (ho); have m_ := Aside0.mk (impl_TurtleDraws.rg_app HR.out HO_7.out BK235.out hg); clear HR; have HR := m_; clear m_; clear HO_8; clear BK228; clear BK235; clear HB; clear HO_7; have HO_8 := n0_; have BK228 := n1_; have BK235 := n2_; have HB := n3_; have HO238 := n4_; clear n0_ n1_ n2_ n3_ n4_; clear ho hb hg hat)); try go_wp2_with (first | ((with_reducible refine gate_dst (N := 9) rfl ?_); refine box_event ?hg (N := 9) ?hd (cs := #[.int .i64 0, .int .i64 0]) (t := 36) ?hr ?_; (case hd => rfl); (case hg => rfl); (case hr => first | (go_simp; done) | (go_simp; rfl)); intro gb235 hg w14 hbox hb; have n0_ := Aside0.mk (Kd.R_below (Kd.R_elderB (by (with_reducible repeat (first | apply Kd.R_alloc | apply Kd.R_drewN | apply Kd.R_drew)); exact HO_7.out) gb235 (Nat.le_of_eq hg.symm)) hb); have n1_ := Aside0.mk (Kd.R_below (by (with_reducible repeat (first | apply Kd.R_alloc | apply Kd.R_drewN | apply Kd.R_drew)); exact HO_8.out) hb); have n2_ := Aside0.mk (blk_below (g := gb228) (o := .map es clock) (by (with_reducible repeat (first | refine blk_drewN ?_ _ | refine blk_drew ?_ | refine blk_alloc ?_ _)); exact BK228.out) hb); have n3_ := Aside0.mk (below_step (by repeat (first | (with_reducible first | exact HB.out | apply below_alloc | apply pw_below_drewN | apply below_drew1 | refine below_set ?_ GE228.out) | exact HB.out)) hb); have n4_ := Aside0.mk (hbox); have n5_ := Aside0.mk ((by rw [hg]; exact (below_size (by repeat (first | (with_reducible first | exact HB.out | apply below_alloc | apply pw_below_drewN | apply below_drew1 | refine below_set ?_ GE228.out) | exact HB.out))) : w.heap.size ≤ gb235)); have n6_ := Aside0.mk ((by rw [hg]; exact (below_size (by repeat (first | (with_reducible first | exact HB.out | apply below_alloc | apply pw_below_drewN | apply below_drew1 | refine below_set ?_ GE228.out) | exact HB.out))) : w.heap.size ≤ gb235)); have n7_ := Aside0.mk ((by rw [hg]; exact Nat.ne_of_lt (blk_lt (g := gb228) (o := .map es clock) (by (with_reducible repeat (first | refine blk_drewN ?_ _ | refine blk_drew ?_ | refine blk_alloc ?_ _)); exact BK228.out)) : gb228 ≠ gb235)); have n8_ := Aside0.mk ((by rw [hg]; exact Nat.ne_of_gt (blk_lt (g := gb228) (o := .map es clock) (by (with_reducible repeat (first | refine blk_drewN ?_ _ | refine blk_drew ?_ | refine blk_alloc ?_ _)); exact BK228.out)) : gb235 ≠ gb228)); have m_ := Aside0.mk (impl_TurtleDraws.rg_below HR.out hb); clear HR; have HR := m_; clear m_; clear HO_7; clear HO_8; clear BK228; clear HB; have HO_7 := n0_; have HO_8 := n1_; have BK228 := n2_; have HB := n3_; have BK235 := n4_; have GW235 := n5_; have GE235 := n6_; have NB228_235 := n7_; have NB235_228 := n8_; clear n0_ n1_ n2_ n3_ n4_ n5_ n6_ n7_ n8_; clear hb hbox hg; have hnb15 := NB235_228.out; have hnc15 := NB228_235.out; have hcz16_0 : w14.cell? ⟨gb235, 0, none⟩ = some (.int .i64 0) := (blk_cell BK235.out 0).trans rfl; have hcz16_1 : w14.cell? ⟨gb235, 1, none⟩ = some (.int .i64 0) := (blk_cell BK235.out 1).trans rfl; have hfz16_0 := blk_frozen BK235.out 0; have hfz16_1 := blk_frozen BK235.out 1) | ((with_reducible refine gate_builtin (b := .append) (xs := #[.tmp 29, .tmp 31]) rfl ?_); at_builtin; refine Kd.R_append k36 (w0 := w) w.heap.size rfl (.tmp 29) (.tmp 31) 33 36 (.agg #[(.int .i64 0), (.int .i64 0)]) 16 rfl Try.underlying33 info36 rfl (by decide) (by omega) u7 x7_1 (⟨e.1, e.2.1⟩ : S36) [.int .i64 e.1, .int .i64 e.2.1] (fun k_ => k_ ≠ gb228 ∧ k_ ≠ gb235) (fun _ => False) rfl (by first | (go_simp; done) | (go_simp; rfl)) ?aP (fun _ hk => hk.elim) ?aF ?aO ?aB ?aS ?aL ?_; (case aP => exact k36_mkM _ _ _ (⟨e.1, e.2.1⟩ : S36)); (case aB => exact (by repeat (first | (with_reducible first | exact HB.out | apply below_alloc | apply pw_below_drewN | apply below_drew1 | refine below_set ?_ GE228.out | refine below_set ?_ GE235.out) | exact HB.out))); (case aF => exact (fun k_ hk => ⟨Kd.freshB (g := gb228) (o := .map es clock) (by (with_reducible repeat (first | refine blk_drewN ?_ _ | refine blk_drew ?_ | refine blk_alloc ?_ _)); refine impl_TurtleDraws.m_far ?_ NB228_235.out _; (with_reducible repeat (first | refine blk_drewN ?_ _ | refine blk_drew ?_ | refine blk_alloc ?_ _)); refine impl_TurtleDraws.m_far ?_ NB228_235.out _; (with_reducible repeat (first | refine blk_drewN ?_ _ | refine blk_drew ?_ | refine blk_alloc ?_ _)); exact BK228.out) k_ hk, Kd.freshB (g := gb235) (o := .cells #[.int .i64 e.1, .int .i64 e.2.1] 36 (0, 0)) (by (with_reducible repeat (first | refine blk_drewN ?_ _ | refine blk_drew ?_ | refine blk_alloc ?_ _)); refine blk_put (cs := #[.int .i64 e.1, .int .i64 0]) ?_ 1 _ rfl; (with_reducible repeat (first | refine blk_drewN ?_ _ | refine blk_drew ?_ | refine blk_alloc ?_ _)); refine blk_put (cs := #[.int .i64 0, .int .i64 0]) ?_ 0 _ rfl; (with_reducible repeat (first | refine blk_drewN ?_ _ | refine blk_drew ?_ | refine blk_alloc ?_ _)); exact BK235.out) k_ hk⟩)); (case aO => exact (by (with_reducible repeat (first | apply Kd.R_alloc | apply Kd.R_drewN | apply Kd.R_drew)); exact Kd.R_mono (Kd.R_far (p := ⟨gb235, 1, none⟩) (Kd.R_far (p := ⟨gb235, 0, none⟩) (Kd.R_mono HO_7.out (fun k_ hk => (⟨hk, hk.2⟩ : _ ∧ k_ ≠ gb235))) (fun _ hk => hk.2) (.int .i64 e.1)) (fun _ hk => hk.2) (.int .i64 e.2.1)) (fun _ hk => ⟨hk.1.1, hk.1.2⟩))); (case aS => exact (below_size (by repeat (first | (with_reducible first | exact HB.out | apply below_alloc | apply pw_below_drewN | apply below_drew1 | refine below_set ?_ GE228.out | refine below_set ?_ GE235.out) | exact HB.out)))); (case aL => have := LMc13.out; omega); intro v237 w17 ho hb hg hat; rw [← Ny236.out] at ho; have n0_ := Aside0.mk (Kd.R_over' (by (with_reducible repeat (first | apply Kd.R_alloc | apply Kd.R_drewN | apply Kd.R_drew)); exact (Kd.R_mono (Kd.R_far (p := ⟨gb235, 1, none⟩) (Kd.R_far (p := ⟨gb235, 0, none⟩) (Kd.R_types HO_8.out BK235.out (by decide)) (fun _ hk => hk.2) (.int .i64 e.1)) (fun _ hk => hk.2) (.int .i64 e.2.1)) (fun _ h_ => h_.1))) (Kd.R_typed (by (with_reducible repeat (first | apply Kd.R_alloc | apply Kd.R_drewN | apply Kd.R_drew)); exact (Kd.R_mono (Kd.R_far (p := ⟨gb235, 1, none⟩) (Kd.R_far (p := ⟨gb235, 0, none⟩) (Kd.R_mono HO_7.out (fun k_ hk => (⟨hk, hk.2⟩ : _ ∧ k_ ≠ gb235))) (fun _ hk => hk.2) (.int .i64 e.1)) (fun _ hk => hk.2) (.int .i64 e.2.1)) (fun _ h_ => h_.1)))) (by decide) hg); have n1_ := Aside0.mk (blk_grown (g := gb228) (o := .map es clock) (by (with_reducible repeat (first | refine blk_drewN ?_ _ | refine blk_drew ?_ | refine blk_alloc ?_ _)); refine impl_TurtleDraws.m_far ?_ NB228_235.out _; (with_reducible repeat (first | refine blk_drewN ?_ _ | refine blk_drew ?_ | refine blk_alloc ?_ _)); refine impl_TurtleDraws.m_far ?_ NB228_235.out _; (with_reducible repeat (first | refine blk_drewN ?_ _ | refine blk_drew ?_ | refine blk_alloc ?_ _)); exact BK228.out) hg (Kd.R_away HO_7.out (fun _ hk => hk.1))); have n2_ := Aside0.mk (blk_grown (g := gb235) (o := .cells #[.int .i64 e.1, .int .i64 e.2.1] 36 (0, 0)) (by (with_reducible repeat (first | refine blk_drewN ?_ _ | refine blk_drew ?_ | refine blk_alloc ?_ _)); refine blk_put (cs := #[.int .i64 e.1, .int .i64 0]) ?_ 1 _ rfl; (with_reducible repeat (first | refine blk_drewN ?_ _ | refine blk_drew ?_ | refine blk_alloc ?_ _)); refine blk_put (cs := #[.int .i64 0, .int .i64 0]) ?_ 0 _ rfl; (with_reducible repeat (first | refine blk_drewN ?_ _ | refine blk_drew ?_ | refine blk_alloc ?_ _)); exact BK235.out) hg (Kd.R_away HO_7.out (fun _ hk => hk.2))); have n3_ := Aside0.mk (hb); have n4_ := Aside0.mk (ho); have m_ := Aside0.mk (impl_TurtleDraws.rg_app HR.out HO_7.out BK235.out hg); clear HR; have HR := m_; clear m_; clear HO_8; clear BK228; clear BK235; clear HB; clear HO_7; have HO_8 := n0_; have BK228 := n1_; have BK235 := n2_; have HB := n3_; have HO238 := n4_; clear n0_ n1_ n2_ n3_ n4_; clear ho hb hg hat)))
        go_roundg cnt5
        case measure => exact HLT.out
        case rel => exact ⟨(y236), _, ⟨by rw [Ny236.out]; unfold impl_TurtleDraws.pts; exact ((HPm.out.append_right _).trans (by unfold impl_TurtleDraws.pts; rw [show [(⟨e.1, e.2.1⟩ : S36)] = [e].map (fun e => ⟨e.1, e.2.1⟩) from rfl, ← List.map_append])).trans (HS.out.symm.map _)⟩, HR, ⟨by (with_reducible repeat (first | apply Kd.R_alloc | apply Kd.R_drewN | apply Kd.R_drew)); exact Kd.R_mono HO238.out (fun _ hk => hk.1)⟩, ⟨by (with_reducible repeat (first | apply Kd.R_alloc | apply Kd.R_drewN | apply Kd.R_drew)); exact HO_8.out⟩, ⟨by (with_reducible repeat (first | refine blk_drewN ?_ _ | refine blk_drew ?_ | refine blk_alloc ?_ _)); exact BK228.out⟩, ⟨by repeat (first | (with_reducible first | exact HB.out | apply below_alloc | apply pw_below_drewN | apply below_drew1 | refine below_set ?_ GE228.out | refine below_set ?_ GE235.out) | exact HB.out)⟩⟩
  · replace c4 := Bool.eq_false_iff.mpr c4
    subst c4
    have H1 : (some ((⟨#[]⟩ : ByteArray), false)) = some (r1, r2) := by rw [if_neg (show ¬ (false = true) by decide)] at H; exact H
    clear H
    have H := H1
    clear H1
    simp only [Option.some.injEq, Prod.mk.injEq] at H
    obtain ⟨rfl, rfl⟩ := H
    go_enter Try.func5, Try.ntmps5
    go_wp2_with (first | (go_at_call 10; (with_reducible refine (impl_isPassed.calls k a0 a1 false _ A3.out).mono ?_); rintro e w52 ⟨rfl, hb⟩; have n0_ := Aside0.mk (below_step (by repeat (first | (with_reducible first | exact HB.out | apply below_alloc | apply pw_below_drewN | apply below_drew1) | exact HB.out)) hb); clear HB; have HB := n0_; clear n0_; (try clear hb); (try clear hb2); (try clear hk); (try clear hi)))
    repeat (go_quiet (first | (go_at_call 10; (with_reducible refine (impl_isPassed.calls k a0 a1 false _ A3.out).mono ?_); rintro e w52 ⟨rfl, hb⟩; have n0_ := Aside0.mk (below_step (by repeat (first | (with_reducible first | exact HB.out | apply below_alloc | apply pw_below_drewN | apply below_drew1) | exact HB.out)) hb); clear HB; have HB := n0_; clear n0_; (try clear hb); (try clear hb2); (try clear hk); (try clear hi))); try go_wp2_with (first | (go_at_call 10; (with_reducible refine (impl_isPassed.calls k a0 a1 false _ A3.out).mono ?_); rintro e w52 ⟨rfl, hb⟩; have n0_ := Aside0.mk (below_step (by repeat (first | (with_reducible first | exact HB.out | apply below_alloc | apply pw_below_drewN | apply below_drew1) | exact HB.out)) hb); clear HB; have HB := n0_; clear n0_; (try clear hb); (try clear hb2); (try clear hk); (try clear hi))))
    go_ret2
    exact ⟨by first | rfl | (simp [errW_none, errW_some] <;> rfl) | (simp [*, errW_none, errW_some] <;> rfl), by repeat (first | (with_reducible first | exact HB.out | apply below_alloc | apply pw_below_drewN | apply below_drew1) | exact HB.out)⟩

end Go.Proofs.Ytklnfjjpjkphiaa.PD
