-- Printed for this claim by gprint.py, a program of this session round the kit's printer. Lean checks it.
import Derived.Test.YtkfbnjjlmmcbjaaPCx0
import Derived.Test.YtkfbnjjlmmcbjaaPCx3
import Derived.Test.YtkfbnjjlmmcbjaaPCx4
import Derived.Test.YtkfbnjjlmmcbjaaPCx5
namespace Go.Proofs.Ytkfbnjjlmmcbjaa.PC
open Go.RowKit Go.Proofs.YtkfbnjjlmmcbjaaW.PrintWords Go.Proofs.YtkfbnjjlmmcbjaaW.PrintLast Go.Proofs.YtkfbnjjlmmcbjaaW.PrintMore
attribute [local go_sem] max2_int min2_int max_two min_two max_three min_three max_four min_four   -- for this text's walks alone
set_option linter.unusedVariables false
set_option linter.unusedSimpArgs false

/-! ### impl_passes: function 16 -/
-- the points that a turtle passes, counted in a map; it calls 27 with the closure 28 and 29
theorem impl_passes.laidOut : laidOutB Try.prog = true := by kernel_rfl
theorem impl_passes.law : Go.WideMaps.KeyLaw Try.prog 34 := deep_law_laid impl_passes.laidOut (m := 2) (by omega) (of_decide_eq_true (by kernel_rfl)) (by kernel_rfl) (by rw [Try.underlying34])
theorem impl_passes.zero (u : World) : (zeroValue 3).run Try.prog u = .ok (.int .i64 0) u := by kernel_rfl
def impl_passes.kp (x y : Int) : Lit := .string (keyBytes [.int .i64 x, .int .i64 y])
theorem impl_passes.key_of {x y : Int} (hx : (Lit.int .i64 x).wf = true) (hy : (Lit.int .i64 y).wf = true) : keyOf Try.prog 34 (.agg #[.int .i64 x, .int .i64 y]) = some (impl_passes.kp x y) := by
  have hk : Try.prog.keyType 34 = true := by kernel_rfl
  have hc : Try.prog.cellsOf 34 = 2 := by kernel_rfl
  have hc3 : Try.prog.cellsOf 3 = 1 := by kernel_rfl
  have hsz : ∃ m, Try.prog.types.size = m + 1 := ⟨Try.prog.types.size - 1, by have : 0 < Try.prog.types.size := of_decide_eq_true (by kernel_rfl); omega⟩
  obtain ⟨m, hm⟩ := hsz
  unfold keyOf
  simp only [Try.underlying34]
  rw [if_pos (by simp [hk, Value.formed, Try.underlying34, hc]), hm]
  unfold Program.keyLits
  simp [Try.underlying34, Value.cells, hc, hc3, Program.keyLits, Try.underlying3, hx, hy, impl_passes.kp]
theorem impl_passes.kp_inj {x y x' y' : Int} (hx : (Lit.int .i64 x).wf = true) (hy : (Lit.int .i64 y).wf = true) (hx' : (Lit.int .i64 x').wf = true) (hy' : (Lit.int .i64 y').wf = true) (h : impl_passes.kp x y = impl_passes.kp x' y') : x = x' ∧ y = y' := by
  have := impl_passes.law.inj (impl_passes.key_of hx hy) (h ▸ impl_passes.key_of hx' hy')
  simpa using this
theorem impl_passes.isKey (x y : Int) : WideAt.IsKeyLit (impl_passes.kp x y) := trivial
open Go.WideElems Go.ChangeMaps in
theorem impl_passes.entry {H : Type} {P : Program} {w : World} {t k e : TypeId} {R : Value → Option (DataW H × List MemPlace)} {b : Nat} {es : Array MapEntry} {clock : Nat} (K : Go.WideMaps.KeyLaw P k) (ht : P.underlying t = some (.map k e)) {z : Value} (hz : ∀ u : World, (zeroValue e).run P u = .ok z u) (hb : w.heap[b]? = some (.map es clock)) (F : Fit P k R es clock) {key : Value} {kl : Lit} (hkey : keyOf P k key = some kl) :
    ∃ (v0 : Value) (st : Nat) (es1 : Array MapEntry) (clock1 : Nat), (∀ u : World, u.heap[b]? = some (.map es clock) → (Instr.mapEntry t (.map (some b)) key).run P u = .ok (.tuple #[v0, goInt st]) (setBlock u b (.map es1 clock1))) ∧
      (∀ u : World, (∃ c2, u.heap[b]? = some (.map es c2)) ∨ (∃ c2, u.heap[b]? = some (.map es1 c2)) → (Instr.lookup t (.map (some b)) key false).run P u = .ok v0 u) ∧
      ∀ val : Value, ∃ es' clock', (∀ w2 : World, w2.heap[b]? = some (.map es1 clock1) → (Instr.entryStore t (.map (some b)) (goInt st) val).run P w2 = .ok () (setBlock w2 b (.map es' clock'))) ∧ (Instr.mapUpdate t (.map (some b)) key val).run P w = .ok () (setBlock w b (.map es' clock')) := by
  obtain ⟨v0, st, es1, clock1, hrun, hcase, hst⟩ := entry_then_store K ht hz hb F hkey
  have hst' : ∀ val : Value, ∃ es' clock', (∀ w2 : World, w2.heap[b]? = some (.map es1 clock1) → (Instr.entryStore t (.map (some b)) (goInt st) val).run P w2 = .ok () (setBlock w2 b (.map es' clock'))) ∧ (Instr.mapUpdate t (.map (some b)) key val).run P w = .ok () (setBlock w b (.map es' clock')) := fun val => by
    obtain ⟨es', clock', h1, h2⟩ := hst (setBlock w b (.map es1 clock1)) val (heap_setBlock_same hb _)
    refine ⟨es', clock', fun w2 hw2 => ?_, h2⟩
    obtain ⟨es'', clock'', h3, h4⟩ := hst w2 val hw2
    rw [h2] at h4
    injection h4 with _ h5
    have h6 : some (Obj.map es' clock') = some (Obj.map es'' clock'') := by rw [← heap_setBlock_same hb (.map es' clock'), ← heap_setBlock_same hb (.map es'' clock''), h5]
    rw [h3, Option.some.inj h6]
  rcases K.find w hkey es.toList F.keys with ⟨h1, h2⟩ | ⟨j, e0, h1, h2, h3⟩
  · have hE : ∀ u : World, u.heap[b]? = some (.map es clock) → (Instr.mapEntry t (.map (some b)) key).run P u = .ok (.tuple #[z, goInt clock]) (setBlock u b (.map (es.push ⟨key, z, clock⟩) (clock + 1))) := fun u hbu => by
      rcases K.find u hkey es.toList F.keys with ⟨g1, _⟩ | ⟨j, e0, _, g2, g3⟩
      · simp [Instr.mapEntry, run_underlying ht, MapKept.run_getObj_map hbu, K.check u false hkey, g1, hz, MapKept.run_setObj_map _ hbu, Result.andThen, setBlock]
      · exact absurd g3 (h2 e0 (List.mem_of_getElem? g2))
    have e := hrun.symm.trans (hE w hb)
    injection e with e1 e2
    have h6 : some (Obj.map es1 clock1) = some (Obj.map (es.push ⟨key, z, clock⟩) (clock + 1)) := by rw [← heap_setBlock_same hb (.map es1 clock1), e2, heap_setBlock_same hb]
    injection h6 with h6
    injection h6 with h7 h8
    subst h7
    subst h8
    injection e1 with e1
    have e3 : v0 = z ∧ goInt st = goInt clock := by simpa using e1
    obtain ⟨rfl, e4⟩ := e3
    refine ⟨v0, st, _, _, fun u hbu => by rw [hE u hbu, e4], fun u hu2 => ?_, hst'⟩
    rcases hu2 with ⟨c2, hu2⟩ | ⟨c2, hu2⟩
    · rcases K.find u hkey es.toList F.keys with ⟨g1, _⟩ | ⟨j, e0, _, g2, g3⟩
      · simp [Instr.lookup, run_underlying ht, MapKept.run_getObj_map hu2, K.check u _ hkey, g1, hz, Result.andThen]
      · exact absurd g3 (h2 e0 (List.mem_of_getElem? g2))
    · have hk2 : ∀ x ∈ (es.push ⟨key, v0, clock⟩).toList, ∃ l, keyOf P k x.key = some l := fun x hx => by
        rw [Array.toList_push] at hx
        rcases List.mem_append.1 hx with hx | hx
        · exact F.keys x hx
        · rw [List.mem_singleton.1 hx]; exact ⟨kl, hkey⟩
      rcases K.find u hkey _ hk2 with ⟨g1, g2⟩ | ⟨j, e0, g1, g2, g3⟩
      · exact absurd rfl (g2 ⟨key, v0, clock⟩ (by simp))
      · have he0 : e0.val = v0 := by
          have hm := List.mem_of_getElem? g2
          rw [Array.toList_push] at hm
          rcases List.mem_append.1 hm with hm | hm
          · exact absurd g3 (h2 e0 hm)
          · rw [List.mem_singleton.1 hm]
        rw [Array.toList_push] at g1
        simp [Instr.lookup, run_underlying ht, MapKept.run_getObj_map hu2, K.check u _ hkey, g1, he0, Result.andThen]
  · have hL : ∀ (u : World) (c2 : Nat), u.heap[b]? = some (.map es c2) → (Instr.lookup t (.map (some b)) key false).run P u = .ok e0.val u := fun u c2 hu2 => by
      rcases K.find u hkey es.toList F.keys with ⟨g1, g2⟩ | ⟨j', e', g1, g2, g3⟩
      · exact absurd h3 (g2 e0 (List.mem_of_getElem? h2))
      · have he : e' = e0 := entry_eq_of_key ((MapKept.stamped_iff es clock).1 F.stamped).2.2 (List.mem_of_getElem? g2) (List.mem_of_getElem? h2) (g3.trans h3.symm)
        rw [he] at g1
        simp [Instr.lookup, run_underlying ht, MapKept.run_getObj_map hu2, K.check u _ hkey, g1, Result.andThen]
    have hE : ∀ u : World, u.heap[b]? = some (.map es clock) → (Instr.mapEntry t (.map (some b)) key).run P u = .ok (.tuple #[e0.val, goInt e0.born]) (setBlock u b (.map es clock)) := fun u hbu => by
      rcases K.find u hkey es.toList F.keys with ⟨g1, g2⟩ | ⟨j', e', g1, g2, g3⟩
      · exact absurd h3 (g2 e0 (List.mem_of_getElem? h2))
      · have he : e' = e0 := entry_eq_of_key ((MapKept.stamped_iff es clock).1 F.stamped).2.2 (List.mem_of_getElem? g2) (List.mem_of_getElem? h2) (g3.trans h3.symm)
        subst he
        have hj : es[j']? = some e' := by simpa using g2
        have hsame : es.modify j' (fun e => { e with key := key }) = es := by
          apply Array.ext_getElem?
          intro m
          rw [Array.getElem?_modify]
          by_cases hm : j' = m
          · subst hm
            rw [if_pos rfl, hj, Option.map_some, ← h3]
          · rw [if_neg hm]
        simp [Instr.mapEntry, run_underlying ht, MapKept.run_getObj_map hbu, K.check u false hkey, g1, hj, h3, K.stays u hkey, hsame, MapKept.run_setObj_map _ hbu, Result.andThen, setBlock]
    have e := hrun.symm.trans (hE w hb)
    injection e with e1 e2
    have h6 : some (Obj.map es1 clock1) = some (Obj.map es clock) := by rw [← heap_setBlock_same hb (.map es1 clock1), e2, heap_setBlock_same hb]
    injection h6 with h6
    injection h6 with h7 h8
    subst h7
    subst h8
    injection e1 with e1
    have e3 : v0 = e0.val ∧ goInt st = goInt e0.born := by simpa using e1
    obtain ⟨rfl, e4⟩ := e3
    refine ⟨_, st, _, _, fun u hbu => by rw [hE u hbu, e4], fun u hu2 => ?_, hst'⟩
    rcases hu2 with ⟨c2, hu2⟩ | ⟨c2, hu2⟩ <;> exact hL u c2 hu2
/-! what the map holds: points and how often they were passed, the first first -/
abbrev impl_passes.E := List (Int × Int × Int)
def impl_passes.hasE (l : impl_passes.E) (x y : Int) : Bool := l.any fun e => decide (e.1 = x) && decide (e.2.1 = y)
def impl_passes.cnt : impl_passes.E → Int → Int → Int
  | [], _, _ => 0
  | e :: l, x, y => if e.1 = x ∧ e.2.1 = y then e.2.2 else impl_passes.cnt l x y
def impl_passes.upd : impl_passes.E → Int → Int → impl_passes.E
  | [], x, y => [(x, y, 1)]
  | e :: l, x, y => if e.1 = x ∧ e.2.1 = y then (e.1, e.2.1, wrap64 (e.2.2 + 1)) :: l else e :: impl_passes.upd l x y
theorem impl_passes.upd_length : ∀ (l : impl_passes.E) (x y : Int), (impl_passes.upd l x y).length = if impl_passes.hasE l x y = true then l.length else l.length + 1
  | [], x, y => rfl
  | e :: l, x, y => by
    have ih := impl_passes.upd_length l x y
    unfold impl_passes.upd impl_passes.hasE
    by_cases c : e.1 = x ∧ e.2.1 = y
    · rw [if_pos c]; simp [c]
    · rw [if_neg c, List.length_cons, ih]
      have : (decide (e.1 = x) && decide (e.2.1 = y)) = false := by
        simp only [Bool.and_eq_false_iff, decide_eq_false_iff_not]
        by_cases c1 : e.1 = x
        · exact .inr fun c2 => c ⟨c1, c2⟩
        · exact .inl c1
      rw [List.any_cons, this, Bool.false_or]
      unfold impl_passes.hasE
      split <;> simp
theorem impl_passes.cnt_of_not : ∀ (l : impl_passes.E) (x y : Int), impl_passes.hasE l x y = false → impl_passes.cnt l x y = 0
  | [], x, y, _ => rfl
  | e :: l, x, y, h => by
    unfold impl_passes.hasE at h
    rw [List.any_cons, Bool.or_eq_false_iff] at h
    unfold impl_passes.cnt
    rw [if_neg (fun c => by simp [c] at h)]
    exact impl_passes.cnt_of_not l x y h.2
theorem impl_passes.cnt_upd_same : ∀ (l : impl_passes.E) (x y : Int), impl_passes.cnt (impl_passes.upd l x y) x y = wrap64 (impl_passes.cnt l x y + 1)
  | [], x, y => by simp [impl_passes.upd, impl_passes.cnt]; unfold wrap64; omega
  | e :: l, x, y => by
    unfold impl_passes.upd
    by_cases c : e.1 = x ∧ e.2.1 = y
    · rw [if_pos c]
      unfold impl_passes.cnt
      rw [if_pos c, if_pos c]
    · rw [if_neg c]
      unfold impl_passes.cnt
      rw [if_neg c, if_neg c]
      exact impl_passes.cnt_upd_same l x y
theorem impl_passes.cnt_upd_other : ∀ (l : impl_passes.E) (x y x' y' : Int), ¬ (x = x' ∧ y = y') → impl_passes.cnt (impl_passes.upd l x y) x' y' = impl_passes.cnt l x' y'
  | [], x, y, x', y', h => by simp [impl_passes.upd, impl_passes.cnt, h]
  | e :: l, x, y, x', y', h => by
    unfold impl_passes.upd
    by_cases c : e.1 = x ∧ e.2.1 = y
    · rw [if_pos c]
      unfold impl_passes.cnt
      have : ¬ (e.1 = x' ∧ e.2.1 = y') := fun d => h ⟨c.1.symm.trans d.1, c.2.symm.trans d.2⟩
      rw [if_neg this, if_neg this]
    · rw [if_neg c]
      unfold impl_passes.cnt
      rw [impl_passes.cnt_upd_other l x y x' y' h]
theorem impl_passes.hasE_upd (l : impl_passes.E) (x y x' y' : Int) : impl_passes.hasE (impl_passes.upd l x y) x' y' = (decide (x = x' ∧ y = y') || impl_passes.hasE l x' y') := by
  induction l with
  | nil => simp [impl_passes.upd, impl_passes.hasE]
  | cons e l ih =>
    unfold impl_passes.upd
    by_cases c : e.1 = x ∧ e.2.1 = y
    · rw [if_pos c]
      obtain ⟨rfl, rfl⟩ := c
      simp only [impl_passes.hasE, List.any_cons]
      by_cases d : e.1 = x' ∧ e.2.1 = y'
      · simp [d]
      · simp [d]
    · rw [if_neg c]
      simp only [impl_passes.hasE, List.any_cons] at ih ⊢
      rw [ih]
      cases (decide (e.1 = x') && decide (e.2.1 = y')) <;> cases (decide (x = x' ∧ y = y')) <;> rfl
abbrev impl_passes.W (x : Int) : Prop := (Lit.int .i64 x).wf = true
structure impl_passes.Agree (l : impl_passes.E) (D : DataW Unit) : Prop where
  tidy : Maps.Tidy D
  size : Maps.size D = l.length
  wf : ∀ e ∈ l, impl_passes.W e.1 ∧ impl_passes.W e.2.1
  has : ∀ x y, impl_passes.W x → impl_passes.W y → Maps.has D (impl_passes.kp x y) = impl_passes.hasE l x y
  at_ : ∀ x y, impl_passes.W x → impl_passes.W y → D.atKey (impl_passes.kp x y) (.lit (.int .i64 0)) = .lit (.int .i64 (impl_passes.cnt l x y))
  keys : ∀ kl, Maps.has D kl = true → ∃ e ∈ l, kl = impl_passes.kp e.1 e.2.1
theorem impl_passes.Agree.nil : impl_passes.Agree [] (.map []) :=
  ⟨Maps.tidy_empty, rfl, fun e h => by simp at h, fun x y _ _ => rfl, fun x y _ _ => rfl, fun kl h => by simp [Maps.has] at h⟩
theorem impl_passes.upd_mem (l : impl_passes.E) (x y : Int) : (∀ e ∈ impl_passes.upd l x y, (∃ e' ∈ l, e.1 = e'.1 ∧ e.2.1 = e'.2.1) ∨ (e.1 = x ∧ e.2.1 = y)) ∧ (∀ e' ∈ l, ∃ e ∈ impl_passes.upd l x y, e.1 = e'.1 ∧ e.2.1 = e'.2.1) ∧ ∃ e ∈ impl_passes.upd l x y, e.1 = x ∧ e.2.1 = y := by
  induction l with
  | nil => exact ⟨fun e h => .inr (by rw [List.mem_singleton.1 h]; exact ⟨rfl, rfl⟩), fun e' h => by simp at h, ⟨(x, y, 1), by simp [impl_passes.upd], rfl, rfl⟩⟩
  | cons d l ih =>
    obtain ⟨i1, i2, i3⟩ := ih
    unfold impl_passes.upd
    by_cases c : d.1 = x ∧ d.2.1 = y
    · rw [if_pos c]
      refine ⟨fun e h => ?_, fun e' h => ?_, ⟨_, List.mem_cons_self, c.1, c.2⟩⟩
      · rcases List.mem_cons.1 h with rfl | h
        · exact .inr c
        · exact .inl ⟨e, List.mem_cons_of_mem _ h, rfl, rfl⟩
      · rcases List.mem_cons.1 h with rfl | h
        · exact ⟨_, List.mem_cons_self, rfl, rfl⟩
        · exact ⟨e', List.mem_cons_of_mem _ h, rfl, rfl⟩
    · rw [if_neg c]
      refine ⟨fun e h => ?_, fun e' h => ?_, ?_⟩
      · rcases List.mem_cons.1 h with rfl | h
        · exact .inl ⟨e, List.mem_cons_self, rfl, rfl⟩
        · rcases i1 e h with ⟨e', h', q⟩ | q
          · exact .inl ⟨e', List.mem_cons_of_mem _ h', q⟩
          · exact .inr q
      · rcases List.mem_cons.1 h with rfl | h
        · exact ⟨e', List.mem_cons_self, rfl, rfl⟩
        · obtain ⟨e, h', q⟩ := i2 e' h
          exact ⟨e, List.mem_cons_of_mem _ h', q⟩
      · obtain ⟨e, h', q⟩ := i3
        exact ⟨e, List.mem_cons_of_mem _ h', q⟩
theorem impl_passes.Agree.put {l : impl_passes.E} {D : DataW Unit} (h : impl_passes.Agree l D) {x y : Int} (hx : impl_passes.W x) (hy : impl_passes.W y) {v : Int} (hv : v = wrap64 (impl_passes.cnt l x y + 1)) : impl_passes.Agree (impl_passes.upd l x y) (D.put (impl_passes.kp x y) (.lit (.int .i64 v))) := by
  have hM := h.tidy.isMap
  have hne : ∀ x' y', impl_passes.W x' → impl_passes.W y' → ¬ (x = x' ∧ y = y') → impl_passes.kp x' y' ≠ impl_passes.kp x y := fun x' y' w1 w2 hn e => hn (by
    obtain ⟨e1, e2⟩ := impl_passes.kp_inj w1 w2 hx hy e
    exact ⟨e1.symm, e2.symm⟩)
  obtain ⟨u1, u2, u3⟩ := impl_passes.upd_mem l x y
  refine ⟨h.tidy.put (impl_passes.isKey x y) _, ?_, fun e he => ?_, fun x' y' w1 w2 => ?_, fun x' y' w1 w2 => ?_, fun kl hk => ?_⟩
  · rw [Maps.size_put h.tidy, h.has x y hx hy, h.size, impl_passes.upd_length]
  · rcases u1 e he with ⟨e', h', q1, q2⟩ | ⟨q1, q2⟩
    · rw [q1, q2]; exact h.wf e' h'
    · rw [q1, q2]; exact ⟨hx, hy⟩
  · rw [impl_passes.hasE_upd]
    by_cases c : x = x' ∧ y = y'
    · obtain ⟨rfl, rfl⟩ := c
      rw [Maps.has_put_same hM (impl_passes.isKey x y)]
      simp
    · rw [Maps.has_put_other (hne x' y' w1 w2 c), h.has x' y' w1 w2, decide_eq_false c, Bool.false_or]
  · by_cases c : x = x' ∧ y = y'
    · obtain ⟨rfl, rfl⟩ := c
      rw [Maps.atKey_put_same hM (impl_passes.isKey x y), hv, impl_passes.cnt_upd_same]
    · rw [Maps.atKey_put_other (hne x' y' w1 w2 c), h.at_ x' y' w1 w2, impl_passes.cnt_upd_other l x y x' y' c]
  · by_cases c : kl = impl_passes.kp x y
    · obtain ⟨e, he, q1, q2⟩ := u3
      exact ⟨e, he, by rw [c, q1, q2]⟩
    · rw [Maps.has_put_other c] at hk
      obtain ⟨e', h', q⟩ := h.keys kl hk
      obtain ⟨e, he, q1, q2⟩ := u2 e' h'
      exact ⟨e, he, by rw [q, q1, q2]⟩
def impl_passes.clo (gc gm B : Nat) : Clo impl_passes.E where
  I := fun l W => W.heap[gc]? = some (.cells #[.map (some gm)] 31 (0, 0)) ∧ (∃ D, W.ownsMap Try.prog 34 (plainElem (H := Unit) Try.prog 3) gm l.length D ∧ impl_passes.Agree l D) ∧ B ≤ gc ∧ B ≤ gm ∧ B ≤ W.heap.size
  O := fun k => B ≤ k
  stab := by
    rintro s W W' ⟨h1, ⟨D, ⟨es, clock, h2, h3⟩, h4⟩, h5, h6, h7⟩ hsz hk
    exact ⟨hk gc _ h1 rfl, ⟨D, ⟨es, clock, hk gm _ h2 rfl, h3⟩, h4⟩, h5, h6, Nat.le_trans h7 hsz⟩
def impl_passes.add (l : impl_passes.E) (x y : Int) : Option impl_passes.E := if l.length < 1000000 ∧ (-9223372036854775808 ≤ x ∧ x ≤ 9223372036854775807) ∧ (-9223372036854775808 ≤ y ∧ y ≤ 9223372036854775807) then some (impl_passes.upd l x y) else none
theorem impl_passes.wf_of {x : Int} (h : -9223372036854775808 ≤ x ∧ x ≤ 9223372036854775807) : (Lit.int .i64 x).wf = true := by
  simpa [Lit.wf, IntKind.min, IntKind.max, IntKind.signed, IntKind.bits] using h
theorem impl_passes.wf_wrap (x : Int) : (Lit.int .i64 (wrap64 x)).wf = true := impl_passes.wf_of (by unfold wrap64; omega)
theorem impl_passes.tight {H : Type} {P : Program} {k : TypeId} {R : Value → Option (DataW H × List MemPlace)} {w : World} {b n m : Nat} {D : DataW H} (h : w.ownsMap P k R b n D) (hm : Maps.size D = m) : w.ownsMap P k R b m D := by
  obtain ⟨es, clock, hb, F, hs, rfl⟩ := h
  refine ⟨es, clock, hb, F, ?_, rfl⟩
  rw [← hm]
  simp [Maps.size, length_sorted]
theorem impl_passes.moved {H : Type} {P : Program} {k : TypeId} {R : Value → Option (DataW H × List MemPlace)} {w u : World} {b n : Nat} {D : DataW H} (h : w.ownsMap P k R b n D) (hu : u.heap[b]? = w.heap[b]?) : u.ownsMap P k R b n D := by
  obtain ⟨es, clock, hb, r⟩ := h
  exact ⟨es, clock, hu.trans hb, r⟩
set_option maxHeartbeats 4000000 in
set_option maxRecDepth 100000 in
open Go.ChangeMaps in
theorem impl_passes.steps (gc gm B : Nat) (w0 : World) : Clo.Steps Try.prog (impl_passes.clo gc gm B) w0 impl_passes.add 28 #[.pointer (some ⟨gc, 0, none⟩)] := by
  intro l l' x y w hX hst
  show Calls Try.prog 28 #[.agg #[.int .i64 x, .int .i64 y], .pointer (some ⟨gc, 0, none⟩)] w _
  obtain ⟨⟨hgc, ⟨D, hown, hA⟩, hBg, hBm, hBs⟩, hF⟩ := hX
  unfold impl_passes.add at hst
  by_cases hl : l.length < 1000000 ∧ (-9223372036854775808 ≤ x ∧ x ≤ 9223372036854775807) ∧ (-9223372036854775808 ≤ y ∧ y ≤ 9223372036854775807)
  case neg => rw [if_neg hl] at hst; cases hst
  rw [if_pos hl] at hst
  obtain rfl := Option.some.inj hst
  have hx := impl_passes.wf_of hl.2.1
  have hy := impl_passes.wf_of hl.2.2
  have K := Maps.Keyed.of_law impl_passes.law
  have hkey := impl_passes.key_of hx hy
  obtain ⟨c, hrun, hat, hwc⟩ := hown.lookup_int K Try.underlying31 Try.underlying3 (impl_passes.zero w) hkey
  have hc : c = impl_passes.cnt l x y := by
    rw [hA.at_ x y hx hy] at hat
    injection hat with h1
    injection h1 with _ h2
    exact h2.symm
  obtain ⟨es, clock, hb, F, hs, hD⟩ := hown
  have hown : w.ownsMap Try.prog 34 (plainElem (H := Unit) Try.prog 3) gm l.length D := ⟨es, clock, hb, F, hs, hD⟩
  obtain ⟨v0, st, es1, clock1, hE, hL, hS⟩ := impl_passes.entry impl_passes.law Try.underlying31 impl_passes.zero hb F hkey
  have hv0 : v0 = .int .i64 c := by
    have := (hL w (.inl ⟨clock, hb⟩)).symm.trans hrun
    injection this
  subst hv0
  have hA2 := hA.put hx hy (v := wrap64 (c + 1)) (by rw [hc])
  obtain ⟨w9, hrun9, hown9, _⟩ := hown.store K Try.underlying31 (by unfold maxLen; omega) hkey (plainElem_int Try.underlying3 (impl_passes.wf_wrap (c + 1)))
  obtain ⟨es', clock', hES, hMU⟩ := hS (.int .i64 (wrap64 (c + 1)))
  have hw9 : setBlock w gm (.map es' clock') = w9 := by
    have := hMU.symm.trans hrun9
    injection this
  subst hw9
  have hfin : ∀ u : World, u.heap[gm]? = some (.map es' clock') → u.ownsMap Try.prog 34 (plainElem (H := Unit) Try.prog 3) gm (impl_passes.upd l x y).length (D.put (impl_passes.kp x y) (.lit (.int .i64 (wrap64 (c + 1))))) := fun u hu =>
    impl_passes.tight (impl_passes.moved hown9 (hu.trans (heap_setBlock_same hb _).symm)) hA2.size
  have hu := Try.underlying34
  have HB := Aside0.mk (Below.refl w.heap.size w)
  have BC := Aside0.mk hgc
  have BM := Aside0.mk hb
  have HE := Aside0.mk hE
  have HL := Aside0.mk hL
  have HES := Aside0.mk hES
  have HFIN := Aside0.mk hfin
  have HA2 := Aside0.mk hA2
  have HBS := Aside0.mk (And.intro hBg (And.intro hBm hBs))
  have HF := Aside0.mk hF
  clear hrun hat hwc hc hown hA hD hF hMU hrun9 hown9 hS hkey hx hy hl hst hb hgc hE hL hES hfin hA2 hBg hBm hBs F hs K
  go_enter Try.func28, Try.ntmps28
  go_wp2_with (first | ((with_reducible refine gate_dst (N := 2) rfl ?_); refine box_event ?hg (N := 2) ?hd (cs := #[.int .i64 x, .int .i64 y]) (t := 34) ?hr ?_; (case hd => rfl); (case hg => rfl); (case hr => first | (go_simp; done) | (go_simp; rfl)); intro gb hg w3 hbox hb; have n0_ := Aside0.mk (below_step HB.out hb); have n1_ := Aside0.mk (blk_below BC.out hb); have n2_ := Aside0.mk (blk_below BM.out hb); have BK := Aside0.mk hbox; clear HB BC BM; have HB := n0_; have BC := n1_; have BM := n2_; have GE := Aside0.mk (show w.heap.size ≤ gb by rw [hg]; exact Nat.le_refl _); clear n0_ n1_ n2_ hbox hb hg))
  refine start_ (n := 7) (S := fun w' => w'.cell? ⟨gc, 0, none⟩ = some (.map (some gm)) ∧ w'.cell? ⟨gb, 0, none⟩ = some (.int .i64 x) ∧ w'.cell? ⟨gb, 1, none⟩ = some (.int .i64 y) ∧ ((∃ c2, w'.heap[gm]? = some (.map es c2)) ∨ ∃ c2, w'.heap[gm]? = some (.map es1 c2))) (ds := [6]) #[false, false, false, false, false, false, false] (by kernel_rfl) rfl rfl ⟨(blk_cell (blk_drew BC.out) 0).trans rfl, (blk_cell (blk_drew BK.out) 0).trans rfl, (blk_cell (blk_drew BK.out) 1).trans rfl, .inl ⟨clock, blk_drew BM.out⟩⟩ (fun hHeld => ?_)
  have n0_ := Aside0.mk (below_drew1 HB.out)
  have n1_ := Aside0.mk (blk_drew BC.out)
  have n2_ := Aside0.mk (blk_drew BM.out)
  have n3_ := Aside0.mk (blk_drew BK.out)
  clear HB BC BM BK
  have HB := n0_
  have BC := n1_
  have BM := n2_
  have BK := n3_
  clear n0_ n1_ n2_ n3_
  generalize w3.drew = w4 at HB BC BM BK hHeld ⊢
  refine take_ (i := 0) (N := some 3) (v := ?_) (a' := ?_) #[true, false, false, false, false, false, false] rfl rfl (by kernel_rfl) (fun _ _ _ h => h) (Or.inl ⟨by rfl, ?_⟩) hHeld ?_ ?_
  rotate_left
  · rintro w' ⟨s0, s1, s2, s3⟩
    go_simp
    with_reducible rfl
  rotate_left
  · simp only [Act.put, List.setIfInBounds_toArray, List.set_cons_zero, List.set_cons_succ, i64_w, i32_w]
    rfl
  refine take_ (i := 1) (N := some 4) (v := ?_) (a' := ?_) #[true, true, false, false, false, false, false] rfl rfl (by kernel_rfl) (fun _ _ _ h => h) (Or.inl ⟨by rfl, ?_⟩) hHeld ?_ ?_
  rotate_left
  · rintro w' ⟨s0, s1, s2, s3⟩
    go_simp
    with_reducible rfl
  rotate_left
  · simp only [Act.put, List.setIfInBounds_toArray, List.set_cons_zero, List.set_cons_succ, i64_w, i32_w]
    rfl
  refine take_ (i := 2) (N := some 5) (v := ?_) (a' := ?_) #[true, true, true, false, false, false, false] rfl rfl (by kernel_rfl) (fun _ _ _ h => h) (Or.inl ⟨by rfl, ?_⟩) hHeld ?_ ?_
  rotate_left
  · rintro w' ⟨s0, s1, s2, s3⟩
    have hlk := HL.out w' s3
    clear s0 s1 s2 s3
    go_simp
    with_reducible rfl
  rotate_left
  · simp only [Act.put, List.setIfInBounds_toArray, List.set_cons_zero, List.set_cons_succ, i64_w, i32_w]
    rfl
  refine pure_ (i := 3) (N := some 6) (v := ?_) (a' := ?_) #[true, true, true, true, false, false, false] rfl rfl (by kernel_rfl) (fun _ _ _ h => h) (Or.inl ⟨by rfl, ?_⟩) ?_ ?_
  rotate_left
  · intro w'
    go_simp
    with_reducible rfl
  rotate_left
  · simp only [Act.put, List.setIfInBounds_toArray, List.set_cons_zero, List.set_cons_succ, i64_w, i32_w]
    rfl
  refine one_ (i := 4) (N := some 7) #[true, true, true, true, true, false, false] rfl rfl (by kernel_rfl) (by decide) (fun K hK => ?_)
  refine event_step (v := .tuple #[.int .i64 c, goInt st]) (w1 := setBlock w4 gm (.map es1 clock1)) ?ew ?er ?_
  case ew => rfl
  case er =>
    have hme := HE.out w4 BM.out
    go_simp
    done
  have hne1 : gc ≠ gm := by
    rintro rfl
    have := BC.out.symm.trans BM.out
    cases this
  have hne2 : gb ≠ gm := by
    rintro rfl
    have := BK.out.symm.trans BM.out
    cases this
  have G1 := Aside0.mk (World.mapTurned.grown (w := w4) (w' := setBlock w4 gm (.map es1 clock1)) (b := gm) ⟨es, clock, es1, clock1, BM.out, rfl⟩)
  have n1_ := Aside0.mk ((heap_setBlock_other BM.out (.map es1 clock1) hne1).trans BC.out)
  have n2_ := Aside0.mk (heap_setBlock_same BM.out (.map es1 clock1))
  have n3_ := Aside0.mk ((heap_setBlock_other BM.out (.map es1 clock1) hne2).trans BK.out)
  have NM := BM
  clear BC BM BK
  have BC := n1_
  have BM := n2_
  have BK := n3_
  clear n1_ n2_ n3_
  refine hK.out _ _ ⟨(blk_cell BC.out 0).trans rfl, (blk_cell BK.out 0).trans rfl, (blk_cell BK.out 1).trans rfl, .inr ⟨clock1, BM.out⟩⟩ (fun hHeld => ?_)
  clear hK K
  generalize setBlock w4 gm (.map es1 clock1) = w5 at G1 BC BM BK hHeld ⊢
  refine norm_ (a' := ?_) ?_ ?_
  rotate_left
  · show Act.put _ (some 7) _ = _
    simp only [Act.put, List.setIfInBounds_toArray, List.set_cons_zero, List.set_cons_succ, i64_w, i32_w]
    rfl
  refine pure_ (i := 5) (N := some 8) (v := ?_) (a' := ?_) #[true, true, true, true, true, true, false] rfl rfl (by kernel_rfl) (fun _ _ _ h => h) (Or.inl ⟨by rfl, ?_⟩) ?_ ?_
  rotate_left
  · intro w'
    go_simp
    with_reducible rfl
  rotate_left
  · simp only [Act.put, List.setIfInBounds_toArray, List.set_cons_zero, List.set_cons_succ, i64_w, i32_w]
    rfl
  refine last_ (i := 6) (N := none) #[true, true, true, true, true, true, true] rfl rfl (by kernel_rfl) (by decide) (fun K hK => ?_)
  refine skip_ (w1 := setBlock w5 gm (.map es' clock')) (by rfl) rfl ?run ?_
  case run =>
    have hst := HES.out w5 BM.out
    rw [show goInt (st : Int) = Value.int .i64 st from rfl] at hst
    go_simp
    first | done | rfl
  have G2 := Aside0.mk (World.mapTurned.grown (w := w5) (w' := setBlock w5 gm (.map es' clock')) (b := gm) ⟨es1, clock1, es', clock', BM.out, rfl⟩)
  have n1_ := Aside0.mk ((heap_setBlock_other BM.out (.map es' clock') hne1).trans BC.out)
  have n2_ := Aside0.mk (heap_setBlock_same BM.out (.map es' clock'))
  clear BC BM
  have BC := n1_
  have BM := n2_
  clear n1_ n2_
  refine hK.out _ _ ?_
  clear hK K hHeld
  generalize setBlock w5 gm (.map es' clock') = w6 at G2 BC BM ⊢
  refine done_ (by kernel_rfl) ?_
  first | go_end0 | ((try simp only [Exit.inBlock, Exit.then]); refine bodyPost_ret (results_none rfl _ _ _) rfl ?_)
  obtain ⟨hBg, hBm, hBs⟩ := HBS.out
  have hsz : w.heap.size ≤ w6.heap.size := Nat.le_trans HB.out.size (Nat.le_trans G1.out.size G2.out.size)
  refine ⟨by first | rfl | (simp; done), ⟨⟨BC.out, ⟨_, HFIN.out w6 BM.out, HA2.out⟩, hBg, hBm, Nat.le_trans hBs hsz⟩, G2.out.os.trans (G1.out.os.trans HB.out.os), G2.out.tape.trans (G1.out.tape.trans HB.out.tape), G2.out.output.trans (G1.out.output.trans HB.out.output), hsz, fun k hk hn => ?_, fun k o ho hown => ?_⟩⟩
  · have hlt : k < B := Nat.lt_of_not_le hn
    have hk1 : k < w.heap.size := Nat.lt_of_lt_of_le hlt hBs
    have hk2 : some k ≠ some gm := fun e => by injection e with e; omega
    have hk3 : k < w4.heap.size := Nat.lt_of_lt_of_le hk1 HB.out.size
    exact (G2.out.block k (Nat.lt_of_lt_of_le hk3 G1.out.size) hk2).trans ((G1.out.block k hk3 hk2).trans (HB.out.block k hk1))
  · have h3 := blk_below ho HB.out
    have hk2 : some k ≠ some gm := fun e => by
      injection e with e
      subst e
      rw [NM.out] at h3
      cases h3
      cases hown
    have h4 := blk_grown h3 G1.out hk2
    exact blk_grown h4 G2.out hk2
def impl_passes.f (k : Nat) (a0 : ByteArray) (a1 : Int) : Option impl_passes.E := (impl_turtle_walkG.f impl_passes.add (fun s _ _ => some s) k [(0, 0, 1)] 0 0 0 a0 a1).bind fun r => some r.2.2.2
theorem impl_passes.mono : ∀ a0 a1 k, LeO (impl_passes.f k a0 a1) (impl_passes.f (k + 1) a0 a1) := fun _ _ _ => LeO.bind (impl_turtle_walkG.mono _ _ _ _ _ _ _ _ _) (fun _ => LeO.refl _)
theorem impl_passes.one : impl_passes.Agree [(0, 0, 1)] ((.map [] : DataW Unit).put (impl_passes.kp 0 0) (.lit (.int .i64 1))) :=
  impl_passes.Agree.nil.put (x := 0) (y := 0) (by decide) (by decide) (v := 1) (by show (1 : Int) = wrap64 (0 + 1); unfold wrap64; omega)
set_option maxHeartbeats 4000000 in
set_option maxRecDepth 100000 in
open Go.ChangeMaps in
theorem impl_passes.calls (k : Nat) (a0 : ByteArray) (a1 : Int) (r : impl_passes.E) (w : World) (h : impl_passes.f k a0 a1 = some r) :
    Calls Try.prog 16 #[.string a0, .int .i64 a1] w fun e w' => ∃ (gm : Nat) (D : DataW Unit), e = .returned (.map (some gm)) ∧ w'.ownsMap Try.prog 34 (plainElem (H := Unit) Try.prog 3) gm r.length D ∧ impl_passes.Agree r D ∧ w.heap.size ≤ gm ∧ Below w.heap.size w w' := by
  have hu45 := Try.underlying34
  have hu47 := Try.underlying50
  have eg2 : ∀ args w, (callFunc 29 args).run Try.prog w = .ok (.enter 29 args) w := Go.Proofs.enters_of Try.func29 (by kernel_rfl) rfl
  have eg1 : ∀ args w, (callFunc 28 args).run Try.prog w = .ok (.enter 28 args) w := Go.Proofs.enters_of Try.func28 (by kernel_rfl) rfl
  obtain ⟨⟨q1, q2, q3, q4⟩, hq, h⟩ := Option.bind_eq_some_iff.mp h
  obtain rfl := Option.some.inj h
  have hw0 : impl_passes.W 0 := by decide
  obtain ⟨w1, hins, hown1, es, clock, es', clock', hmb, hw1⟩ := (World.ownsMap_made (H := Unit) w Try.prog 34 (plainElem Try.prog 3)).store (Maps.Keyed.of_law impl_passes.law) Try.underlying31 (by decide) (impl_passes.key_of hw0 hw0) (plainElem_int Try.underlying3 (show (Lit.int .i64 1).wf = true by decide))
  have hB1 : Below w.heap.size w w1 := by
    have hg := World.mapTurned.grown (b := w.heap.size) ⟨es, clock, es', clock', hmb, hw1⟩
    exact (below_alloc (Below.refl w.heap.size w) _).grown hg (by simp) (fun k hk => by injection hk with hk; omega)
  have key : ∀ (gc : Nat) (W : World), w.heap.size ≤ gc → w.heap.size ≤ W.heap.size → W.heap[gc]? = some (.cells #[.map (some w.heap.size)] 31 (0, 0)) → W.heap[w.heap.size]? = w1.heap[w.heap.size]? →
      Calls Try.prog 27 #[.agg #[.int .i64 0, .int .i64 0, .int .i64 0], .string a0, .int .i64 a1, .func (.func 28) #[] #[.pointer (some ⟨gc, 0, none⟩)], .func (.func 29) #[] #[]] W fun e w' => e = .returned (.agg #[.int .i64 q1, .int .i64 q2, .int .i64 q3]) ∧ Clo.X (impl_passes.clo gc w.heap.size w.heap.size) W q4 w' := fun gc W h1 h2 h3 h4 =>
    impl_turtle_walkG.calls (impl_passes.clo gc w.heap.size w.heap.size) impl_passes.add (fun s _ _ => some s) 28 29 #[.pointer (some ⟨gc, 0, none⟩)] #[] eg1 eg2 W ⟨impl_passes.steps gc w.heap.size w.heap.size W⟩ ⟨Clo.steps_nothing _ _⟩ k [(0, 0, 1)] ⟨⟨h3, ⟨_, impl_passes.moved hown1 h4, impl_passes.one⟩, h1, Nat.le_refl _, h2⟩, ⟨rfl, rfl, rfl, Nat.le_refl _, fun _ _ _ => rfl⟩⟩ 0 0 0 a0 a1 q1 q2 q3 q4 hq
  have HK := Aside0.mk key
  have HB := Aside0.mk hB1
  have BM := Aside0.mk (Eq.refl (w1.heap[w.heap.size]?))
  have HM := Aside0.mk hown1.lt
  have hmm := @run_makeMap Try.prog
  clear key eg1 eg2 hq h hown1 hmb hw1 hB1 hw0
  go_enter Try.func16, Try.ntmps16
  go_wp2_with (first | ((with_reducible refine gate_dst (N := 5) rfl ?_); refine box_event ?hg (N := 5) ?hd (cs := #[.map none]) (t := 31) ?hr ?_; (case hd => rfl); (case hg => rfl); (case hr => first | (go_simp; done) | (go_simp; rfl)); intro gc hg w6 hbox hb; have n1_ := Aside0.mk (show w.heap.size ≤ gc by rw [hg]; exact below_size HB.out); have n2_ := Aside0.mk (below_step HB.out hb); have n3_ := Aside0.mk hbox; have n4_ := Aside0.mk (show w.heap.size ≠ gc by rw [hg]; have := HM.out; omega); have n5_ := Aside0.mk (show w6.heap[w.heap.size]? = w1.heap[w.heap.size]? from hb.block _ HM.out); clear HB BM; have GC := n1_; have HB := n2_; have BC := n3_; have NE := n4_; have BM := n5_; have hcc : w6.cell? ⟨gc, 0, none⟩ = some (.map none) := (blk_cell BC.out 0).trans rfl; have hfz := blk_frozen BC.out 0; clear n1_ n2_ n3_ n4_ n5_ hbox hg hb) | (go_at_call 27; refine (HK.out gc _ GC.out ?le (blk_put BC.out 0 _ rfl) ?mm).mono ?_; (case le => first | exact Nat.le_trans HB.out.size (by simp [World.setCell]) | exact HB.out.size); (case mm => exact (Below.heap_setCell w6 ⟨gc, 0, none⟩ _ _ NE.out).trans BM.out); rintro e w9 ⟨rfl, hX⟩; obtain ⟨⟨hg9, ⟨D9, ho9, ha9⟩, hq1, hq2, hq3⟩, hF9⟩ := hX; have HB9 := Aside0.mk (show Below w.heap.size w w9 from ⟨hF9.os.trans HB.out.os, hF9.tape.trans HB.out.tape, hF9.output.trans HB.out.output, Nat.le_trans HB.out.size (Nat.le_trans (by simp [World.setCell]) hF9.size), fun k hk => (hF9.block k (by simp [World.setCell]; exact Nat.lt_of_lt_of_le hk HB.out.size) (Nat.not_le.2 hk)).trans ((Below.heap_setCell w6 ⟨gc, 0, none⟩ _ k (by show k ≠ gc; have := GC.out; omega)).trans (HB.out.block k hk))⟩); have HO9 := Aside0.mk ho9; have HA9 := Aside0.mk ha9; have hcc9 : w9.cell? ⟨gc, 0, none⟩ = some (.map (some w.heap.size)) := (blk_cell hg9 0).trans rfl; clear hcc hfz hg9 ho9 ha9 hF9 hq1 hq2 hq3))
  go_ret
  exact ⟨_, D9, by first | rfl | (simp; done), HO9.out, HA9.out, Nat.le_refl _, HB9.out⟩

/-! ### impl_bit: function 17 -/
def impl_bit.f (a0 : Bool) : Option (Int) := if a0 = true then (some 1) else (some 0)
set_option maxHeartbeats 8000000 in
set_option maxRecDepth 100000 in
theorem impl_bit.calls (a0 : Bool) (r : Int) (w : World) (h : impl_bit.f a0 = some r) :
    Calls Try.prog 17 #[.bool a0] w fun e w' => e = .returned (.int .i64 r) ∧ Drawn0 w w' := by
  have H : (if a0 = true then (some 1) else (some 0)) = some r := h
  clear h
  by_cases c2 : a0 = true
  · subst c2
    have H1 : (some 1) = some r := by rw [if_pos rfl] at H; exact H
    clear H
    have H := H1
    clear H1
    obtain rfl := Option.some.inj H
    go_enter Try.func17, Try.ntmps17
    go_wp2
    go_ret
    exact ⟨by first | rfl | (simp; done) | (simp [*]; done), by repeat (first | exact Drawn0.refl _ | apply Drawn0.step)⟩
  · replace c2 := Bool.eq_false_iff.mpr c2
    subst c2
    have H1 : (some 0) = some r := by rw [if_neg (show ¬ (false = true) by decide)] at H; exact H
    clear H
    have H := H1
    clear H1
    obtain rfl := Option.some.inj H
    go_enter Try.func17, Try.ntmps17
    go_wp2
    go_ret
    exact ⟨by first | rfl | (simp; done) | (simp [*]; done), by repeat (first | exact Drawn0.refl _ | apply Drawn0.step)⟩

/-! ### impl_CrossesOf: function 9 -/
-- it calls 15 16 17
def impl_CrossesOf.f (k : Nat) (a0 : ByteArray) (a1 : Int) : Option (Int × Bool) := (impl_isPassed.f k a0 a1).bind fun b => if b = true then ((impl_passes.f k a0 a1).bind fun l => if (l.Pairwise fun a b => ¬ (a.1 = b.1 ∧ a.2.1 = b.2.1)) ∧ l.length ≤ 1000000 then some (((l.filter fun e => decide (1 < e.2.2)).length : Int), true) else none) else some (0, false)
theorem impl_CrossesOf.mono : ∀ a0 a1 k, LeO (impl_CrossesOf.f k a0 a1) (impl_CrossesOf.f (k + 1) a0 a1) := fun _ _ _ => LeO.bind (impl_isPassed.mono _ _ _) (fun _ => LeO.ite (LeO.bind (impl_passes.mono _ _ _) (fun _ => LeO.refl _)) (LeO.refl _))
def impl_CrossesOf.many (l : impl_passes.E) (left : Lit → Bool) : Nat := (l.filter fun e => decide (1 < e.2.2) && !left (impl_passes.kp e.1 e.2.1)).length
theorem impl_CrossesOf.many_le (l : impl_passes.E) (left : Lit → Bool) : impl_CrossesOf.many l left ≤ l.length := List.length_filter_le _ _
theorem impl_CrossesOf.start {l : impl_passes.E} {D : DataW Unit} (h : impl_passes.Agree l D) : impl_CrossesOf.many l (Maps.has D) = 0 := by
  unfold impl_CrossesOf.many
  rw [List.length_eq_zero_iff, List.filter_eq_nil_iff]
  intro e he
  have hh : Maps.has D (impl_passes.kp e.1 e.2.1) = true := by
    rw [h.has e.1 e.2.1 (h.wf e he).1 (h.wf e he).2]
    unfold impl_passes.hasE
    exact List.any_eq_true.2 ⟨e, he, by simp⟩
  simp [hh]
theorem impl_CrossesOf.stop {l : impl_passes.E} {left : Lit → Bool} (h : ∀ kl, left kl = false) : impl_CrossesOf.many l left = (l.filter fun e => decide (1 < e.2.2)).length := by
  unfold impl_CrossesOf.many
  congr 1
  exact List.filter_congr fun e _ => by rw [h]; simp
theorem impl_CrossesOf.step : ∀ {l : impl_passes.E} {left : Lit → Bool} {kl : Lit} {e0 : Int × Int × Int}, (∀ e ∈ l, impl_passes.W e.1 ∧ impl_passes.W e.2.1) → (l.Pairwise fun a b => ¬ (a.1 = b.1 ∧ a.2.1 = b.2.1)) → e0 ∈ l → kl = impl_passes.kp e0.1 e0.2.1 → left kl = true →
    impl_CrossesOf.many l (fun z => left z && !z.sameKey kl) = impl_CrossesOf.many l left + (if 1 < e0.2.2 then 1 else 0)
  | [], _, _, _, _, _, h, _, _ => by simp at h
  | e :: l, left, kl, e0, hw, hd, hm, hk, hl => by
    obtain ⟨d1, d2⟩ := List.pairwise_cons.1 hd
    unfold impl_CrossesOf.many
    rcases List.mem_cons.1 hm with rfl | hm
    · have hs : (impl_passes.kp e0.1 e0.2.1).sameKey kl = true := by rw [hk]; exact WideAt.sameKey_self (impl_passes.isKey _ _)
      have hrest : (l.filter fun e => decide (1 < e.2.2) && !(left (impl_passes.kp e.1 e.2.1) && !(impl_passes.kp e.1 e.2.1).sameKey kl)) = l.filter fun e => decide (1 < e.2.2) && !left (impl_passes.kp e.1 e.2.1) := by
        refine List.filter_congr fun b hb => ?_
        have hne : impl_passes.kp b.1 b.2.1 ≠ kl := fun q => d1 b hb (by
          have w1 := hw e0 List.mem_cons_self
          have w2 := hw b (List.mem_cons_of_mem _ hb)
          rw [hk] at q
          obtain ⟨q1, q2⟩ := impl_passes.kp_inj w2.1 w2.2 w1.1 w1.2 q
          exact ⟨q1.symm, q2.symm⟩)
        rw [Maps.sameKey_ne hne]
        simp
      have kp1 : left (impl_passes.kp e0.1 e0.2.1) = true := by rw [← hk]; exact hl
      by_cases c : 1 < e0.2.2
      · rw [List.filter_cons_of_pos (by simp [c, hs]), List.filter_cons_of_neg (by simp [kp1]), if_pos c, List.length_cons]
        exact congrArg (· + 1) (congrArg List.length hrest)
      · rw [List.filter_cons_of_neg (by simp [c]), List.filter_cons_of_neg (by simp [kp1]), if_neg c, Nat.add_zero]
        exact congrArg List.length hrest
    · have hne : impl_passes.kp e.1 e.2.1 ≠ kl := fun q => d1 e0 hm (by
        have w1 := hw e List.mem_cons_self
        have w2 := hw e0 (List.mem_cons_of_mem _ hm)
        rw [hk] at q
        exact impl_passes.kp_inj w1.1 w1.2 w2.1 w2.2 q)
      have ih := impl_CrossesOf.step (fun b hb => hw b (List.mem_cons_of_mem _ hb)) d2 hm hk hl
      unfold impl_CrossesOf.many at ih
      have sk : (impl_passes.kp e.1 e.2.1).sameKey kl = false := Maps.sameKey_ne hne
      by_cases c : (decide (1 < e.2.2) && !left (impl_passes.kp e.1 e.2.1)) = true
      · rw [List.filter_cons_of_pos (by simpa [sk] using c), List.filter_cons_of_pos (by simpa using c), List.length_cons, List.length_cons, ih]
        omega
      · rw [List.filter_cons_of_neg (by simpa [sk] using c), List.filter_cons_of_neg (by simpa using c)]
        exact ih
theorem impl_CrossesOf.cnt_mem : ∀ {l : impl_passes.E} {e : Int × Int × Int}, (l.Pairwise fun a b => ¬ (a.1 = b.1 ∧ a.2.1 = b.2.1)) → e ∈ l → impl_passes.cnt l e.1 e.2.1 = e.2.2
  | [], _, _, h => by simp at h
  | a :: l, e, hd, hm => by
    obtain ⟨d1, d2⟩ := List.pairwise_cons.1 hd
    unfold impl_passes.cnt
    rcases List.mem_cons.1 hm with rfl | hm
    · rw [if_pos ⟨rfl, rfl⟩]
    · rw [if_neg (d1 e hm)]
      exact impl_CrossesOf.cnt_mem d2 hm
theorem impl_CrossesOf.drawn {H : Type} {P : Program} {k : TypeId} {R : Value → Option (DataW H × List MemPlace)} {w w' : World} {b r n : Nat} {D : DataW H} {left : Lit → Bool} {cnt : Nat} (hd : Drawn0 w w') (h : w.ranges P k R b r n D left cnt) : w'.ranges P k R b r n D left cnt := by
  obtain ⟨⟨m, rfl⟩⟩ := hd
  exact h
set_option maxHeartbeats 4000000 in
set_option maxRecDepth 100000 in
theorem impl_CrossesOf.calls (k : Nat) (a0 : ByteArray) (a1 : Int) (r1 : Int) (r2 : Bool) (w : World) (h : impl_CrossesOf.f k a0 a1 = some (r1, r2)) :
    Calls Try.prog 9 #[.string a0, .int .i64 a1] w fun e w' => e = .returned (.tuple #[.int .i64 r1, .bool r2]) ∧ Below w.heap.size w w' := by
  have HB := Aside0.mk (Below.refl w.heap.size w)
  unfold impl_CrossesOf.f at h
  obtain ⟨b, e1, h⟩ := Option.bind_eq_some_iff.mp h
  have A1 := Aside0.mk e1
  clear e1
  cases b with
  | true =>
    rw [if_pos rfl] at h
    obtain ⟨l, e2, h⟩ := Option.bind_eq_some_iff.mp h
    have A2 := Aside0.mk e2
    clear e2
    by_cases hc : (l.Pairwise fun a b => ¬ (a.1 = b.1 ∧ a.2.1 = b.2.1)) ∧ l.length ≤ 1000000
    case neg => rw [if_neg hc] at h; cases h
    rw [if_pos hc] at h
    simp only [Option.some.injEq, Prod.mk.injEq] at h
    obtain ⟨rfl, rfl⟩ := h
    have HD := Aside0.mk hc.1
    have HN := Aside0.mk hc.2
    clear hc
    go_enter Try.func9, Try.ntmps9
    go_wp2_with (first | (go_at_call 15; refine (impl_isPassed.calls k a0 a1 _ _ A1.out).mono ?_; rintro e w2 ⟨rfl, hb⟩; have n1_ := Aside0.mk (below_step (by repeat (first | (with_reducible first | exact HB.out | apply below_alloc | apply pw_below_drewN | apply below_drew1) | exact HB.out)) hb); clear HB; have HB := n1_; clear n1_ hb) | (go_at_call 16; refine (impl_passes.calls k a0 a1 l _ A2.out).mono ?_; rintro e w2 ⟨gm, D, rfl, ho, ha, hge, hb⟩; have n1_ := Aside0.mk (below_step (by repeat (first | (with_reducible first | exact HB.out | apply below_alloc | apply pw_below_drewN | apply below_drew1) | exact HB.out)) hb); clear HB; have HB := n1_; have HO := Aside0.mk ho; have HA := Aside0.mk ha; clear n1_ ho ha hb) | (at_range; refine wpList_range_own _ rfl _ 31 rfl 34 3 (Maps.Keyed.of_law impl_passes.law) Try.underlying31 _ gm _ D rfl HO.out ?_; intro w4 hrg hgr hsz; have n1_ := Aside0.mk (HB.out.grown hgr (below_size HB.out) (fun j hj => by cases hj)); have HR := Aside0.mk hrg; have GI := Aside0.mk (below_size HB.out); clear HB; have HB := n1_; clear n1_ hrg hgr hsz))
    go_frame
    generalize w2.heap.size = gi at HR GI ⊢
    have hz0 : ((impl_CrossesOf.many l (Maps.has D) : Nat) : Int) = 0 := by rw [impl_CrossesOf.start HA.out]; rfl
    go_loopg [6] (Maps.size D) (fun kq v6 w' => ∃ (left : Lit → Bool), v6 = .int .i64 ((impl_CrossesOf.many l left : Nat) : Int) ∧ Aside0 (w'.ranges Try.prog 34 (plainElem (H := Unit) Try.prog 3) gm gi l.length D left kq) ∧ Aside0 (Below w.heap.size w w'))
    case atStart => exact ⟨Maps.has D, by rw [hz0], HR, HB⟩
    case round =>
      clear hz0 HR HO HB
      obtain ⟨left, rfl, HR, HB⟩ := hrel
      go_wp2_with (first | (at_next; refine wpList_next_ranges _ rfl _ rfl 34 (Maps.Keyed.of_law impl_passes.law) (plainElem (H := Unit) Try.prog 3) (α := Value) (β := Int) id (Value.int .i64) (fun key kl _ => ⟨key, rfl⟩) (fun v y hv => by obtain ⟨c, rfl, _⟩ := plainElem_int_inv Try.underlying3 hv; exact ⟨c, rfl⟩) gm gi l.length D left _ rfl HR.out ?_ ?_))
      · intro _ hl0
        have hst : ((impl_CrossesOf.many l left : Nat) : Int) = ((l.filter fun e => decide (1 < e.2.2)).length : Int) := by rw [impl_CrossesOf.stop hl0]
        rw [hst]
        clear hst hl0
        go_wp2
        go_ret2
        exact ⟨by first | rfl | (simp; done), by repeat (first | (with_reducible first | exact HB.out | apply below_alloc | apply pw_below_drewN | apply below_drew1) | exact HB.out)⟩
      · intro x c kl y1 y2 w5 cnt5 hkey hlk hv hat hrg1 hlt hg1 hs1 hen
        obtain ⟨c', hc', hy', _⟩ := plainElem_int_inv Try.underlying3 hv
        injection hc' with _ hc'
        subst hc'
        injection hy' with hy1 hy2
        subst hy1
        obtain ⟨e, he, hke⟩ := HA.out.keys kl (Maps.has_true_of_atKey hat)
        have hce : c = e.2.2 := by
          have h1 := hat (.lit (.int .i64 0))
          rw [hke, HA.out.at_ e.1 e.2.1 (HA.out.wf e he).1 (HA.out.wf e he).2, impl_CrossesOf.cnt_mem HD.out he] at h1
          injection h1 with h1
          injection h1 with _ h1
          exact h1.symm
        have hstep := impl_CrossesOf.step HA.out.wf HD.out he hke hlk
        rw [← hce] at hstep
        have hle := impl_CrossesOf.many_le l (fun z => left z && !z.sameKey kl)
        have HS := Aside0.mk (And.intro hstep hle)
        have HR5 := Aside0.mk hrg1
        have HB5 := Aside0.mk (HB.out.grown hg1 (below_size HB.out) (fun j hj => by injection hj with hj; rw [← hj]; exact GI.out))
        have HLT := Aside0.mk hlt
        clear hstep hle hrg1 hg1 hs1 hlt hat hv hkey hlk hke he hce HB HR
        have HR := HR5
        have HB := HB5
        clear HR5 HB5
        by_cases c1 : 1 < c
        · have cb : decide (1 < c) = true := decide_eq_true c1
          have HV := Aside0.mk (show wrap64 (((impl_CrossesOf.many l left : Nat) : Int) + 1) = ((impl_CrossesOf.many l (fun z => left z && !z.sameKey kl) : Nat) : Int) by
            obtain ⟨h1, h2⟩ := HS.out
            have h3 := HN.out
            rw [if_pos c1] at h1
            rw [h1]
            unfold wrap64
            omega)
          clear c1 HS
          go_wp2_with (go_at_call 17; refine (impl_bit.calls true 1 _ rfl).mono ?_; rintro e w' ⟨rfl, hd⟩; have n1_ := Aside0.mk (below_step HB.out (Drawn0.below hd)); have n2_ := Aside0.mk (impl_CrossesOf.drawn hd HR.out); clear HB HR hd; have HB := n1_; have HR := n2_; clear n1_ n2_)
          go_roundg cnt5
          case measure => exact HLT.out
          case rel => exact ⟨_, by rw [HV.out], HR, HB⟩
        · have cb : decide (1 < c) = false := decide_eq_false c1
          have HV := Aside0.mk (show wrap64 ((impl_CrossesOf.many l left : Nat) : Int) = ((impl_CrossesOf.many l (fun z => left z && !z.sameKey kl) : Nat) : Int) by
            obtain ⟨h1, h2⟩ := HS.out
            have h3 := HN.out
            rw [if_neg c1] at h1
            rw [h1]
            unfold wrap64
            omega)
          clear c1 HS
          go_wp2_with (go_at_call 17; refine (impl_bit.calls false 0 _ rfl).mono ?_; rintro e w' ⟨rfl, hd⟩; have n1_ := Aside0.mk (below_step HB.out (Drawn0.below hd)); have n2_ := Aside0.mk (impl_CrossesOf.drawn hd HR.out); clear HB HR hd; have HB := n1_; have HR := n2_; clear n1_ n2_)
          go_roundg cnt5
          case measure => exact HLT.out
          case rel => exact ⟨_, by rw [HV.out], HR, HB⟩
  | false =>
    rw [if_neg (by simp)] at h
    simp only [Option.some.injEq, Prod.mk.injEq] at h
    obtain ⟨rfl, rfl⟩ := h
    go_enter Try.func9, Try.ntmps9
    go_wp2_with (first | (go_at_call 15; refine (impl_isPassed.calls k a0 a1 _ _ A1.out).mono ?_; rintro e w2 ⟨rfl, hb⟩; have n1_ := Aside0.mk (below_step (by repeat (first | (with_reducible first | exact HB.out | apply below_alloc | apply pw_below_drewN | apply below_drew1) | exact HB.out)) hb); clear HB; have HB := n1_; clear n1_ hb))
    go_ret2
    exact ⟨by first | rfl | (simp; done), by repeat (first | (with_reducible first | exact HB.out | apply below_alloc | apply pw_below_drewN | apply below_drew1) | exact HB.out)⟩

/-! ### laws_FnExactCrossesOf: function 4 -/
def laws_FnExactCrossesOf.f (k : Nat) (a0 : ByteArray) (a1 : Int) : Option (Bool) := if (a0.size : Int) > 1048576 then (some true) else ((spec_CrossesOf.f k a0 a1).bind fun bt179 => ((impl_CrossesOf.f k a0 a1).bind fun bt181 => (if bt181.1 = bt179.1 then (if (bt181.2 != bt179.2) = true then (some false) else (some true)) else (some false))))
theorem laws_FnExactCrossesOf.mono : ∀ a0 a1 k, LeO (laws_FnExactCrossesOf.f k a0 a1) (laws_FnExactCrossesOf.f (k + 1) a0 a1) := by
  intro a0 a1 k
  unfold laws_FnExactCrossesOf.f
  repeat' first
      | (with_reducible exact impl_CrossesOf.mono _ _ _)
      | (with_reducible exact spec_CrossesOf.mono _ _ _)
      | (with_reducible exact LeO.refl _)
      | (with_reducible exact LeO.none _)
      | (with_reducible refine LeO.ite ?_ ?_)
      | (with_reducible refine LeO.bind ?_ (fun _ => ?_))
      | exact impl_CrossesOf.mono _ _ _
      | exact spec_CrossesOf.mono _ _ _
      | exact LeO.none _
      | refine LeO.ite ?_ ?_
      | refine LeO.bind ?_ (fun _ => ?_)
set_option maxHeartbeats 8000000 in
set_option maxRecDepth 100000 in
theorem laws_FnExactCrossesOf.calls (k : Nat) (a0 : ByteArray) (a1 : Int) (r : Bool) (w : World) (h : laws_FnExactCrossesOf.f k a0 a1 = some r) :
    Calls Try.prog 4 #[.string a0, .int .i64 a1] w fun e w' => e = .returned (.bool r) ∧ Below w.heap.size w w' := by
  have HB := Aside0.mk (Below.refl w.heap.size w)
  have H : (if (a0.size : Int) > 1048576 then (some true) else ((spec_CrossesOf.f k a0 a1).bind fun bt179 => ((impl_CrossesOf.f k a0 a1).bind fun bt181 => (if bt181.1 = bt179.1 then (if (bt181.2 != bt179.2) = true then (some false) else (some true)) else (some false))))) = some r := h
  clear h
  by_cases c3 : (a0.size : Int) > 1048576
  · rw [if_pos c3] at H
    have c3b0 : decide (1048576 < (a0.size : Int)) = true := decide_eq_true c3
    have c3b1 : decide (1048576 < a0.size) = true := decide_eq_true (by omega)
    clear c3
    obtain rfl := Option.some.inj H
    go_enter Try.func4, Try.ntmps4
    go_wp2
    go_ret
    exact ⟨by first | rfl | (simp [errW_none, errW_some] <;> rfl) | (simp [*, errW_none, errW_some] <;> rfl), by repeat (first | (with_reducible first | exact HB.out | apply below_alloc | apply pw_below_drewN | apply below_drew1) | exact HB.out)⟩
  · rw [if_neg c3] at H
    have c3b0 : decide (1048576 < (a0.size : Int)) = false := decide_eq_false c3
    have c3b1 : decide (1048576 < a0.size) = false := decide_eq_false (by omega)
    clear c3
    replace H := Option.bind_eq_some_iff.mp H
    obtain ⟨⟨t179, t180⟩, A40, H⟩ := H
    replace H : ((impl_CrossesOf.f k a0 a1).bind fun bt181 => (if bt181.1 = t179 then (if (bt181.2 != t180) = true then (some false) else (some true)) else (some false))) = some r := H
    have A4 := Aside0.mk A40
    clear A40
    replace H := Option.bind_eq_some_iff.mp H
    obtain ⟨⟨t181, t182⟩, A50, H⟩ := H
    replace H : (if t181 = t179 then (if (t182 != t180) = true then (some false) else (some true)) else (some false)) = some r := H
    have A5 := Aside0.mk A50
    clear A50
    by_cases c6 : t181 = t179
    · rw [if_pos c6] at H
      have c6b0 : (t181 == t179) = true := beq_iff_eq.mpr c6
      have c6b1 : (t181 != t179) = false := bne_eq_false_iff_eq.mpr c6
      clear c6
      by_cases c7 : (t182 != t180) = true
      · rw [if_pos c7] at H
        have c7b0 : (t182 != t180) = true := c7
        (try (have c7b1 : decide (t182 = t180) = false := by simpa using c7))
        (try (have c7b2 : (t182 == t180) = false := by simpa using c7))
        (try (have c7b3 : ¬ (t182 = t180) := by simpa using c7))
        clear c7
        obtain rfl := Option.some.inj H
        go_enter Try.func4, Try.ntmps4
        go_wp2_with (first | ((with_reducible refine gate_callee (f := 8) rfl ?_); refine goesL_ (some 15) rfl rfl Try.func8 (by kernel_rfl) rfl #[.string a0, .int .i64 a1] rfl (by (try simp only [List.map_toArray, List.map_cons, List.map_nil]); first | done | rfl | (simp only [List.length_drop, List.length_take]; rfl)) ?_; (with_reducible refine (spec_CrossesOf.calls k a0 a1 t179 t180 _ A4.out).mono ?_); rintro e w8 ⟨rfl, hb⟩; refine ⟨_, rfl, ?_⟩; have n0_ := Aside0.mk (below_step (by repeat (first | (with_reducible first | exact HB.out | apply below_alloc | apply pw_below_drewN | apply below_drew1) | exact HB.out)) hb); clear HB; have HB := n0_; clear n0_; (try clear hb); (try clear hb2); (try clear hk); (try clear hi)) | ((with_reducible refine gate_callee (f := 9) rfl ?_); refine goesL_ (some 21) rfl rfl Try.func9 (by kernel_rfl) rfl #[.string a0, .int .i64 a1] rfl (by (try simp only [List.map_toArray, List.map_cons, List.map_nil]); first | done | rfl | (simp only [List.length_drop, List.length_take]; rfl)) ?_; (with_reducible refine (impl_CrossesOf.calls k a0 a1 t181 t182 _ A5.out).mono ?_); rintro e w9 ⟨rfl, hb⟩; refine ⟨_, rfl, ?_⟩; have n0_ := Aside0.mk (below_step (by repeat (first | (with_reducible first | exact HB.out | apply below_alloc | apply pw_below_drewN | apply below_drew1) | exact HB.out)) hb); clear HB; have HB := n0_; clear n0_; (try clear hb); (try clear hb2); (try clear hk); (try clear hi)))
        go_ret
        exact ⟨by first | rfl | (simp [errW_none, errW_some] <;> rfl) | (simp [*, errW_none, errW_some] <;> rfl), by repeat (first | (with_reducible first | exact HB.out | apply below_alloc | apply pw_below_drewN | apply below_drew1) | exact HB.out)⟩
      · rw [if_neg c7] at H
        have c7b0 : (t182 != t180) = false := by simpa using c7
        (try (have c7b1 : decide (t182 = t180) = true := by simpa using c7))
        (try (have c7b2 : (t182 == t180) = true := by simpa using c7))
        clear c7
        obtain rfl := Option.some.inj H
        go_enter Try.func4, Try.ntmps4
        go_wp2_with (first | ((with_reducible refine gate_callee (f := 8) rfl ?_); refine goesL_ (some 15) rfl rfl Try.func8 (by kernel_rfl) rfl #[.string a0, .int .i64 a1] rfl (by (try simp only [List.map_toArray, List.map_cons, List.map_nil]); first | done | rfl | (simp only [List.length_drop, List.length_take]; rfl)) ?_; (with_reducible refine (spec_CrossesOf.calls k a0 a1 t179 t180 _ A4.out).mono ?_); rintro e w10 ⟨rfl, hb⟩; refine ⟨_, rfl, ?_⟩; have n0_ := Aside0.mk (below_step (by repeat (first | (with_reducible first | exact HB.out | apply below_alloc | apply pw_below_drewN | apply below_drew1) | exact HB.out)) hb); clear HB; have HB := n0_; clear n0_; (try clear hb); (try clear hb2); (try clear hk); (try clear hi)) | ((with_reducible refine gate_callee (f := 9) rfl ?_); refine goesL_ (some 21) rfl rfl Try.func9 (by kernel_rfl) rfl #[.string a0, .int .i64 a1] rfl (by (try simp only [List.map_toArray, List.map_cons, List.map_nil]); first | done | rfl | (simp only [List.length_drop, List.length_take]; rfl)) ?_; (with_reducible refine (impl_CrossesOf.calls k a0 a1 t181 t182 _ A5.out).mono ?_); rintro e w11 ⟨rfl, hb⟩; refine ⟨_, rfl, ?_⟩; have n0_ := Aside0.mk (below_step (by repeat (first | (with_reducible first | exact HB.out | apply below_alloc | apply pw_below_drewN | apply below_drew1) | exact HB.out)) hb); clear HB; have HB := n0_; clear n0_; (try clear hb); (try clear hb2); (try clear hk); (try clear hi)))
        go_ret
        exact ⟨by first | rfl | (simp [errW_none, errW_some] <;> rfl) | (simp [*, errW_none, errW_some] <;> rfl), by repeat (first | (with_reducible first | exact HB.out | apply below_alloc | apply pw_below_drewN | apply below_drew1) | exact HB.out)⟩
    · rw [if_neg c6] at H
      have c6b0 : (t181 == t179) = false := beq_eq_false_iff_ne.mpr c6
      have c6b1 : (t181 != t179) = true := bne_iff_ne.mpr c6
      obtain rfl := Option.some.inj H
      go_enter Try.func4, Try.ntmps4
      go_wp2_with (first | ((with_reducible refine gate_callee (f := 8) rfl ?_); refine goesL_ (some 15) rfl rfl Try.func8 (by kernel_rfl) rfl #[.string a0, .int .i64 a1] rfl (by (try simp only [List.map_toArray, List.map_cons, List.map_nil]); first | done | rfl | (simp only [List.length_drop, List.length_take]; rfl)) ?_; (with_reducible refine (spec_CrossesOf.calls k a0 a1 t179 t180 _ A4.out).mono ?_); rintro e w12 ⟨rfl, hb⟩; refine ⟨_, rfl, ?_⟩; have n0_ := Aside0.mk (below_step (by repeat (first | (with_reducible first | exact HB.out | apply below_alloc | apply pw_below_drewN | apply below_drew1) | exact HB.out)) hb); clear HB; have HB := n0_; clear n0_; (try clear hb); (try clear hb2); (try clear hk); (try clear hi)) | ((with_reducible refine gate_callee (f := 9) rfl ?_); refine goesL_ (some 21) rfl rfl Try.func9 (by kernel_rfl) rfl #[.string a0, .int .i64 a1] rfl (by (try simp only [List.map_toArray, List.map_cons, List.map_nil]); first | done | rfl | (simp only [List.length_drop, List.length_take]; rfl)) ?_; (with_reducible refine (impl_CrossesOf.calls k a0 a1 t181 t182 _ A5.out).mono ?_); rintro e w13 ⟨rfl, hb⟩; refine ⟨_, rfl, ?_⟩; have n0_ := Aside0.mk (below_step (by repeat (first | (with_reducible first | exact HB.out | apply below_alloc | apply pw_below_drewN | apply below_drew1) | exact HB.out)) hb); clear HB; have HB := n0_; clear n0_; (try clear hb); (try clear hb2); (try clear hk); (try clear hi)))
      go_ret
      exact ⟨by first | rfl | (simp [errW_none, errW_some] <;> rfl) | (simp [*, errW_none, errW_some] <;> rfl), by repeat (first | (with_reducible first | exact HB.out | apply below_alloc | apply pw_below_drewN | apply below_drew1) | exact HB.out)⟩

/-- THE ONE PURE STATEMENT of laws_FnExactCrossesOf: yours. -/
def laws_FnExactCrossesOf.Pure : Prop := ∀ (a0 : ByteArray) (a1 : Int), a0.size ≤ 140737488351232 → (Lit.int .i64 a1).wf = true → ∃ k, laws_FnExactCrossesOf.f k a0 a1 = some true
theorem laws_FnExactCrossesOf.walk (P : laws_FnExactCrossesOf.Pure) (a0 : ByteArray) (a1 : Int) (w : World) (w0 : a0.size ≤ 140737488351232) (w1 : (Lit.int .i64 a1).wf = true) :
    Calls Try.prog 4 #[.string a0, .int .i64 a1] w fun e w' => e = .returned (.bool true) ∧ Below w.heap.size w w' := by
  obtain ⟨k, h⟩ := P a0 a1 w0 w1
  refine (laws_FnExactCrossesOf.calls k a0 a1 true w h).mono ?_
  rintro e w' ⟨rfl, hd⟩
  exact ⟨rfl, hd⟩

end Go.Proofs.Ytkfbnjjlmmcbjaa.PC
