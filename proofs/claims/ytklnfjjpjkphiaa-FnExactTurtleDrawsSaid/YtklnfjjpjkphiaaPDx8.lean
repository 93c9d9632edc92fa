-- Printed for this claim by gprint.py, a program of this session round the kit's printer. Lean checks it.
import Derived.Test.YtklnfjjpjkphiaaPDx0
import Derived.Test.YtklnfjjpjkphiaaPDx7
namespace Go.Proofs.Ytklnfjjpjkphiaa.PD
open Go.RowKit Go.Proofs.YtklnfjjpjkphiaaW.PrintWords Go.Proofs.YtklnfjjpjkphiaaW.PrintLast Go.Proofs.YtklnfjjpjkphiaaW.PrintMore
attribute [local go_sem] max2_int min2_int max_two min_two max_three min_three max_four min_four   -- for this text's walks alone
set_option linter.unusedVariables false
set_option linter.unusedSimpArgs false

/-! ### impl_passes: function 11 -/
-- the points that a turtle passes, counted in a map; it calls 23 with the closure 24 and 25
theorem impl_passes.laidOut : laidOutB Try.prog = true := by kernel_rfl
theorem impl_passes.law : Go.WideMaps.KeyLaw Try.prog 36 := deep_law_laid impl_passes.laidOut (m := 2) (by omega) (of_decide_eq_true (by kernel_rfl)) (by kernel_rfl) (by rw [Try.underlying36])
theorem impl_passes.zero (u : World) : (zeroValue 3).run Try.prog u = .ok (.int .i64 0) u := by kernel_rfl
def impl_passes.kp (x y : Int) : Lit := .string (keyBytes [.int .i64 x, .int .i64 y])
theorem impl_passes.key_of {x y : Int} (hx : (Lit.int .i64 x).wf = true) (hy : (Lit.int .i64 y).wf = true) : keyOf Try.prog 36 (.agg #[.int .i64 x, .int .i64 y]) = some (impl_passes.kp x y) := by
  have hk : Try.prog.keyType 36 = true := by kernel_rfl
  have hc : Try.prog.cellsOf 36 = 2 := by kernel_rfl
  have hc3 : Try.prog.cellsOf 3 = 1 := by kernel_rfl
  have hsz : ∃ m, Try.prog.types.size = m + 1 := ⟨Try.prog.types.size - 1, by have : 0 < Try.prog.types.size := of_decide_eq_true (by kernel_rfl); omega⟩
  obtain ⟨m, hm⟩ := hsz
  unfold keyOf
  simp only [Try.underlying36]
  rw [if_pos (by simp [hk, Value.formed, Try.underlying36, hc]), hm]
  unfold Program.keyLits
  simp [Try.underlying36, Value.cells, hc, hc3, Program.keyLits, Try.underlying3, hx, hy, impl_passes.kp]
theorem impl_passes.kp_inj {x y x' y' : Int} (hx : (Lit.int .i64 x).wf = true) (hy : (Lit.int .i64 y).wf = true) (hx' : (Lit.int .i64 x').wf = true) (hy' : (Lit.int .i64 y').wf = true) (h : impl_passes.kp x y = impl_passes.kp x' y') : x = x' ∧ y = y' := by
  have := impl_passes.law.inj (impl_passes.key_of hx hy) (h ▸ impl_passes.key_of hx' hy')
  simpa using this
theorem impl_passes.isKey (x y : Int) : WideAt.IsKeyLit (impl_passes.kp x y) := trivial
open Go.WideElems Go.ChangeMaps in
theorem impl_passes.entry {H : Type} {P : Program} {w : World} {t k e : TypeId} {R : Value → Option (DataW H × List MemPlace)} {b : Nat} {es : Array MapEntry} {clock : Nat} (K : Go.WideMaps.KeyLaw P k) (ht : P.underlying t = some (.map k e)) {z : Value} (hz : ∀ u : World, (zeroValue e).run P u = .ok z u) (hb : w.heap[b]? = some (.map es clock)) (F : Fit P k R es clock) {key : Value} {kl : Lit} (hkey : keyOf P k key = some kl) :
    ∃ (v0 : Value) (st : Nat) (es1 : Array MapEntry) (clock1 : Nat), (∀ u : World, u.heap[b]? = some (.map es clock) → (Instr.mapEntry t (.map (some b)) key).run P u = .ok (.tuple #[v0, goInt st]) (setBlock u b (.map es1 clock1))) ∧
      (∀ u : World, (∃ c2, u.heap[b]? = some (.map es c2)) ∨ (∃ c2, u.heap[b]? = some (.map es1 c2)) → (Instr.lookup t (.map (some b)) key false).run P u = .ok v0 u) ∧
      ∀ val : Value, ∃ es' clock', (∀ w2 : World, w2.heap[b]? = some (.map es1 clock1) → (Instr.entryStore t (.map (some b)) (goInt st) val).run P w2 = .ok () (setBlock w2 b (.map es' clock'))) ∧ (Instr.mapUpdate t (.map (some b)) key val).run P w = .ok () (setBlock w b (.map es' clock')) := by
  obtain ⟨v0, st, es1, clock1, hrun, hcase, hst⟩ := entry_then_store K ht hz hb F hkey
  have hst' : ∀ val : Value, ∃ es' clock', (∀ w2 : World, w2.heap[b]? = some (.map es1 clock1) → (Instr.entryStore t (.map (some b)) (goInt st) val).run P w2 = .ok () (setBlock w2 b (.map es' clock'))) ∧ (Instr.mapUpdate t (.map (some b)) key val).run P w = .ok () (setBlock w b (.map es' clock')) := fun val => by
    obtain ⟨es', clock', h1, h2⟩ := hst (setBlock w b (.map es1 clock1)) val (heap_setBlock_same hb _)
    refine ⟨es', clock', fun w2 hw2 => ?_, h2⟩
    obtain ⟨es'', clock'', h3, h4⟩ := hst w2 val hw2
    rw [h2] at h4
    injection h4 with _ h5
    have h6 : some (Obj.map es' clock') = some (Obj.map es'' clock'') := by rw [← heap_setBlock_same hb (.map es' clock'), ← heap_setBlock_same hb (.map es'' clock''), h5]
    rw [h3, Option.some.inj h6]
  rcases K.find w hkey es.toList F.keys with ⟨h1, h2⟩ | ⟨j, e0, h1, h2, h3⟩
  · have hE : ∀ u : World, u.heap[b]? = some (.map es clock) → (Instr.mapEntry t (.map (some b)) key).run P u = .ok (.tuple #[z, goInt clock]) (setBlock u b (.map (es.push ⟨key, z, clock⟩) (clock + 1))) := fun u hbu => by
      rcases K.find u hkey es.toList F.keys with ⟨g1, _⟩ | ⟨j, e0, _, g2, g3⟩
      · simp [Instr.mapEntry, run_underlying ht, MapKept.run_getObj_map hbu, K.check u false hkey, g1, hz, MapKept.run_setObj_map _ hbu, Result.andThen, setBlock]
      · exact absurd g3 (h2 e0 (List.mem_of_getElem? g2))
    have e := hrun.symm.trans (hE w hb)
    injection e with e1 e2
    have h6 : some (Obj.map es1 clock1) = some (Obj.map (es.push ⟨key, z, clock⟩) (clock + 1)) := by rw [← heap_setBlock_same hb (.map es1 clock1), e2, heap_setBlock_same hb]
    injection h6 with h6
    injection h6 with h7 h8
    subst h7
    subst h8
    injection e1 with e1
    have e3 : v0 = z ∧ goInt st = goInt clock := by simpa using e1
    obtain ⟨rfl, e4⟩ := e3
    refine ⟨v0, st, _, _, fun u hbu => by rw [hE u hbu, e4], fun u hu2 => ?_, hst'⟩
    rcases hu2 with ⟨c2, hu2⟩ | ⟨c2, hu2⟩
    · rcases K.find u hkey es.toList F.keys with ⟨g1, _⟩ | ⟨j, e0, _, g2, g3⟩
      · simp [Instr.lookup, run_underlying ht, MapKept.run_getObj_map hu2, K.check u _ hkey, g1, hz, Result.andThen]
      · exact absurd g3 (h2 e0 (List.mem_of_getElem? g2))
    · have hk2 : ∀ x ∈ (es.push ⟨key, v0, clock⟩).toList, ∃ l, keyOf P k x.key = some l := fun x hx => by
        rw [Array.toList_push] at hx
        rcases List.mem_append.1 hx with hx | hx
        · exact F.keys x hx
        · rw [List.mem_singleton.1 hx]; exact ⟨kl, hkey⟩
      rcases K.find u hkey _ hk2 with ⟨g1, g2⟩ | ⟨j, e0, g1, g2, g3⟩
      · exact absurd rfl (g2 ⟨key, v0, clock⟩ (by simp))
      · have he0 : e0.val = v0 := by
          have hm := List.mem_of_getElem? g2
          rw [Array.toList_push] at hm
          rcases List.mem_append.1 hm with hm | hm
          · exact absurd g3 (h2 e0 hm)
          · rw [List.mem_singleton.1 hm]
        rw [Array.toList_push] at g1
        simp [Instr.lookup, run_underlying ht, MapKept.run_getObj_map hu2, K.check u _ hkey, g1, he0, Result.andThen]
  · have hL : ∀ (u : World) (c2 : Nat), u.heap[b]? = some (.map es c2) → (Instr.lookup t (.map (some b)) key false).run P u = .ok e0.val u := fun u c2 hu2 => by
      rcases K.find u hkey es.toList F.keys with ⟨g1, g2⟩ | ⟨j', e', g1, g2, g3⟩
      · exact absurd h3 (g2 e0 (List.mem_of_getElem? h2))
      · have he : e' = e0 := entry_eq_of_key ((MapKept.stamped_iff es clock).1 F.stamped).2.2 (List.mem_of_getElem? g2) (List.mem_of_getElem? h2) (g3.trans h3.symm)
        rw [he] at g1
        simp [Instr.lookup, run_underlying ht, MapKept.run_getObj_map hu2, K.check u _ hkey, g1, Result.andThen]
    have hE : ∀ u : World, u.heap[b]? = some (.map es clock) → (Instr.mapEntry t (.map (some b)) key).run P u = .ok (.tuple #[e0.val, goInt e0.born]) (setBlock u b (.map es clock)) := fun u hbu => by
      rcases K.find u hkey es.toList F.keys with ⟨g1, g2⟩ | ⟨j', e', g1, g2, g3⟩
      · exact absurd h3 (g2 e0 (List.mem_of_getElem? h2))
      · have he : e' = e0 := entry_eq_of_key ((MapKept.stamped_iff es clock).1 F.stamped).2.2 (List.mem_of_getElem? g2) (List.mem_of_getElem? h2) (g3.trans h3.symm)
        subst he
        have hj : es[j']? = some e' := by simpa using g2
        have hsame : es.modify j' (fun e => { e with key := key }) = es := by
          apply Array.ext_getElem?
          intro m
          rw [Array.getElem?_modify]
          by_cases hm : j' = m
          · subst hm
            rw [if_pos rfl, hj, Option.map_some, ← h3]
          · rw [if_neg hm]
        simp [Instr.mapEntry, run_underlying ht, MapKept.run_getObj_map hbu, K.check u false hkey, g1, hj, h3, K.stays u hkey, hsame, MapKept.run_setObj_map _ hbu, Result.andThen, setBlock]
    have e := hrun.symm.trans (hE w hb)
    injection e with e1 e2
    have h6 : some (Obj.map es1 clock1) = some (Obj.map es clock) := by rw [← heap_setBlock_same hb (.map es1 clock1), e2, heap_setBlock_same hb]
    injection h6 with h6
    injection h6 with h7 h8
    subst h7
    subst h8
    injection e1 with e1
    have e3 : v0 = e0.val ∧ goInt st = goInt e0.born := by simpa using e1
    obtain ⟨rfl, e4⟩ := e3
    refine ⟨_, st, _, _, fun u hbu => by rw [hE u hbu, e4], fun u hu2 => ?_, hst'⟩
    rcases hu2 with ⟨c2, hu2⟩ | ⟨c2, hu2⟩ <;> exact hL u c2 hu2
/-! what the map holds: points and how often they were passed, the first first -/
abbrev impl_passes.E := List (Int × Int × Int)
def impl_passes.hasE (l : impl_passes.E) (x y : Int) : Bool := l.any fun e => decide (e.1 = x) && decide (e.2.1 = y)
def impl_passes.cnt : impl_passes.E → Int → Int → Int
  | [], _, _ => 0
  | e :: l, x, y => if e.1 = x ∧ e.2.1 = y then e.2.2 else impl_passes.cnt l x y
def impl_passes.upd : impl_passes.E → Int → Int → impl_passes.E
  | [], x, y => [(x, y, 1)]
  | e :: l, x, y => if e.1 = x ∧ e.2.1 = y then (e.1, e.2.1, wrap64 (e.2.2 + 1)) :: l else e :: impl_passes.upd l x y
theorem impl_passes.upd_length : ∀ (l : impl_passes.E) (x y : Int), (impl_passes.upd l x y).length = if impl_passes.hasE l x y = true then l.length else l.length + 1
  | [], x, y => rfl
  | e :: l, x, y => by
    have ih := impl_passes.upd_length l x y
    unfold impl_passes.upd impl_passes.hasE
    by_cases c : e.1 = x ∧ e.2.1 = y
    · rw [if_pos c]; simp [c]
    · rw [if_neg c, List.length_cons, ih]
      have : (decide (e.1 = x) && decide (e.2.1 = y)) = false := by
        simp only [Bool.and_eq_false_iff, decide_eq_false_iff_not]
        by_cases c1 : e.1 = x
        · exact .inr fun c2 => c ⟨c1, c2⟩
        · exact .inl c1
      rw [List.any_cons, this, Bool.false_or]
      unfold impl_passes.hasE
      split <;> simp
theorem impl_passes.cnt_of_not : ∀ (l : impl_passes.E) (x y : Int), impl_passes.hasE l x y = false → impl_passes.cnt l x y = 0
  | [], x, y, _ => rfl
  | e :: l, x, y, h => by
    unfold impl_passes.hasE at h
    rw [List.any_cons, Bool.or_eq_false_iff] at h
    unfold impl_passes.cnt
    rw [if_neg (fun c => by simp [c] at h)]
    exact impl_passes.cnt_of_not l x y h.2
theorem impl_passes.cnt_upd_same : ∀ (l : impl_passes.E) (x y : Int), impl_passes.cnt (impl_passes.upd l x y) x y = wrap64 (impl_passes.cnt l x y + 1)
  | [], x, y => by simp [impl_passes.upd, impl_passes.cnt]; unfold wrap64; omega
  | e :: l, x, y => by
    unfold impl_passes.upd
    by_cases c : e.1 = x ∧ e.2.1 = y
    · rw [if_pos c]
      unfold impl_passes.cnt
      rw [if_pos c, if_pos c]
    · rw [if_neg c]
      unfold impl_passes.cnt
      rw [if_neg c, if_neg c]
      exact impl_passes.cnt_upd_same l x y
theorem impl_passes.cnt_upd_other : ∀ (l : impl_passes.E) (x y x' y' : Int), ¬ (x = x' ∧ y = y') → impl_passes.cnt (impl_passes.upd l x y) x' y' = impl_passes.cnt l x' y'
  | [], x, y, x', y', h => by simp [impl_passes.upd, impl_passes.cnt, h]
  | e :: l, x, y, x', y', h => by
    unfold impl_passes.upd
    by_cases c : e.1 = x ∧ e.2.1 = y
    · rw [if_pos c]
      unfold impl_passes.cnt
      have : ¬ (e.1 = x' ∧ e.2.1 = y') := fun d => h ⟨c.1.symm.trans d.1, c.2.symm.trans d.2⟩
      rw [if_neg this, if_neg this]
    · rw [if_neg c]
      unfold impl_passes.cnt
      rw [impl_passes.cnt_upd_other l x y x' y' h]
theorem impl_passes.hasE_upd (l : impl_passes.E) (x y x' y' : Int) : impl_passes.hasE (impl_passes.upd l x y) x' y' = (decide (x = x' ∧ y = y') || impl_passes.hasE l x' y') := by
  induction l with
  | nil => simp [impl_passes.upd, impl_passes.hasE]
  | cons e l ih =>
    unfold impl_passes.upd
    by_cases c : e.1 = x ∧ e.2.1 = y
    · rw [if_pos c]
      obtain ⟨rfl, rfl⟩ := c
      simp only [impl_passes.hasE, List.any_cons]
      by_cases d : e.1 = x' ∧ e.2.1 = y'
      · simp [d]
      · simp [d]
    · rw [if_neg c]
      simp only [impl_passes.hasE, List.any_cons] at ih ⊢
      rw [ih]
      cases (decide (e.1 = x') && decide (e.2.1 = y')) <;> cases (decide (x = x' ∧ y = y')) <;> rfl
abbrev impl_passes.W (x : Int) : Prop := (Lit.int .i64 x).wf = true
structure impl_passes.Agree (l : impl_passes.E) (D : DataW Unit) : Prop where
  tidy : Maps.Tidy D
  size : Maps.size D = l.length
  wf : ∀ e ∈ l, impl_passes.W e.1 ∧ impl_passes.W e.2.1
  has : ∀ x y, impl_passes.W x → impl_passes.W y → Maps.has D (impl_passes.kp x y) = impl_passes.hasE l x y
  at_ : ∀ x y, impl_passes.W x → impl_passes.W y → D.atKey (impl_passes.kp x y) (.lit (.int .i64 0)) = .lit (.int .i64 (impl_passes.cnt l x y))
  keys : ∀ kl, Maps.has D kl = true → ∃ e ∈ l, kl = impl_passes.kp e.1 e.2.1
theorem impl_passes.Agree.nil : impl_passes.Agree [] (.map []) :=
  ⟨Maps.tidy_empty, rfl, fun e h => by simp at h, fun x y _ _ => rfl, fun x y _ _ => rfl, fun kl h => by simp [Maps.has] at h⟩
theorem impl_passes.upd_mem (l : impl_passes.E) (x y : Int) : (∀ e ∈ impl_passes.upd l x y, (∃ e' ∈ l, e.1 = e'.1 ∧ e.2.1 = e'.2.1) ∨ (e.1 = x ∧ e.2.1 = y)) ∧ (∀ e' ∈ l, ∃ e ∈ impl_passes.upd l x y, e.1 = e'.1 ∧ e.2.1 = e'.2.1) ∧ ∃ e ∈ impl_passes.upd l x y, e.1 = x ∧ e.2.1 = y := by
  induction l with
  | nil => exact ⟨fun e h => .inr (by rw [List.mem_singleton.1 h]; exact ⟨rfl, rfl⟩), fun e' h => by simp at h, ⟨(x, y, 1), by simp [impl_passes.upd], rfl, rfl⟩⟩
  | cons d l ih =>
    obtain ⟨i1, i2, i3⟩ := ih
    unfold impl_passes.upd
    by_cases c : d.1 = x ∧ d.2.1 = y
    · rw [if_pos c]
      refine ⟨fun e h => ?_, fun e' h => ?_, ⟨_, List.mem_cons_self, c.1, c.2⟩⟩
      · rcases List.mem_cons.1 h with rfl | h
        · exact .inr c
        · exact .inl ⟨e, List.mem_cons_of_mem _ h, rfl, rfl⟩
      · rcases List.mem_cons.1 h with rfl | h
        · exact ⟨_, List.mem_cons_self, rfl, rfl⟩
        · exact ⟨e', List.mem_cons_of_mem _ h, rfl, rfl⟩
    · rw [if_neg c]
      refine ⟨fun e h => ?_, fun e' h => ?_, ?_⟩
      · rcases List.mem_cons.1 h with rfl | h
        · exact .inl ⟨e, List.mem_cons_self, rfl, rfl⟩
        · rcases i1 e h with ⟨e', h', q⟩ | q
          · exact .inl ⟨e', List.mem_cons_of_mem _ h', q⟩
          · exact .inr q
      · rcases List.mem_cons.1 h with rfl | h
        · exact ⟨e', List.mem_cons_self, rfl, rfl⟩
        · obtain ⟨e, h', q⟩ := i2 e' h
          exact ⟨e, List.mem_cons_of_mem _ h', q⟩
      · obtain ⟨e, h', q⟩ := i3
        exact ⟨e, List.mem_cons_of_mem _ h', q⟩
theorem impl_passes.Agree.put {l : impl_passes.E} {D : DataW Unit} (h : impl_passes.Agree l D) {x y : Int} (hx : impl_passes.W x) (hy : impl_passes.W y) {v : Int} (hv : v = wrap64 (impl_passes.cnt l x y + 1)) : impl_passes.Agree (impl_passes.upd l x y) (D.put (impl_passes.kp x y) (.lit (.int .i64 v))) := by
  have hM := h.tidy.isMap
  have hne : ∀ x' y', impl_passes.W x' → impl_passes.W y' → ¬ (x = x' ∧ y = y') → impl_passes.kp x' y' ≠ impl_passes.kp x y := fun x' y' w1 w2 hn e => hn (by
    obtain ⟨e1, e2⟩ := impl_passes.kp_inj w1 w2 hx hy e
    exact ⟨e1.symm, e2.symm⟩)
  obtain ⟨u1, u2, u3⟩ := impl_passes.upd_mem l x y
  refine ⟨h.tidy.put (impl_passes.isKey x y) _, ?_, fun e he => ?_, fun x' y' w1 w2 => ?_, fun x' y' w1 w2 => ?_, fun kl hk => ?_⟩
  · rw [Maps.size_put h.tidy, h.has x y hx hy, h.size, impl_passes.upd_length]
  · rcases u1 e he with ⟨e', h', q1, q2⟩ | ⟨q1, q2⟩
    · rw [q1, q2]; exact h.wf e' h'
    · rw [q1, q2]; exact ⟨hx, hy⟩
  · rw [impl_passes.hasE_upd]
    by_cases c : x = x' ∧ y = y'
    · obtain ⟨rfl, rfl⟩ := c
      rw [Maps.has_put_same hM (impl_passes.isKey x y)]
      simp
    · rw [Maps.has_put_other (hne x' y' w1 w2 c), h.has x' y' w1 w2, decide_eq_false c, Bool.false_or]
  · by_cases c : x = x' ∧ y = y'
    · obtain ⟨rfl, rfl⟩ := c
      rw [Maps.atKey_put_same hM (impl_passes.isKey x y), hv, impl_passes.cnt_upd_same]
    · rw [Maps.atKey_put_other (hne x' y' w1 w2 c), h.at_ x' y' w1 w2, impl_passes.cnt_upd_other l x y x' y' c]
  · by_cases c : kl = impl_passes.kp x y
    · obtain ⟨e, he, q1, q2⟩ := u3
      exact ⟨e, he, by rw [c, q1, q2]⟩
    · rw [Maps.has_put_other c] at hk
      obtain ⟨e', h', q⟩ := h.keys kl hk
      obtain ⟨e, he, q1, q2⟩ := u2 e' h'
      exact ⟨e, he, by rw [q, q1, q2]⟩
def impl_passes.clo (gc gm B : Nat) : Clo impl_passes.E where
  I := fun l W => W.heap[gc]? = some (.cells #[.map (some gm)] 31 (0, 0)) ∧ (∃ D, W.ownsMap Try.prog 36 (plainElem (H := Unit) Try.prog 3) gm l.length D ∧ impl_passes.Agree l D) ∧ B ≤ gc ∧ B ≤ gm ∧ B ≤ W.heap.size
  O := fun k => B ≤ k
  stab := by
    rintro s W W' ⟨h1, ⟨D, ⟨es, clock, h2, h3⟩, h4⟩, h5, h6, h7⟩ hsz hk
    exact ⟨hk gc _ h1 rfl, ⟨D, ⟨es, clock, hk gm _ h2 rfl, h3⟩, h4⟩, h5, h6, Nat.le_trans h7 hsz⟩
def impl_passes.add (l : impl_passes.E) (x y : Int) : Option impl_passes.E := if l.length < 1000000 ∧ (-9223372036854775808 ≤ x ∧ x ≤ 9223372036854775807) ∧ (-9223372036854775808 ≤ y ∧ y ≤ 9223372036854775807) then some (impl_passes.upd l x y) else none
theorem impl_passes.wf_of {x : Int} (h : -9223372036854775808 ≤ x ∧ x ≤ 9223372036854775807) : (Lit.int .i64 x).wf = true := by
  simpa [Lit.wf, IntKind.min, IntKind.max, IntKind.signed, IntKind.bits] using h
theorem impl_passes.wf_wrap (x : Int) : (Lit.int .i64 (wrap64 x)).wf = true := impl_passes.wf_of (by unfold wrap64; omega)
theorem impl_passes.tight {H : Type} {P : Program} {k : TypeId} {R : Value → Option (DataW H × List MemPlace)} {w : World} {b n m : Nat} {D : DataW H} (h : w.ownsMap P k R b n D) (hm : Maps.size D = m) : w.ownsMap P k R b m D := by
  obtain ⟨es, clock, hb, F, hs, rfl⟩ := h
  refine ⟨es, clock, hb, F, ?_, rfl⟩
  rw [← hm]
  simp [Maps.size, length_sorted]
theorem impl_passes.moved {H : Type} {P : Program} {k : TypeId} {R : Value → Option (DataW H × List MemPlace)} {w u : World} {b n : Nat} {D : DataW H} (h : w.ownsMap P k R b n D) (hu : u.heap[b]? = w.heap[b]?) : u.ownsMap P k R b n D := by
  obtain ⟨es, clock, hb, r⟩ := h
  exact ⟨es, clock, hu.trans hb, r⟩
set_option maxHeartbeats 4000000 in
set_option maxRecDepth 100000 in
open Go.ChangeMaps in
theorem impl_passes.steps (gc gm B : Nat) (w0 : World) : Clo.Steps Try.prog (impl_passes.clo gc gm B) w0 impl_passes.add 24 #[.pointer (some ⟨gc, 0, none⟩)] := by
  intro l l' x y w hX hst
  show Calls Try.prog 24 #[.agg #[.int .i64 x, .int .i64 y], .pointer (some ⟨gc, 0, none⟩)] w _
  obtain ⟨⟨hgc, ⟨D, hown, hA⟩, hBg, hBm, hBs⟩, hF⟩ := hX
  unfold impl_passes.add at hst
  by_cases hl : l.length < 1000000 ∧ (-9223372036854775808 ≤ x ∧ x ≤ 9223372036854775807) ∧ (-9223372036854775808 ≤ y ∧ y ≤ 9223372036854775807)
  case neg => rw [if_neg hl] at hst; cases hst
  rw [if_pos hl] at hst
  obtain rfl := Option.some.inj hst
  have hx := impl_passes.wf_of hl.2.1
  have hy := impl_passes.wf_of hl.2.2
  have K := Maps.Keyed.of_law impl_passes.law
  have hkey := impl_passes.key_of hx hy
  obtain ⟨c, hrun, hat, hwc⟩ := hown.lookup_int K Try.underlying31 Try.underlying3 (impl_passes.zero w) hkey
  have hc : c = impl_passes.cnt l x y := by
    rw [hA.at_ x y hx hy] at hat
    injection hat with h1
    injection h1 with _ h2
    exact h2.symm
  obtain ⟨es, clock, hb, F, hs, hD⟩ := hown
  have hown : w.ownsMap Try.prog 36 (plainElem (H := Unit) Try.prog 3) gm l.length D := ⟨es, clock, hb, F, hs, hD⟩
  obtain ⟨v0, st, es1, clock1, hE, hL, hS⟩ := impl_passes.entry impl_passes.law Try.underlying31 impl_passes.zero hb F hkey
  have hv0 : v0 = .int .i64 c := by
    have := (hL w (.inl ⟨clock, hb⟩)).symm.trans hrun
    injection this
  subst hv0
  have hA2 := hA.put hx hy (v := wrap64 (c + 1)) (by rw [hc])
  obtain ⟨w9, hrun9, hown9, _⟩ := hown.store K Try.underlying31 (by unfold maxLen; omega) hkey (plainElem_int Try.underlying3 (impl_passes.wf_wrap (c + 1)))
  obtain ⟨es', clock', hES, hMU⟩ := hS (.int .i64 (wrap64 (c + 1)))
  have hw9 : setBlock w gm (.map es' clock') = w9 := by
    have := hMU.symm.trans hrun9
    injection this
  subst hw9
  have hfin : ∀ u : World, u.heap[gm]? = some (.map es' clock') → u.ownsMap Try.prog 36 (plainElem (H := Unit) Try.prog 3) gm (impl_passes.upd l x y).length (D.put (impl_passes.kp x y) (.lit (.int .i64 (wrap64 (c + 1))))) := fun u hu =>
    impl_passes.tight (impl_passes.moved hown9 (hu.trans (heap_setBlock_same hb _).symm)) hA2.size
  have hu := Try.underlying36
  have HB := Aside0.mk (Below.refl w.heap.size w)
  have BC := Aside0.mk hgc
  have BM := Aside0.mk hb
  have HE := Aside0.mk hE
  have HL := Aside0.mk hL
  have HES := Aside0.mk hES
  have HFIN := Aside0.mk hfin
  have HA2 := Aside0.mk hA2
  have HBS := Aside0.mk (And.intro hBg (And.intro hBm hBs))
  have HF := Aside0.mk hF
  clear hrun hat hwc hc hown hA hD hF hMU hrun9 hown9 hS hkey hx hy hl hst hb hgc hE hL hES hfin hA2 hBg hBm hBs F hs K
  go_enter Try.func24, Try.ntmps24
  go_wp2_with (first | ((with_reducible refine gate_dst (N := 2) rfl ?_); refine box_event ?hg (N := 2) ?hd (cs := #[.int .i64 x, .int .i64 y]) (t := 36) ?hr ?_; (case hd => rfl); (case hg => rfl); (case hr => first | (go_simp; done) | (go_simp; rfl)); intro gb hg w3 hbox hb; have n0_ := Aside0.mk (below_step HB.out hb); have n1_ := Aside0.mk (blk_below BC.out hb); have n2_ := Aside0.mk (blk_below BM.out hb); have BK := Aside0.mk hbox; clear HB BC BM; have HB := n0_; have BC := n1_; have BM := n2_; have GE := Aside0.mk (show w.heap.size ≤ gb by rw [hg]; exact Nat.le_refl _); clear n0_ n1_ n2_ hbox hb hg))
  refine start_ (n := 7) (S := fun w' => w'.cell? ⟨gc, 0, none⟩ = some (.map (some gm)) ∧ w'.cell? ⟨gb, 0, none⟩ = some (.int .i64 x) ∧ w'.cell? ⟨gb, 1, none⟩ = some (.int .i64 y) ∧ ((∃ c2, w'.heap[gm]? = some (.map es c2)) ∨ ∃ c2, w'.heap[gm]? = some (.map es1 c2))) (ds := [6]) #[false, false, false, false, false, false, false] (by kernel_rfl) rfl rfl ⟨(blk_cell (blk_drew BC.out) 0).trans rfl, (blk_cell (blk_drew BK.out) 0).trans rfl, (blk_cell (blk_drew BK.out) 1).trans rfl, .inl ⟨clock, blk_drew BM.out⟩⟩ (fun hHeld => ?_)
  have n0_ := Aside0.mk (below_drew1 HB.out)
  have n1_ := Aside0.mk (blk_drew BC.out)
  have n2_ := Aside0.mk (blk_drew BM.out)
  have n3_ := Aside0.mk (blk_drew BK.out)
  clear HB BC BM BK
  have HB := n0_
  have BC := n1_
  have BM := n2_
  have BK := n3_
  clear n0_ n1_ n2_ n3_
  generalize w3.drew = w4 at HB BC BM BK hHeld ⊢
  refine take_ (i := 0) (N := some 3) (v := ?_) (a' := ?_) #[true, false, false, false, false, false, false] rfl rfl (by kernel_rfl) (fun _ _ _ h => h) (Or.inl ⟨by rfl, ?_⟩) hHeld ?_ ?_
  rotate_left
  · rintro w' ⟨s0, s1, s2, s3⟩
    go_simp
    with_reducible rfl
  rotate_left
  · simp only [Act.put, List.setIfInBounds_toArray, List.set_cons_zero, List.set_cons_succ, i64_w, i32_w]
    rfl
  refine take_ (i := 1) (N := some 4) (v := ?_) (a' := ?_) #[true, true, false, false, false, false, false] rfl rfl (by kernel_rfl) (fun _ _ _ h => h) (Or.inl ⟨by rfl, ?_⟩) hHeld ?_ ?_
  rotate_left
  · rintro w' ⟨s0, s1, s2, s3⟩
    go_simp
    with_reducible rfl
  rotate_left
  · simp only [Act.put, List.setIfInBounds_toArray, List.set_cons_zero, List.set_cons_succ, i64_w, i32_w]
    rfl
  refine take_ (i := 2) (N := some 5) (v := ?_) (a' := ?_) #[true, true, true, false, false, false, false] rfl rfl (by kernel_rfl) (fun _ _ _ h => h) (Or.inl ⟨by rfl, ?_⟩) hHeld ?_ ?_
  rotate_left
  · rintro w' ⟨s0, s1, s2, s3⟩
    have hlk := HL.out w' s3
    clear s0 s1 s2 s3
    go_simp
    with_reducible rfl
  rotate_left
  · simp only [Act.put, List.setIfInBounds_toArray, List.set_cons_zero, List.set_cons_succ, i64_w, i32_w]
    rfl
  refine pure_ (i := 3) (N := some 6) (v := ?_) (a' := ?_) #[true, true, true, true, false, false, false] rfl rfl (by kernel_rfl) (fun _ _ _ h => h) (Or.inl ⟨by rfl, ?_⟩) ?_ ?_
  rotate_left
  · intro w'
    go_simp
    with_reducible rfl
  rotate_left
  · simp only [Act.put, List.setIfInBounds_toArray, List.set_cons_zero, List.set_cons_succ, i64_w, i32_w]
    rfl
  refine one_ (i := 4) (N := some 7) #[true, true, true, true, true, false, false] rfl rfl (by kernel_rfl) (by decide) (fun K hK => ?_)
  refine event_step (v := .tuple #[.int .i64 c, goInt st]) (w1 := setBlock w4 gm (.map es1 clock1)) ?ew ?er ?_
  case ew => rfl
  case er =>
    have hme := HE.out w4 BM.out
    go_simp
    done
  have hne1 : gc ≠ gm := by
    rintro rfl
    have := BC.out.symm.trans BM.out
    cases this
  have hne2 : gb ≠ gm := by
    rintro rfl
    have := BK.out.symm.trans BM.out
    cases this
  have G1 := Aside0.mk (World.mapTurned.grown (w := w4) (w' := setBlock w4 gm (.map es1 clock1)) (b := gm) ⟨es, clock, es1, clock1, BM.out, rfl⟩)
  have n1_ := Aside0.mk ((heap_setBlock_other BM.out (.map es1 clock1) hne1).trans BC.out)
  have n2_ := Aside0.mk (heap_setBlock_same BM.out (.map es1 clock1))
  have n3_ := Aside0.mk ((heap_setBlock_other BM.out (.map es1 clock1) hne2).trans BK.out)
  have NM := BM
  clear BC BM BK
  have BC := n1_
  have BM := n2_
  have BK := n3_
  clear n1_ n2_ n3_
  refine hK.out _ _ ⟨(blk_cell BC.out 0).trans rfl, (blk_cell BK.out 0).trans rfl, (blk_cell BK.out 1).trans rfl, .inr ⟨clock1, BM.out⟩⟩ (fun hHeld => ?_)
  clear hK K
  generalize setBlock w4 gm (.map es1 clock1) = w5 at G1 BC BM BK hHeld ⊢
  refine norm_ (a' := ?_) ?_ ?_
  rotate_left
  · show Act.put _ (some 7) _ = _
    simp only [Act.put, List.setIfInBounds_toArray, List.set_cons_zero, List.set_cons_succ, i64_w, i32_w]
    rfl
  refine pure_ (i := 5) (N := some 8) (v := ?_) (a' := ?_) #[true, true, true, true, true, true, false] rfl rfl (by kernel_rfl) (fun _ _ _ h => h) (Or.inl ⟨by rfl, ?_⟩) ?_ ?_
  rotate_left
  · intro w'
    go_simp
    with_reducible rfl
  rotate_left
  · simp only [Act.put, List.setIfInBounds_toArray, List.set_cons_zero, List.set_cons_succ, i64_w, i32_w]
    rfl
  refine last_ (i := 6) (N := none) #[true, true, true, true, true, true, true] rfl rfl (by kernel_rfl) (by decide) (fun K hK => ?_)
  refine skip_ (w1 := setBlock w5 gm (.map es' clock')) (by rfl) rfl ?run ?_
  case run =>
    have hst := HES.out w5 BM.out
    rw [show goInt (st : Int) = Value.int .i64 st from rfl] at hst
    go_simp
    first | done | rfl
  have G2 := Aside0.mk (World.mapTurned.grown (w := w5) (w' := setBlock w5 gm (.map es' clock')) (b := gm) ⟨es1, clock1, es', clock', BM.out, rfl⟩)
  have n1_ := Aside0.mk ((heap_setBlock_other BM.out (.map es' clock') hne1).trans BC.out)
  have n2_ := Aside0.mk (heap_setBlock_same BM.out (.map es' clock'))
  clear BC BM
  have BC := n1_
  have BM := n2_
  clear n1_ n2_
  refine hK.out _ _ ?_
  clear hK K hHeld
  generalize setBlock w5 gm (.map es' clock') = w6 at G2 BC BM ⊢
  refine done_ (by kernel_rfl) ?_
  first | go_end0 | ((try simp only [Exit.inBlock, Exit.then]); refine bodyPost_ret (results_none rfl _ _ _) rfl ?_)
  obtain ⟨hBg, hBm, hBs⟩ := HBS.out
  have hsz : w.heap.size ≤ w6.heap.size := Nat.le_trans HB.out.size (Nat.le_trans G1.out.size G2.out.size)
  refine ⟨by first | rfl | (simp; done), ⟨⟨BC.out, ⟨_, HFIN.out w6 BM.out, HA2.out⟩, hBg, hBm, Nat.le_trans hBs hsz⟩, G2.out.os.trans (G1.out.os.trans HB.out.os), G2.out.tape.trans (G1.out.tape.trans HB.out.tape), G2.out.output.trans (G1.out.output.trans HB.out.output), hsz, fun k hk hn => ?_, fun k o ho hown => ?_⟩⟩
  · have hlt : k < B := Nat.lt_of_not_le hn
    have hk1 : k < w.heap.size := Nat.lt_of_lt_of_le hlt hBs
    have hk2 : some k ≠ some gm := fun e => by injection e with e; omega
    have hk3 : k < w4.heap.size := Nat.lt_of_lt_of_le hk1 HB.out.size
    exact (G2.out.block k (Nat.lt_of_lt_of_le hk3 G1.out.size) hk2).trans ((G1.out.block k hk3 hk2).trans (HB.out.block k hk1))
  · have h3 := blk_below ho HB.out
    have hk2 : some k ≠ some gm := fun e => by
      injection e with e
      subst e
      rw [NM.out] at h3
      cases h3
      cases hown
    have h4 := blk_grown h3 G1.out hk2
    exact blk_grown h4 G2.out hk2
def impl_passes.f (k : Nat) (a0 : ByteArray) (a1 : Int) : Option impl_passes.E := (impl_turtle_walkG.f impl_passes.add (fun s _ _ => some s) k [(0, 0, 1)] 0 0 0 a0 a1).bind fun r => some r.2.2.2
theorem impl_passes.mono : ∀ a0 a1 k, LeO (impl_passes.f k a0 a1) (impl_passes.f (k + 1) a0 a1) := fun _ _ _ => LeO.bind (impl_turtle_walkG.mono _ _ _ _ _ _ _ _ _) (fun _ => LeO.refl _)
theorem impl_passes.one : impl_passes.Agree [(0, 0, 1)] ((.map [] : DataW Unit).put (impl_passes.kp 0 0) (.lit (.int .i64 1))) :=
  impl_passes.Agree.nil.put (x := 0) (y := 0) (by decide) (by decide) (v := 1) (by show (1 : Int) = wrap64 (0 + 1); unfold wrap64; omega)
set_option maxHeartbeats 4000000 in
set_option maxRecDepth 100000 in
open Go.ChangeMaps in
theorem impl_passes.calls (k : Nat) (a0 : ByteArray) (a1 : Int) (r : impl_passes.E) (w : World) (h : impl_passes.f k a0 a1 = some r) :
    Calls Try.prog 11 #[.string a0, .int .i64 a1] w fun e w' => ∃ (gm : Nat) (D : DataW Unit), e = .returned (.map (some gm)) ∧ w'.ownsMap Try.prog 36 (plainElem (H := Unit) Try.prog 3) gm r.length D ∧ impl_passes.Agree r D ∧ w.heap.size ≤ gm ∧ Below w.heap.size w w' := by
  have hu45 := Try.underlying36
  have hu47 := Try.underlying49
  have eg2 : ∀ args w, (callFunc 25 args).run Try.prog w = .ok (.enter 25 args) w := Go.Proofs.enters_of Try.func25 (by kernel_rfl) rfl
  have eg1 : ∀ args w, (callFunc 24 args).run Try.prog w = .ok (.enter 24 args) w := Go.Proofs.enters_of Try.func24 (by kernel_rfl) rfl
  obtain ⟨⟨q1, q2, q3, q4⟩, hq, h⟩ := Option.bind_eq_some_iff.mp h
  obtain rfl := Option.some.inj h
  have hw0 : impl_passes.W 0 := by decide
  obtain ⟨w1, hins, hown1, es, clock, es', clock', hmb, hw1⟩ := (World.ownsMap_made (H := Unit) w Try.prog 36 (plainElem Try.prog 3)).store (Maps.Keyed.of_law impl_passes.law) Try.underlying31 (by decide) (impl_passes.key_of hw0 hw0) (plainElem_int Try.underlying3 (show (Lit.int .i64 1).wf = true by decide))
  have hB1 : Below w.heap.size w w1 := by
    have hg := World.mapTurned.grown (b := w.heap.size) ⟨es, clock, es', clock', hmb, hw1⟩
    exact (below_alloc (Below.refl w.heap.size w) _).grown hg (by simp) (fun k hk => by injection hk with hk; omega)
  have key : ∀ (gc : Nat) (W : World), w.heap.size ≤ gc → w.heap.size ≤ W.heap.size → W.heap[gc]? = some (.cells #[.map (some w.heap.size)] 31 (0, 0)) → W.heap[w.heap.size]? = w1.heap[w.heap.size]? →
      Calls Try.prog 23 #[.agg #[.int .i64 0, .int .i64 0, .int .i64 0], .string a0, .int .i64 a1, .func (.func 24) #[] #[.pointer (some ⟨gc, 0, none⟩)], .func (.func 25) #[] #[]] W fun e w' => e = .returned (.agg #[.int .i64 q1, .int .i64 q2, .int .i64 q3]) ∧ Clo.X (impl_passes.clo gc w.heap.size w.heap.size) W q4 w' := fun gc W h1 h2 h3 h4 =>
    impl_turtle_walkG.calls (impl_passes.clo gc w.heap.size w.heap.size) impl_passes.add (fun s _ _ => some s) 24 25 #[.pointer (some ⟨gc, 0, none⟩)] #[] eg1 eg2 W ⟨impl_passes.steps gc w.heap.size w.heap.size W⟩ ⟨Clo.steps_nothing _ _⟩ k [(0, 0, 1)] ⟨⟨h3, ⟨_, impl_passes.moved hown1 h4, impl_passes.one⟩, h1, Nat.le_refl _, h2⟩, ⟨rfl, rfl, rfl, Nat.le_refl _, fun _ _ _ => rfl⟩⟩ 0 0 0 a0 a1 q1 q2 q3 q4 hq
  have HK := Aside0.mk key
  have HB := Aside0.mk hB1
  have BM := Aside0.mk (Eq.refl (w1.heap[w.heap.size]?))
  have HM := Aside0.mk hown1.lt
  have hmm := @run_makeMap Try.prog
  clear key eg1 eg2 hq h hown1 hmb hw1 hB1 hw0
  go_enter Try.func11, Try.ntmps11
  go_wp2_with (first | ((with_reducible refine gate_dst (N := 5) rfl ?_); refine box_event ?hg (N := 5) ?hd (cs := #[.map none]) (t := 31) ?hr ?_; (case hd => rfl); (case hg => rfl); (case hr => first | (go_simp; done) | (go_simp; rfl)); intro gc hg w6 hbox hb; have n1_ := Aside0.mk (show w.heap.size ≤ gc by rw [hg]; exact below_size HB.out); have n2_ := Aside0.mk (below_step HB.out hb); have n3_ := Aside0.mk hbox; have n4_ := Aside0.mk (show w.heap.size ≠ gc by rw [hg]; have := HM.out; omega); have n5_ := Aside0.mk (show w6.heap[w.heap.size]? = w1.heap[w.heap.size]? from hb.block _ HM.out); clear HB BM; have GC := n1_; have HB := n2_; have BC := n3_; have NE := n4_; have BM := n5_; have hcc : w6.cell? ⟨gc, 0, none⟩ = some (.map none) := (blk_cell BC.out 0).trans rfl; have hfz := blk_frozen BC.out 0; clear n1_ n2_ n3_ n4_ n5_ hbox hg hb) | (go_at_call 23; refine (HK.out gc _ GC.out ?le (blk_put BC.out 0 _ rfl) ?mm).mono ?_; (case le => first | exact Nat.le_trans HB.out.size (by simp [World.setCell]) | exact HB.out.size); (case mm => exact (Below.heap_setCell w6 ⟨gc, 0, none⟩ _ _ NE.out).trans BM.out); rintro e w9 ⟨rfl, hX⟩; obtain ⟨⟨hg9, ⟨D9, ho9, ha9⟩, hq1, hq2, hq3⟩, hF9⟩ := hX; have HB9 := Aside0.mk (show Below w.heap.size w w9 from ⟨hF9.os.trans HB.out.os, hF9.tape.trans HB.out.tape, hF9.output.trans HB.out.output, Nat.le_trans HB.out.size (Nat.le_trans (by simp [World.setCell]) hF9.size), fun k hk => (hF9.block k (by simp [World.setCell]; exact Nat.lt_of_lt_of_le hk HB.out.size) (Nat.not_le.2 hk)).trans ((Below.heap_setCell w6 ⟨gc, 0, none⟩ _ k (by show k ≠ gc; have := GC.out; omega)).trans (HB.out.block k hk))⟩); have HO9 := Aside0.mk ho9; have HA9 := Aside0.mk ha9; have hcc9 : w9.cell? ⟨gc, 0, none⟩ = some (.map (some w.heap.size)) := (blk_cell hg9 0).trans rfl; clear hcc hfz hg9 ho9 ha9 hF9 hq1 hq2 hq3))
  go_ret
  exact ⟨_, D9, by first | rfl | (simp; done), HO9.out, HA9.out, Nat.le_refl _, HB9.out⟩

end Go.Proofs.Ytklnfjjpjkphiaa.PD
