/- Plain lemmas: an argument that the form reads as data, told in the printed texts' own words (Kd): a struct's fields, a slice's elements, kind by kind. No condition. -/
import Derived.Test.YtoaekaehpnjpaaaDoorWWords
import Derived.Deep.Slices
import Derived.Deep.Fields
import Derived.ChangeSame
import Derived.ChangeArms
import Derived.WideShapes
namespace Go.Proofs.YtoaekaehpnjpaaaDoor.Op
open Go.ChangeShapes Go.WideShapes Go.Deep Go.Proofs.YtoaekaehpnjpaaaDoorW.PrintWords
set_option linter.unusedVariables false

def Opens {α : Type} (P : Program) (t : TypeId) (d : Kd α) (good : α → Prop) : Prop :=
  ∀ {H : Type} (enc : TypeId × Value → H) (W : World) (base : Nat) (spare : Nat → Bool) (held : Bool) (fuel : Nat) (cs : List Value) (x : DataW H × List MemPlace),
    DataW.trod enc P W base spare held fuel t cs = some x → ∃ a, d.K W a cs ∧ good a

theorem opens_int {P : Program} {t : TypeId} {k : IntKind} (ht : P.underlying t = some (.int k)) : Opens P t (Kd.int k) (fun a => (Lit.int k a).wf = true) := by
  intro H enc W base spare held fuel cs x h
  obtain ⟨n, rfl, _, hw⟩ := DataW.trod_int ht h
  exact ⟨n, rfl, hw⟩

theorem opens_bool {P : Program} {t : TypeId} (ht : P.underlying t = some .bool) : Opens P t Kd.bool (fun _ => True) := by
  intro H enc W base spare held fuel cs x h
  obtain ⟨n, rfl, _⟩ := DataW.trod_bool ht h
  exact ⟨n, rfl, trivial⟩

theorem opens_string {P : Program} {t : TypeId} (ht : P.underlying t = some .string) : Opens P t Kd.string (fun a => a.size ≤ maxLen) := by
  intro H enc W base spare held fuel cs x h
  obtain ⟨n, rfl, _, hw⟩ := DataW.trod_string ht h
  exact ⟨n, rfl, hw⟩

theorem build_list {α : Type} {Q : Nat → α → Prop} : ∀ (n : Nat), (∀ i, i < n → ∃ p, Q i p) → ∃ l : List α, l.length = n ∧ ∀ (j : Nat) (p : α), l[j]? = some p → Q j p
  | 0, _ => ⟨[], rfl, fun j p h => by simp at h⟩
  | n + 1, h => by
    obtain ⟨l, hl, hq⟩ := build_list n (fun i hi => h i (by omega))
    obtain ⟨p, hp⟩ := h n (by omega)
    refine ⟨l ++ [p], by simp [hl], fun j q hj => ?_⟩
    by_cases hjn : j < n
    · rw [List.getElem?_append_left (by omega)] at hj
      exact hq j q hj
    · rw [List.getElem?_append_right (by omega)] at hj
      have : j = n := by
        have := (List.getElem?_eq_some_iff.1 hj).1
        simp at this
        omega
      subst this
      simp [hl] at hj
      subst hj
      exact hp

theorem opens_slice {α : Type} {P : Program} {t e : TypeId} {d : Kd α} {good : α → Prop} (ht : P.underlying t = some (.slice e)) (he : Opens P e d good) (hs : P.cellsOf e = d.sz) :
    Opens P t (Kd.slice e d) (fun l => l.length ≤ 9223372036854775807 ∧ ∀ a ∈ l, good a) := by
  intro H enc W base spare held fuel cs x h
  rcases open_slice ht h with ⟨rfl, _⟩ | ⟨a, len, cap, m, n, D, Pl, rfl, hb, hl, hm, hmm, hx, hi⟩
  · exact ⟨[], ⟨none, 0, rfl, Nat.le_refl _, rfl, by simp, fun h => absurd h (Nat.lt_irrefl 0)⟩, by simp, by simp⟩
  · have hlm : len ≤ m := by
      rw [hmm]
      split
      · exact hl
      · exact Nat.le_refl _
    have hlen : len ≤ 9223372036854775807 := by
      have : cap ≤ 9223372036854775807 := hm
      omega
    obtain ⟨l, hll, hq⟩ := build_list (Q := fun i p => good p ∧ ∃ c : List Value, c.length = d.sz ∧ d.K W p c ∧ ∀ k u, c[k]? = some u → W.cell? (a.add (i * d.sz + k)) = some u) len (fun i hil => by
      obtain ⟨cs', hc, ht'⟩ := hi i (by omega)
      obtain ⟨p, hp, hg⟩ := he enc W base spare held n cs' _ ht'
      obtain ⟨_, hcl, hat⟩ := World.cells?_some hc
      rw [hs] at hcl hat
      refine ⟨p, hg, cs', hcl, hp, fun k u hk => ?_⟩
      have hkl : k < d.sz := by
        have := (List.getElem?_eq_some_iff.1 hk).1
        omega
      have h1 := hat k hkl
      rw [← Go.Deep.add_add, h1, hk])
    refine ⟨l, ⟨some a, cap, by rw [hll], by omega, rfl, by omega, fun h0 => ⟨a, rfl, fun j p hj => ?_⟩⟩, by omega, fun p hp => ?_⟩
    · obtain ⟨_, c, h1, h2, h3⟩ := hq j p hj
      exact ⟨c, h1, h2, h3⟩
    · obtain ⟨j, hj⟩ := List.getElem?_of_mem hp
      exact (hq j p hj).1

/-- The fields of a struct, one behind the other; 'os': where each begins, and its cells. -/
def OpensF {α : Type} (P : Program) (ts : List TypeId) (os : List (Nat × Nat)) (d : Kd α) (good : α → Prop) : Prop :=
  ∀ {H : Type} (enc : TypeId × Value → H) (W : World) (base : Nat) (spare : Nat → Bool) (held : Bool) (fuel : Nat) (cs : List Value),
    (∀ (j : Nat) (t : TypeId) (o : Nat × Nat), ts[j]? = some t → os[j]? = some o → ∃ y, DataW.trod enc P W base spare held fuel t ((cs.drop o.1).take o.2) = some y) →
    ∃ a, d.K W a (os.flatMap fun o => (cs.drop o.1).take o.2) ∧ good a

theorem opensF_one {α : Type} {P : Program} {t : TypeId} {o : Nat × Nat} {d : Kd α} {good : α → Prop} (h : Opens P t d good) : OpensF P [t] [o] d good := by
  intro H enc W base spare held fuel cs hf
  obtain ⟨y, hy⟩ := hf 0 t o rfl rfl
  obtain ⟨a, ha, hg⟩ := h enc W base spare held fuel _ y hy
  exact ⟨a, by simpa using ha, hg⟩

theorem opensF_cons {α β : Type} {P : Program} {t : TypeId} {o : Nat × Nat} {ts : List TypeId} {os : List (Nat × Nat)} {d : Kd α} {d2 : Kd β} {good : α → Prop} {good2 : β → Prop} (h : Opens P t d good) (h2 : OpensF P ts os d2 good2) :
    OpensF P (t :: ts) (o :: os) (Kd.pair d d2) (fun x => good x.1 ∧ good2 x.2) := by
  intro H enc W base spare held fuel cs hf
  obtain ⟨y, hy⟩ := hf 0 t o rfl rfl
  obtain ⟨a, ha, hg⟩ := h enc W base spare held fuel _ y hy
  obtain ⟨b, hb, hg2⟩ := h2 enc W base spare held fuel cs (fun j t' o' h1 h2 => hf (j + 1) t' o' (by simpa using h1) (by simpa using h2))
  exact ⟨(a, b), ⟨_, _, by simp, ha, hb⟩, hg, hg2⟩

theorem opens_struct {α : Type} {P : Program} {t : TypeId} {fs : Array Field} {ts : List TypeId} {os : List (Nat × Nat)} {n : Nat} {d : Kd α} {good : α → Prop} (ht : P.underlying t = some (.struct fs))
    (hts : fs.toList.map (·.type) = ts) (hos : fs.toList.map (fun f => (f.offset, P.cellsOf f.type)) = os) (hn : P.cellsOf t = n)
    (hF : OpensF P ts os d good) (hcs : ∀ cs : List Value, cs.length = n → (os.flatMap fun o => (cs.drop o.1).take o.2) = cs) : Opens P t d good := by
  intro H enc W base spare held fuel cs x h
  obtain ⟨xs, m, rfl, _, hlen, hxl, hg⟩ := DataW.trod_struct ht h
  obtain ⟨a, ha, hga⟩ := hF enc W base spare held m cs (fun j t' o' h1 h2 => by
    rw [← hts, List.getElem?_map, Option.map_eq_some_iff] at h1
    obtain ⟨f, hf, rfl⟩ := h1
    rw [← hos, List.getElem?_map, hf, Option.map_some, Option.some.injEq] at h2
    subst h2
    have h3 := hg j f (by simpa using hf)
    have hj : j < xs.length := by
      have := (List.getElem?_eq_some_iff.1 hf).1
      simp at this
      omega
    exact ⟨xs[j], h3.trans (List.getElem?_eq_getElem hj)⟩)
  rw [hcs cs (hlen.trans hn)] at ha
  exact ⟨a, ha, hga⟩

theorem opens_iso {α β : Type} {P : Program} {t : TypeId} {d : Kd α} {good : α → Prop} (f : β → α) (g : α → β) (hfg : ∀ y, f (g y) = y) (h : Opens P t d good) : Opens P t (Kd.iso d f) (fun x => good (f x)) := by
  intro H enc W base spare held fuel cs x hx
  obtain ⟨a, ha, hg⟩ := h enc W base spare held fuel cs x hx
  exact ⟨g a, by show d.K W (f (g a)) cs; rw [hfg]; exact ha, by show good (f (g a)); rw [hfg]; exact hg⟩

/-- An argument: its value, its cells, what its parts are. -/
theorem open_struct_arg {α : Type} {H : Type} {enc : TypeId × Value → H} {P : Program} {W : World} {base : Nat} {spare : Nat → Bool} {held : Bool} {r : Reach} {b0 : Nat} {t : TypeId} {fs : Array Field} {v : Value} {x : DataW H} {p : List MemPlace} {d : Kd α} {good : α → Prop}
    (ht : P.underlying t = some (.struct fs)) (ho : Opens P t d good) (hv : Value.okWide P W r b0 t v) (h : DataW.Trod enc P W base spare held t v x p) :
    ∃ (cs : List Value) (a : α), v = .agg cs.toArray ∧ d.K W a cs ∧ good a := by
  obtain ⟨cs, rfl, hsz⟩ := okWide_struct ht hv
  obtain ⟨fuel, hf⟩ := h
  obtain ⟨a, ha, hg⟩ := ho enc W base spare held fuel cs.toList _ (by simpa [Value.cells] using hf)
  exact ⟨cs.toList, a, by simp, ha, hg⟩

theorem open_slice_arg {α : Type} {H : Type} {enc : TypeId × Value → H} {P : Program} {W : World} {base : Nat} {spare : Nat → Bool} {held : Bool} {r : Reach} {b0 : Nat} {t e : TypeId} {v : Value} {x : DataW H} {p : List MemPlace} {d : Kd α} {good : α → Prop}
    (ht : P.underlying t = some (.slice e)) (he : Opens P e d good) (hs : P.cellsOf e = d.sz) (hv : Value.okWide P W r b0 t v) (h : DataW.Trod enc P W base spare held t v x p) :
    ∃ (A : Option Addr) (c : Nat) (l : List α), v = .slice A l.length c ∧ l.length ≤ c ∧ d.C W A l.length l ∧ l.length ≤ 9223372036854775807 ∧ ∀ a ∈ l, good a := by
  obtain ⟨a, len, cap, rfl⟩ := okWide_slice ht hv
  obtain ⟨fuel, hf⟩ := h
  obtain ⟨l, ⟨A, c, hcs, hl, hC⟩, hg⟩ := opens_slice ht he hs enc W base spare held fuel _ _ hf
  simp [Value.cells] at hcs
  obtain ⟨rfl, rfl, rfl⟩ := hcs
  exact ⟨a, cap, l, rfl, hl, hC, hg⟩

end Go.Proofs.YtoaekaehpnjpaaaDoor.Op
