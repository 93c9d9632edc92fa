-- Printed for this claim by gprint.py, a program of this session round the kit's printer. Lean checks it.
import Derived.Test.YtgaplnhjddlieaaDoorPNx0
import Derived.Test.YtgaplnhjddlieaaDoorPNx1
import Derived.Test.YtgaplnhjddlieaaDoorPNx2
import Derived.Test.YtgaplnhjddlieaaDoorPNx3
namespace Go.Proofs.YtgaplnhjddlieaaDoor.PN
open Go.RowKit Go.Proofs.YtgaplnhjddlieaaDoorW.PrintWords Go.Proofs.YtgaplnhjddlieaaDoorW.PrintLast Go.Proofs.YtgaplnhjddlieaaDoorW.PrintMore
attribute [local go_sem] max2_int min2_int max_two min_two max_three min_three max_four min_four   -- for this text's walks alone
set_option linter.unusedVariables false
set_option linter.unusedSimpArgs false

/-! ### spec_loLoops: function 16 -/
-- it calls 23 24 25 26 info31
abbrev spec_loLoops.enc (b : Nat) : Value := .slice (some ⟨b, 0, none⟩) 2 2
abbrev spec_loLoops.kB : Kd Nat := Kd.scalar spec_loLoops.enc (fun _ => rfl)
def spec_loLoops.rdP (L : List (Int × Int)) (i : Int) : Int × Int := L.getD i.toNat (0, 0)
def spec_loLoops.rdB (bs : List Nat) (i : Int) : Nat := bs.getD i.toNat 0
def spec_loLoops.rowP (p : Int × Int) : List Int := [p.1, p.2]
def spec_loLoops.insP (L : List (Int × Int)) (i n : Int) : List (Int × Int) := L.take i.toNat ++ [(n, 1)] ++ L.drop i.toNat
theorem spec_loLoops.at_B {w : World} {A : Option Addr} {n : Nat} {xs : List Nat} (h : spec_loLoops.kB.C w A n xs) (i : Int) (h0 : 0 ≤ i) (h1 : i < n) : ∃ ad, A = some ad ∧ w.cell? (ad.add i.toNat) = some (.slice (some ⟨spec_loLoops.rdB xs i, 0, none⟩) 2 2) := by
  obtain ⟨ad, c, hA, hl, hK, hc⟩ := Kd.C_get h 0 i h0 h1
  have hK' : c = [spec_loLoops.enc (xs.getD i.toNat 0)] := hK
  subst hK'
  have := hc 0 _ rfl
  rw [show i.toNat * spec_loLoops.kB.sz + 0 = i.toNat from by show i.toNat * 1 + 0 = _; omega] at this
  exact ⟨ad, hA, this⟩
structure spec_loLoops.RW (W : World) (base : Nat) (bs : List Nat) (L : List (Int × Int)) : Prop where
  len : bs.length = L.length
  nodup : bs.Nodup
  cell : ∀ (i b : Nat) (p : Int × Int), bs[i]? = some b → L[i]? = some p → base ≤ b ∧ W.heap[b]? = some (.cells #[.int .i64 p.1, .int .i64 p.2] 3 (0, 0))
section
variable {W W1 : World} {base g t : Nat} {bs : List Nat} {L : List (Int × Int)} {cells : Array Value}
theorem spec_loLoops.RW.nil (W : World) (base : Nat) : spec_loLoops.RW W base [] [] := ⟨rfl, List.nodup_nil, fun i b p h => by simp at h⟩
theorem spec_loLoops.RW.mem (h : spec_loLoops.RW W base bs L) {b : Nat} (hb : b ∈ bs) : base ≤ b ∧ ∃ p : Int × Int, W.heap[b]? = some (.cells #[.int .i64 p.1, .int .i64 p.2] 3 (0, 0)) := by
  obtain ⟨i, hi, rfl⟩ := List.getElem_of_mem hb
  have hL : i < L.length := by rw [← h.len]; exact hi
  obtain ⟨h1, h2⟩ := h.cell i _ _ (List.getElem?_eq_getElem hi) (List.getElem?_eq_getElem hL)
  exact ⟨h1, _, h2⟩
theorem spec_loLoops.RW.step (h : spec_loLoops.RW W base bs L) (hm : ∀ b ∈ bs, W1.heap[b]? = W.heap[b]?) : spec_loLoops.RW W1 base bs L :=
  ⟨h.len, h.nodup, fun i b p hb hp => ⟨(h.cell i b p hb hp).1, (hm b (List.mem_of_getElem? hb)).trans (h.cell i b p hb hp).2⟩⟩
theorem spec_loLoops.RW.below (h : spec_loLoops.RW W base bs L) (hb : Below W.heap.size W W1) : spec_loLoops.RW W1 base bs L := h.step fun b hm => hb.block b (blk_lt (h.mem hm).2.choose_spec)
theorem spec_loLoops.RW.grown (h : spec_loLoops.RW W base bs L) {row : Option Nat} (hg : W.grownBy W1 row) (hty : ∀ k, row = some k → ∃ cells, W.heap[k]? = some (.cells cells t (0, 0))) (ht : t ≠ 3) : spec_loLoops.RW W1 base bs L := h.step fun b hm => by
  obtain ⟨_, p, hp⟩ := h.mem hm
  refine hg.block b (blk_lt hp) fun e => ?_
  obtain ⟨cells, hc⟩ := hty b e.symm
  rw [hp] at hc
  injection hc with hc
  injection hc with _ hc
  exact ht hc.symm
theorem spec_loLoops.RW.ne (h : spec_loLoops.RW W base bs L) (hg : W.heap[g]? = some (.cells cells t (0, 0))) (ht : t ≠ 3) : ∀ b ∈ bs, b ≠ g := by
  rintro b hm rfl
  obtain ⟨_, p, hp⟩ := h.mem hm
  rw [hp] at hg
  injection hg with hg
  injection hg with _ hg
  exact ht hg.symm
theorem spec_loLoops.RW.far {p : Addr} (h : spec_loLoops.RW W base bs L) (hn : ∀ b ∈ bs, b ≠ p.block) (u : Value) : spec_loLoops.RW (W.setCell p u) base bs L := h.step fun b hm => Below.heap_setCell W p u b (hn b hm)
theorem spec_loLoops.RW.fresh (h : spec_loLoops.RW W base bs L) : W.heap.size ∉ bs := fun hm => by
  obtain ⟨_, p, hp⟩ := h.mem hm
  exact Nat.lt_irrefl _ (blk_lt hp)
theorem spec_loLoops.RW.blk (h : spec_loLoops.RW W base bs L) (i : Int) (h0 : 0 ≤ i) (h1 : i < (bs.length : Int)) : base ≤ spec_loLoops.rdB bs i ∧ W.heap[spec_loLoops.rdB bs i]? = some (.cells #[.int .i64 (spec_loLoops.rdP L i).1, .int .i64 (spec_loLoops.rdP L i).2] 3 (0, 0)) := by
  have hi : i.toNat < bs.length := by omega
  have hL : i.toNat < L.length := by rw [← h.len]; exact hi
  have e1 : spec_loLoops.rdB bs i = bs[i.toNat] := by unfold spec_loLoops.rdB; rw [List.getD_eq_getElem?_getD, List.getElem?_eq_getElem hi]; rfl
  have e2 : spec_loLoops.rdP L i = L[i.toNat] := by unfold spec_loLoops.rdP; rw [List.getD_eq_getElem?_getD, List.getElem?_eq_getElem hL]; rfl
  rw [e1, e2]
  exact h.cell i.toNat _ _ (List.getElem?_eq_getElem hi) (List.getElem?_eq_getElem hL)
theorem spec_loLoops.RW.at_ (h : spec_loLoops.RW W base bs L) (i : Int) (h0 : 0 ≤ i) (h1 : i < (bs.length : Int)) : W.cell? ⟨spec_loLoops.rdB bs i, 0, none⟩ = some (.int .i64 (spec_loLoops.rdP L i).1) ∧ W.cell? ⟨spec_loLoops.rdB bs i, 1, none⟩ = some (.int .i64 (spec_loLoops.rdP L i).2) ∧ W.frozen? ⟨spec_loLoops.rdB bs i, 0, none⟩ = false ∧ W.frozen? ⟨spec_loLoops.rdB bs i, 1, none⟩ = false := by
  obtain ⟨_, hb⟩ := h.blk i h0 h1
  exact ⟨(blk_cell hb 0).trans rfl, (blk_cell hb 1).trans rfl, blk_frozen hb 0, blk_frozen hb 1⟩
theorem spec_loLoops.RW.put (h : spec_loLoops.RW W base bs L) (i : Int) (h0 : 0 ≤ i) (h1 : i < (bs.length : Int)) (v : Int) : spec_loLoops.RW (W.setCell ⟨spec_loLoops.rdB bs i, 1, none⟩ (.int .i64 v)) base bs (L.set i.toNat ((spec_loLoops.rdP L i).1, v)) := by
  have hi : i.toNat < bs.length := by omega
  have hL : i.toNat < L.length := by rw [← h.len]; exact hi
  have e1 : spec_loLoops.rdB bs i = bs[i.toNat] := by unfold spec_loLoops.rdB; rw [List.getD_eq_getElem?_getD, List.getElem?_eq_getElem hi]; rfl
  refine ⟨by rw [List.length_set]; exact h.len, h.nodup, fun j b p hb hp => ?_⟩
  by_cases c : i.toNat = j
  · subst c
    rw [List.getElem?_set_self hL] at hp
    rw [List.getElem?_eq_getElem hi] at hb
    obtain rfl := Option.some.inj hb
    obtain rfl := Option.some.inj hp
    obtain ⟨g1, g2⟩ := h.blk i h0 h1
    rw [← e1]
    exact ⟨g1, blk_put g2 1 _ rfl⟩
  · rw [List.getElem?_set_ne c] at hp
    obtain ⟨g1, g2⟩ := h.cell j b p hb hp
    refine ⟨g1, (Below.heap_setCell W _ _ b ?_).trans g2⟩
    rw [e1]
    intro e
    obtain ⟨hj, e2⟩ := List.getElem?_eq_some_iff.1 hb
    exact c ((List.getElem_inj h.nodup).1 (e.symm.trans e2.symm))
theorem spec_loLoops.RW.ins (h : spec_loLoops.RW W base bs L) {n : Int} (hb : W.heap[g]? = some (.cells #[.int .i64 n, .int .i64 1] 3 (0, 0))) (hg : base ≤ g) (hf : g ∉ bs) (i : Int) {bs' : List Nat} (e : bs' = (bs.take i.toNat ++ [g]) ++ bs.drop i.toNat) : spec_loLoops.RW W base bs' (spec_loLoops.insP L i n) := by
  subst e
  unfold spec_loLoops.insP
  have hlen := h.len
  refine ⟨by simp [hlen], ?_, fun j b p hb' hp => ?_⟩
  · rw [List.append_assoc, List.nodup_append]
    have hn : (bs.take i.toNat ++ bs.drop i.toNat).Nodup := by rw [List.take_append_drop]; exact h.nodup
    rw [List.nodup_append] at hn
    refine ⟨hn.1, ?_, ?_⟩
    · rw [List.singleton_append, List.nodup_cons]
      exact ⟨fun hm => hf (List.mem_of_mem_drop hm), hn.2.1⟩
    · intro a ha b hb2 eab
      rw [List.singleton_append] at hb2
      rcases List.mem_cons.1 hb2 with rfl | hb2
      · exact hf (eab ▸ List.mem_of_mem_take ha)
      · exact hn.2.2 a ha b hb2 eab
  · have hz : ((bs.take i.toNat ++ [g]) ++ bs.drop i.toNat).zip ((L.take i.toNat ++ [(n, 1)]) ++ L.drop i.toNat) = ((bs.take i.toNat).zip (L.take i.toNat) ++ [(g, (n, 1))]) ++ (bs.drop i.toNat).zip (L.drop i.toNat) := by
      rw [List.zip_append (by simp [hlen]), List.zip_append (by simp [hlen])]
      rfl
    have hm : (b, p) ∈ ((bs.take i.toNat ++ [g]) ++ bs.drop i.toNat).zip ((L.take i.toNat ++ [(n, 1)]) ++ L.drop i.toNat) := by
      refine List.mem_of_getElem? (i := j) ?_
      rw [List.getElem?_zip_eq_some]
      exact ⟨hb', hp⟩
    have all : ∀ b p, (b, p) ∈ bs.zip L → base ≤ b ∧ W.heap[b]? = some (.cells #[.int .i64 p.1, .int .i64 p.2] 3 (0, 0)) := fun b p hbp => by
      obtain ⟨q, hq, e⟩ := List.getElem_of_mem hbp
      have := List.getElem?_eq_getElem hq
      rw [e, List.getElem?_zip_eq_some] at this
      exact h.cell q b p this.1 this.2
    have hs : ∀ {x y}, (x, y) ∈ (bs.take i.toNat).zip (L.take i.toNat) ∨ (x, y) ∈ (bs.drop i.toNat).zip (L.drop i.toNat) → (x, y) ∈ bs.zip L := fun {x y} hxy => by
      rw [← List.take_append_drop i.toNat bs, ← List.take_append_drop i.toNat L, List.zip_append (by simp [hlen])]
      exact List.mem_append.2 hxy
    rw [hz] at hm
    rcases List.mem_append.1 hm with hm | hm
    · rcases List.mem_append.1 hm with hm | hm
      · exact all b p (hs (.inl hm))
      · rw [List.mem_singleton] at hm
        injection hm with e1 e2
        subst e1
        subst e2
        exact ⟨hg, hb⟩
    · exact all b p (hs (.inr hm))
theorem spec_loLoops.RW.rows {v : Value} (hR : spec_loLoops.kB.R 31 W base (fun _ => True) v bs) (h : spec_loLoops.RW W base bs L) : Kd.S (Kd.slice 3 (Kd.int .i64)) 31 W base (fun _ => True) v (L.map spec_loLoops.rowP) := by
  have hty := Kd.R_typed hR
  obtain ⟨h0, inner, ho, hr⟩ := hR
  refine ⟨fun k => bs.idxOf k, fun _ _ => trivial, inner, ?_, ?_⟩
  · rw [List.length_zipIdx, List.length_map, ← h.len]
    exact ho
  · refine ⟨by rw [List.length_zipIdx, List.length_map, ← h.len]; exact hr.1, fun j q hj => ?_⟩
    rw [List.getElem?_zipIdx, List.getElem?_map, Nat.zero_add, Option.map_map] at hj
    obtain ⟨p, hp, rfl⟩ := Option.map_eq_some_iff.1 hj
    have hjl : j < bs.length := by rw [h.len]; exact (List.getElem?_eq_some_iff.1 hp).1
    have hc := hr.2 j _ (List.getElem?_eq_getElem hjl)
    have hc' : (inner.drop (j * 1)).take 1 = [spec_loLoops.enc bs[j]] := hc
    obtain ⟨g1, g2⟩ := h.cell j _ p (List.getElem?_eq_getElem hjl) hp
    have hne : ∀ k, k = bs[j] → some k ≠ v.ownBlock := fun k hk e => by
      obtain ⟨cells, hcl⟩ := hty k e.symm
      rw [hk, g2] at hcl
      injection hcl with hcl
      injection hcl with _ hcl
      exact absurd hcl (by decide)
    refine ⟨_, hc', ⟨fun k hk => ?_, [.int .i64 p.1, .int .i64 p.2], ?_, ?_⟩⟩
    · have hk2 : bs[j] = k := by simpa [Value.ownBlock] using hk
      refine ⟨⟨trivial, hne k hk2.symm⟩, ?_⟩
      show bs.idxOf k = j
      rw [← hk2]
      exact List.Nodup.idxOf_getElem h.nodup j hjl
    · exact ⟨rfl, .inr ⟨bs[j], 2, #[.int .i64 p.1, .int .i64 p.2], rfl, g1, g2, by show (2 : Nat) ≤ 2; omega, by show (2 : Nat) ≤ _; decide, rfl, rfl⟩⟩
    · refine ⟨rfl, fun m x hm => ?_⟩
      match m, hm with
      | 0, hm => obtain rfl := Option.some.inj hm; rfl
      | 1, hm => obtain rfl := Option.some.inj hm; rfl
end
theorem spec_loLoops.row_event {P : Program} {ops : Array Oper} {rest : List Oper} {o : Oper} {a : Act} {Q : Exit → Act → World → Prop} {W : World} (hgd : o.guard = none) {N : Tmp} (_hd : o.dst = some N) {n : Int}
    (hrun : (execOp a.eval o).run P W = .ok (.value (.slice (some ⟨W.heap.size, 0, none⟩) 2 2)) (W.alloc (.cells #[.int .i64 n, .int .i64 1] 3 (0, 0))))
    (h : ∀ g, g = W.heap.size → ∀ w1, w1.heap[g]? = some (.cells #[.int .i64 n, .int .i64 1] 3 (0, 0)) → Below W.heap.size W w1 → wpList P ops Q rest (a.put o.dst (.slice (some ⟨g, 0, none⟩) 2 2)) w1) : wpList P ops Q (o :: rest) a W :=
  Kd.event_run hgd hrun (h _ rfl _ (blk_new W _) (below_alloc (Below.refl _ _) _))
mutual
def spec_loLoops.l0 : Nat → ByteArray → Int → Int → List Bool → List (Int × Int) → Int → Int → Option (List (Int × Int))
  | 0, _, _, _, _, _, _, _ => none
  | k + 1, x0, x1, x2, x7, x8, x20, x21 => if x21 < x20 then ((spec_loWorld.f k x0 x1 x2 x21).bind fun bt122 => (spec_loLoops.l1 k x0 x1 x2 x7 x8 0 x20 x21 bt122.1 bt122.2.1 bt122.2.2.1 bt122.2.2.2.1 bt122.2.2.2.2.1 bt122.2.2.2.2.2.1 bt122.2.2.2.2.2.2)) else (some x8)
def spec_loLoops.l1 : Nat → ByteArray → Int → Int → List Bool → List (Int × Int) → Int → Int → Int → ByteArray → Int → Int → ByteArray → Int → Int → Int → Option (List (Int × Int))
  | 0, _, _, _, _, _, _, _, _, _, _, _, _, _, _, _ => none
  | k + 1, x0, x1, x2, x7, x8, x10, x20, x21, x130000, x130001, x130002, x130003, x130004, x130005, x130006 => (spec_loIndex.f k x130000 x130001 x130002 x130003 x130004 x130005 x130006).bind fun t130 => (if 0 ≤ t130 then (if t130 < (x7.length : Int) then (if rdOf false x7 t130 = true then (if x10 = 0 then (spec_loLoops.l0 k x0 x1 x2 x7 x8 x20 (wrap64 (x21 + 1))) else (spec_loLoops.l2 k x0 x1 x2 x7 x8 x10 0 x20 x21)) else ((spec_loIndex.f k x130000 x130001 x130002 x130003 x130004 x130005 x130006).bind fun t132 => (if 0 ≤ t132 then (if t132 < (x7.length : Int) then ((spec_woStep.f k x130000 x130001 x130002 x130003 x130004 x130005 x130006).bind fun bt134 => (spec_loLoops.l1 k x0 x1 x2 (x7.set (t132 : Int).toNat true) x8 (wrap64 (x10 + 1)) x20 x21 bt134.1 bt134.2.1 bt134.2.2.1 bt134.2.2.2.1 bt134.2.2.2.2.1 bt134.2.2.2.2.2.1 bt134.2.2.2.2.2.2)) else (none)) else (none)))) else (none)) else (none))
def spec_loLoops.l2 : Nat → ByteArray → Int → Int → List Bool → List (Int × Int) → Int → Int → Int → Int → Option (List (Int × Int))
  | 0, _, _, _, _, _, _, _, _, _ => none
  | k + 1, x0, x1, x2, x7, x8, x10, x12, x20, x21 => if x12 < (x8.length : Int) then (if 0 ≤ x12 then (if (spec_loLoops.rdP x8 x12).1 < x10 then (spec_loLoops.l2 k x0 x1 x2 x7 x8 x10 (wrap64 (x12 + 1)) x20 x21) else (if (spec_loLoops.rdP x8 x12).1 = x10 then (spec_loLoops.l0 k x0 x1 x2 x7 (x8.set x12.toNat ((spec_loLoops.rdP x8 x12).1, wrap64 ((spec_loLoops.rdP x8 x12).2 + 1))) x20 (wrap64 (x21 + 1))) else (if x8.length < 1000000 then (spec_loLoops.l0 k x0 x1 x2 x7 (spec_loLoops.insP x8 x12 x10) x20 (wrap64 (x21 + 1))) else (none)))) else (none)) else (if 0 ≤ x12 then (if x12 ≤ (x8.length : Int) then (if x8.length < 1000000 then (spec_loLoops.l0 k x0 x1 x2 x7 (spec_loLoops.insP x8 x12 x10) x20 (wrap64 (x21 + 1))) else (none)) else (none)) else (none))
end
def spec_loLoops.g (k : Nat) (a0 : ByteArray) (a1 : Int) (a2 : Int) : Option (List (Int × Int)) := (spec_loMany.f k a0 a1 a2).bind fun t118 => (if 0 ≤ t118 then (if (t118 : Int).toNat ≤ 281474976710656 then ((some (List.replicate (t118 : Int).toNat false : List Bool)).bind fun y119 => (spec_loLoops.l0 k a0 a1 a2 y119 ([] : List (Int × Int)) (y119.length : Int) 0)) else (none)) else (none))
def spec_loLoops.f (k : Nat) (a0 : ByteArray) (a1 : Int) (a2 : Int) : Option (List (List Int)) := (spec_loLoops.g k a0 a1 a2).bind fun q => some (q.map spec_loLoops.rowP)
theorem spec_loLoops.mono_l : ∀ k, (∀ y0 y1 y2 y3 y4 y5 y6, LeO (spec_loLoops.l0 k y0 y1 y2 y3 y4 y5 y6) (spec_loLoops.l0 (k + 1) y0 y1 y2 y3 y4 y5 y6)) ∧ (∀ y0 y1 y2 y3 y4 y5 y6 y7 y8 y9 y10 y11 y12 y13 y14, LeO (spec_loLoops.l1 k y0 y1 y2 y3 y4 y5 y6 y7 y8 y9 y10 y11 y12 y13 y14) (spec_loLoops.l1 (k + 1) y0 y1 y2 y3 y4 y5 y6 y7 y8 y9 y10 y11 y12 y13 y14)) ∧ (∀ y0 y1 y2 y3 y4 y5 y6 y7 y8, LeO (spec_loLoops.l2 k y0 y1 y2 y3 y4 y5 y6 y7 y8) (spec_loLoops.l2 (k + 1) y0 y1 y2 y3 y4 y5 y6 y7 y8))
  | 0 => ⟨fun _ _ _ _ _ _ _ r h => by simp [spec_loLoops.l0] at h, fun _ _ _ _ _ _ _ _ _ _ _ _ _ _ _ r h => by simp [spec_loLoops.l1] at h, fun _ _ _ _ _ _ _ _ _ r h => by simp [spec_loLoops.l2] at h⟩
  | k + 1 => by
    obtain ⟨ih0, ih1, ih2⟩ := spec_loLoops.mono_l k
    refine ⟨?_, ?_, ?_⟩
    · intro y0 y1 y2 y3 y4 y5 y6
      unfold spec_loLoops.l0
      repeat' first
      | (with_reducible exact ih0 _ _ _ _ _ _ _)
      | (with_reducible exact ih1 _ _ _ _ _ _ _ _ _ _ _ _ _ _ _)
      | (with_reducible exact ih2 _ _ _ _ _ _ _ _ _)
      | (with_reducible exact spec_loIndex.mono _ _ _ _ _ _ _ _)
      | (with_reducible exact spec_loMany.mono _ _ _ _)
      | (with_reducible exact spec_loWorld.mono _ _ _ _ _)
      | (with_reducible exact spec_woStep.mono _ _ _ _ _ _ _ _)
      | (with_reducible exact LeO.refl _)
      | (with_reducible exact LeO.none _)
      | (with_reducible refine LeO.ite ?_ ?_)
      | (with_reducible refine LeO.bind ?_ (fun _ => ?_))
      | exact ih0 _ _ _ _ _ _ _
      | exact ih1 _ _ _ _ _ _ _ _ _ _ _ _ _ _ _
      | exact ih2 _ _ _ _ _ _ _ _ _
      | exact spec_loIndex.mono _ _ _ _ _ _ _ _
      | exact spec_loMany.mono _ _ _ _
      | exact spec_loWorld.mono _ _ _ _ _
      | exact spec_woStep.mono _ _ _ _ _ _ _ _
      | exact LeO.none _
      | refine LeO.ite ?_ ?_
      | refine LeO.bind ?_ (fun _ => ?_)
    · intro y0 y1 y2 y3 y4 y5 y6 y7 y8 y9 y10 y11 y12 y13 y14
      unfold spec_loLoops.l1
      repeat' first
      | (with_reducible exact ih0 _ _ _ _ _ _ _)
      | (with_reducible exact ih1 _ _ _ _ _ _ _ _ _ _ _ _ _ _ _)
      | (with_reducible exact ih2 _ _ _ _ _ _ _ _ _)
      | (with_reducible exact spec_loIndex.mono _ _ _ _ _ _ _ _)
      | (with_reducible exact spec_loMany.mono _ _ _ _)
      | (with_reducible exact spec_loWorld.mono _ _ _ _ _)
      | (with_reducible exact spec_woStep.mono _ _ _ _ _ _ _ _)
      | (with_reducible exact LeO.refl _)
      | (with_reducible exact LeO.none _)
      | (with_reducible refine LeO.ite ?_ ?_)
      | (with_reducible refine LeO.bind ?_ (fun _ => ?_))
      | exact ih0 _ _ _ _ _ _ _
      | exact ih1 _ _ _ _ _ _ _ _ _ _ _ _ _ _ _
      | exact ih2 _ _ _ _ _ _ _ _ _
      | exact spec_loIndex.mono _ _ _ _ _ _ _ _
      | exact spec_loMany.mono _ _ _ _
      | exact spec_loWorld.mono _ _ _ _ _
      | exact spec_woStep.mono _ _ _ _ _ _ _ _
      | exact LeO.none _
      | refine LeO.ite ?_ ?_
      | refine LeO.bind ?_ (fun _ => ?_)
    · intro y0 y1 y2 y3 y4 y5 y6 y7 y8
      unfold spec_loLoops.l2
      repeat' first
      | (with_reducible exact ih0 _ _ _ _ _ _ _)
      | (with_reducible exact ih1 _ _ _ _ _ _ _ _ _ _ _ _ _ _ _)
      | (with_reducible exact ih2 _ _ _ _ _ _ _ _ _)
      | (with_reducible exact spec_loIndex.mono _ _ _ _ _ _ _ _)
      | (with_reducible exact spec_loMany.mono _ _ _ _)
      | (with_reducible exact spec_loWorld.mono _ _ _ _ _)
      | (with_reducible exact spec_woStep.mono _ _ _ _ _ _ _ _)
      | (with_reducible exact LeO.refl _)
      | (with_reducible exact LeO.none _)
      | (with_reducible refine LeO.ite ?_ ?_)
      | (with_reducible refine LeO.bind ?_ (fun _ => ?_))
      | exact ih0 _ _ _ _ _ _ _
      | exact ih1 _ _ _ _ _ _ _ _ _ _ _ _ _ _ _
      | exact ih2 _ _ _ _ _ _ _ _ _
      | exact spec_loIndex.mono _ _ _ _ _ _ _ _
      | exact spec_loMany.mono _ _ _ _
      | exact spec_loWorld.mono _ _ _ _ _
      | exact spec_woStep.mono _ _ _ _ _ _ _ _
      | exact LeO.none _
      | refine LeO.ite ?_ ?_
      | refine LeO.bind ?_ (fun _ => ?_)
theorem spec_loLoops.mono_g : ∀ a0 a1 a2 k, LeO (spec_loLoops.g k a0 a1 a2) (spec_loLoops.g (k + 1) a0 a1 a2) := by
  intro a0 a1 a2 k
  obtain ⟨ih0, ih1, ih2⟩ := spec_loLoops.mono_l k
  unfold spec_loLoops.g
  repeat' first
      | (with_reducible exact ih0 _ _ _ _ _ _ _)
      | (with_reducible exact ih1 _ _ _ _ _ _ _ _ _ _ _ _ _ _ _)
      | (with_reducible exact ih2 _ _ _ _ _ _ _ _ _)
      | (with_reducible exact spec_loIndex.mono _ _ _ _ _ _ _ _)
      | (with_reducible exact spec_loMany.mono _ _ _ _)
      | (with_reducible exact spec_loWorld.mono _ _ _ _ _)
      | (with_reducible exact spec_woStep.mono _ _ _ _ _ _ _ _)
      | (with_reducible exact LeO.refl _)
      | (with_reducible exact LeO.none _)
      | (with_reducible refine LeO.ite ?_ ?_)
      | (with_reducible refine LeO.bind ?_ (fun _ => ?_))
      | exact ih0 _ _ _ _ _ _ _
      | exact ih1 _ _ _ _ _ _ _ _ _ _ _ _ _ _ _
      | exact ih2 _ _ _ _ _ _ _ _ _
      | exact spec_loIndex.mono _ _ _ _ _ _ _ _
      | exact spec_loMany.mono _ _ _ _
      | exact spec_loWorld.mono _ _ _ _ _
      | exact spec_woStep.mono _ _ _ _ _ _ _ _
      | exact LeO.none _
      | refine LeO.ite ?_ ?_
      | refine LeO.bind ?_ (fun _ => ?_)
theorem spec_loLoops.mono : ∀ a0 a1 a2 k, LeO (spec_loLoops.f k a0 a1 a2) (spec_loLoops.f (k + 1) a0 a1 a2) := fun a0 a1 a2 k => LeO.bind (spec_loLoops.mono_g a0 a1 a2 k) (fun _ => LeO.refl _)
set_option maxHeartbeats 8000000 in
set_option maxRecDepth 100000 in
theorem spec_loLoops.calls0 (k : Nat) (a0 : ByteArray) (a1 : Int) (a2 : Int) (r : List (Int × Int)) (w : World) (h : spec_loLoops.g k a0 a1 a2 = some r) :
    Calls Tryd.prog 16 #[.string a0, .int .i64 a1, .int .i64 a2] w fun e w' => ∃ v0_ : Value, e = .returned (v0_) ∧ (∃ bs, Kd.R spec_loLoops.kB 31 w' w.heap.size (fun _ => True) v0_ bs ∧ spec_loLoops.RW w' w.heap.size bs r) ∧ Below w.heap.size w w' := by
  have hu41 := Tryd.underlying41
  have HB := Aside0.mk (Below.refl w.heap.size w)
  have H : ((spec_loMany.f k a0 a1 a2).bind fun t118 => (if 0 ≤ t118 then (if (t118 : Int).toNat ≤ 281474976710656 then ((some (List.replicate (t118 : Int).toNat false : List Bool)).bind fun y119 => (spec_loLoops.l0 k a0 a1 a2 y119 ([] : List (Int × Int)) (y119.length : Int) 0)) else (none)) else (none))) = some r := h
  clear h
  replace H := Option.bind_eq_some_iff.mp H
  obtain ⟨t118, A40, H⟩ := H
  replace H : (if 0 ≤ t118 then (if (t118 : Int).toNat ≤ 281474976710656 then ((some (List.replicate (t118 : Int).toNat false : List Bool)).bind fun y119 => (spec_loLoops.l0 k a0 a1 a2 y119 ([] : List (Int × Int)) (y119.length : Int) 0)) else (none)) else (none)) = some r := H
  have A4 := Aside0.mk A40
  clear A40
  by_cases c5 : 0 ≤ t118
  · rw [if_pos c5] at H
    have c5b0 := eq_true c5
    have c5b1 : decide (0 ≤ t118) = true := decide_eq_true c5
    clear c5
    by_cases c6 : (t118 : Int).toNat ≤ 281474976710656
    · rw [if_pos c6] at H
      have c6b0 := eq_true c6
      have c6b1 : decide ((t118 : Int).toNat ≤ 281474976710656) = true := decide_eq_true c6
      clear c6
      obtain ⟨y119, hy119⟩ : ∃ y_ : List Bool, y_ = (List.replicate (t118 : Int).toNat false) := ⟨_, rfl⟩
      replace H : (spec_loLoops.l0 k a0 a1 a2 y119 ([] : List (Int × Int)) (y119.length : Int) 0) = some r := by first | (rw [hy119]; with_reducible exact H) | (have H2_ := (Option.bind_some _ _).symm.trans H; rw [hy119]; with_reducible exact H2_) | (have H2_ := (Option.bind_some _ _).symm.trans H; with_reducible exact H2_) | with_reducible exact H | (rw [hy119]; exact H) | exact H
      have Ny119 := Aside0.mk hy119
      clear hy119
      have H' := Aside0.mk H
      clear H
      go_enter Tryd.func16, Tryd.ntmps16
      go_wp2_with (first | ((with_reducible refine gate_callee (f := 23) rfl ?_); refine goesL_ (some 17) rfl rfl Tryd.func23 (by kernel_rfl) rfl #[.string a0, .int .i64 a1, .int .i64 a2] rfl (by (try simp only [List.map_toArray, List.map_cons, List.map_nil]); first | done | rfl | (simp only [List.length_drop, List.length_take]; rfl)) ?_; (with_reducible refine (spec_loMany.calls k a0 a1 a2 t118 _ A4.out).mono ?_); rintro e w' ⟨rfl, ⟨nd, rfl⟩⟩; refine ⟨_, rfl, ?_⟩) | ((with_reducible refine gate_dst (N := 18) rfl ?_); refine Kd.R_make Kd.bool _ 4 rfl (N := 18) rfl 39 _ _ rfl t118 rfl rfl Tryd.underlying39 (.bool false) 1 info4 rfl (by decide) (by omega) false (ok := fun _ => True) (okp := fun _ => True) rfl (fun _ hk => hk) trivial (of_decide_eq_true (by first | (with_reducible assumption) | assumption)) (Nat.le_trans (Nat.mul_le_mul_right _ (of_decide_eq_true (by first | (with_reducible assumption) | assumption) : t118.toNat ≤ 281474976710656)) (by omega)) (Below.refl _ _) (Nat.le_refl _) ?_; intro v120 w7 ho8 hb hg_ hnew_; clear hg_ hnew_; (first | rw [← Ny119.out] at ho8 | (simp only [Int.reduceToNat] at ho8; rw [← Ny119.out] at ho8)); have n0_ := Aside0.mk (Kd.R_lower ho8 (below_size (by repeat (first | (with_reducible first | exact HB.out | apply below_alloc | apply pw_below_drewN | apply below_drew1) | exact HB.out)))); have n1_ := Aside0.mk (below_step (by repeat (first | (with_reducible first | exact HB.out | apply below_alloc | apply pw_below_drewN | apply below_drew1) | exact HB.out)) hb); clear HB; have HO121 := n0_; have HB := n1_; clear n0_ n1_; clear hb ho8; obtain ⟨Ao9, co9, eo9⟩ := Kd.R_slice HO121.out; subst eo9))
      go_loopg [8, 21] k (fun kq v8 v21 w' => ∃ (x7_1 : List Bool) (x8_1 : List Nat) (L_1 : List (Int × Int)) (x21_1 : Int), v21 = .int .i64 x21_1 ∧ Aside0 (spec_loLoops.l0 kq a0 a1 a2 x7_1 L_1 (y119.length : Int) x21_1 = some r) ∧ Aside0 (kq ≤ k) ∧ Aside0 (Kd.R Kd.bool 4 w' w.heap.size (fun _ => True) (.slice Ao9 y119.length co9) x7_1) ∧ Aside0 (Kd.R spec_loLoops.kB 31 w' w.heap.size (fun _ => True) v8 x8_1) ∧ Aside0 (spec_loLoops.RW w' w.heap.size x8_1 L_1) ∧ Aside0 (Below w.heap.size w w'))
      case atStart => exact ⟨(y119), ([] : List Nat), ([] : List (Int × Int)), (0), (by first | rfl | (simp; done) | (simp [*]; done)), H', ⟨Nat.le_refl _⟩, ⟨by (with_reducible repeat (first | apply Kd.R_alloc | apply Kd.R_drewN | apply Kd.R_drew)); exact HO121.out⟩, ⟨by first | exact Kd.R_nil _ _ _ _ _ | exact Kd.N_nil _ _ _ _ _ | exact Kd.V_nil _ _ _ _ _ | exact Kd.Q_nil _ _ _ _ _ | exact Kd.S_nil _ _ _ _ _⟩, ⟨spec_loLoops.RW.nil _ _⟩, ⟨by repeat (first | (with_reducible first | exact HB.out | apply below_alloc | apply pw_below_drewN | apply below_drew1) | exact HB.out)⟩⟩
      case round =>
        clear H'
        try clear c1
        try clear c2
        try clear p2
        try clear c5
        try clear c5b0
        try clear c5b1
        try clear c6
        try clear c6b0
        try clear c6b1
        obtain ⟨x7_1, x8_1, L_1, x21_1, rfl, HA, HK1, HO_7, HO_8, HW, HB⟩ := hrel
        have hl7_1 := (Kd.R_reads' HO_7.out).1
        rw [hl7_1] at HO_7
        (try simp only [hl7_1])
        (try simp only [hl7_1] at HO_8)
        cases gk with
        | zero => exact absurd HA.out (by simp [spec_loLoops.l0])
        | succ k1 =>
          have H := HA.out
          clear HA
          simp only [spec_loLoops.l0] at H
          by_cases c10 : x21_1 < (y119.length : Int)
          · rw [if_pos c10] at H
            have c10b0 : decide (x21_1 < (y119.length : Int)) = true := decide_eq_true c10
            (try (first | rw [hl7_1] at c10b0 | rw [hl7_2] at c10b0))
            clear c10
            replace H := Option.bind_eq_some_iff.mp H
            obtain ⟨⟨t122, t123, t124, t125, t126, t127, t128⟩, A110, H⟩ := H
            replace H : (spec_loLoops.l1 k1 a0 a1 a2 x7_1 L_1 0 (y119.length : Int) x21_1 t122 t123 t124 t125 t126 t127 t128) = some r := H
            have A11 := Aside0.mk A110
            clear A110
            have H' := Aside0.mk H
            clear H
            go_wp2_with (first | ((with_reducible refine gate_callee (f := 24) rfl ?_); refine goesL_ (some 28) rfl rfl Tryd.func24 (by kernel_rfl) rfl #[.string a0, .int .i64 a1, .int .i64 a2, .int .i64 x21_1] rfl (by (try simp only [List.map_toArray, List.map_cons, List.map_nil]); first | done | rfl | (simp only [List.length_drop, List.length_take]; rfl)) ?_; (with_reducible refine (spec_loWorld.calls k1 a0 a1 a2 x21_1 t122 t123 t124 t125 t126 t127 t128 _ A11.out).mono ?_); rintro e w12 ⟨rfl, hb⟩; refine ⟨_, rfl, ?_⟩; have n0_ := Aside0.mk (Kd.R_below (by (with_reducible repeat (first | apply Kd.R_alloc | apply Kd.R_drewN | apply Kd.R_drew)); exact HO_7.out) hb); have n1_ := Aside0.mk (Kd.R_below (by (with_reducible repeat (first | apply Kd.R_alloc | apply Kd.R_drewN | apply Kd.R_drew)); exact HO_8.out) hb); have n2_ := Aside0.mk (below_step (by repeat (first | (with_reducible first | exact HB.out | apply below_alloc | apply pw_below_drewN | apply below_drew1) | exact HB.out)) hb); have hW_ := Aside0.mk (spec_loLoops.RW.below HW.out hb); clear HW; have HW := hW_; clear hW_; clear HO_7; clear HO_8; clear HB; have HO_7 := n0_; have HO_8 := n1_; have HB := n2_; clear n0_ n1_ n2_; (try clear hb); (try clear hb2); (try clear hk); (try clear hi)) | ((with_reducible refine gate_dst (N := 11) rfl ?_); refine box_event ?hg (N := 11) ?hd (cs := #[.string (⟨#[]⟩ : ByteArray), .int .i64 0, .int .i64 0, .string (⟨#[]⟩ : ByteArray), .int .i64 0, .int .i64 0, .int .i64 0]) (t := 41) ?hr ?_; (case hd => rfl); (case hg => rfl); (case hr => first | (go_simp; done) | (go_simp; rfl)); intro gb129 hg w13 hbox hb; have n0_ := Aside0.mk (Kd.R_below (by (with_reducible repeat (first | apply Kd.R_alloc | apply Kd.R_drewN | apply Kd.R_drew)); exact HO_7.out) hb); have n1_ := Aside0.mk (Kd.R_below (by (with_reducible repeat (first | apply Kd.R_alloc | apply Kd.R_drewN | apply Kd.R_drew)); exact HO_8.out) hb); have n2_ := Aside0.mk (below_step (by repeat (first | (with_reducible first | exact HB.out | apply below_alloc | apply pw_below_drewN | apply below_drew1) | exact HB.out)) hb); have n3_ := Aside0.mk (hbox); have n4_ := Aside0.mk ((by rw [hg]; exact (below_size (by repeat (first | (with_reducible first | exact HB.out | apply below_alloc | apply pw_below_drewN | apply below_drew1) | exact HB.out))) : w.heap.size ≤ gb129)); have n5_ := Aside0.mk ((by rw [hg]; exact (below_size (by repeat (first | (with_reducible first | exact HB.out | apply below_alloc | apply pw_below_drewN | apply below_drew1) | exact HB.out))) : w.heap.size ≤ gb129)); have hW_ := Aside0.mk (spec_loLoops.RW.below HW.out hb); clear HW; have HW := hW_; clear hW_; clear HO_7; clear HO_8; clear HB; have HO_7 := n0_; have HO_8 := n1_; have HB := n2_; have BK129 := n3_; have GW129 := n4_; have GE129 := n5_; clear n0_ n1_ n2_ n3_ n4_ n5_; clear hb hbox hg; have hcz14_0 : w13.cell? ⟨gb129, 0, none⟩ = some (.string (⟨#[]⟩ : ByteArray)) := (blk_cell BK129.out 0).trans rfl; have hcz14_1 : w13.cell? ⟨gb129, 1, none⟩ = some (.int .i64 0) := (blk_cell BK129.out 1).trans rfl; have hcz14_2 : w13.cell? ⟨gb129, 2, none⟩ = some (.int .i64 0) := (blk_cell BK129.out 2).trans rfl; have hcz14_3 : w13.cell? ⟨gb129, 3, none⟩ = some (.string (⟨#[]⟩ : ByteArray)) := (blk_cell BK129.out 3).trans rfl; have hcz14_4 : w13.cell? ⟨gb129, 4, none⟩ = some (.int .i64 0) := (blk_cell BK129.out 4).trans rfl; have hcz14_5 : w13.cell? ⟨gb129, 5, none⟩ = some (.int .i64 0) := (blk_cell BK129.out 5).trans rfl; have hcz14_6 : w13.cell? ⟨gb129, 6, none⟩ = some (.int .i64 0) := (blk_cell BK129.out 6).trans rfl; have hfz14_0 := blk_frozen BK129.out 0; have hfz14_1 := blk_frozen BK129.out 1; have hfz14_2 := blk_frozen BK129.out 2; have hfz14_3 := blk_frozen BK129.out 3; have hfz14_4 := blk_frozen BK129.out 4; have hfz14_5 := blk_frozen BK129.out 5; have hfz14_6 := blk_frozen BK129.out 6))
            go_loopg [10] k1 (fun kq v10 w' => ∃ (x7_2 : List Bool) (x10_2 : Int) (x130000_2 : ByteArray) (x130001_2 : Int) (x130002_2 : Int) (x130003_2 : ByteArray) (x130004_2 : Int) (x130005_2 : Int) (x130006_2 : Int), v10 = .int .i64 x10_2 ∧ Aside0 (spec_loLoops.l1 kq a0 a1 a2 x7_2 L_1 x10_2 (y119.length : Int) x21_1 x130000_2 x130001_2 x130002_2 x130003_2 x130004_2 x130005_2 x130006_2 = some r) ∧ Aside0 (kq ≤ k1) ∧ Aside0 (Kd.R Kd.bool 4 w' w.heap.size (fun _ => True) (.slice Ao9 x7_1.length co9) x7_2) ∧ Aside0 (Kd.R spec_loLoops.kB 31 w' w.heap.size (fun _ => True) u8 x8_1) ∧ Aside0 (spec_loLoops.RW w' w.heap.size x8_1 L_1) ∧ Aside0 (w'.heap[gb129]? = some (.cells #[.string x130000_2, .int .i64 x130001_2, .int .i64 x130002_2, .string x130003_2, .int .i64 x130004_2, .int .i64 x130005_2, .int .i64 x130006_2] 41 (0, 0))) ∧ Aside0 (Below w.heap.size w w'))
            case atStart => exact ⟨(x7_1), (0), (t122), (t123), (t124), (t125), (t126), (t127), (t128), (by first | rfl | (simp; done) | (simp [*]; done)), H', ⟨Nat.le_refl _⟩, ⟨by (try simp only [hl7_1]); (with_reducible repeat (first | apply Kd.R_alloc | apply Kd.R_drewN | apply Kd.R_drew)); exact Kd.R_mono (Kd.R_far (p := ⟨gb129, 6, none⟩) (Kd.R_far (p := ⟨gb129, 5, none⟩) (Kd.R_far (p := ⟨gb129, 4, none⟩) (Kd.R_far (p := ⟨gb129, 3, none⟩) (Kd.R_far (p := ⟨gb129, 2, none⟩) (Kd.R_far (p := ⟨gb129, 1, none⟩) (Kd.R_far (p := ⟨gb129, 0, none⟩) (Kd.R_types HO_7.out BK129.out (by decide)) (fun _ hk => hk.2) (.string t122)) (fun _ hk => hk.2) (.int .i64 t123)) (fun _ hk => hk.2) (.int .i64 t124)) (fun _ hk => hk.2) (.string t125)) (fun _ hk => hk.2) (.int .i64 t126)) (fun _ hk => hk.2) (.int .i64 t127)) (fun _ hk => hk.2) (.int .i64 t128)) (fun _ hk => trivial)⟩, ⟨by (try simp only [hl7_1]); (with_reducible repeat (first | apply Kd.R_alloc | apply Kd.R_drewN | apply Kd.R_drew)); exact Kd.R_mono (Kd.R_far (p := ⟨gb129, 6, none⟩) (Kd.R_far (p := ⟨gb129, 5, none⟩) (Kd.R_far (p := ⟨gb129, 4, none⟩) (Kd.R_far (p := ⟨gb129, 3, none⟩) (Kd.R_far (p := ⟨gb129, 2, none⟩) (Kd.R_far (p := ⟨gb129, 1, none⟩) (Kd.R_far (p := ⟨gb129, 0, none⟩) (Kd.R_types HO_8.out BK129.out (by decide)) (fun _ hk => hk.2) (.string t122)) (fun _ hk => hk.2) (.int .i64 t123)) (fun _ hk => hk.2) (.int .i64 t124)) (fun _ hk => hk.2) (.string t125)) (fun _ hk => hk.2) (.int .i64 t126)) (fun _ hk => hk.2) (.int .i64 t127)) (fun _ hk => hk.2) (.int .i64 t128)) (fun _ hk => trivial)⟩, ⟨by (try simp only [hl7_1]); (try simp only [hl7_2]); (repeat (refine spec_loLoops.RW.far ?_ (spec_loLoops.RW.ne HW.out BK129.out (by decide)) _)); exact HW.out⟩, ⟨by (try simp only [hl7_1]); (with_reducible repeat (first | refine blk_drewN ?_ _ | refine blk_drew ?_ | refine blk_alloc ?_ _)); refine blk_put (cs := #[.string t122, .int .i64 t123, .int .i64 t124, .string t125, .int .i64 t126, .int .i64 t127, .int .i64 0]) ?_ 6 _ rfl; (with_reducible repeat (first | refine blk_drewN ?_ _ | refine blk_drew ?_ | refine blk_alloc ?_ _)); refine blk_put (cs := #[.string t122, .int .i64 t123, .int .i64 t124, .string t125, .int .i64 t126, .int .i64 0, .int .i64 0]) ?_ 5 _ rfl; (with_reducible repeat (first | refine blk_drewN ?_ _ | refine blk_drew ?_ | refine blk_alloc ?_ _)); refine blk_put (cs := #[.string t122, .int .i64 t123, .int .i64 t124, .string t125, .int .i64 0, .int .i64 0, .int .i64 0]) ?_ 4 _ rfl; (with_reducible repeat (first | refine blk_drewN ?_ _ | refine blk_drew ?_ | refine blk_alloc ?_ _)); refine blk_put (cs := #[.string t122, .int .i64 t123, .int .i64 t124, .string (⟨#[]⟩ : ByteArray), .int .i64 0, .int .i64 0, .int .i64 0]) ?_ 3 _ rfl; (with_reducible repeat (first | refine blk_drewN ?_ _ | refine blk_drew ?_ | refine blk_alloc ?_ _)); refine blk_put (cs := #[.string t122, .int .i64 t123, .int .i64 0, .string (⟨#[]⟩ : ByteArray), .int .i64 0, .int .i64 0, .int .i64 0]) ?_ 2 _ rfl; (with_reducible repeat (first | refine blk_drewN ?_ _ | refine blk_drew ?_ | refine blk_alloc ?_ _)); refine blk_put (cs := #[.string t122, .int .i64 0, .int .i64 0, .string (⟨#[]⟩ : ByteArray), .int .i64 0, .int .i64 0, .int .i64 0]) ?_ 1 _ rfl; (with_reducible repeat (first | refine blk_drewN ?_ _ | refine blk_drew ?_ | refine blk_alloc ?_ _)); refine blk_put (cs := #[.string (⟨#[]⟩ : ByteArray), .int .i64 0, .int .i64 0, .string (⟨#[]⟩ : ByteArray), .int .i64 0, .int .i64 0, .int .i64 0]) ?_ 0 _ rfl; (with_reducible repeat (first | refine blk_drewN ?_ _ | refine blk_drew ?_ | refine blk_alloc ?_ _)); exact BK129.out⟩, ⟨by repeat (first | (with_reducible first | exact HB.out | apply below_alloc | apply pw_below_drewN | apply below_drew1 | refine below_set ?_ GE129.out) | exact HB.out)⟩⟩
            case round =>
              clear H'
              try clear c1
              try clear c2
              try clear p2
              try clear c5
              try clear c5b0
              try clear c5b1
              try clear c6
              try clear c6b0
              try clear c6b1
              try clear c10
              try clear c10b0
              try clear hcz14_0
              try clear hcz14_1
              try clear hcz14_2
              try clear hcz14_3
              try clear hcz14_4
              try clear hcz14_5
              try clear hcz14_6
              try clear hfz14_0
              try clear hfz14_1
              try clear hfz14_2
              try clear hfz14_3
              try clear hfz14_4
              try clear hfz14_5
              try clear hfz14_6
              try clear p2
              obtain ⟨x7_2, x10_2, x130000_2, x130001_2, x130002_2, x130003_2, x130004_2, x130005_2, x130006_2, rfl, HA, HK2, HO_7, HO_8, HW, BK129, HB⟩ := hrel
              have hl7_2 := (Kd.R_reads' HO_7.out).1
              rw [hl7_2] at HO_7
              (try simp only [hl7_2])
              (try simp only [hl7_2] at BK129)
              (try simp only [hl7_2] at HO_8)
              cases gk with
              | zero => exact absurd HA.out (by simp [spec_loLoops.l1])
              | succ k2 =>
                have H := HA.out
                clear HA
                simp only [spec_loLoops.l1] at H
                replace H := Option.bind_eq_some_iff.mp H
                obtain ⟨t130, A150, H⟩ := H
                replace H : (if 0 ≤ t130 then (if t130 < (x7_2.length : Int) then (if rdOf false x7_2 t130 = true then (if x10_2 = 0 then (spec_loLoops.l0 k2 a0 a1 a2 x7_2 L_1 (y119.length : Int) (wrap64 (x21_1 + 1))) else (spec_loLoops.l2 k2 a0 a1 a2 x7_2 L_1 x10_2 0 (y119.length : Int) x21_1)) else ((spec_loIndex.f k2 x130000_2 x130001_2 x130002_2 x130003_2 x130004_2 x130005_2 x130006_2).bind fun t132 => (if 0 ≤ t132 then (if t132 < (x7_2.length : Int) then ((spec_woStep.f k2 x130000_2 x130001_2 x130002_2 x130003_2 x130004_2 x130005_2 x130006_2).bind fun bt134 => (spec_loLoops.l1 k2 a0 a1 a2 (x7_2.set (t132 : Int).toNat true) L_1 (wrap64 (x10_2 + 1)) (y119.length : Int) x21_1 bt134.1 bt134.2.1 bt134.2.2.1 bt134.2.2.2.1 bt134.2.2.2.2.1 bt134.2.2.2.2.2.1 bt134.2.2.2.2.2.2)) else (none)) else (none)))) else (none)) else (none)) = some r := H
                have A15 := Aside0.mk A150
                clear A150
                by_cases c16 : 0 ≤ t130
                · rw [if_pos c16] at H
                  have c16b0 : decide (0 ≤ t130) = true := decide_eq_true c16
                  clear c16
                  by_cases c17 : t130 < (x7_2.length : Int)
                  · rw [if_pos c17] at H
                    have c17b0 : decide (t130 < (x7_2.length : Int)) = true := decide_eq_true c17
                    (try (first | rw [hl7_1] at c17b0 | rw [hl7_2] at c17b0))
                    clear c17
                    obtain ⟨bq18, hbq18⟩ : ∃ b_ : Bool, b_ = (rdOf false x7_2 t130) := ⟨_, rfl⟩
                    replace H : (if bq18 = true then (if x10_2 = 0 then (spec_loLoops.l0 k2 a0 a1 a2 x7_2 L_1 (y119.length : Int) (wrap64 (x21_1 + 1))) else (spec_loLoops.l2 k2 a0 a1 a2 x7_2 L_1 x10_2 0 (y119.length : Int) x21_1)) else ((spec_loIndex.f k2 x130000_2 x130001_2 x130002_2 x130003_2 x130004_2 x130005_2 x130006_2).bind fun t132 => (if 0 ≤ t132 then (if t132 < (x7_2.length : Int) then ((spec_woStep.f k2 x130000_2 x130001_2 x130002_2 x130003_2 x130004_2 x130005_2 x130006_2).bind fun bt134 => (spec_loLoops.l1 k2 a0 a1 a2 (x7_2.set (t132 : Int).toNat true) L_1 (wrap64 (x10_2 + 1)) (y119.length : Int) x21_1 bt134.1 bt134.2.1 bt134.2.2.1 bt134.2.2.2.1 bt134.2.2.2.2.1 bt134.2.2.2.2.2.1 bt134.2.2.2.2.2.2)) else (none)) else (none)))) = some r := by rw [← hbq18] at H; exact H
                    have Nbq18 := Aside0.mk hbq18
                    clear hbq18
                    by_cases c19 : bq18 = true
                    · subst c19
                      have H1 : (if x10_2 = 0 then (spec_loLoops.l0 k2 a0 a1 a2 x7_2 L_1 (y119.length : Int) (wrap64 (x21_1 + 1))) else (spec_loLoops.l2 k2 a0 a1 a2 x7_2 L_1 x10_2 0 (y119.length : Int) x21_1)) = some r := by rw [if_pos rfl] at H; exact H
                      clear H
                      have H := H1
                      clear H1
                      by_cases c20 : x10_2 = 0
                      · rw [if_pos c20] at H
                        have c20b0 : (x10_2 == 0) = true := beq_iff_eq.mpr c20
                        have c20b1 : (x10_2 != 0) = false := bne_eq_false_iff_eq.mpr c20
                        clear c20
                        have H' := Aside0.mk H
                        clear H
                        have hcz21_0 : wr.cell? ⟨gb129, 0, none⟩ = some (.string x130000_2) := (blk_cell BK129.out 0).trans rfl
                        have hcz21_1 : wr.cell? ⟨gb129, 1, none⟩ = some (.int .i64 x130001_2) := (blk_cell BK129.out 1).trans rfl
                        have hcz21_2 : wr.cell? ⟨gb129, 2, none⟩ = some (.int .i64 x130002_2) := (blk_cell BK129.out 2).trans rfl
                        have hcz21_3 : wr.cell? ⟨gb129, 3, none⟩ = some (.string x130003_2) := (blk_cell BK129.out 3).trans rfl
                        have hcz21_4 : wr.cell? ⟨gb129, 4, none⟩ = some (.int .i64 x130004_2) := (blk_cell BK129.out 4).trans rfl
                        have hcz21_5 : wr.cell? ⟨gb129, 5, none⟩ = some (.int .i64 x130005_2) := (blk_cell BK129.out 5).trans rfl
                        have hcz21_6 : wr.cell? ⟨gb129, 6, none⟩ = some (.int .i64 x130006_2) := (blk_cell BK129.out 6).trans rfl
                        have hfz21_0 := blk_frozen BK129.out 0
                        have hfz21_1 := blk_frozen BK129.out 1
                        have hfz21_2 := blk_frozen BK129.out 2
                        have hfz21_3 := blk_frozen BK129.out 3
                        have hfz21_4 := blk_frozen BK129.out 4
                        have hfz21_5 := blk_frozen BK129.out 5
                        have hfz21_6 := blk_frozen BK129.out 6
                        go_wp2_with (first | ((with_reducible refine gate_callee (f := 25) rfl ?_); refine goesL_ (some 31) rfl rfl Tryd.func25 (by kernel_rfl) rfl #[.agg #[.string x130000_2, .int .i64 x130001_2, .int .i64 x130002_2, .string x130003_2, .int .i64 x130004_2, .int .i64 x130005_2, .int .i64 x130006_2]] rfl (by (try simp only [List.map_toArray, List.map_cons, List.map_nil]); first | done | rfl | (simp only [List.length_drop, List.length_take]; rfl)) ?_; (with_reducible refine (spec_loIndex.calls k2 x130000_2 x130001_2 x130002_2 x130003_2 x130004_2 x130005_2 x130006_2 t130 _ A15.out).mono ?_); rintro e w22 ⟨rfl, hb⟩; refine ⟨_, rfl, ?_⟩; have n0_ := Aside0.mk (Kd.R_below (by (with_reducible repeat (first | apply Kd.R_alloc | apply Kd.R_drewN | apply Kd.R_drew)); exact HO_7.out) hb); have n1_ := Aside0.mk (Kd.R_below (by (with_reducible repeat (first | apply Kd.R_alloc | apply Kd.R_drewN | apply Kd.R_drew)); exact HO_8.out) hb); have n2_ := Aside0.mk (blk_below (g := gb129) (o := .cells #[.string x130000_2, .int .i64 x130001_2, .int .i64 x130002_2, .string x130003_2, .int .i64 x130004_2, .int .i64 x130005_2, .int .i64 x130006_2] 41 (0, 0)) (by (with_reducible repeat (first | refine blk_drewN ?_ _ | refine blk_drew ?_ | refine blk_alloc ?_ _)); exact BK129.out) hb); have n3_ := Aside0.mk (below_step (by repeat (first | (with_reducible first | exact HB.out | apply below_alloc | apply pw_below_drewN | apply below_drew1 | refine below_set ?_ GE129.out) | exact HB.out)) hb); have hW_ := Aside0.mk (spec_loLoops.RW.below HW.out hb); clear HW; have HW := hW_; clear hW_; clear HO_7; clear HO_8; clear BK129; clear HB; have HO_7 := n0_; have HO_8 := n1_; have BK129 := n2_; have HB := n3_; clear n0_ n1_ n2_ n3_; (try clear hb); (try clear hb2); (try clear hk); (try clear hi); have p131 : 0 ≤ (t130 : Int) := of_decide_eq_true (by first | (with_reducible assumption) | assumption); have q131 : t130 < (x7_2.length : Int) := of_decide_eq_true (by first | (with_reducible assumption) | assumption); obtain ⟨ad131, e131, hx131_0⟩ := Kd.at_bool (Kd.R_reads' HO_7.out).2.2 t130 p131 q131; (try rw [← Nbq18.out] at hx131_0); cases e131; replace p131 := eq_true p131; replace q131 := eq_true q131))
                        (try simp only [← hl7_1, ← hl7_2])
                        go_roundg k2
                        case measure => have := HK1.out; have := HK2.out; omega
                        case rel => exact ⟨(x7_2), (x8_1), L_1, (wrap64 (x21_1 + 1)), (by first | rfl | (simp; done) | (simp [*]; done)), H', ⟨by have := HK1.out; have := HK2.out; omega⟩, ⟨by (try simp only [hl7_1]); (try simp only [hl7_2]); (with_reducible repeat (first | apply Kd.R_alloc | apply Kd.R_drewN | apply Kd.R_drew)); exact HO_7.out⟩, ⟨by (try simp only [hl7_1]); (try simp only [hl7_2]); (with_reducible repeat (first | apply Kd.R_alloc | apply Kd.R_drewN | apply Kd.R_drew)); exact HO_8.out⟩, ⟨by (try simp only [hl7_1]); (try simp only [hl7_2]); exact HW.out⟩, ⟨by repeat (first | (with_reducible first | exact HB.out | apply below_alloc | apply pw_below_drewN | apply below_drew1 | refine below_set ?_ GE129.out) | exact HB.out)⟩⟩
                      · rw [if_neg c20] at H
                        have c20b0 : (x10_2 == 0) = false := beq_eq_false_iff_ne.mpr c20
                        have c20b1 : (x10_2 != 0) = true := bne_iff_ne.mpr c20
                        have H' := Aside0.mk H
                        clear H
                        have hcz23_0 : wr.cell? ⟨gb129, 0, none⟩ = some (.string x130000_2) := (blk_cell BK129.out 0).trans rfl
                        have hcz23_1 : wr.cell? ⟨gb129, 1, none⟩ = some (.int .i64 x130001_2) := (blk_cell BK129.out 1).trans rfl
                        have hcz23_2 : wr.cell? ⟨gb129, 2, none⟩ = some (.int .i64 x130002_2) := (blk_cell BK129.out 2).trans rfl
                        have hcz23_3 : wr.cell? ⟨gb129, 3, none⟩ = some (.string x130003_2) := (blk_cell BK129.out 3).trans rfl
                        have hcz23_4 : wr.cell? ⟨gb129, 4, none⟩ = some (.int .i64 x130004_2) := (blk_cell BK129.out 4).trans rfl
                        have hcz23_5 : wr.cell? ⟨gb129, 5, none⟩ = some (.int .i64 x130005_2) := (blk_cell BK129.out 5).trans rfl
                        have hcz23_6 : wr.cell? ⟨gb129, 6, none⟩ = some (.int .i64 x130006_2) := (blk_cell BK129.out 6).trans rfl
                        have hfz23_0 := blk_frozen BK129.out 0
                        have hfz23_1 := blk_frozen BK129.out 1
                        have hfz23_2 := blk_frozen BK129.out 2
                        have hfz23_3 := blk_frozen BK129.out 3
                        have hfz23_4 := blk_frozen BK129.out 4
                        have hfz23_5 := blk_frozen BK129.out 5
                        have hfz23_6 := blk_frozen BK129.out 6
                        go_wp2_with (first | ((with_reducible refine gate_callee (f := 25) rfl ?_); refine goesL_ (some 31) rfl rfl Tryd.func25 (by kernel_rfl) rfl #[.agg #[.string x130000_2, .int .i64 x130001_2, .int .i64 x130002_2, .string x130003_2, .int .i64 x130004_2, .int .i64 x130005_2, .int .i64 x130006_2]] rfl (by (try simp only [List.map_toArray, List.map_cons, List.map_nil]); first | done | rfl | (simp only [List.length_drop, List.length_take]; rfl)) ?_; (with_reducible refine (spec_loIndex.calls k2 x130000_2 x130001_2 x130002_2 x130003_2 x130004_2 x130005_2 x130006_2 t130 _ A15.out).mono ?_); rintro e w24 ⟨rfl, hb⟩; refine ⟨_, rfl, ?_⟩; have n0_ := Aside0.mk (Kd.R_below (by (with_reducible repeat (first | apply Kd.R_alloc | apply Kd.R_drewN | apply Kd.R_drew)); exact HO_7.out) hb); have n1_ := Aside0.mk (Kd.R_below (by (with_reducible repeat (first | apply Kd.R_alloc | apply Kd.R_drewN | apply Kd.R_drew)); exact HO_8.out) hb); have n2_ := Aside0.mk (blk_below (g := gb129) (o := .cells #[.string x130000_2, .int .i64 x130001_2, .int .i64 x130002_2, .string x130003_2, .int .i64 x130004_2, .int .i64 x130005_2, .int .i64 x130006_2] 41 (0, 0)) (by (with_reducible repeat (first | refine blk_drewN ?_ _ | refine blk_drew ?_ | refine blk_alloc ?_ _)); exact BK129.out) hb); have n3_ := Aside0.mk (below_step (by repeat (first | (with_reducible first | exact HB.out | apply below_alloc | apply pw_below_drewN | apply below_drew1 | refine below_set ?_ GE129.out) | exact HB.out)) hb); have hW_ := Aside0.mk (spec_loLoops.RW.below HW.out hb); clear HW; have HW := hW_; clear hW_; clear HO_7; clear HO_8; clear BK129; clear HB; have HO_7 := n0_; have HO_8 := n1_; have BK129 := n2_; have HB := n3_; clear n0_ n1_ n2_ n3_; (try clear hb); (try clear hb2); (try clear hk); (try clear hi); have p131 : 0 ≤ (t130 : Int) := of_decide_eq_true (by first | (with_reducible assumption) | assumption); have q131 : t130 < (x7_2.length : Int) := of_decide_eq_true (by first | (with_reducible assumption) | assumption); obtain ⟨ad131, e131, hx131_0⟩ := Kd.at_bool (Kd.R_reads' HO_7.out).2.2 t130 p131 q131; (try rw [← Nbq18.out] at hx131_0); cases e131; replace p131 := eq_true p131; replace q131 := eq_true q131))
                        go_loopg [12] k2 (fun kq v12 w' => ∃ (x12_3 : Int), v12 = .int .i64 x12_3 ∧ Aside0 (spec_loLoops.l2 kq a0 a1 a2 x7_2 L_1 x10_2 x12_3 (y119.length : Int) x21_1 = some r) ∧ Aside0 (kq ≤ k2) ∧ Aside0 (Kd.R Kd.bool 4 w' w.heap.size (fun _ => True) (.slice (some ad131) x7_2.length co9) x7_2) ∧ Aside0 (Kd.R spec_loLoops.kB 31 w' w.heap.size (fun _ => True) u8 x8_1) ∧ Aside0 (spec_loLoops.RW w' w.heap.size x8_1 L_1) ∧ Aside0 (w'.heap[gb129]? = some (.cells #[.string x130000_2, .int .i64 x130001_2, .int .i64 x130002_2, .string x130003_2, .int .i64 x130004_2, .int .i64 x130005_2, .int .i64 x130006_2] 41 (0, 0))) ∧ Aside0 (Below w.heap.size w w'))
                        case atStart => exact ⟨(0), (by first | rfl | (simp; done) | (simp [*]; done)), H', ⟨Nat.le_refl _⟩, ⟨by (try simp only [hl7_1]); (try simp only [hl7_2]); (with_reducible repeat (first | apply Kd.R_alloc | apply Kd.R_drewN | apply Kd.R_drew)); exact HO_7.out⟩, ⟨by (try simp only [hl7_1]); (try simp only [hl7_2]); (with_reducible repeat (first | apply Kd.R_alloc | apply Kd.R_drewN | apply Kd.R_drew)); exact HO_8.out⟩, ⟨by (try simp only [hl7_1]); (try simp only [hl7_2]); exact HW.out⟩, ⟨by (try simp only [hl7_1]); (try simp only [hl7_2]); (with_reducible repeat (first | refine blk_drewN ?_ _ | refine blk_drew ?_ | refine blk_alloc ?_ _)); exact BK129.out⟩, ⟨by repeat (first | (with_reducible first | exact HB.out | apply below_alloc | apply pw_below_drewN | apply below_drew1 | refine below_set ?_ GE129.out) | exact HB.out)⟩⟩
                        case round =>
                          clear H'
                          try clear c1
                          try clear p1
                          try clear q1
                          try clear hx1
                          try clear c2
                          try clear p2
                          try clear c5
                          try clear c5b0
                          try clear c5b1
                          try clear c6
                          try clear c6b0
                          try clear c6b1
                          try clear p6
                          try clear c10
                          try clear c10b0
                          try clear p13
                          try clear q13
                          try clear hx13
                          try clear c16
                          try clear c16b0
                          try clear c17
                          try clear c17b0
                          try clear q18
                          try clear c19
                          try clear c20
                          try clear c20b0
                          try clear c20b1
                          try clear c23
                          try clear c24
                          try clear hcz14_0
                          try clear hcz14_1
                          try clear hcz14_2
                          try clear hcz14_3
                          try clear hcz14_4
                          try clear hcz14_5
                          try clear hcz14_6
                          try clear hcz21_0
                          try clear hcz21_1
                          try clear hcz21_2
                          try clear hcz21_3
                          try clear hcz21_4
                          try clear hcz21_5
                          try clear hcz21_6
                          try clear hcz23_0
                          try clear hcz23_1
                          try clear hcz23_2
                          try clear hcz23_3
                          try clear hcz23_4
                          try clear hcz23_5
                          try clear hcz23_6
                          try clear hfz14_0
                          try clear hfz14_1
                          try clear hfz14_2
                          try clear hfz14_3
                          try clear hfz14_4
                          try clear hfz14_5
                          try clear hfz14_6
                          try clear hfz21_0
                          try clear hfz21_1
                          try clear hfz21_2
                          try clear hfz21_3
                          try clear hfz21_4
                          try clear hfz21_5
                          try clear hfz21_6
                          try clear hfz23_0
                          try clear hfz23_1
                          try clear hfz23_2
                          try clear hfz23_3
                          try clear hfz23_4
                          try clear hfz23_5
                          try clear hfz23_6
                          try clear hx131_0
                          try clear p131
                          try clear p2
                          try clear q131
                          obtain ⟨x12_3, rfl, HA, HK3, HO_7, HO_8, HW, BK129, HB⟩ := hrel
                          cases gk with
                          | zero => exact absurd HA.out (by simp [spec_loLoops.l2])
                          | succ k3 =>
                            have H := HA.out
                            clear HA
                            simp only [spec_loLoops.l2] at H
                            rw [← HW.out.len] at H
                            by_cases c25 : x12_3 < (x8_1.length : Int)
                            · rw [if_pos c25] at H
                              have c25b0 : decide (x12_3 < (x8_1.length : Int)) = true := decide_eq_true c25
                              (try (first | rw [hl7_1] at c25b0 | rw [hl7_2] at c25b0))
                              clear c25
                              by_cases c26 : 0 ≤ x12_3
                              · rw [if_pos c26] at H
                                have c26b0 : decide (0 ≤ x12_3) = true := decide_eq_true c26
                                clear c26
                                by_cases c27 : ((spec_loLoops.rdP L_1 x12_3).1) < x10_2
                                · rw [if_pos c27] at H
                                  have c27b0 : decide (((spec_loLoops.rdP L_1 x12_3).1) < x10_2) = true := decide_eq_true c27
                                  clear c27
                                  have H' := Aside0.mk H
                                  clear H
                                  obtain ⟨Ao28, co28, eo28⟩ := Kd.R_slice HO_8.out
                                  subst eo28
                                  have p141 : 0 ≤ (x12_3 : Int) := of_decide_eq_true (by first | (with_reducible assumption) | assumption)
                                  have q141 : x12_3 < (x8_1.length : Int) := of_decide_eq_true (by first | (with_reducible assumption) | assumption)
                                  obtain ⟨ad141, e141, hx141_0⟩ := spec_loLoops.at_B (Kd.R_reads' HO_8.out).2.2 x12_3 p141 q141
                                  obtain ⟨hB0_, hB1_, hB2_, hB3_⟩ := spec_loLoops.RW.at_ HW.out x12_3 p141 q141
                                  cases e141
                                  replace p141 := eq_true p141
                                  replace q141 := eq_true q141
                                  go_wp2
                                  go_roundg k3
                                  case measure => have := HK1.out; have := HK2.out; have := HK3.out; omega
                                  case rel => exact ⟨(wrap64 (x12_3 + 1)), (by first | rfl | (simp; done) | (simp [*]; done)), H', ⟨by have := HK1.out; have := HK2.out; have := HK3.out; omega⟩, ⟨by (try simp only [hl7_1]); (try simp only [hl7_2]); (with_reducible repeat (first | apply Kd.R_alloc | apply Kd.R_drewN | apply Kd.R_drew)); exact HO_7.out⟩, ⟨by (try simp only [hl7_1]); (try simp only [hl7_2]); (with_reducible repeat (first | apply Kd.R_alloc | apply Kd.R_drewN | apply Kd.R_drew)); exact HO_8.out⟩, ⟨by (try simp only [hl7_1]); (try simp only [hl7_2]); exact HW.out⟩, ⟨by (try simp only [hl7_1]); (try simp only [hl7_2]); (with_reducible repeat (first | refine blk_drewN ?_ _ | refine blk_drew ?_ | refine blk_alloc ?_ _)); exact BK129.out⟩, ⟨by repeat (first | (with_reducible first | exact HB.out | apply below_alloc | apply pw_below_drewN | apply below_drew1 | refine below_set ?_ GE129.out) | exact HB.out)⟩⟩
                                · rw [if_neg c27] at H
                                  have c27b0 : decide (((spec_loLoops.rdP L_1 x12_3).1) < x10_2) = false := decide_eq_false c27
                                  clear c27
                                  by_cases c29 : ((spec_loLoops.rdP L_1 x12_3).1) = x10_2
                                  · rw [if_pos c29] at H
                                    have c29b0 : (((spec_loLoops.rdP L_1 x12_3).1) == x10_2) = true := beq_iff_eq.mpr c29
                                    have c29b1 : (((spec_loLoops.rdP L_1 x12_3).1) != x10_2) = false := bne_eq_false_iff_eq.mpr c29
                                    clear c29
                                    have H' := Aside0.mk H
                                    clear H
                                    obtain ⟨Ao30, co30, eo30⟩ := Kd.R_slice HO_8.out
                                    subst eo30
                                    have p141 : 0 ≤ (x12_3 : Int) := of_decide_eq_true (by first | (with_reducible assumption) | assumption)
                                    have q141 : x12_3 < (x8_1.length : Int) := of_decide_eq_true (by first | (with_reducible assumption) | assumption)
                                    obtain ⟨ad141, e141, hx141_0⟩ := spec_loLoops.at_B (Kd.R_reads' HO_8.out).2.2 x12_3 p141 q141
                                    obtain ⟨hB0_, hB1_, hB2_, hB3_⟩ := spec_loLoops.RW.at_ HW.out x12_3 p141 q141
                                    cases e141
                                    replace p141 := eq_true p141
                                    replace q141 := eq_true q141
                                    have p142 : 0 ≤ (x12_3 : Int) := of_decide_eq_true (by first | (with_reducible assumption) | assumption)
                                    have q142 : x12_3 < (x8_1.length : Int) := of_decide_eq_true (by first | (with_reducible assumption) | assumption)
                                    obtain ⟨ad142, e142, hx142_0⟩ := spec_loLoops.at_B (Kd.R_reads' HO_8.out).2.2 x12_3 p142 q142
                                    obtain rfl : ad141 = ad142 := (by injection e142)
                                    replace p142 := eq_true p142
                                    replace q142 := eq_true q142
                                    have p143 : 0 ≤ (x12_3 : Int) := of_decide_eq_true (by first | (with_reducible assumption) | assumption)
                                    have q143 : x12_3 < (x8_1.length : Int) := of_decide_eq_true (by first | (with_reducible assumption) | assumption)
                                    obtain ⟨ad143, e143, hx143_0⟩ := spec_loLoops.at_B (Kd.R_reads' HO_8.out).2.2 x12_3 p143 q143
                                    obtain rfl : ad141 = ad143 := (by injection e143)
                                    replace p143 := eq_true p143
                                    replace q143 := eq_true q143
                                    obtain ⟨hbs_, hbk_⟩ := spec_loLoops.RW.blk HW.out x12_3 (of_decide_eq_true (by first | (with_reducible assumption) | assumption)) (of_decide_eq_true (by first | (with_reducible assumption) | assumption))
                                    have HBS := Aside0.mk hbs_
                                    have HBK := Aside0.mk hbk_
                                    have HPT := Aside0.mk (spec_loLoops.RW.put HW.out x12_3 (of_decide_eq_true (by first | (with_reducible assumption) | assumption)) (of_decide_eq_true (by first | (with_reducible assumption) | assumption)) (wrap64 ((spec_loLoops.rdP L_1 x12_3).2 + 1)))
                                    clear hbs_ hbk_
                                    go_wp2
                                    (try simp only [← hl7_1, ← hl7_2])
                                    go_roundg k3
                                    case measure => have := HK1.out; have := HK2.out; have := HK3.out; omega
                                    case rel => exact ⟨(x7_2), (x8_1), _, (wrap64 (x21_1 + 1)), (by first | rfl | (simp; done) | (simp [*]; done)), H', ⟨by have := HK1.out; have := HK2.out; have := HK3.out; omega⟩, ⟨by (try simp only [hl7_1]); (try simp only [hl7_2]); exact Kd.R_set HO_7.out HBK.out (by decide) _ _⟩, ⟨by (try simp only [hl7_1]); (try simp only [hl7_2]); exact Kd.R_set HO_8.out HBK.out (by decide) _ _⟩, ⟨by (try simp only [hl7_1]); (try simp only [hl7_2]); exact HPT.out⟩, ⟨by refine below_set ?_ HBS.out; exact HB.out⟩⟩
                                  · rw [if_neg c29] at H
                                    have c29b0 : (((spec_loLoops.rdP L_1 x12_3).1) == x10_2) = false := beq_eq_false_iff_ne.mpr c29
                                    have c29b1 : (((spec_loLoops.rdP L_1 x12_3).1) != x10_2) = true := bne_iff_ne.mpr c29
                                    by_cases c32 : x8_1.length < 1000000
                                    case neg => rw [if_neg c32] at H; exact absurd H (by simp)
                                    rw [if_pos c32] at H
                                    have HLM := Aside0.mk c32
                                    clear c32
                                    have H' := Aside0.mk H
                                    clear H
                                    have c31b0 := eq_true (of_decide_eq_true (by first | (with_reducible assumption) | assumption) : 0 ≤ x12_3)
                                    have c32 : x12_3 ≤ (x8_1.length : Int) := Int.le_of_lt (of_decide_eq_true c25b0)
                                    have c32b0 := eq_true c32
                                    have c32b1 : decide (x12_3 ≤ (x8_1.length : Int)) = true := decide_eq_true c32
                                    (try (first | rw [hl7_1] at c32b1 | rw [hl7_2] at c32b1))
                                    clear c32
                                    obtain ⟨y144, hy_⟩ : ∃ y_ : List Nat, y_ = ([] : List Nat) := ⟨_, rfl⟩
                                    have Ny144 := Aside0.mk hy_
                                    clear hy_
                                    obtain ⟨y147, hy_⟩ : ∃ y_ : List Nat, y_ = (x8_1.take (x12_3 : Int).toNat) := ⟨_, rfl⟩
                                    have Ny147 := Aside0.mk hy_
                                    clear hy_
                                    obtain ⟨y151, hy_⟩ : ∃ y_ : List Nat, y_ = (y144 ++ y147) := ⟨_, rfl⟩
                                    have Ny151 := Aside0.mk hy_
                                    clear hy_
                                    obtain ⟨y157, hy_⟩ : ∃ y_ : List Nat, y_ = (x8_1.drop (x12_3 : Int).toNat) := ⟨_, rfl⟩
                                    have Ny157 := Aside0.mk hy_
                                    clear hy_
                                    have LMc33 := Aside0.mk (show y144.length + y147.length < 3000000 by have := HLM.out; rw [Ny144.out, Ny147.out, List.length_take]; simp; omega)
                                    have LMc34 := Aside0.mk (show y151.length < 3000000 by have := LMc33.out; rw [Ny151.out, List.length_append]; omega)
                                    have LMc37 := Aside0.mk (show ∀ g_ : Nat, (y151 ++ [g_]).length + y157.length < 5000000 from fun g_ => by have := HLM.out; have := LMc34.out; rw [List.length_append, Ny157.out, List.length_drop]; simp; omega)
                                    obtain ⟨Ao38, co38, eo38⟩ := Kd.R_slice HO_8.out
                                    subst eo38
                                    have p141 : 0 ≤ (x12_3 : Int) := of_decide_eq_true (by first | (with_reducible assumption) | assumption)
                                    have q141 : x12_3 < (x8_1.length : Int) := of_decide_eq_true (by first | (with_reducible assumption) | assumption)
                                    obtain ⟨ad141, e141, hx141_0⟩ := spec_loLoops.at_B (Kd.R_reads' HO_8.out).2.2 x12_3 p141 q141
                                    obtain ⟨hB0_, hB1_, hB2_, hB3_⟩ := spec_loLoops.RW.at_ HW.out x12_3 p141 q141
                                    cases e141
                                    replace p141 := eq_true p141
                                    replace q141 := eq_true q141
                                    have p142 : 0 ≤ (x12_3 : Int) := of_decide_eq_true (by first | (with_reducible assumption) | assumption)
                                    have q142 : x12_3 < (x8_1.length : Int) := of_decide_eq_true (by first | (with_reducible assumption) | assumption)
                                    obtain ⟨ad142, e142, hx142_0⟩ := spec_loLoops.at_B (Kd.R_reads' HO_8.out).2.2 x12_3 p142 q142
                                    obtain rfl : ad141 = ad142 := (by injection e142)
                                    replace p142 := eq_true p142
                                    replace q142 := eq_true q142
                                    go_wp2_with (first | ((with_reducible refine gate_dst (N := 83) rfl ?_); refine Kd.R_lit spec_loLoops.kB _ 31 ?hg (N := 83) ?hd (xs := ([] : List Nat)) (inner := []) (ok := fun _ => True) (okp := fun _ => True) ?hr ?hp (fun _ hk => hk) trivial (Below.refl _ _) (Nat.le_refl _) (by simp) ?_; (case hd => rfl); (case hg => rfl); (case hr => first | (go_simp; done) | (go_simp; rfl)); (case hp => exact (Reps.none _ _)); intro v145 w39 ho40 hb hg_ hnew_; clear hg_ hnew_; (first | rw [← Ny144.out] at ho40 | (simp only [Int.reduceToNat] at ho40; rw [← Ny144.out] at ho40)); have n0_ := Aside0.mk (Kd.R_below (by (with_reducible repeat (first | apply Kd.R_alloc | apply Kd.R_drewN | apply Kd.R_drew)); exact HO_7.out) hb); have n1_ := Aside0.mk (Kd.R_elder' (by (with_reducible repeat (first | apply Kd.R_alloc | apply Kd.R_drewN | apply Kd.R_drew)); exact HO_8.out) (Kd.R_base ho40) hb); have n2_ := Aside0.mk (Kd.R_lower (Kd.R_new' ho40 (Kd.R_lt (by (with_reducible repeat (first | apply Kd.R_alloc | apply Kd.R_drewN | apply Kd.R_drew)); exact HO_8.out))) (below_size (by repeat (first | (with_reducible first | exact HB.out | apply below_alloc | apply pw_below_drewN | apply below_drew1 | refine below_set ?_ GE129.out) | exact HB.out)))); have n3_ := Aside0.mk (blk_below (g := gb129) (o := .cells #[.string x130000_2, .int .i64 x130001_2, .int .i64 x130002_2, .string x130003_2, .int .i64 x130004_2, .int .i64 x130005_2, .int .i64 x130006_2] 41 (0, 0)) (by (with_reducible repeat (first | refine blk_drewN ?_ _ | refine blk_drew ?_ | refine blk_alloc ?_ _)); exact BK129.out) hb); have n4_ := Aside0.mk (below_step (by repeat (first | (with_reducible first | exact HB.out | apply below_alloc | apply pw_below_drewN | apply below_drew1 | refine below_set ?_ GE129.out) | exact HB.out)) hb); have hW_ := Aside0.mk (spec_loLoops.RW.below HW.out hb); clear HW; have HW := hW_; clear hW_; clear HO_7; clear HO_8; clear BK129; clear HB; have HO_7 := n0_; have HO_8 := n1_; have HO146 := n2_; have BK129 := n3_; have HB := n4_; clear n0_ n1_ n2_ n3_ n4_; clear hb ho40; have q41 : (x12_3 : Int) ≤ ((x8_1.length : Int) : Int) := of_decide_eq_true (by first | (with_reducible assumption) | assumption); obtain ⟨i041, hi041, _, hsz41, _⟩ := info_parts info31; have hroom41 : x8_1.length ≤ co38 := (Kd.R_reads' HO_8.out).2.1; have hC41 : Kd.C spec_loLoops.kB _ (some ad141) x8_1.length x8_1 := (Kd.R_reads' HO_8.out).2.2; have hcut41 := cut_to (P := Tryd.prog) 25 31 .i64 Tryd.underlying25 hi041 (some ad141) x8_1.length co38 x12_3 (of_decide_eq_true (by first | (with_reducible assumption) | assumption)) q41 hroom41; have hr41 := Kd.C_take (m := (x12_3 : Int).toNat) hC41 (by omega); have hy41 : y147.length = (x12_3 : Int).toNat := (by rw [Ny147.out, List.length_take]; omega); rw [← Ny147.out] at hr41; rw [← hy41] at hcut41; have HR150 := Aside0.mk hr41; have HC150 := Aside0.mk (show y147.length ≤ co38 from by omega); clear hr41 hC41 hroom41 hi041 hsz41; have KY41 := Aside0.mk hy41; clear hy41; have KL41 := Aside0.mk (show (x12_3 : Int).toNat ≤ x8_1.length from by omega); replace q41 := eq_true q41) | ((with_reducible refine gate_builtin (b := .append) (xs := #[.tmp 83, .tmp 86]) rfl ?_); at_builtin; refine Kd.R_append_rows spec_loLoops.kB (w0 := w) w.heap.size rfl (.tmp 83) (.tmp 86) 25 31 (.slice none 0 0) 24 rfl Tryd.underlying25 info31 rfl (by decide) (by omega) v145 y144 y147 _ _ _ (fun k_ => some k_ ≠ (.slice (some ad141) x8_1.length co38 : Value).ownBlock) (fun _ => False) rfl rfl ?aO ?aR (fun _ _ h => h) (fun _ h => h.elim) ?aF ?aB ?aS ?aL ?_; (case aR => repeat (first | exact (by repeat (first | (with_reducible exact HR150.out) | (with_reducible refine Kd.C_alloc ?_ _) | (with_reducible refine Kd.C_drewN ?_ _) | (with_reducible refine Kd.C_drew ?_) | exact HR150.out)) | (with_reducible refine Kd.C_alloc ?_ _) | (with_reducible refine Kd.C_drewN ?_ _) | (with_reducible refine Kd.C_drew ?_))); (case aB => exact (by repeat (first | (with_reducible first | exact HB.out | apply below_alloc | apply pw_below_drewN | apply below_drew1 | refine below_set ?_ GE129.out) | exact HB.out))); (case aF => exact (fun k_ hk => Kd.fresh' (Kd.R_lt (by (with_reducible repeat (first | apply Kd.R_alloc | apply Kd.R_drewN | apply Kd.R_drew)); exact HO_8.out)) k_ hk)); (case aO => exact (by (with_reducible repeat (first | apply Kd.R_alloc | apply Kd.R_drewN | apply Kd.R_drew)); exact Kd.R_mono HO146.out (fun _ hk => hk.2))); (case aS => exact (below_size (by repeat (first | (with_reducible first | exact HB.out | apply below_alloc | apply pw_below_drewN | apply below_drew1 | refine below_set ?_ GE129.out) | exact HB.out)))); (case aL => have := LMc33.out; omega); intro v152 w42 ho hb hg hat; rw [← Ny151.out] at ho; have n0_ := Aside0.mk (Kd.R_over' (by (with_reducible repeat (first | apply Kd.R_alloc | apply Kd.R_drewN | apply Kd.R_drew)); exact HO_7.out) (Kd.R_typed (by (with_reducible repeat (first | apply Kd.R_alloc | apply Kd.R_drewN | apply Kd.R_drew)); exact HO146.out)) (by decide) hg); have n1_ := Aside0.mk (Kd.R_after (ok := (fun _ => True)) (by (with_reducible repeat (first | apply Kd.R_alloc | apply Kd.R_drewN | apply Kd.R_drew)); exact HO_8.out) hg hat); have n2_ := Aside0.mk (blk_grown (g := gb129) (o := .cells #[.string x130000_2, .int .i64 x130001_2, .int .i64 x130002_2, .string x130003_2, .int .i64 x130004_2, .int .i64 x130005_2, .int .i64 x130006_2] 41 (0, 0)) (by (with_reducible repeat (first | refine blk_drewN ?_ _ | refine blk_drew ?_ | refine blk_alloc ?_ _)); exact BK129.out) hg (Kd.R_ne HO146.out BK129.out (by decide))); have n3_ := Aside0.mk (hb); have n4_ := Aside0.mk ((show Kd.C spec_loLoops.kB w42 (some ad141) y147.length y147 from by rw [Ny147.out]; exact Kd.C_take (m := (x12_3 : Int).toNat) ((Kd.R_reads' (Kd.R_after (ok := (fun _ => True)) (by (with_reducible repeat (first | apply Kd.R_alloc | apply Kd.R_drewN | apply Kd.R_drew)); exact HO_8.out) hg hat)).2.2) KL41.out)); have n5_ := Aside0.mk (ho); have hW_ := Aside0.mk (spec_loLoops.RW.grown HW.out hg (Kd.R_typed HO146.out) (by decide)); clear HW; have HW := hW_; clear hW_; clear HO_7; clear HO_8; clear BK129; clear HB; clear HR150; clear HO146; have HO_7 := n0_; have HO_8 := n1_; have BK129 := n2_; have HB := n3_; have HR150 := n4_; have HO153 := n5_; clear n0_ n1_ n2_ n3_ n4_ n5_; clear ho hb hg hat) | ((with_reducible refine gate_dst (N := 89) rfl ?_); refine spec_loLoops.row_event ?hg (N := 89) ?hd (n := x10_2) ?hr ?_; (case hd => rfl); (case hg => rfl); (case hr => first | (go_simp; done) | (go_simp; rfl)); intro gR hgR wR hbox hb; have n0_ := Aside0.mk (Kd.R_below (by (with_reducible repeat (first | apply Kd.R_alloc | apply Kd.R_drewN | apply Kd.R_drew)); exact HO_7.out) hb); have n1_ := Aside0.mk (Kd.R_below (by (with_reducible repeat (first | apply Kd.R_alloc | apply Kd.R_drewN | apply Kd.R_drew)); exact HO_8.out) hb); have n2_ := Aside0.mk (Kd.R_below (by (with_reducible repeat (first | apply Kd.R_alloc | apply Kd.R_drewN | apply Kd.R_drew)); exact HO153.out) hb); have n3_ := Aside0.mk (blk_below (g := gb129) (o := .cells #[.string x130000_2, .int .i64 x130001_2, .int .i64 x130002_2, .string x130003_2, .int .i64 x130004_2, .int .i64 x130005_2, .int .i64 x130006_2] 41 (0, 0)) (by (with_reducible repeat (first | refine blk_drewN ?_ _ | refine blk_drew ?_ | refine blk_alloc ?_ _)); exact BK129.out) hb); have n4_ := Aside0.mk (below_step HB.out hb); have n5_ := Aside0.mk (Kd.C_below HR150.out hb); have n6_ := Aside0.mk (spec_loLoops.RW.below HW.out hb); have HBR := Aside0.mk hbox; have HGR := Aside0.mk (show w.heap.size ≤ gR by rw [hgR]; exact below_size HB.out); have HFR := Aside0.mk (show gR ∉ x8_1 by rw [hgR]; exact spec_loLoops.RW.fresh HW.out); clear HO_7; clear HO_8; clear HO153; clear BK129; clear HB; clear HR150; clear HW; have HO_7 := n0_; have HO_8 := n1_; have HO153 := n2_; have BK129 := n3_; have HB := n4_; have HR150 := n5_; have HW := n6_; clear n0_ n1_ n2_ n3_ n4_ n5_ n6_; clear hb hbox hgR) | ((with_reducible refine gate_builtin (b := .append) (xs := #[.tmp 87, .tmp 90]) rfl ?_); at_builtin; refine Kd.R_append spec_loLoops.kB (w0 := w) w.heap.size rfl (.tmp 87) (.tmp 90) 25 31 (.slice none 0 0) 24 rfl Tryd.underlying25 info31 rfl (by decide) (by omega) v152 y151 gR [spec_loLoops.enc gR] (fun k_ => some k_ ≠ (.slice (some ad141) x8_1.length co38 : Value).ownBlock) (fun _ => False) rfl rfl ?aP (fun _ hk => hk.elim) ?aF ?aO ?aB ?aS ?aL ?_; (case aP => exact rfl); (case aB => exact (by repeat (first | (with_reducible first | exact HB.out | apply below_alloc | apply pw_below_drewN | apply below_drew1 | refine below_set ?_ GE129.out) | exact HB.out))); (case aF => exact (fun k_ hk => Kd.fresh' (Kd.R_lt (by (with_reducible repeat (first | apply Kd.R_alloc | apply Kd.R_drewN | apply Kd.R_drew)); exact HO_8.out)) k_ hk)); (case aO => exact (by (with_reducible repeat (first | apply Kd.R_alloc | apply Kd.R_drewN | apply Kd.R_drew)); exact HO153.out)); (case aS => exact (below_size (by repeat (first | (with_reducible first | exact HB.out | apply below_alloc | apply pw_below_drewN | apply below_drew1 | refine below_set ?_ GE129.out) | exact HB.out)))); (case aL => have := LMc34.out; omega); intro v155 w43 ho hb hg hat; have n0_ := Aside0.mk (Kd.R_over' (by (with_reducible repeat (first | apply Kd.R_alloc | apply Kd.R_drewN | apply Kd.R_drew)); exact HO_7.out) (Kd.R_typed (by (with_reducible repeat (first | apply Kd.R_alloc | apply Kd.R_drewN | apply Kd.R_drew)); exact HO153.out)) (by decide) hg); have n1_ := Aside0.mk (Kd.R_after (ok := (fun _ => True)) (by (with_reducible repeat (first | apply Kd.R_alloc | apply Kd.R_drewN | apply Kd.R_drew)); exact HO_8.out) hg hat); have n2_ := Aside0.mk (blk_grown (g := gb129) (o := .cells #[.string x130000_2, .int .i64 x130001_2, .int .i64 x130002_2, .string x130003_2, .int .i64 x130004_2, .int .i64 x130005_2, .int .i64 x130006_2] 41 (0, 0)) (by (with_reducible repeat (first | refine blk_drewN ?_ _ | refine blk_drew ?_ | refine blk_alloc ?_ _)); exact BK129.out) hg (Kd.R_ne HO153.out BK129.out (by decide))); have n3_ := Aside0.mk (hb); have n4_ := Aside0.mk ((show Kd.C spec_loLoops.kB w43 (some ad141) y147.length y147 from by rw [Ny147.out]; exact Kd.C_take (m := (x12_3 : Int).toNat) ((Kd.R_reads' (Kd.R_after (ok := (fun _ => True)) (by (with_reducible repeat (first | apply Kd.R_alloc | apply Kd.R_drewN | apply Kd.R_drew)); exact HO_8.out) hg hat)).2.2) KL41.out)); have n5_ := Aside0.mk (ho); have hR_ := Aside0.mk (blk_grown HBR.out hg (Kd.R_ne HO153.out HBR.out (by decide))); clear HBR; have HBR := hR_; clear hR_; have hW_ := Aside0.mk (spec_loLoops.RW.grown HW.out hg (Kd.R_typed HO153.out) (by decide)); clear HW; have HW := hW_; clear hW_; clear HO_7; clear HO_8; clear BK129; clear HB; clear HR150; clear HO153; have HO_7 := n0_; have HO_8 := n1_; have BK129 := n2_; have HB := n3_; have HR150 := n4_; have HO156 := n5_; clear n0_ n1_ n2_ n3_ n4_ n5_; clear ho hb hg hat; have q44 : (x12_3 : Int) ≤ ((x8_1.length : Int) : Int) := of_decide_eq_true (by first | (with_reducible assumption) | assumption); obtain ⟨i044, hi044, _, hsz44, _⟩ := info_parts info31; have hroom44 : x8_1.length ≤ co38 := (Kd.R_reads' HO_8.out).2.1; have hC44 : Kd.C spec_loLoops.kB _ (some ad141) x8_1.length x8_1 := (Kd.R_reads' HO_8.out).2.2; have q044 : (0 : Int) ≤ (x12_3 : Int) := of_decide_eq_true (by first | (with_reducible assumption) | assumption); have hcut44 := cut_from (P := Tryd.prog) 25 31 .i64 Tryd.underlying25 hi044 1 hsz44 (some ad141) x8_1.length co38 x12_3 q044 q44; have hr44 := Kd.C_drop (m := (x12_3 : Int).toNat) (c := co38) hC44 (by omega) hroom44; obtain ⟨A44, hA44⟩ : ∃ A1, A1 = (if co38 = (x12_3 : Int).toNat then (some ad141) else ((some ad141) : Option Addr).map (·.add ((x12_3 : Int).toNat * 1))) := ⟨_, rfl⟩; obtain ⟨c44, hc44⟩ : ∃ c1, c1 = co38 - (x12_3 : Int).toNat := ⟨_, rfl⟩; have hy44 : y157.length = x8_1.length - (x12_3 : Int).toNat := (by rw [Ny157.out, List.length_drop] <;> omega); rw [show (x8_1).drop (x12_3 : Int).toNat = y157 from Ny157.out.symm] at hr44; replace hr44 : Kd.C spec_loLoops.kB _ A44 y157.length y157 := (by rw [hA44]; exact hr44); rw [← hy44, ← hA44, ← hc44] at hcut44; have HR160 := Aside0.mk hr44; have HC160 := Aside0.mk (show y157.length ≤ c44 from by rw [hy44, hc44]; exact Nat.sub_le_sub_right hroom44 _); clear hr44 hC44 hroom44 hi044 hsz44 hc44; have KY44 := Aside0.mk hy44; have KA44 := Aside0.mk hA44; clear hy44 hA44; have KL44 := Aside0.mk (show (x12_3 : Int).toNat ≤ x8_1.length from by omega); replace q44 := eq_true q44) | ((with_reducible refine gate_builtin (b := .append) (xs := #[.tmp 92, .tmp 95]) rfl ?_); at_builtin; refine Kd.R_append_rows spec_loLoops.kB (w0 := w) w.heap.size rfl (.tmp 92) (.tmp 95) 25 31 (.slice none 0 0) 24 rfl Tryd.underlying25 info31 rfl (by decide) (by omega) v155 (y151 ++ [gR]) y157 _ _ _ (fun k_ => some k_ ≠ (.slice (some ad141) x8_1.length co38 : Value).ownBlock) (fun _ => False) rfl rfl ?aO ?aR (fun _ _ h => h) (fun _ h => h.elim) ?aF ?aB ?aS ?aL ?_; (case aR => repeat (first | exact (by repeat (first | (with_reducible exact HR160.out) | (with_reducible refine Kd.C_alloc ?_ _) | (with_reducible refine Kd.C_drewN ?_ _) | (with_reducible refine Kd.C_drew ?_) | exact HR160.out)) | (with_reducible refine Kd.C_alloc ?_ _) | (with_reducible refine Kd.C_drewN ?_ _) | (with_reducible refine Kd.C_drew ?_))); (case aB => exact (by repeat (first | (with_reducible first | exact HB.out | apply below_alloc | apply pw_below_drewN | apply below_drew1 | refine below_set ?_ GE129.out) | exact HB.out))); (case aF => exact (fun k_ hk => Kd.fresh' (Kd.R_lt (by (with_reducible repeat (first | apply Kd.R_alloc | apply Kd.R_drewN | apply Kd.R_drew)); exact HO_8.out)) k_ hk)); (case aO => exact (by (with_reducible repeat (first | apply Kd.R_alloc | apply Kd.R_drewN | apply Kd.R_drew)); exact HO156.out)); (case aS => exact (below_size (by repeat (first | (with_reducible first | exact HB.out | apply below_alloc | apply pw_below_drewN | apply below_drew1 | refine below_set ?_ GE129.out) | exact HB.out)))); (case aL => have := LMc37.out gR; omega); intro v162 w45 ho hb hg hat; have n0_ := Aside0.mk (Kd.R_over' (by (with_reducible repeat (first | apply Kd.R_alloc | apply Kd.R_drewN | apply Kd.R_drew)); exact HO_7.out) (Kd.R_typed (by (with_reducible repeat (first | apply Kd.R_alloc | apply Kd.R_drewN | apply Kd.R_drew)); exact HO156.out)) (by decide) hg); have n1_ := Aside0.mk (Kd.R_after (ok := (fun _ => True)) (by (with_reducible repeat (first | apply Kd.R_alloc | apply Kd.R_drewN | apply Kd.R_drew)); exact HO_8.out) hg hat); have n2_ := Aside0.mk (blk_grown (g := gb129) (o := .cells #[.string x130000_2, .int .i64 x130001_2, .int .i64 x130002_2, .string x130003_2, .int .i64 x130004_2, .int .i64 x130005_2, .int .i64 x130006_2] 41 (0, 0)) (by (with_reducible repeat (first | refine blk_drewN ?_ _ | refine blk_drew ?_ | refine blk_alloc ?_ _)); exact BK129.out) hg (Kd.R_ne HO156.out BK129.out (by decide))); have n3_ := Aside0.mk (hb); have n4_ := Aside0.mk ((show Kd.C spec_loLoops.kB w45 (some ad141) y147.length y147 from by rw [Ny147.out]; exact Kd.C_take (m := (x12_3 : Int).toNat) ((Kd.R_reads' (Kd.R_after (ok := (fun _ => True)) (by (with_reducible repeat (first | apply Kd.R_alloc | apply Kd.R_drewN | apply Kd.R_drew)); exact HO_8.out) hg hat)).2.2) KL41.out)); have n5_ := Aside0.mk ((show Kd.C spec_loLoops.kB w45 A44 y157.length y157 from by rw [Ny157.out, KA44.out]; exact Kd.C_drop (m := (x12_3 : Int).toNat) (c := co38) ((Kd.R_reads' (Kd.R_after (ok := (fun _ => True)) (by (with_reducible repeat (first | apply Kd.R_alloc | apply Kd.R_drewN | apply Kd.R_drew)); exact HO_8.out) hg hat)).2.2) KL44.out ((Kd.R_reads' (Kd.R_after (ok := (fun _ => True)) (by (with_reducible repeat (first | apply Kd.R_alloc | apply Kd.R_drewN | apply Kd.R_drew)); exact HO_8.out) hg hat)).2.1))); have n6_ := Aside0.mk (ho); have hR_ := Aside0.mk (blk_grown HBR.out hg (Kd.R_ne HO156.out HBR.out (by decide))); clear HBR; have HBR := hR_; clear hR_; have hW_ := Aside0.mk (spec_loLoops.RW.grown HW.out hg (Kd.R_typed HO156.out) (by decide)); clear HW; have HW := hW_; clear hW_; clear HO_7; clear HO_8; clear BK129; clear HB; clear HR150; clear HR160; clear HO156; have HO_7 := n0_; have HO_8 := n1_; have BK129 := n2_; have HB := n3_; have HR150 := n4_; have HR160 := n5_; have HO163 := n6_; clear n0_ n1_ n2_ n3_ n4_ n5_ n6_; clear ho hb hg hat))
                                    (try simp only [← hl7_1, ← hl7_2])
                                    go_roundg k3
                                    case measure => have := HK1.out; have := HK2.out; have := HK3.out; omega
                                    case rel => exact ⟨(x7_2), ((y151 ++ [gR]) ++ y157), (spec_loLoops.insP L_1 x12_3 x10_2), (wrap64 (x21_1 + 1)), (by first | rfl | (simp; done) | (simp [*]; done)), H', ⟨by have := HK1.out; have := HK2.out; have := HK3.out; omega⟩, ⟨by (try simp only [hl7_1]); (try simp only [hl7_2]); (with_reducible repeat (first | apply Kd.R_alloc | apply Kd.R_drewN | apply Kd.R_drew)); exact HO_7.out⟩, ⟨by (try simp only [hl7_1]); (try simp only [hl7_2]); (with_reducible repeat (first | apply Kd.R_alloc | apply Kd.R_drewN | apply Kd.R_drew)); exact Kd.R_mono HO163.out (fun _ hk => trivial)⟩, ⟨by (try simp only [hl7_1]); (try simp only [hl7_2]); exact spec_loLoops.RW.ins HW.out HBR.out HGR.out HFR.out x12_3 (by rw [Ny151.out, Ny144.out, Ny147.out, Ny157.out, List.nil_append])⟩, ⟨by repeat (first | (with_reducible first | exact HB.out | apply below_alloc | apply pw_below_drewN | apply below_drew1 | refine below_set ?_ GE129.out) | exact HB.out)⟩⟩
                              · rw [if_neg c26] at H
                                exact absurd H (by simp)
                            · rw [if_neg c25] at H
                              have c25b0 : decide (x12_3 < (x8_1.length : Int)) = false := decide_eq_false c25
                              (try (first | rw [hl7_1] at c25b0 | rw [hl7_2] at c25b0))
                              clear c25
                              by_cases c46 : 0 ≤ x12_3
                              case neg => rw [if_neg c46] at H; exact absurd H (by simp)
                              rw [if_pos c46] at H
                              by_cases c47 : x12_3 ≤ (x8_1.length : Int)
                              case neg => rw [if_neg c47] at H; exact absurd H (by simp)
                              rw [if_pos c47] at H
                              by_cases c32 : x8_1.length < 1000000
                              case neg => rw [if_neg c32] at H; exact absurd H (by simp)
                              rw [if_pos c32] at H
                              have HLM := Aside0.mk c32
                              clear c32
                              have H' := Aside0.mk H
                              clear H
                              have c46b0 := eq_true c46
                              have c46b1 : decide (0 ≤ x12_3) = true := decide_eq_true c46
                              clear c46
                              have c47b0 := eq_true c47
                              have c47b1 : decide (x12_3 ≤ (x8_1.length : Int)) = true := decide_eq_true c47
                              (try (first | rw [hl7_1] at c47b1 | rw [hl7_2] at c47b1))
                              clear c47
                              obtain ⟨y164, hy_⟩ : ∃ y_ : List Nat, y_ = ([] : List Nat) := ⟨_, rfl⟩
                              have Ny164 := Aside0.mk hy_
                              clear hy_
                              obtain ⟨y167, hy_⟩ : ∃ y_ : List Nat, y_ = (x8_1.take (x12_3 : Int).toNat) := ⟨_, rfl⟩
                              have Ny167 := Aside0.mk hy_
                              clear hy_
                              obtain ⟨y171, hy_⟩ : ∃ y_ : List Nat, y_ = (y164 ++ y167) := ⟨_, rfl⟩
                              have Ny171 := Aside0.mk hy_
                              clear hy_
                              obtain ⟨y177, hy_⟩ : ∃ y_ : List Nat, y_ = (x8_1.drop (x12_3 : Int).toNat) := ⟨_, rfl⟩
                              have Ny177 := Aside0.mk hy_
                              clear hy_
                              have LMc48 := Aside0.mk (show y164.length + y167.length < 3000000 by have := HLM.out; rw [Ny164.out, Ny167.out, List.length_take]; simp; omega)
                              have LMc49 := Aside0.mk (show y171.length < 3000000 by have := LMc48.out; rw [Ny171.out, List.length_append]; omega)
                              have LMc52 := Aside0.mk (show ∀ g_ : Nat, (y171 ++ [g_]).length + y177.length < 5000000 from fun g_ => by have := HLM.out; have := LMc49.out; rw [List.length_append, Ny177.out, List.length_drop]; simp; omega)
                              obtain ⟨Ao53, co53, eo53⟩ := Kd.R_slice HO_8.out
                              subst eo53
                              go_wp2_with (first | ((with_reducible refine gate_dst (N := 83) rfl ?_); refine Kd.R_lit spec_loLoops.kB _ 31 ?hg (N := 83) ?hd (xs := ([] : List Nat)) (inner := []) (ok := fun _ => True) (okp := fun _ => True) ?hr ?hp (fun _ hk => hk) trivial (Below.refl _ _) (Nat.le_refl _) (by simp) ?_; (case hd => rfl); (case hg => rfl); (case hr => first | (go_simp; done) | (go_simp; rfl)); (case hp => exact (Reps.none _ _)); intro v165 w54 ho55 hb hg_ hnew_; clear hg_ hnew_; (first | rw [← Ny164.out] at ho55 | (simp only [Int.reduceToNat] at ho55; rw [← Ny164.out] at ho55)); have n0_ := Aside0.mk (Kd.R_below (by (with_reducible repeat (first | apply Kd.R_alloc | apply Kd.R_drewN | apply Kd.R_drew)); exact HO_7.out) hb); have n1_ := Aside0.mk (Kd.R_elder' (by (with_reducible repeat (first | apply Kd.R_alloc | apply Kd.R_drewN | apply Kd.R_drew)); exact HO_8.out) (Kd.R_base ho55) hb); have n2_ := Aside0.mk (Kd.R_lower (Kd.R_new' ho55 (Kd.R_lt (by (with_reducible repeat (first | apply Kd.R_alloc | apply Kd.R_drewN | apply Kd.R_drew)); exact HO_8.out))) (below_size (by repeat (first | (with_reducible first | exact HB.out | apply below_alloc | apply pw_below_drewN | apply below_drew1 | refine below_set ?_ GE129.out) | exact HB.out)))); have n3_ := Aside0.mk (blk_below (g := gb129) (o := .cells #[.string x130000_2, .int .i64 x130001_2, .int .i64 x130002_2, .string x130003_2, .int .i64 x130004_2, .int .i64 x130005_2, .int .i64 x130006_2] 41 (0, 0)) (by (with_reducible repeat (first | refine blk_drewN ?_ _ | refine blk_drew ?_ | refine blk_alloc ?_ _)); exact BK129.out) hb); have n4_ := Aside0.mk (below_step (by repeat (first | (with_reducible first | exact HB.out | apply below_alloc | apply pw_below_drewN | apply below_drew1 | refine below_set ?_ GE129.out) | exact HB.out)) hb); have hW_ := Aside0.mk (spec_loLoops.RW.below HW.out hb); clear HW; have HW := hW_; clear hW_; clear HO_7; clear HO_8; clear BK129; clear HB; have HO_7 := n0_; have HO_8 := n1_; have HO166 := n2_; have BK129 := n3_; have HB := n4_; clear n0_ n1_ n2_ n3_ n4_; clear hb ho55; have q56 : (x12_3 : Int) ≤ ((x8_1.length : Int) : Int) := of_decide_eq_true (by first | (with_reducible assumption) | assumption); obtain ⟨i056, hi056, _, hsz56, _⟩ := info_parts info31; have hroom56 : x8_1.length ≤ co53 := (Kd.R_reads' HO_8.out).2.1; have hC56 : Kd.C spec_loLoops.kB _ Ao53 x8_1.length x8_1 := (Kd.R_reads' HO_8.out).2.2; have hcut56 := cut_to (P := Tryd.prog) 25 31 .i64 Tryd.underlying25 hi056 Ao53 x8_1.length co53 x12_3 (of_decide_eq_true (by first | (with_reducible assumption) | assumption)) q56 hroom56; have hr56 := Kd.C_take (m := (x12_3 : Int).toNat) hC56 (by omega); have hy56 : y167.length = (x12_3 : Int).toNat := (by rw [Ny167.out, List.length_take]; omega); rw [← Ny167.out] at hr56; rw [← hy56] at hcut56; have HR170 := Aside0.mk hr56; have HC170 := Aside0.mk (show y167.length ≤ co53 from by omega); clear hr56 hC56 hroom56 hi056 hsz56; have KY56 := Aside0.mk hy56; clear hy56; have KL56 := Aside0.mk (show (x12_3 : Int).toNat ≤ x8_1.length from by omega); replace q56 := eq_true q56) | ((with_reducible refine gate_builtin (b := .append) (xs := #[.tmp 83, .tmp 86]) rfl ?_); at_builtin; refine Kd.R_append_rows spec_loLoops.kB (w0 := w) w.heap.size rfl (.tmp 83) (.tmp 86) 25 31 (.slice none 0 0) 24 rfl Tryd.underlying25 info31 rfl (by decide) (by omega) v165 y164 y167 _ _ _ (fun k_ => some k_ ≠ (.slice Ao53 x8_1.length co53 : Value).ownBlock) (fun _ => False) rfl rfl ?aO ?aR (fun _ _ h => h) (fun _ h => h.elim) ?aF ?aB ?aS ?aL ?_; (case aR => repeat (first | exact (by repeat (first | (with_reducible exact HR170.out) | (with_reducible refine Kd.C_alloc ?_ _) | (with_reducible refine Kd.C_drewN ?_ _) | (with_reducible refine Kd.C_drew ?_) | exact HR170.out)) | (with_reducible refine Kd.C_alloc ?_ _) | (with_reducible refine Kd.C_drewN ?_ _) | (with_reducible refine Kd.C_drew ?_))); (case aB => exact (by repeat (first | (with_reducible first | exact HB.out | apply below_alloc | apply pw_below_drewN | apply below_drew1 | refine below_set ?_ GE129.out) | exact HB.out))); (case aF => exact (fun k_ hk => Kd.fresh' (Kd.R_lt (by (with_reducible repeat (first | apply Kd.R_alloc | apply Kd.R_drewN | apply Kd.R_drew)); exact HO_8.out)) k_ hk)); (case aO => exact (by (with_reducible repeat (first | apply Kd.R_alloc | apply Kd.R_drewN | apply Kd.R_drew)); exact Kd.R_mono HO166.out (fun _ hk => hk.2))); (case aS => exact (below_size (by repeat (first | (with_reducible first | exact HB.out | apply below_alloc | apply pw_below_drewN | apply below_drew1 | refine below_set ?_ GE129.out) | exact HB.out)))); (case aL => have := LMc48.out; omega); intro v172 w57 ho hb hg hat; rw [← Ny171.out] at ho; have n0_ := Aside0.mk (Kd.R_over' (by (with_reducible repeat (first | apply Kd.R_alloc | apply Kd.R_drewN | apply Kd.R_drew)); exact HO_7.out) (Kd.R_typed (by (with_reducible repeat (first | apply Kd.R_alloc | apply Kd.R_drewN | apply Kd.R_drew)); exact HO166.out)) (by decide) hg); have n1_ := Aside0.mk (Kd.R_after (ok := (fun _ => True)) (by (with_reducible repeat (first | apply Kd.R_alloc | apply Kd.R_drewN | apply Kd.R_drew)); exact HO_8.out) hg hat); have n2_ := Aside0.mk (blk_grown (g := gb129) (o := .cells #[.string x130000_2, .int .i64 x130001_2, .int .i64 x130002_2, .string x130003_2, .int .i64 x130004_2, .int .i64 x130005_2, .int .i64 x130006_2] 41 (0, 0)) (by (with_reducible repeat (first | refine blk_drewN ?_ _ | refine blk_drew ?_ | refine blk_alloc ?_ _)); exact BK129.out) hg (Kd.R_ne HO166.out BK129.out (by decide))); have n3_ := Aside0.mk (hb); have n4_ := Aside0.mk ((show Kd.C spec_loLoops.kB w57 Ao53 y167.length y167 from by rw [Ny167.out]; exact Kd.C_take (m := (x12_3 : Int).toNat) ((Kd.R_reads' (Kd.R_after (ok := (fun _ => True)) (by (with_reducible repeat (first | apply Kd.R_alloc | apply Kd.R_drewN | apply Kd.R_drew)); exact HO_8.out) hg hat)).2.2) KL56.out)); have n5_ := Aside0.mk (ho); have hW_ := Aside0.mk (spec_loLoops.RW.grown HW.out hg (Kd.R_typed HO166.out) (by decide)); clear HW; have HW := hW_; clear hW_; clear HO_7; clear HO_8; clear BK129; clear HB; clear HR170; clear HO166; have HO_7 := n0_; have HO_8 := n1_; have BK129 := n2_; have HB := n3_; have HR170 := n4_; have HO173 := n5_; clear n0_ n1_ n2_ n3_ n4_ n5_; clear ho hb hg hat) | ((with_reducible refine gate_dst (N := 89) rfl ?_); refine spec_loLoops.row_event ?hg (N := 89) ?hd (n := x10_2) ?hr ?_; (case hd => rfl); (case hg => rfl); (case hr => first | (go_simp; done) | (go_simp; rfl)); intro gR hgR wR hbox hb; have n0_ := Aside0.mk (Kd.R_below (by (with_reducible repeat (first | apply Kd.R_alloc | apply Kd.R_drewN | apply Kd.R_drew)); exact HO_7.out) hb); have n1_ := Aside0.mk (Kd.R_below (by (with_reducible repeat (first | apply Kd.R_alloc | apply Kd.R_drewN | apply Kd.R_drew)); exact HO_8.out) hb); have n2_ := Aside0.mk (Kd.R_below (by (with_reducible repeat (first | apply Kd.R_alloc | apply Kd.R_drewN | apply Kd.R_drew)); exact HO173.out) hb); have n3_ := Aside0.mk (blk_below (g := gb129) (o := .cells #[.string x130000_2, .int .i64 x130001_2, .int .i64 x130002_2, .string x130003_2, .int .i64 x130004_2, .int .i64 x130005_2, .int .i64 x130006_2] 41 (0, 0)) (by (with_reducible repeat (first | refine blk_drewN ?_ _ | refine blk_drew ?_ | refine blk_alloc ?_ _)); exact BK129.out) hb); have n4_ := Aside0.mk (below_step HB.out hb); have n5_ := Aside0.mk (Kd.C_below HR170.out hb); have n6_ := Aside0.mk (spec_loLoops.RW.below HW.out hb); have HBR := Aside0.mk hbox; have HGR := Aside0.mk (show w.heap.size ≤ gR by rw [hgR]; exact below_size HB.out); have HFR := Aside0.mk (show gR ∉ x8_1 by rw [hgR]; exact spec_loLoops.RW.fresh HW.out); clear HO_7; clear HO_8; clear HO173; clear BK129; clear HB; clear HR170; clear HW; have HO_7 := n0_; have HO_8 := n1_; have HO173 := n2_; have BK129 := n3_; have HB := n4_; have HR170 := n5_; have HW := n6_; clear n0_ n1_ n2_ n3_ n4_ n5_ n6_; clear hb hbox hgR) | ((with_reducible refine gate_builtin (b := .append) (xs := #[.tmp 87, .tmp 90]) rfl ?_); at_builtin; refine Kd.R_append spec_loLoops.kB (w0 := w) w.heap.size rfl (.tmp 87) (.tmp 90) 25 31 (.slice none 0 0) 24 rfl Tryd.underlying25 info31 rfl (by decide) (by omega) v172 y171 gR [spec_loLoops.enc gR] (fun k_ => some k_ ≠ (.slice Ao53 x8_1.length co53 : Value).ownBlock) (fun _ => False) rfl rfl ?aP (fun _ hk => hk.elim) ?aF ?aO ?aB ?aS ?aL ?_; (case aP => exact rfl); (case aB => exact (by repeat (first | (with_reducible first | exact HB.out | apply below_alloc | apply pw_below_drewN | apply below_drew1 | refine below_set ?_ GE129.out) | exact HB.out))); (case aF => exact (fun k_ hk => Kd.fresh' (Kd.R_lt (by (with_reducible repeat (first | apply Kd.R_alloc | apply Kd.R_drewN | apply Kd.R_drew)); exact HO_8.out)) k_ hk)); (case aO => exact (by (with_reducible repeat (first | apply Kd.R_alloc | apply Kd.R_drewN | apply Kd.R_drew)); exact HO173.out)); (case aS => exact (below_size (by repeat (first | (with_reducible first | exact HB.out | apply below_alloc | apply pw_below_drewN | apply below_drew1 | refine below_set ?_ GE129.out) | exact HB.out)))); (case aL => have := LMc49.out; omega); intro v175 w58 ho hb hg hat; have n0_ := Aside0.mk (Kd.R_over' (by (with_reducible repeat (first | apply Kd.R_alloc | apply Kd.R_drewN | apply Kd.R_drew)); exact HO_7.out) (Kd.R_typed (by (with_reducible repeat (first | apply Kd.R_alloc | apply Kd.R_drewN | apply Kd.R_drew)); exact HO173.out)) (by decide) hg); have n1_ := Aside0.mk (Kd.R_after (ok := (fun _ => True)) (by (with_reducible repeat (first | apply Kd.R_alloc | apply Kd.R_drewN | apply Kd.R_drew)); exact HO_8.out) hg hat); have n2_ := Aside0.mk (blk_grown (g := gb129) (o := .cells #[.string x130000_2, .int .i64 x130001_2, .int .i64 x130002_2, .string x130003_2, .int .i64 x130004_2, .int .i64 x130005_2, .int .i64 x130006_2] 41 (0, 0)) (by (with_reducible repeat (first | refine blk_drewN ?_ _ | refine blk_drew ?_ | refine blk_alloc ?_ _)); exact BK129.out) hg (Kd.R_ne HO173.out BK129.out (by decide))); have n3_ := Aside0.mk (hb); have n4_ := Aside0.mk ((show Kd.C spec_loLoops.kB w58 Ao53 y167.length y167 from by rw [Ny167.out]; exact Kd.C_take (m := (x12_3 : Int).toNat) ((Kd.R_reads' (Kd.R_after (ok := (fun _ => True)) (by (with_reducible repeat (first | apply Kd.R_alloc | apply Kd.R_drewN | apply Kd.R_drew)); exact HO_8.out) hg hat)).2.2) KL56.out)); have n5_ := Aside0.mk (ho); have hR_ := Aside0.mk (blk_grown HBR.out hg (Kd.R_ne HO173.out HBR.out (by decide))); clear HBR; have HBR := hR_; clear hR_; have hW_ := Aside0.mk (spec_loLoops.RW.grown HW.out hg (Kd.R_typed HO173.out) (by decide)); clear HW; have HW := hW_; clear hW_; clear HO_7; clear HO_8; clear BK129; clear HB; clear HR170; clear HO173; have HO_7 := n0_; have HO_8 := n1_; have BK129 := n2_; have HB := n3_; have HR170 := n4_; have HO176 := n5_; clear n0_ n1_ n2_ n3_ n4_ n5_; clear ho hb hg hat; have q59 : (x12_3 : Int) ≤ ((x8_1.length : Int) : Int) := of_decide_eq_true (by first | (with_reducible assumption) | assumption); obtain ⟨i059, hi059, _, hsz59, _⟩ := info_parts info31; have hroom59 : x8_1.length ≤ co53 := (Kd.R_reads' HO_8.out).2.1; have hC59 : Kd.C spec_loLoops.kB _ Ao53 x8_1.length x8_1 := (Kd.R_reads' HO_8.out).2.2; have q059 : (0 : Int) ≤ (x12_3 : Int) := of_decide_eq_true (by first | (with_reducible assumption) | assumption); have hcut59 := cut_from (P := Tryd.prog) 25 31 .i64 Tryd.underlying25 hi059 1 hsz59 Ao53 x8_1.length co53 x12_3 q059 q59; have hr59 := Kd.C_drop (m := (x12_3 : Int).toNat) (c := co53) hC59 (by omega) hroom59; obtain ⟨A59, hA59⟩ : ∃ A1, A1 = (if co53 = (x12_3 : Int).toNat then Ao53 else (Ao53 : Option Addr).map (·.add ((x12_3 : Int).toNat * 1))) := ⟨_, rfl⟩; obtain ⟨c59, hc59⟩ : ∃ c1, c1 = co53 - (x12_3 : Int).toNat := ⟨_, rfl⟩; have hy59 : y177.length = x8_1.length - (x12_3 : Int).toNat := (by rw [Ny177.out, List.length_drop] <;> omega); rw [show (x8_1).drop (x12_3 : Int).toNat = y177 from Ny177.out.symm] at hr59; replace hr59 : Kd.C spec_loLoops.kB _ A59 y177.length y177 := (by rw [hA59]; exact hr59); rw [← hy59, ← hA59, ← hc59] at hcut59; have HR180 := Aside0.mk hr59; have HC180 := Aside0.mk (show y177.length ≤ c59 from by rw [hy59, hc59]; exact Nat.sub_le_sub_right hroom59 _); clear hr59 hC59 hroom59 hi059 hsz59 hc59; have KY59 := Aside0.mk hy59; have KA59 := Aside0.mk hA59; clear hy59 hA59; have KL59 := Aside0.mk (show (x12_3 : Int).toNat ≤ x8_1.length from by omega); replace q59 := eq_true q59) | ((with_reducible refine gate_builtin (b := .append) (xs := #[.tmp 92, .tmp 95]) rfl ?_); at_builtin; refine Kd.R_append_rows spec_loLoops.kB (w0 := w) w.heap.size rfl (.tmp 92) (.tmp 95) 25 31 (.slice none 0 0) 24 rfl Tryd.underlying25 info31 rfl (by decide) (by omega) v175 (y171 ++ [gR]) y177 _ _ _ (fun k_ => some k_ ≠ (.slice Ao53 x8_1.length co53 : Value).ownBlock) (fun _ => False) rfl rfl ?aO ?aR (fun _ _ h => h) (fun _ h => h.elim) ?aF ?aB ?aS ?aL ?_; (case aR => repeat (first | exact (by repeat (first | (with_reducible exact HR180.out) | (with_reducible refine Kd.C_alloc ?_ _) | (with_reducible refine Kd.C_drewN ?_ _) | (with_reducible refine Kd.C_drew ?_) | exact HR180.out)) | (with_reducible refine Kd.C_alloc ?_ _) | (with_reducible refine Kd.C_drewN ?_ _) | (with_reducible refine Kd.C_drew ?_))); (case aB => exact (by repeat (first | (with_reducible first | exact HB.out | apply below_alloc | apply pw_below_drewN | apply below_drew1 | refine below_set ?_ GE129.out) | exact HB.out))); (case aF => exact (fun k_ hk => Kd.fresh' (Kd.R_lt (by (with_reducible repeat (first | apply Kd.R_alloc | apply Kd.R_drewN | apply Kd.R_drew)); exact HO_8.out)) k_ hk)); (case aO => exact (by (with_reducible repeat (first | apply Kd.R_alloc | apply Kd.R_drewN | apply Kd.R_drew)); exact HO176.out)); (case aS => exact (below_size (by repeat (first | (with_reducible first | exact HB.out | apply below_alloc | apply pw_below_drewN | apply below_drew1 | refine below_set ?_ GE129.out) | exact HB.out)))); (case aL => have := LMc52.out gR; omega); intro v182 w60 ho hb hg hat; have n0_ := Aside0.mk (Kd.R_over' (by (with_reducible repeat (first | apply Kd.R_alloc | apply Kd.R_drewN | apply Kd.R_drew)); exact HO_7.out) (Kd.R_typed (by (with_reducible repeat (first | apply Kd.R_alloc | apply Kd.R_drewN | apply Kd.R_drew)); exact HO176.out)) (by decide) hg); have n1_ := Aside0.mk (Kd.R_after (ok := (fun _ => True)) (by (with_reducible repeat (first | apply Kd.R_alloc | apply Kd.R_drewN | apply Kd.R_drew)); exact HO_8.out) hg hat); have n2_ := Aside0.mk (blk_grown (g := gb129) (o := .cells #[.string x130000_2, .int .i64 x130001_2, .int .i64 x130002_2, .string x130003_2, .int .i64 x130004_2, .int .i64 x130005_2, .int .i64 x130006_2] 41 (0, 0)) (by (with_reducible repeat (first | refine blk_drewN ?_ _ | refine blk_drew ?_ | refine blk_alloc ?_ _)); exact BK129.out) hg (Kd.R_ne HO176.out BK129.out (by decide))); have n3_ := Aside0.mk (hb); have n4_ := Aside0.mk ((show Kd.C spec_loLoops.kB w60 Ao53 y167.length y167 from by rw [Ny167.out]; exact Kd.C_take (m := (x12_3 : Int).toNat) ((Kd.R_reads' (Kd.R_after (ok := (fun _ => True)) (by (with_reducible repeat (first | apply Kd.R_alloc | apply Kd.R_drewN | apply Kd.R_drew)); exact HO_8.out) hg hat)).2.2) KL56.out)); have n5_ := Aside0.mk ((show Kd.C spec_loLoops.kB w60 A59 y177.length y177 from by rw [Ny177.out, KA59.out]; exact Kd.C_drop (m := (x12_3 : Int).toNat) (c := co53) ((Kd.R_reads' (Kd.R_after (ok := (fun _ => True)) (by (with_reducible repeat (first | apply Kd.R_alloc | apply Kd.R_drewN | apply Kd.R_drew)); exact HO_8.out) hg hat)).2.2) KL59.out ((Kd.R_reads' (Kd.R_after (ok := (fun _ => True)) (by (with_reducible repeat (first | apply Kd.R_alloc | apply Kd.R_drewN | apply Kd.R_drew)); exact HO_8.out) hg hat)).2.1))); have n6_ := Aside0.mk (ho); have hR_ := Aside0.mk (blk_grown HBR.out hg (Kd.R_ne HO176.out HBR.out (by decide))); clear HBR; have HBR := hR_; clear hR_; have hW_ := Aside0.mk (spec_loLoops.RW.grown HW.out hg (Kd.R_typed HO176.out) (by decide)); clear HW; have HW := hW_; clear hW_; clear HO_7; clear HO_8; clear BK129; clear HB; clear HR170; clear HR180; clear HO176; have HO_7 := n0_; have HO_8 := n1_; have BK129 := n2_; have HB := n3_; have HR170 := n4_; have HR180 := n5_; have HO183 := n6_; clear n0_ n1_ n2_ n3_ n4_ n5_ n6_; clear ho hb hg hat))
                              (try simp only [← hl7_1, ← hl7_2])
                              go_roundg k3
                              case measure => have := HK1.out; have := HK2.out; have := HK3.out; omega
                              case rel => exact ⟨(x7_2), ((y171 ++ [gR]) ++ y177), (spec_loLoops.insP L_1 x12_3 x10_2), (wrap64 (x21_1 + 1)), (by first | rfl | (simp; done) | (simp [*]; done)), H', ⟨by have := HK1.out; have := HK2.out; have := HK3.out; omega⟩, ⟨by (try simp only [hl7_1]); (try simp only [hl7_2]); (with_reducible repeat (first | apply Kd.R_alloc | apply Kd.R_drewN | apply Kd.R_drew)); exact HO_7.out⟩, ⟨by (try simp only [hl7_1]); (try simp only [hl7_2]); (with_reducible repeat (first | apply Kd.R_alloc | apply Kd.R_drewN | apply Kd.R_drew)); exact Kd.R_mono HO183.out (fun _ hk => trivial)⟩, ⟨by (try simp only [hl7_1]); (try simp only [hl7_2]); exact spec_loLoops.RW.ins HW.out HBR.out HGR.out HFR.out x12_3 (by rw [Ny171.out, Ny164.out, Ny167.out, Ny177.out, List.nil_append])⟩, ⟨by repeat (first | (with_reducible first | exact HB.out | apply below_alloc | apply pw_below_drewN | apply below_drew1 | refine below_set ?_ GE129.out) | exact HB.out)⟩⟩
                    · replace c19 := Bool.eq_false_iff.mpr c19
                      subst c19
                      have H1 : ((spec_loIndex.f k2 x130000_2 x130001_2 x130002_2 x130003_2 x130004_2 x130005_2 x130006_2).bind fun t132 => (if 0 ≤ t132 then (if t132 < (x7_2.length : Int) then ((spec_woStep.f k2 x130000_2 x130001_2 x130002_2 x130003_2 x130004_2 x130005_2 x130006_2).bind fun bt134 => (spec_loLoops.l1 k2 a0 a1 a2 (x7_2.set (t132 : Int).toNat true) L_1 (wrap64 (x10_2 + 1)) (y119.length : Int) x21_1 bt134.1 bt134.2.1 bt134.2.2.1 bt134.2.2.2.1 bt134.2.2.2.2.1 bt134.2.2.2.2.2.1 bt134.2.2.2.2.2.2)) else (none)) else (none))) = some r := by rw [if_neg (show ¬ (false = true) by decide)] at H; exact H
                      clear H
                      have H := H1
                      clear H1
                      replace H := Option.bind_eq_some_iff.mp H
                      obtain ⟨t132, A610, H⟩ := H
                      replace H : (if 0 ≤ t132 then (if t132 < (x7_2.length : Int) then ((spec_woStep.f k2 x130000_2 x130001_2 x130002_2 x130003_2 x130004_2 x130005_2 x130006_2).bind fun bt134 => (spec_loLoops.l1 k2 a0 a1 a2 (x7_2.set (t132 : Int).toNat true) L_1 (wrap64 (x10_2 + 1)) (y119.length : Int) x21_1 bt134.1 bt134.2.1 bt134.2.2.1 bt134.2.2.2.1 bt134.2.2.2.2.1 bt134.2.2.2.2.2.1 bt134.2.2.2.2.2.2)) else (none)) else (none)) = some r := H
                      have A61 := Aside0.mk A610
                      clear A610
                      by_cases c62 : 0 ≤ t132
                      · rw [if_pos c62] at H
                        have c62b0 : decide (0 ≤ t132) = true := decide_eq_true c62
                        clear c62
                        by_cases c63 : t132 < (x7_2.length : Int)
                        · rw [if_pos c63] at H
                          have c63b0 : decide (t132 < (x7_2.length : Int)) = true := decide_eq_true c63
                          (try (first | rw [hl7_1] at c63b0 | rw [hl7_2] at c63b0))
                          clear c63
                          obtain ⟨y133, hy133⟩ : ∃ y_ : List Bool, y_ = (x7_2.set (t132 : Int).toNat true) := ⟨_, rfl⟩
                          replace H : ((spec_woStep.f k2 x130000_2 x130001_2 x130002_2 x130003_2 x130004_2 x130005_2 x130006_2).bind fun bt134 => (spec_loLoops.l1 k2 a0 a1 a2 y133 L_1 (wrap64 (x10_2 + 1)) (y119.length : Int) x21_1 bt134.1 bt134.2.1 bt134.2.2.1 bt134.2.2.2.1 bt134.2.2.2.2.1 bt134.2.2.2.2.2.1 bt134.2.2.2.2.2.2)) = some r := by first | (rw [hy133]; with_reducible exact H) | (have H2_ := (Option.bind_some _ _).symm.trans H; rw [hy133]; with_reducible exact H2_) | (have H2_ := (Option.bind_some _ _).symm.trans H; with_reducible exact H2_) | with_reducible exact H | (rw [hy133]; exact H) | exact H
                          have Ny133 := Aside0.mk hy133
                          clear hy133
                          replace H := Option.bind_eq_some_iff.mp H
                          obtain ⟨⟨t134, t135, t136, t137, t138, t139, t140⟩, A650, H⟩ := H
                          replace H : (spec_loLoops.l1 k2 a0 a1 a2 y133 L_1 (wrap64 (x10_2 + 1)) (y119.length : Int) x21_1 t134 t135 t136 t137 t138 t139 t140) = some r := H
                          have A65 := Aside0.mk A650
                          clear A650
                          have H' := Aside0.mk H
                          clear H
                          have hcz66_0 : wr.cell? ⟨gb129, 0, none⟩ = some (.string x130000_2) := (blk_cell BK129.out 0).trans rfl
                          have hcz66_1 : wr.cell? ⟨gb129, 1, none⟩ = some (.int .i64 x130001_2) := (blk_cell BK129.out 1).trans rfl
                          have hcz66_2 : wr.cell? ⟨gb129, 2, none⟩ = some (.int .i64 x130002_2) := (blk_cell BK129.out 2).trans rfl
                          have hcz66_3 : wr.cell? ⟨gb129, 3, none⟩ = some (.string x130003_2) := (blk_cell BK129.out 3).trans rfl
                          have hcz66_4 : wr.cell? ⟨gb129, 4, none⟩ = some (.int .i64 x130004_2) := (blk_cell BK129.out 4).trans rfl
                          have hcz66_5 : wr.cell? ⟨gb129, 5, none⟩ = some (.int .i64 x130005_2) := (blk_cell BK129.out 5).trans rfl
                          have hcz66_6 : wr.cell? ⟨gb129, 6, none⟩ = some (.int .i64 x130006_2) := (blk_cell BK129.out 6).trans rfl
                          have hfz66_0 := blk_frozen BK129.out 0
                          have hfz66_1 := blk_frozen BK129.out 1
                          have hfz66_2 := blk_frozen BK129.out 2
                          have hfz66_3 := blk_frozen BK129.out 3
                          have hfz66_4 := blk_frozen BK129.out 4
                          have hfz66_5 := blk_frozen BK129.out 5
                          have hfz66_6 := blk_frozen BK129.out 6
                          go_wp2_with (first | ((with_reducible refine gate_callee (f := 25) rfl ?_); refine goesL_ (some 31) rfl rfl Tryd.func25 (by kernel_rfl) rfl #[.agg #[.string x130000_2, .int .i64 x130001_2, .int .i64 x130002_2, .string x130003_2, .int .i64 x130004_2, .int .i64 x130005_2, .int .i64 x130006_2]] rfl (by (try simp only [List.map_toArray, List.map_cons, List.map_nil]); first | done | rfl | (simp only [List.length_drop, List.length_take]; rfl)) ?_; (with_reducible refine (spec_loIndex.calls k2 x130000_2 x130001_2 x130002_2 x130003_2 x130004_2 x130005_2 x130006_2 t130 _ A15.out).mono ?_); rintro e w67 ⟨rfl, hb⟩; refine ⟨_, rfl, ?_⟩; have n0_ := Aside0.mk (Kd.R_below (by (with_reducible repeat (first | apply Kd.R_alloc | apply Kd.R_drewN | apply Kd.R_drew)); exact HO_7.out) hb); have n1_ := Aside0.mk (Kd.R_below (by (with_reducible repeat (first | apply Kd.R_alloc | apply Kd.R_drewN | apply Kd.R_drew)); exact HO_8.out) hb); have n2_ := Aside0.mk (blk_below (g := gb129) (o := .cells #[.string x130000_2, .int .i64 x130001_2, .int .i64 x130002_2, .string x130003_2, .int .i64 x130004_2, .int .i64 x130005_2, .int .i64 x130006_2] 41 (0, 0)) (by (with_reducible repeat (first | refine blk_drewN ?_ _ | refine blk_drew ?_ | refine blk_alloc ?_ _)); exact BK129.out) hb); have n3_ := Aside0.mk (below_step (by repeat (first | (with_reducible first | exact HB.out | apply below_alloc | apply pw_below_drewN | apply below_drew1 | refine below_set ?_ GE129.out) | exact HB.out)) hb); have hW_ := Aside0.mk (spec_loLoops.RW.below HW.out hb); clear HW; have HW := hW_; clear hW_; clear HO_7; clear HO_8; clear BK129; clear HB; have HO_7 := n0_; have HO_8 := n1_; have BK129 := n2_; have HB := n3_; clear n0_ n1_ n2_ n3_; (try clear hb); (try clear hb2); (try clear hk); (try clear hi); have p131 : 0 ≤ (t130 : Int) := of_decide_eq_true (by first | (with_reducible assumption) | assumption); have q131 : t130 < (x7_2.length : Int) := of_decide_eq_true (by first | (with_reducible assumption) | assumption); obtain ⟨ad131, e131, hx131_0⟩ := Kd.at_bool (Kd.R_reads' HO_7.out).2.2 t130 p131 q131; (try rw [← Nbq18.out] at hx131_0); cases e131; replace p131 := eq_true p131; replace q131 := eq_true q131; have hcz68_0 : w67.cell? ⟨gb129, 0, none⟩ = some (.string x130000_2) := (blk_cell BK129.out 0).trans rfl; have hcz68_1 : w67.cell? ⟨gb129, 1, none⟩ = some (.int .i64 x130001_2) := (blk_cell BK129.out 1).trans rfl; have hcz68_2 : w67.cell? ⟨gb129, 2, none⟩ = some (.int .i64 x130002_2) := (blk_cell BK129.out 2).trans rfl; have hcz68_3 : w67.cell? ⟨gb129, 3, none⟩ = some (.string x130003_2) := (blk_cell BK129.out 3).trans rfl; have hcz68_4 : w67.cell? ⟨gb129, 4, none⟩ = some (.int .i64 x130004_2) := (blk_cell BK129.out 4).trans rfl; have hcz68_5 : w67.cell? ⟨gb129, 5, none⟩ = some (.int .i64 x130005_2) := (blk_cell BK129.out 5).trans rfl; have hcz68_6 : w67.cell? ⟨gb129, 6, none⟩ = some (.int .i64 x130006_2) := (blk_cell BK129.out 6).trans rfl; have hfz68_0 := blk_frozen BK129.out 0; have hfz68_1 := blk_frozen BK129.out 1; have hfz68_2 := blk_frozen BK129.out 2; have hfz68_3 := blk_frozen BK129.out 3; have hfz68_4 := blk_frozen BK129.out 4; have hfz68_5 := blk_frozen BK129.out 5; have hfz68_6 := blk_frozen BK129.out 6) | ((with_reducible refine gate_callee (f := 25) rfl ?_); refine goesL_ (some 37) rfl rfl Tryd.func25 (by kernel_rfl) rfl #[.agg #[.string x130000_2, .int .i64 x130001_2, .int .i64 x130002_2, .string x130003_2, .int .i64 x130004_2, .int .i64 x130005_2, .int .i64 x130006_2]] rfl (by (try simp only [List.map_toArray, List.map_cons, List.map_nil]); first | done | rfl | (simp only [List.length_drop, List.length_take]; rfl)) ?_; (with_reducible refine (spec_loIndex.calls k2 x130000_2 x130001_2 x130002_2 x130003_2 x130004_2 x130005_2 x130006_2 t132 _ A61.out).mono ?_); rintro e w69 ⟨rfl, hb⟩; refine ⟨_, rfl, ?_⟩; have n0_ := Aside0.mk (Kd.R_below (by (with_reducible repeat (first | apply Kd.R_alloc | apply Kd.R_drewN | apply Kd.R_drew)); exact HO_7.out) hb); have n1_ := Aside0.mk (Kd.R_below (by (with_reducible repeat (first | apply Kd.R_alloc | apply Kd.R_drewN | apply Kd.R_drew)); exact HO_8.out) hb); have n2_ := Aside0.mk (blk_below (g := gb129) (o := .cells #[.string x130000_2, .int .i64 x130001_2, .int .i64 x130002_2, .string x130003_2, .int .i64 x130004_2, .int .i64 x130005_2, .int .i64 x130006_2] 41 (0, 0)) (by (with_reducible repeat (first | refine blk_drewN ?_ _ | refine blk_drew ?_ | refine blk_alloc ?_ _)); exact BK129.out) hb); have n3_ := Aside0.mk (below_step (by repeat (first | (with_reducible first | exact HB.out | apply below_alloc | apply pw_below_drewN | apply below_drew1 | refine below_set ?_ GE129.out) | exact HB.out)) hb); have hW_ := Aside0.mk (spec_loLoops.RW.below HW.out hb); clear HW; have HW := hW_; clear hW_; clear HO_7; clear HO_8; clear BK129; clear HB; have HO_7 := n0_; have HO_8 := n1_; have BK129 := n2_; have HB := n3_; clear n0_ n1_ n2_ n3_; (try clear hb); (try clear hb2); (try clear hk); (try clear hi); have p64 : 0 ≤ (t132 : Int) := of_decide_eq_true (by first | (with_reducible assumption) | assumption); have q64 : (t132 : Int) < ((x7_2.length : Int) : Int) := of_decide_eq_true (by first | (with_reducible assumption) | assumption); obtain ⟨go64, co64, eo64, gb64, gl64, cl64, HG64⟩ := Kd.R_form HO_7.out (by omega); (first | cases eo64 | (injection eo64 with ea_ en_ ec_; (first | subst ea_ | (injection ea_ with ea_; subst ea_)); subst ec_; clear en_)); have GB64 := Aside0.mk gb64; have GG64 := Aside0.mk HG64; clear gb64 gl64 HG64; (first | simp only [add_plain] at hx131_0 | skip); obtain ⟨hx64_0, hf64_0⟩ := Kd.R_celln false HO_7.out (t132 : Int) p64 q64; replace p64 := eq_true p64; replace q64 := eq_true q64; obtain ⟨hy70_, hz70_⟩ := Kd.R_celln false HO_7.out (t132 : Int) (of_decide_eq_true (by first | (with_reducible assumption) | assumption)) (of_decide_eq_true (by first | (with_reducible assumption) | assumption)); have HP70 := Kd.R_putg HO_7.out (t132 : Int) true) | ((with_reducible refine gate_store (t := 4) (p := 38) rfl ?_); refine store_event (t := 4) (p := 38) (v := ?vo_w71) (w1 := (w69.setCell ⟨go64, (t132 : Int).toNat, none⟩ (.bool true))) ?hg ?ho ?hn ?hr ?_; (case ho => rfl); (case hg => rfl); (case hn => rfl); (case hr => first | (go_simp; done) | (go_simp; rfl)); intro w71 hw; have hg : w69.grownBy w71 (some go64) := (by rw [hw]; exact HP70.2); have hp_ : Kd.R Kd.bool 4 w71 w.heap.size (fun _ => True) (.slice (some ⟨go64, 0, none⟩) x7_2.length co9) y133 := (by rw [hw, Ny133.out]; exact HP70.1); clear HP70; have n0_ := Aside0.mk (hp_); have n1_ := Aside0.mk (Kd.R_over' (v := (.slice (some ⟨go64, 0, none⟩) x7_2.length co9)) (by (with_reducible repeat (first | apply Kd.R_alloc | apply Kd.R_drewN | apply Kd.R_drew)); exact HO_8.out) (Kd.R_typed HO_7.out) (by decide) hg); have n2_ := Aside0.mk (blk_grown (g := gb129) (o := .cells #[.string x130000_2, .int .i64 x130001_2, .int .i64 x130002_2, .string x130003_2, .int .i64 x130004_2, .int .i64 x130005_2, .int .i64 x130006_2] 41 (0, 0)) (by (with_reducible repeat (first | refine blk_drewN ?_ _ | refine blk_drew ?_ | refine blk_alloc ?_ _)); exact BK129.out) hg (Kd.R_ne HO_7.out BK129.out (by decide))); have n3_ := Aside0.mk ((by rw [hw]; exact below_set (HB.out) GB64.out : Below w.heap.size w w71)); have hW_ := Aside0.mk (spec_loLoops.RW.grown HW.out hg (Kd.R_typed HO_7.out) (by decide)); clear HW; have HW := hW_; clear hW_; clear HO_7; clear HO_8; clear BK129; clear HB; have HO_7 := n0_; have HO_8 := n1_; have BK129 := n2_; have HB := n3_; clear n0_ n1_ n2_ n3_; clear hg hw hp_; have hcz72_0 : w71.cell? ⟨gb129, 0, none⟩ = some (.string x130000_2) := (blk_cell BK129.out 0).trans rfl; have hcz72_1 : w71.cell? ⟨gb129, 1, none⟩ = some (.int .i64 x130001_2) := (blk_cell BK129.out 1).trans rfl; have hcz72_2 : w71.cell? ⟨gb129, 2, none⟩ = some (.int .i64 x130002_2) := (blk_cell BK129.out 2).trans rfl; have hcz72_3 : w71.cell? ⟨gb129, 3, none⟩ = some (.string x130003_2) := (blk_cell BK129.out 3).trans rfl; have hcz72_4 : w71.cell? ⟨gb129, 4, none⟩ = some (.int .i64 x130004_2) := (blk_cell BK129.out 4).trans rfl; have hcz72_5 : w71.cell? ⟨gb129, 5, none⟩ = some (.int .i64 x130005_2) := (blk_cell BK129.out 5).trans rfl; have hcz72_6 : w71.cell? ⟨gb129, 6, none⟩ = some (.int .i64 x130006_2) := (blk_cell BK129.out 6).trans rfl; have hfz72_0 := blk_frozen BK129.out 0; have hfz72_1 := blk_frozen BK129.out 1; have hfz72_2 := blk_frozen BK129.out 2; have hfz72_3 := blk_frozen BK129.out 3; have hfz72_4 := blk_frozen BK129.out 4; have hfz72_5 := blk_frozen BK129.out 5; have hfz72_6 := blk_frozen BK129.out 6) | ((with_reducible refine gate_callee (f := 26) rfl ?_); refine goesL_ (some 42) rfl rfl Tryd.func26 (by kernel_rfl) rfl #[.agg #[.string x130000_2, .int .i64 x130001_2, .int .i64 x130002_2, .string x130003_2, .int .i64 x130004_2, .int .i64 x130005_2, .int .i64 x130006_2]] rfl (by (try simp only [List.map_toArray, List.map_cons, List.map_nil]); first | done | rfl | (simp only [List.length_drop, List.length_take]; rfl)) ?_; (with_reducible refine (spec_woStep.calls k2 x130000_2 x130001_2 x130002_2 x130003_2 x130004_2 x130005_2 x130006_2 t134 t135 t136 t137 t138 t139 t140 _ A65.out).mono ?_); rintro e w73 ⟨rfl, hb⟩; refine ⟨_, rfl, ?_⟩; have n0_ := Aside0.mk (Kd.R_below (by (with_reducible repeat (first | apply Kd.R_alloc | apply Kd.R_drewN | apply Kd.R_drew)); exact HO_7.out) hb); have n1_ := Aside0.mk (Kd.R_below (by (with_reducible repeat (first | apply Kd.R_alloc | apply Kd.R_drewN | apply Kd.R_drew)); exact HO_8.out) hb); have n2_ := Aside0.mk (blk_below (g := gb129) (o := .cells #[.string x130000_2, .int .i64 x130001_2, .int .i64 x130002_2, .string x130003_2, .int .i64 x130004_2, .int .i64 x130005_2, .int .i64 x130006_2] 41 (0, 0)) (by (with_reducible repeat (first | refine blk_drewN ?_ _ | refine blk_drew ?_ | refine blk_alloc ?_ _)); exact BK129.out) hb); have n3_ := Aside0.mk (below_step (by repeat (first | (with_reducible first | exact HB.out | apply below_alloc | apply pw_below_drewN | apply below_drew1 | refine below_set ?_ GE129.out) | exact HB.out)) hb); have hW_ := Aside0.mk (spec_loLoops.RW.below HW.out hb); clear HW; have HW := hW_; clear hW_; clear HO_7; clear HO_8; clear BK129; clear HB; have HO_7 := n0_; have HO_8 := n1_; have BK129 := n2_; have HB := n3_; clear n0_ n1_ n2_ n3_; (try clear hb); (try clear hb2); (try clear hk); (try clear hi); have hcz74_0 : w73.cell? ⟨gb129, 0, none⟩ = some (.string x130000_2) := (blk_cell BK129.out 0).trans rfl; have hcz74_1 : w73.cell? ⟨gb129, 1, none⟩ = some (.int .i64 x130001_2) := (blk_cell BK129.out 1).trans rfl; have hcz74_2 : w73.cell? ⟨gb129, 2, none⟩ = some (.int .i64 x130002_2) := (blk_cell BK129.out 2).trans rfl; have hcz74_3 : w73.cell? ⟨gb129, 3, none⟩ = some (.string x130003_2) := (blk_cell BK129.out 3).trans rfl; have hcz74_4 : w73.cell? ⟨gb129, 4, none⟩ = some (.int .i64 x130004_2) := (blk_cell BK129.out 4).trans rfl; have hcz74_5 : w73.cell? ⟨gb129, 5, none⟩ = some (.int .i64 x130005_2) := (blk_cell BK129.out 5).trans rfl; have hcz74_6 : w73.cell? ⟨gb129, 6, none⟩ = some (.int .i64 x130006_2) := (blk_cell BK129.out 6).trans rfl; have hfz74_0 := blk_frozen BK129.out 0; have hfz74_1 := blk_frozen BK129.out 1; have hfz74_2 := blk_frozen BK129.out 2; have hfz74_3 := blk_frozen BK129.out 3; have hfz74_4 := blk_frozen BK129.out 4; have hfz74_5 := blk_frozen BK129.out 5; have hfz74_6 := blk_frozen BK129.out 6))
                          (try simp only [← hl7_2])
                          go_roundg k2
                          case measure => have := HK1.out; have := HK2.out; omega
                          case rel => exact ⟨(y133), (wrap64 (x10_2 + 1)), (t134), (t135), (t136), (t137), (t138), (t139), (t140), (by first | rfl | (simp; done) | (simp [*]; done)), H', ⟨by have := HK1.out; have := HK2.out; omega⟩, ⟨by (try simp only [hl7_1]); (try simp only [hl7_2]); (with_reducible repeat (first | apply Kd.R_alloc | apply Kd.R_drewN | apply Kd.R_drew)); exact Kd.R_mono (Kd.R_far (p := ⟨gb129, 6, none⟩) (Kd.R_far (p := ⟨gb129, 5, none⟩) (Kd.R_far (p := ⟨gb129, 4, none⟩) (Kd.R_far (p := ⟨gb129, 3, none⟩) (Kd.R_far (p := ⟨gb129, 2, none⟩) (Kd.R_far (p := ⟨gb129, 1, none⟩) (Kd.R_far (p := ⟨gb129, 0, none⟩) (Kd.R_types HO_7.out BK129.out (by decide)) (fun _ hk => hk.2) (.string t134)) (fun _ hk => hk.2) (.int .i64 t135)) (fun _ hk => hk.2) (.int .i64 t136)) (fun _ hk => hk.2) (.string t137)) (fun _ hk => hk.2) (.int .i64 t138)) (fun _ hk => hk.2) (.int .i64 t139)) (fun _ hk => hk.2) (.int .i64 t140)) (fun _ hk => trivial)⟩, ⟨by (try simp only [hl7_1]); (try simp only [hl7_2]); (with_reducible repeat (first | apply Kd.R_alloc | apply Kd.R_drewN | apply Kd.R_drew)); exact Kd.R_mono (Kd.R_far (p := ⟨gb129, 6, none⟩) (Kd.R_far (p := ⟨gb129, 5, none⟩) (Kd.R_far (p := ⟨gb129, 4, none⟩) (Kd.R_far (p := ⟨gb129, 3, none⟩) (Kd.R_far (p := ⟨gb129, 2, none⟩) (Kd.R_far (p := ⟨gb129, 1, none⟩) (Kd.R_far (p := ⟨gb129, 0, none⟩) (Kd.R_types HO_8.out BK129.out (by decide)) (fun _ hk => hk.2) (.string t134)) (fun _ hk => hk.2) (.int .i64 t135)) (fun _ hk => hk.2) (.int .i64 t136)) (fun _ hk => hk.2) (.string t137)) (fun _ hk => hk.2) (.int .i64 t138)) (fun _ hk => hk.2) (.int .i64 t139)) (fun _ hk => hk.2) (.int .i64 t140)) (fun _ hk => trivial)⟩, ⟨by (try simp only [hl7_1]); (try simp only [hl7_2]); (repeat (refine spec_loLoops.RW.far ?_ (spec_loLoops.RW.ne HW.out BK129.out (by decide)) _)); exact HW.out⟩, ⟨by (try simp only [hl7_1]); (try simp only [hl7_2]); (with_reducible repeat (first | refine blk_drewN ?_ _ | refine blk_drew ?_ | refine blk_alloc ?_ _)); refine blk_put (cs := #[.string t134, .int .i64 t135, .int .i64 t136, .string t137, .int .i64 t138, .int .i64 t139, .int .i64 x130006_2]) ?_ 6 _ rfl; (with_reducible repeat (first | refine blk_drewN ?_ _ | refine blk_drew ?_ | refine blk_alloc ?_ _)); refine blk_put (cs := #[.string t134, .int .i64 t135, .int .i64 t136, .string t137, .int .i64 t138, .int .i64 x130005_2, .int .i64 x130006_2]) ?_ 5 _ rfl; (with_reducible repeat (first | refine blk_drewN ?_ _ | refine blk_drew ?_ | refine blk_alloc ?_ _)); refine blk_put (cs := #[.string t134, .int .i64 t135, .int .i64 t136, .string t137, .int .i64 x130004_2, .int .i64 x130005_2, .int .i64 x130006_2]) ?_ 4 _ rfl; (with_reducible repeat (first | refine blk_drewN ?_ _ | refine blk_drew ?_ | refine blk_alloc ?_ _)); refine blk_put (cs := #[.string t134, .int .i64 t135, .int .i64 t136, .string x130003_2, .int .i64 x130004_2, .int .i64 x130005_2, .int .i64 x130006_2]) ?_ 3 _ rfl; (with_reducible repeat (first | refine blk_drewN ?_ _ | refine blk_drew ?_ | refine blk_alloc ?_ _)); refine blk_put (cs := #[.string t134, .int .i64 t135, .int .i64 x130002_2, .string x130003_2, .int .i64 x130004_2, .int .i64 x130005_2, .int .i64 x130006_2]) ?_ 2 _ rfl; (with_reducible repeat (first | refine blk_drewN ?_ _ | refine blk_drew ?_ | refine blk_alloc ?_ _)); refine blk_put (cs := #[.string t134, .int .i64 x130001_2, .int .i64 x130002_2, .string x130003_2, .int .i64 x130004_2, .int .i64 x130005_2, .int .i64 x130006_2]) ?_ 1 _ rfl; (with_reducible repeat (first | refine blk_drewN ?_ _ | refine blk_drew ?_ | refine blk_alloc ?_ _)); refine blk_put (cs := #[.string x130000_2, .int .i64 x130001_2, .int .i64 x130002_2, .string x130003_2, .int .i64 x130004_2, .int .i64 x130005_2, .int .i64 x130006_2]) ?_ 0 _ rfl; (with_reducible repeat (first | refine blk_drewN ?_ _ | refine blk_drew ?_ | refine blk_alloc ?_ _)); exact BK129.out⟩, ⟨by repeat (first | (with_reducible first | exact HB.out | apply below_alloc | apply pw_below_drewN | apply below_drew1 | refine below_set ?_ GE129.out) | exact HB.out)⟩⟩
                        · rw [if_neg c63] at H
                          exact absurd H (by simp)
                      · rw [if_neg c62] at H
                        exact absurd H (by simp)
                  · rw [if_neg c17] at H
                    exact absurd H (by simp)
                · rw [if_neg c16] at H
                  exact absurd H (by simp)
          · rw [if_neg c10] at H
            have c10b0 : decide (x21_1 < (y119.length : Int)) = false := decide_eq_false c10
            (try (first | rw [hl7_1] at c10b0 | rw [hl7_2] at c10b0))
            clear c10
            obtain rfl := Option.some.inj H
            go_wp2
            go_ret
            exact ⟨_, by first | rfl | (simp [errW_none, errW_some] <;> rfl) | (simp [*, errW_none, errW_some] <;> rfl), ⟨_, HO_8.out, HW.out⟩, by repeat (first | (with_reducible first | exact HB.out | apply below_alloc | apply pw_below_drewN | apply below_drew1) | exact HB.out)⟩
    · rw [if_neg c6] at H
      exact absurd H (by simp)
  · rw [if_neg c5] at H
    exact absurd H (by simp)
theorem spec_loLoops.calls (k : Nat) (a0 : ByteArray) (a1 : Int) (a2 : Int) (r : List (List Int)) (w : World) (h : spec_loLoops.f k a0 a1 a2 = some r) :
    Calls Tryd.prog 16 #[.string a0, .int .i64 a1, .int .i64 a2] w fun e w' => ∃ v0_ : Value, e = .returned (v0_) ∧ Kd.S (Kd.slice 3 (Kd.int .i64)) 31 w' w.heap.size (fun _ => True) v0_ r ∧ Below w.heap.size w w' := by
  obtain ⟨q, hq, hr⟩ := Option.bind_eq_some_iff.mp h
  obtain rfl := Option.some.inj hr
  refine (spec_loLoops.calls0 k a0 a1 a2 q w hq).mono ?_
  rintro e w' ⟨v, rfl, ⟨bs, hR, hW⟩, hb⟩
  exact ⟨v, rfl, spec_loLoops.RW.rows hR hW, hb⟩

/-! ### spec_LoopLengths: function 8 -/
def spec_LoopLengths.f (k : Nat) (a0 : ByteArray) (a1 : Int) (a2 : Int) : Option ((List (List Int)) × Bool) := (spec_loAsked.f k a0 a1 a2).bind fun t118 => (if t118 = true then ((spec_loLoops.f k a0 a1 a2).bind fun t119 => (some (t119, true))) else (some (([] : List (List Int)), false)))
theorem spec_LoopLengths.mono : ∀ a0 a1 a2 k, LeO (spec_LoopLengths.f k a0 a1 a2) (spec_LoopLengths.f (k + 1) a0 a1 a2) := by
  intro a0 a1 a2 k
  unfold spec_LoopLengths.f
  repeat' first
      | (with_reducible exact spec_loAsked.mono _ _ _ _)
      | (with_reducible exact spec_loLoops.mono _ _ _ _)
      | (with_reducible exact LeO.refl _)
      | (with_reducible exact LeO.none _)
      | (with_reducible refine LeO.ite ?_ ?_)
      | (with_reducible refine LeO.bind ?_ (fun _ => ?_))
      | exact spec_loAsked.mono _ _ _ _
      | exact spec_loLoops.mono _ _ _ _
      | exact LeO.none _
      | refine LeO.ite ?_ ?_
      | refine LeO.bind ?_ (fun _ => ?_)
set_option maxHeartbeats 8000000 in
set_option maxRecDepth 100000 in
theorem spec_LoopLengths.calls (k : Nat) (a0 : ByteArray) (a1 : Int) (a2 : Int) (r1 : List (List Int)) (r2 : Bool) (w : World) (h : spec_LoopLengths.f k a0 a1 a2 = some (r1, r2)) :
    Calls Tryd.prog 8 #[.string a0, .int .i64 a1, .int .i64 a2] w fun e w' => ∃ v0_ : Value, e = .returned (.tuple #[v0_, .bool r2]) ∧ Kd.S (Kd.slice 3 (Kd.int .i64)) 31 w' w.heap.size (fun _ => True) v0_ r1 ∧ Below w.heap.size w w' := by
  have HB := Aside0.mk (Below.refl w.heap.size w)
  have H : ((spec_loAsked.f k a0 a1 a2).bind fun t118 => (if t118 = true then ((spec_loLoops.f k a0 a1 a2).bind fun t119 => (some (t119, true))) else (some (([] : List (List Int)), false)))) = some (r1, r2) := h
  clear h
  replace H := Option.bind_eq_some_iff.mp H
  obtain ⟨t118, A40, H⟩ := H
  replace H : (if t118 = true then ((spec_loLoops.f k a0 a1 a2).bind fun t119 => (some (t119, true))) else (some (([] : List (List Int)), false))) = some (r1, r2) := H
  have A4 := Aside0.mk A40
  clear A40
  by_cases c5 : t118 = true
  · subst c5
    have H1 : ((spec_loLoops.f k a0 a1 a2).bind fun t119 => (some (t119, true))) = some (r1, r2) := by rw [if_pos rfl] at H; exact H
    clear H
    have H := H1
    clear H1
    replace H := Option.bind_eq_some_iff.mp H
    obtain ⟨t119, A60, H⟩ := H
    replace H : (some (t119, true)) = some (r1, r2) := H
    have A6 := Aside0.mk A60
    clear A60
    simp only [Option.some.injEq, Prod.mk.injEq] at H
    obtain ⟨rfl, rfl⟩ := H
    go_enter Tryd.func8, Tryd.ntmps8
    go_wp2_with (first | ((with_reducible refine gate_callee (f := 15) rfl ?_); refine goesL_ (some 11) rfl rfl Tryd.func15 (by kernel_rfl) rfl #[.string a0, .int .i64 a1, .int .i64 a2] rfl (by (try simp only [List.map_toArray, List.map_cons, List.map_nil]); first | done | rfl | (simp only [List.length_drop, List.length_take]; rfl)) ?_; (with_reducible refine (spec_loAsked.calls k a0 a1 a2 true _ A4.out).mono ?_); rintro e w' ⟨rfl, ⟨nd, rfl⟩⟩; refine ⟨_, rfl, ?_⟩) | ((with_reducible refine gate_callee (f := 16) rfl ?_); refine goesL_ (some 16) rfl rfl Tryd.func16 (by kernel_rfl) rfl #[.string a0, .int .i64 a1, .int .i64 a2] rfl (by (try simp only [List.map_toArray, List.map_cons, List.map_nil]); first | done | rfl | (simp only [List.length_drop, List.length_take]; rfl)) ?_; (with_reducible refine (spec_loLoops.calls k a0 a1 a2 t119 _ A6.out).mono ?_); rintro e w7 ⟨v120, rfl, ho0, hb⟩; refine ⟨_, rfl, ?_⟩; have n0_ := Aside0.mk (Kd.S_lower ho0 (below_size (by repeat (first | (with_reducible first | exact HB.out | apply below_alloc | apply pw_below_drewN | apply below_drew1) | exact HB.out)))); have n1_ := Aside0.mk (below_step (by repeat (first | (with_reducible first | exact HB.out | apply below_alloc | apply pw_below_drewN | apply below_drew1) | exact HB.out)) hb); clear HB; have HO121 := n0_; have HB := n1_; clear n0_ n1_; (try clear hb); (try clear hb2); (try clear hk); (try clear hi); (try clear ho0)))
    go_ret2
    exact ⟨_, by first | rfl | (simp [errW_none, errW_some] <;> rfl) | (simp [*, errW_none, errW_some] <;> rfl), by (with_reducible repeat (first | apply Kd.S_alloc | apply Kd.S_drewN | apply Kd.S_drew)); exact HO121.out, by repeat (first | (with_reducible first | exact HB.out | apply below_alloc | apply pw_below_drewN | apply below_drew1) | exact HB.out)⟩
  · replace c5 := Bool.eq_false_iff.mpr c5
    subst c5
    have H1 : (some (([] : List (List Int)), false)) = some (r1, r2) := by rw [if_neg (show ¬ (false = true) by decide)] at H; exact H
    clear H
    have H := H1
    clear H1
    simp only [Option.some.injEq, Prod.mk.injEq] at H
    obtain ⟨rfl, rfl⟩ := H
    go_enter Tryd.func8, Tryd.ntmps8
    go_wp2_with (first | ((with_reducible refine gate_callee (f := 15) rfl ?_); refine goesL_ (some 11) rfl rfl Tryd.func15 (by kernel_rfl) rfl #[.string a0, .int .i64 a1, .int .i64 a2] rfl (by (try simp only [List.map_toArray, List.map_cons, List.map_nil]); first | done | rfl | (simp only [List.length_drop, List.length_take]; rfl)) ?_; (with_reducible refine (spec_loAsked.calls k a0 a1 a2 false _ A4.out).mono ?_); rintro e w' ⟨rfl, ⟨nd, rfl⟩⟩; refine ⟨_, rfl, ?_⟩))
    go_ret2
    exact ⟨_, by first | rfl | (simp [errW_none, errW_some] <;> rfl) | (simp [*, errW_none, errW_some] <;> rfl), by first | exact Kd.S_nil _ _ _ _ _ | exact Kd.N_nil _ _ _ _ _ | exact Kd.V_nil _ _ _ _ _ | exact Kd.Q_nil _ _ _ _ _ | exact Kd.R_nil _ _ _ _ _, by repeat (first | (with_reducible first | exact HB.out | apply below_alloc | apply pw_below_drewN | apply below_drew1) | exact HB.out)⟩

/-! ### impl_within: function 47 -/
def impl_within.f (a0 : Int) (a1 : Int) (a2 : Int) : Option (Bool) := if a1 ≤ a0 then (some (decide (a0 ≤ a2))) else (some false)
set_option maxHeartbeats 8000000 in
set_option maxRecDepth 100000 in
theorem impl_within.calls (a0 : Int) (a1 : Int) (a2 : Int) (r : Bool) (w : World) (h : impl_within.f a0 a1 a2 = some r) :
    Calls Tryd.prog 47 #[.int .i64 a0, .int .i64 a1, .int .i64 a2] w fun e w' => e = .returned (.bool r) ∧ Drawn0 w w' := by
  have H : (if a1 ≤ a0 then (some (decide (a0 ≤ a2))) else (some false)) = some r := h
  clear h
  by_cases c4 : a1 ≤ a0
  · rw [if_pos c4] at H
    have c4b0 : decide (a1 ≤ a0) = true := decide_eq_true c4
    clear c4
    obtain rfl := Option.some.inj H
    go_enter Tryd.func47, Tryd.ntmps47
    go_wp2
    go_ret
    exact ⟨by first | rfl | (simp; done) | (simp [*]; done), by repeat (first | exact Drawn0.refl _ | apply Drawn0.step)⟩
  · rw [if_neg c4] at H
    have c4b0 : decide (a1 ≤ a0) = false := decide_eq_false c4
    clear c4
    obtain rfl := Option.some.inj H
    go_enter Tryd.func47, Tryd.ntmps47
    go_wp2
    go_ret
    exact ⟨by first | rfl | (simp; done) | (simp [*]; done), by repeat (first | exact Drawn0.refl _ | apply Drawn0.step)⟩

/-! ### strings_Trim: function 48 -/
def strings_Trim.f (a0 : ByteArray) (a1 : ByteArray) : Option ByteArray := if a0.size ≤ 9223372036854775807 then (if a1 = (⟨#[76, 82, 78, 85]⟩ : ByteArray) then some ⟨(Lib.trimS a0.data.toList [76, 82, 78, 85]).toArray⟩ else none) else none
theorem strings_Trim.calls (a0 : ByteArray) (a1 : ByteArray) (r : ByteArray) (w : World) (h : strings_Trim.f a0 a1 = some r) : Calls Tryd.prog 48 #[.string a0, .string a1] w fun e w' => e = .returned (.string r) ∧ Below w.heap.size w w' := by
  unfold strings_Trim.f at h
  by_cases h1 : a0.size ≤ 9223372036854775807
  · rw [if_pos h1] at h
    by_cases h2 : a1 = (⟨#[76, 82, 78, 85]⟩ : ByteArray)
    · rw [if_pos h2] at h
      obtain rfl := Option.some.inj h
      subst h2
      exact Any.strings_Trim_laid Tryd.lays160 (by kernel_rfl) a0 (⟨#[76, 82, 78, 85]⟩ : ByteArray) w h1 (by decide) (ascii_of_all (by decide))
    · rw [if_neg h2] at h
      cases h
  · rw [if_neg h1] at h
    cases h

end Go.Proofs.YtgaplnhjddlieaaDoor.PN
