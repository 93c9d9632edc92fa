/- The plain law of TurtleDraws: for every text and number the program's picture (box and rows of the points in its map) is the reference's. No condition. -/
import Derived.Test.YtklnfjjpjkphiaaPDx4
import Derived.Test.YtklnfjjpjkphiaaPDx5
import Derived.Test.YtklnfjjpjkphiaaPDx9
import Derived.Test.YtklnfjjpjkphiaaPDx10
import Derived.Test.YtklnfjjpjkphiaaPDx11
import Derived.Test.YtklnfjjpjkphiaaDPuPass
import Derived.Test.YtklnfjjpjkphiaaPuStr
namespace Go.Proofs.Ytklnfjjpjkphiaa.Pure
open Go.RowKit Go.Proofs.Ytklnfjjpjkphiaa Go.Proofs.Ytklnfjjpjkphiaa.PD Go.Proofs.YtklnfjjpjkphiaaW.PrintWords Go.Proofs.YtklnfjjpjkphiaaW.PrintLast
set_option linter.unusedVariables false
set_option linter.unusedSimpArgs false

/-! how far the points go -/
def InB (C : Int) (p : Int × Int) : Prop := (-C ≤ p.1 ∧ p.1 ≤ C) ∧ (-C ≤ p.2 ∧ p.2 ≤ C)
theorem inB_le {C C' : Int} {p : Int × Int} (h : InB C p) (hc : C ≤ C') : InB C' p := ⟨⟨by have := h.1.1; omega, by have := h.1.2; omega⟩, by have := h.2.1; omega, by have := h.2.2; omega⟩
theorem ptsS_in {a b : Int} (ha : -1 ≤ a ∧ a ≤ 1) (hb : -1 ≤ b ∧ b ≤ 1) : ∀ (n : Nat) (x y B : Int), InB B (x, y) → ∀ p ∈ ptsS a b n x y, InB (B + n) p
  | 0, _, _, _, _, p, h => by simp [ptsS] at h
  | n + 1, x, y, B, hx, p, h => by
    have h1 : InB (B + 1) (x + a, y + b) := ⟨⟨by have := hx.1.1; dsimp only at this ⊢; omega, by have := hx.1.2; dsimp only at this ⊢; omega⟩, by have := hx.2.1; dsimp only at this ⊢; omega, by have := hx.2.2; dsimp only at this ⊢; omega⟩
    rw [ptsS] at h
    rcases List.mem_cons.1 h with rfl | h
    · exact inB_le h1 (by omega)
    · exact inB_le (ptsS_in ha hb n _ _ _ h1 p h) (by omega)
theorem ptsL_in : ∀ (l : PL) (t : Tu) (B : Int), TuIn t B → Dig l → ∀ p ∈ ptsL l t, InB (B + 9 * l.length) p
  | [], _, _, _, _, p, h => by simp [ptsL] at h
  | q :: l, t, B, ht, hd, p, h => by
    obtain ⟨h1, h2⟩ := dig_tail hd
    rw [ptsL] at h
    rw [List.length_cons]
    rcases List.mem_append.1 h with h | h
    · exact inB_le (ptsS_in (tdx_in t.v) (tdy_in t.v) _ _ _ B ⟨⟨ht.x0, ht.x1⟩, ht.y0, ht.y1⟩ p h) (by omega)
    · exact inB_le (ptsL_in l (advP t q) (B + 9) (tuIn_le (advP_in ht h1) (by omega)) h2 p h) (by omega)
theorem ptsN_in {l : PL} (hl : l.length ≤ 9) (hd : Dig l) : ∀ (n : Nat) (t : Tu) (B : Int), TuIn t B → ∀ p ∈ ptsN l n t, InB (B + 81 * n) p
  | 0, _, _, _, p, h => by simp [ptsN] at h
  | n + 1, t, B, ht, p, h => by
    have h2 := sm_in l hd
    rw [ptsN] at h
    rcases List.mem_append.1 h with h | h
    · exact inB_le (ptsL_in l t B ht hd p h) (by omega)
    · exact inB_le (ptsN_in hl hd n (advL t l) (B + 81) (tuIn_le (advL_in l ht hd) (by omega)) p h) (by omega)
theorem passed_in {s : ByteArray} (g : GoodP s) {m : Int} (m0 : 0 ≤ m) (m1 : m ≤ 100) : ∀ p ∈ passed s m, InB 10000 p := by
  obtain ⟨hl, hd⟩ := pl_small g
  intro p hp
  unfold passed at hp
  rcases List.mem_cons.1 hp with rfl | hp
  · exact ⟨⟨by decide, by decide⟩, by decide, by decide⟩
  · exact inB_le (ptsN_in hl hd m.toNat ⟨0, 0, 0⟩ 0 ⟨by decide, by decide, by decide, by decide, by decide, by decide⟩ p hp) (by omega)
/-! what the entries are -/
def Ent (Q : Int × Int → Prop) (B : Int) (E : PE) : Prop := ∀ e ∈ E, Q (e.1, e.2.1) ∧ 1 ≤ e.2.2 ∧ e.2.2 ≤ B
theorem upd_ent {Q : Int × Int → Prop} {B x y : Int} (hq : Q (x, y)) (b0 : 0 ≤ B) (b1 : B ≤ 1000000) : ∀ {E : PE}, Ent Q B E → Ent Q (B + 1) (impl_passes.upd E x y)
  | [], _, e, he => by
    unfold impl_passes.upd at he
    rw [List.mem_singleton.1 he]
    exact ⟨hq, Int.le_refl 1, by show (1 : Int) ≤ B + 1; omega⟩
  | d :: E, h, e, he => by
    have hd := h d List.mem_cons_self
    have ht : Ent Q B E := fun b hb => h b (List.mem_cons_of_mem _ hb)
    unfold impl_passes.upd at he
    by_cases c : d.1 = x ∧ d.2.1 = y
    · rw [if_pos c] at he
      rcases List.mem_cons.1 he with rfl | he
      · have w : wrap64 (d.2.2 + 1) = d.2.2 + 1 := Pl.w64 (by omega) (by omega)
        refine ⟨hd.1, ?_, ?_⟩
        · show 1 ≤ wrap64 (d.2.2 + 1)
          omega
        · show wrap64 (d.2.2 + 1) ≤ B + 1
          omega
      · have := ht e he
        exact ⟨this.1, this.2.1, by omega⟩
    · rw [if_neg c] at he
      rcases List.mem_cons.1 he with rfl | he
      · exact ⟨hd.1, hd.2.1, by omega⟩
      · exact upd_ent hq b0 b1 ht e he
theorem foldU_ent {Q : Int × Int → Prop} : ∀ (P : List (Int × Int)) (B : Int) {E : PE}, (∀ p ∈ P, Q p) → 0 ≤ B → B + P.length ≤ 1000000 → Ent Q B E → Ent Q (B + P.length) (foldU E P)
  | [], B, E, _, _, _, h => fun e he => by have := h e he; exact ⟨this.1, this.2.1, by simp; omega⟩
  | p :: P, B, E, hq, b0, b1, h => by
    rw [foldU_cons]
    rw [List.length_cons] at b1 ⊢
    have := foldU_ent P (B + 1) (fun q hm => hq q (List.mem_cons_of_mem _ hm)) (by omega) (by omega) (upd_ent (E := E) (x := p.1) (y := p.2) (hq p List.mem_cons_self) b0 (by omega) h)
    intro e he
    have := this e he
    exact ⟨this.1, this.2.1, by omega⟩
theorem cnt_has {Q : Int × Int → Prop} {B : Int} (x y : Int) : ∀ {E : PE}, Ent Q B E → (impl_passes.cnt E x y > 0 ↔ impl_passes.hasE E x y = true)
  | [], _ => by simp [impl_passes.cnt, impl_passes.hasE]
  | d :: E, h => by
    have hd := h d List.mem_cons_self
    have ih := cnt_has x y (E := E) (fun b hb => h b (List.mem_cons_of_mem _ hb))
    unfold impl_passes.cnt impl_passes.hasE
    rw [List.any_cons]
    by_cases c : d.1 = x ∧ d.2.1 = y
    · rw [if_pos c]
      simp [c]
      omega
    · rw [if_neg c]
      have : (decide (d.1 = x) && decide (d.2.1 = y)) = false := by
        cases h1 : decide (d.1 = x) && decide (d.2.1 = y) with
        | false => rfl
        | true => simp at h1; exact absurd h1 c
      rw [this, Bool.false_or]
      exact ih
/-! the box -/
def bx (E : PE) : List Int := [(E.map (·.1)).foldl mn (ge E 0).1, (E.map (·.1)).foldl mx (ge E 0).1, (E.map (·.2.1)).foldl mn (ge E 0).2.1, (E.map (·.2.1)).foldl mx (ge E 0).2.1]
theorem least_val (a b : Int) : spec_l1Least.f a b = some (mn a b) := by
  unfold spec_l1Least.f mn
  by_cases h : a < b
  · rw [if_pos h, if_neg (by omega)]
  · rw [if_neg h]
    by_cases h2 : b < a
    · rw [if_pos h2]
    · rw [if_neg h2, show b = a by omega]
theorem most_val (a b : Int) : spec_l1Most.f a b = some (mx a b) := by
  unfold spec_l1Most.f mx
  by_cases h : a > b
  · rw [if_pos h, if_neg (by omega)]
  · rw [if_neg h]
    by_cases h2 : a < b
    · rw [if_pos h2]
    · rw [if_neg h2, show b = a by omega]
theorem sbox_l0 {E : PE} (hE : E.length ≤ 1000000) (n : Nat) : ∀ (i a b c d : Int), ((E.length : Int) - i).toNat = n → 0 ≤ i → i ≤ E.length →
    Ev (fun k => spec_tuBox.l0 k [a, b, c, d] (E.map rowE) E.length i) [((E.drop i.toNat).map (·.1)).foldl mn a, ((E.drop i.toNat).map (·.1)).foldl mx b, ((E.drop i.toNat).map (·.2.1)).foldl mn c, ((E.drop i.toNat).map (·.2.1)).foldl mx d] := by
  induction n with
  | zero =>
    intro i a b c d hn h1 h2
    refine Pl.ev_unf ⟨0, fun k _ => ?_⟩
    rw [spec_tuBox.l0, if_neg (by omega), List.drop_eq_nil_of_le (by omega)]
    rfl
  | succ n ih =>
    intro i a b c d hn h1 h2
    have w1 : wrap64 (i + 1) = i + 1 := Pl.w64 (by omega) (by omega)
    have hi : i.toNat < E.length := by omega
    obtain ⟨K1, f1⟩ := ih (i + 1) (mn a (ge E i).1) (mx b (ge E i).1) (mn c (ge E i).2.1) (mx d (ge E i).2.1) (by omega) (by omega) (by omega)
    have q : (((([a, b, c, d] : List Int)).length : Nat) : Int) = 4 := rfl
    have q0 : rd ([a, b, c, d] : List Int) 0 = a := rfl
    have q1 : rd ([a, b, c, d] : List Int) 1 = b := rfl
    have q2 : rd ([a, b, c, d] : List Int) 2 = c := rfl
    have q3 : rd ([a, b, c, d] : List Int) 3 = d := rfl
    have p : (((([(ge E i).1, (ge E i).2.1] : List Int)).length : Nat) : Int) = 2 := rfl
    have p0 : rd ([(ge E i).1, (ge E i).2.1] : List Int) 0 = (ge E i).1 := rfl
    have p1 : rd ([(ge E i).1, (ge E i).2.1] : List Int) 1 = (ge E i).2.1 := rfl
    refine Pl.ev_unf ⟨K1, fun k hk => ?_⟩
    have f1 := f1 k hk
    dsimp only at f1
    rw [spec_tuBox.l0, List.length_map, q, q0, q1, q2, q3, if_pos (by omega), if_pos (by omega), if_pos (by omega), if_pos (by omega), rowE_at (by omega) (by omega), p, p0, p1, if_pos (by omega), least_val, Option.bind_some, if_pos (by omega), most_val, Option.bind_some, if_pos (by omega), if_pos (by omega), least_val, Option.bind_some, if_pos (by omega), most_val, Option.bind_some, w1, f1, List.drop_eq_getElem_cons hi, show (i + 1).toNat = i.toNat + 1 by omega, ← ge_at hi]
    rfl
theorem sbox_val {E : PE} (h1 : 1 ≤ E.length) (hE : E.length ≤ 1000000) : Ev (fun k => spec_tuBox.f k (E.map rowE)) (bx E) := by
  obtain ⟨K1, f1⟩ := sbox_l0 hE _ 0 (ge E 0).1 (ge E 0).1 (ge E 0).2.1 (ge E 0).2.1 rfl (by omega) (by omega)
  refine ⟨K1, fun k hk => ?_⟩
  have f1 := f1 k hk
  have p : (((([(ge E 0).1, (ge E 0).2.1] : List Int)).length : Nat) : Int) = 2 := rfl
  have p0 : rd ([(ge E 0).1, (ge E 0).2.1] : List Int) 0 = (ge E 0).1 := rfl
  have p1 : rd ([(ge E 0).1, (ge E 0).2.1] : List Int) 1 = (ge E 0).2.1 := rfl
  dsimp only at f1 ⊢
  rw [spec_tuBox.f, List.length_map, if_pos (by omega), rowE_at (by omega) (by omega), p, p0, p1, if_pos (by omega), if_pos (by omega), f1]
  rfl
theorem pts_ge {E : PE} {i : Int} (h : i.toNat < E.length) : rd_T36 (impl_TurtleDraws.pts E) i = ⟨(ge E i).1, (ge E i).2.1⟩ := by
  have h2 : i.toNat < (impl_TurtleDraws.pts E).length := by unfold impl_TurtleDraws.pts; rw [List.length_map]; exact h
  rw [impl_TurtleDraws.rdT h2, ge_at h]
  exact List.getElem_map (fun e : Int × Int × Int => (⟨e.1, e.2.1⟩ : S36)) (h := h2)
theorem ibox_val {E : PE} (h1 : 1 ≤ E.length) (hE : E.length ≤ 1000000) : Ev (fun k => impl_box.f k (impl_TurtleDraws.pts E)) (bx E) := by
  have hl : (impl_TurtleDraws.pts E).length = E.length := by unfold impl_TurtleDraws.pts; rw [List.length_map]
  refine ⟨E.length + 1, fun k hk => ?_⟩
  dsimp only
  rw [impl_box.f, if_pos (by omega), pts_ge (by omega), impl_TurtleDraws.box_l0 (by omega) k 0 _ _ _ _ (by omega) (by omega), if_pos (by omega)]
  have m0 : ((impl_TurtleDraws.pts E).drop (0 : Int).toNat).map S36.f0 = E.map (·.1) := by
    show (impl_TurtleDraws.pts E).map S36.f0 = _
    unfold impl_TurtleDraws.pts
    rw [List.map_map]
    rfl
  have m1 : ((impl_TurtleDraws.pts E).drop (0 : Int).toNat).map S36.f1 = E.map (·.2.1) := by
    show (impl_TurtleDraws.pts E).map S36.f1 = _
    unfold impl_TurtleDraws.pts
    rw [List.map_map]
    rfl
  rw [m0, m1]
  rfl
theorem bx_in {E : PE} {B : Int} (h1 : 1 ≤ E.length) (h : Ent (InB 10000) B E) : ∃ a b c d : Int, bx E = [a, b, c, d] ∧ (-10000 ≤ a ∧ a ≤ 10000) ∧ (-10000 ≤ b ∧ b ≤ 10000) ∧ (-10000 ≤ c ∧ c ≤ 10000) ∧ (-10000 ≤ d ∧ d ≤ 10000) := by
  have h0 : ge E 0 ∈ E := by rw [ge_at (by show 0 < _; omega)]; exact List.getElem_mem _
  have hx : ∀ x ∈ E.map (·.1), -10000 ≤ x ∧ x ≤ 10000 := fun x hx => by
    obtain ⟨e, he, rfl⟩ := List.mem_map.1 hx
    exact (h e he).1.1
  have hy : ∀ x ∈ E.map (·.2.1), -10000 ≤ x ∧ x ≤ 10000 := fun x hx => by
    obtain ⟨e, he, rfl⟩ := List.mem_map.1 hx
    exact (h e he).1.2
  have x0 : (ge E 0).1 ∈ E.map (·.1) := List.mem_map.2 ⟨_, h0, rfl⟩
  have y0 : (ge E 0).2.1 ∈ E.map (·.2.1) := List.mem_map.2 ⟨_, h0, rfl⟩
  refine ⟨_, _, _, _, rfl, hx _ ?_, hx _ ?_, hy _ ?_, hy _ ?_⟩
  · rcases (impl_TurtleDraws.least (E.map (·.1)) (ge E 0).1).2.2 with q | q
    · rw [q]; exact x0
    · exact q
  · rcases (impl_TurtleDraws.most (E.map (·.1)) (ge E 0).1).2.2 with q | q
    · rw [q]; exact x0
    · exact q
  · rcases (impl_TurtleDraws.least (E.map (·.2.1)) (ge E 0).2.1).2.2 with q | q
    · rw [q]; exact y0
    · exact q
  · rcases (impl_TurtleDraws.most (E.map (·.2.1)) (ge E 0).2.1).2.2 with q | q
    · rw [q]; exact y0
    · exact q
/-! the picture -/
def cellE (E : PE) (x y : Int) : Int := if impl_passes.hasE E x y = true then 35 else 46
def rowN (E : PE) : Nat → Int → Int → List Int
  | 0, _, _ => []
  | n + 1, x, y => cellE E x y :: rowN E n (x + 1) y
theorem rowN_len (E : PE) : ∀ (n : Nat) (x y : Int), (rowN E n x y).length = n
  | 0, _, _ => rfl
  | n + 1, x, y => by rw [rowN, List.length_cons, rowN_len E n]
def rowsN (E : PE) (a : Int) (q : Nat) : Nat → Int → List (List Int)
  | 0, _ => []
  | n + 1, y => rowN E q a y :: rowsN E a q n (y + 1)
def J : List (List Int) → List Int
  | [] => []
  | x :: r => x ++ (r.map (47 :: ·)).flatten
theorem J_snoc (Rs : List (List Int)) (R : List Int) : J (Rs ++ [R]) = if Rs = [] then R else J Rs ++ 47 :: R := by
  cases Rs with
  | nil => simp [J]
  | cons x r => simp [J]
theorem J_len {q : Nat} : ∀ (Rs : List (List Int)), (∀ R ∈ Rs, R.length = q) → (J Rs).length ≤ (q + 1) * Rs.length := by
  have ht : ∀ r : List (List Int), (∀ R ∈ r, R.length = q) → ((r.map (47 :: ·)).flatten : List Int).length = (q + 1) * r.length := by
    intro r
    induction r with
    | nil => intro _; rfl
    | cons x r ih =>
      intro h
      rw [List.map_cons, List.flatten_cons, List.length_append, ih (fun R hR => h R (List.mem_cons_of_mem _ hR)), List.length_cons, h x List.mem_cons_self, List.length_cons, Nat.mul_add]
      omega
  intro Rs h
  cases Rs with
  | nil => simp [J]
  | cons x r =>
    rw [J, List.length_append, h x List.mem_cons_self, ht r (fun R hR => h R (List.mem_cons_of_mem _ hR)), List.length_cons, Nat.mul_add]
    omega
theorem J_join (Rs : List (List Int)) : (⟨(Lib.join ((Rs.map strOfNums).map (·.data.toList)) [47]).toArray⟩ : ByteArray) = strOfNums (J Rs) := by
  apply Pl.ba_ext
  show Lib.join ((Rs.map strOfNums).map (·.data.toList)) [47] = _
  rw [strOfNums_data, List.map_map]
  cases Rs with
  | nil => rfl
  | cons x r =>
    rw [List.map_cons, Lib.join_cons, J, List.map_append, Lib.joinTail, List.map_map, List.map_flatten, List.map_map]
    congr 1
theorem drop_has {E : PE} {x y i : Int} (h0 : 0 ≤ i) (h : i < E.length) : impl_passes.hasE (E.drop i.toNat) x y = ((decide ((ge E i).1 = x) && decide ((ge E i).2.1 = y)) || impl_passes.hasE (E.drop (i + 1).toNat) x y) := by
  have hi : i.toNat < E.length := by omega
  rw [List.drop_eq_getElem_cons hi, show (i + 1).toNat = i.toNat + 1 by omega, ge_at hi]
  rfl
section
variable {E : PE} {r : List Int} {res : ByteArray × Bool} {a b c d : Int} (hE : E.length ≤ 1000000)
include hE
theorem sdraw_l2 {x y : Int} {x9 : ByteArray} (hz : x9.size ≤ 1000000) (n : Nat) : ∀ (i : Int) (s : ByteArray), ((E.length : Int) - i).toNat = n → 0 ≤ i → i ≤ E.length → s.size = 1 →
    Ev (fun k => spec_TurtleDraws.l1 k (E.map rowE) r (x9 ++ (if impl_passes.hasE (E.drop i.toNat) x y = true then (⟨#[35]⟩ : ByteArray) else s)) y (wrap64 (x + 1))) res →
    Ev (fun k => spec_TurtleDraws.l2 k (E.map rowE) r x9 y x s (E.map rowE) E.length i) res := by
  induction n with
  | zero =>
    intro i s hn h1 h2 hs ⟨K, f⟩
    rw [List.drop_eq_nil_of_le (show E.length ≤ i.toNat by omega), if_neg (by simp [impl_passes.hasE])] at f
    refine Pl.ev_unf ⟨K, fun k hk => ?_⟩
    rw [spec_TurtleDraws.l2, if_neg (by omega), if_pos (by omega)]
    exact f k hk
  | succ n ih =>
    intro i s hn h1 h2 hs hf
    have w1 : wrap64 (i + 1) = i + 1 := Pl.w64 (by omega) (by omega)
    rw [drop_has h1 (by omega)] at hf
    have p : (((([(ge E i).1, (ge E i).2.1] : List Int)).length : Nat) : Int) = 2 := rfl
    have p0 : rd ([(ge E i).1, (ge E i).2.1] : List Int) 0 = (ge E i).1 := rfl
    have p1 : rd ([(ge E i).1, (ge E i).2.1] : List Int) 1 = (ge E i).2.1 := rfl
    by_cases c1 : (ge E i).1 = x
    · by_cases c2 : (ge E i).2.1 = y
      · obtain ⟨K, f⟩ := ih (i + 1) ⟨#[35]⟩ (by omega) (by omega) (by omega) rfl (by
          rw [if_pos (by simp [c1, c2])] at hf
          rw [ite_self]
          exact hf)
        refine Pl.ev_unf ⟨K, fun k hk => ?_⟩
        have f := f k hk
        dsimp only at f
        rw [spec_TurtleDraws.l2, List.length_map, if_pos (by omega), if_pos (by omega), if_pos (by omega), rowE_at (by omega) (by omega), p, p0, p1, if_pos (by omega), if_pos c1, if_pos (by omega), if_pos c2, w1]
        exact f
      · obtain ⟨K, f⟩ := ih (i + 1) s (by omega) (by omega) (by omega) hs (by
          rw [show (decide ((ge E i).1 = x) && decide ((ge E i).2.1 = y)) = false by simp [c2], Bool.false_or] at hf
          exact hf)
        refine Pl.ev_unf ⟨K, fun k hk => ?_⟩
        have f := f k hk
        dsimp only at f
        rw [spec_TurtleDraws.l2, List.length_map, if_pos (by omega), if_pos (by omega), if_pos (by omega), rowE_at (by omega) (by omega), p, p0, p1, if_pos (by omega), if_pos c1, if_pos (by omega), if_neg c2, w1]
        exact f
    · obtain ⟨K, f⟩ := ih (i + 1) s (by omega) (by omega) (by omega) hs (by
        rw [show (decide ((ge E i).1 = x) && decide ((ge E i).2.1 = y)) = false by simp [c1], Bool.false_or] at hf
        exact hf)
      refine Pl.ev_unf ⟨K, fun k hk => ?_⟩
      have f := f k hk
      dsimp only at f
      rw [spec_TurtleDraws.l2, List.length_map, if_pos (by omega), if_pos (by omega), if_pos (by omega), rowE_at (by omega) (by omega), p, p0, p1, if_pos (by omega), if_neg c1, w1]
      exact f
theorem sdraw_l1 (hb : -100000 ≤ b ∧ b ≤ 100000) {y : Int} (n : Nat) : ∀ (x : Int) (acc : List Int), (b + 1 - x).toNat = n → -100000 ≤ x → acc.length + n ≤ 900000 →
    Ev (fun k => spec_TurtleDraws.l0 k (E.map rowE) [a, b, c, d] (strOfNums (acc ++ rowN E n x y)) (wrap64 (y + 1))) res →
    Ev (fun k => spec_TurtleDraws.l1 k (E.map rowE) [a, b, c, d] (strOfNums acc) y x) res := by
  have q : (((([a, b, c, d] : List Int)).length : Nat) : Int) = 4 := rfl
  have q1 : rd ([a, b, c, d] : List Int) 1 = b := rfl
  induction n with
  | zero =>
    intro x acc hn h0 hl ⟨K, f⟩
    refine Pl.ev_unf ⟨K, fun k hk => ?_⟩
    have f := f k hk
    dsimp only at f
    rw [rowN, List.append_nil] at f
    rw [spec_TurtleDraws.l1, q, q1, if_pos (by omega), if_neg (by omega)]
    exact f
  | succ n ih =>
    intro x acc hn h0 hl hf
    have w1 : wrap64 (x + 1) = x + 1 := Pl.w64 (by omega) (by omega)
    obtain ⟨K, f⟩ := sdraw_l2 hE (r := [a, b, c, d]) (res := res) (x := x) (y := y) (x9 := strOfNums acc) (by rw [sSize]; omega) _ 0 ⟨#[46]⟩ rfl (by omega) (by omega) rfl (by
      rw [w1]
      have e : strOfNums acc ++ (if impl_passes.hasE (E.drop (0 : Int).toNat) x y = true then (⟨#[35]⟩ : ByteArray) else ⟨#[46]⟩) = strOfNums (acc ++ [cellE E x y]) := by
        rw [← sApp]
        congr 1
        unfold cellE
        show (if impl_passes.hasE E x y = true then _ else _) = _
        split <;> rfl
      rw [e]
      exact ih (x + 1) (acc ++ [cellE E x y]) (by omega) (by omega) (by rw [List.length_append, List.length_singleton]; omega) (by rw [rowN] at hf; rw [List.append_assoc, List.singleton_append]; exact hf))
    refine Pl.ev_unf ⟨K, fun k hk => ?_⟩
    have f := f k hk
    dsimp only at f
    rw [spec_TurtleDraws.l1, q, q1, List.length_map, if_pos (by omega), if_pos (by omega)]
    exact f
theorem sdraw_l0 (ha : -10000 ≤ a ∧ a ≤ 10000) (hb : -10000 ≤ b ∧ b ≤ 10000) (hc : -10000 ≤ c ∧ c ≤ 10000) (hd : -10000 ≤ d ∧ d ≤ 10000) (hx : b - a < 60) (hy : d - c < 60) (n : Nat) : ∀ (y : Int) (Rs : List (List Int)), (d + 1 - y).toNat = n → y = c + Rs.length → c ≤ y → (∀ R ∈ Rs, R.length = (b + 1 - a).toNat) → Rs.length ≤ 60 →
    Ev (fun k => spec_TurtleDraws.l0 k (E.map rowE) [a, b, c, d] (strOfNums (J Rs)) y) (strOfNums (J (Rs ++ rowsN E a (b + 1 - a).toNat n y)), true) := by
  have q : (((([a, b, c, d] : List Int)).length : Nat) : Int) = 4 := rfl
  have q0 : rd ([a, b, c, d] : List Int) 0 = a := rfl
  have q2 : rd ([a, b, c, d] : List Int) 2 = c := rfl
  have q3 : rd ([a, b, c, d] : List Int) 3 = d := rfl
  induction n with
  | zero =>
    intro y Rs hn hy0 hcy hR hl
    refine Pl.ev_unf ⟨0, fun k hk => ?_⟩
    rw [spec_TurtleDraws.l0, q, q3, if_pos (by omega), if_neg (by omega), rowsN, List.append_nil]
  | succ n ih =>
    intro y Rs hn hy0 hcy hR hl
    have w1 : wrap64 (y + 1) = y + 1 := Pl.w64 (by omega) (by omega)
    have hq : (b + 1 - a).toNat ≤ 60 := by omega
    have hJ := J_len Rs hR
    have hJ2 : (J Rs).length ≤ 61 * 60 := Nat.le_trans hJ (Nat.mul_le_mul (by omega) hl)
    have hlast : Ev (fun k => spec_TurtleDraws.l0 k (E.map rowE) [a, b, c, d] (strOfNums (J (Rs ++ [rowN E (b + 1 - a).toNat a y]))) (wrap64 (y + 1))) (strOfNums (J (Rs ++ rowsN E a (b + 1 - a).toNat (n + 1) y)), true) := by
      have := ih (y + 1) (Rs ++ [rowN E (b + 1 - a).toNat a y]) (by omega) (by rw [List.length_append, List.length_singleton]; omega) (by omega) (fun R hm => by
        rcases List.mem_append.1 hm with hm | hm
        · exact hR R hm
        · rw [List.mem_singleton.1 hm, rowN_len]) (by rw [List.length_append, List.length_singleton]; omega)
      rw [w1, rowsN]
      rw [List.append_assoc, List.singleton_append] at this
      exact this
    rw [J_snoc] at hlast
    by_cases c1 : Rs = []
    · subst c1
      rw [if_pos rfl] at hlast
      obtain ⟨K, f⟩ := sdraw_l1 hE (a := a) (b := b) (c := c) (d := d) (by omega) (y := y) _ a [] rfl (by omega) (by simp; omega) (by rw [List.nil_append]; exact hlast)
      refine Pl.ev_unf ⟨K + 1, fun k hk => ?_⟩
      obtain ⟨k, rfl⟩ : ∃ m, k = m + 1 := ⟨k - 1, by omega⟩
      have f := f k (by omega)
      dsimp only at f
      rw [spec_TurtleDraws.l0, q, q2, q3, if_pos (by omega), if_pos (by omega), if_pos (by omega), if_neg (by simp at hy0; omega), spec_TurtleDraws.j2, q, q0, if_pos (by omega)]
      exact f
    · rw [if_neg c1] at hlast
      have hpos : 0 < Rs.length := by
        cases Rs with
        | nil => exact absurd rfl c1
        | cons _ _ => simp
      obtain ⟨K, f⟩ := sdraw_l1 hE (a := a) (b := b) (c := c) (d := d) (by omega) (y := y) _ a (J Rs ++ [47]) rfl (by omega) (by rw [List.length_append, List.length_singleton]; omega) (by rw [List.append_assoc, List.singleton_append]; exact hlast)
      refine Pl.ev_unf ⟨K + 1, fun k hk => ?_⟩
      obtain ⟨k, rfl⟩ : ∃ m, k = m + 1 := ⟨k - 1, by omega⟩
      have f := f k (by omega)
      dsimp only at f
      rw [← sApp] at f
      rw [spec_TurtleDraws.l0, q, q2, q3, if_pos (by omega), if_pos (by omega), if_pos (by omega), if_pos (by omega), if_pos (by rw [sSize]; omega), spec_TurtleDraws.j2, q, q0, if_pos (by omega)]
      exact f
end
section
variable {E : PE} {r : List Int} {res : ByteArray × Bool} {a b c d : Int}
theorem idraw_l2 {Q : Int × Int → Prop} {B : Int} (hen : Ent Q B E) (hb : -100000 ≤ b ∧ b ≤ 100000) {y : Int} (hy : -100000 ≤ y ∧ y ≤ 100000) {x8 : List ByteArray} (h8 : x8.length ≤ 1000) (n : Nat) : ∀ (x : Int) (acc : List Int), (b + 1 - x).toNat = n → -100000 ≤ x → acc.length + n ≤ 900000 →
    Ev (fun k => impl_TurtleDraws.l1 k E (x8 ++ [strOfNums (acc ++ rowN E n x y)]) [a, b, c, d] (wrap64 (y + 1))) res →
    Ev (fun k => impl_TurtleDraws.l2 k E x8 [a, b, c, d] y acc x) res := by
  have q : (((([a, b, c, d] : List Int)).length : Nat) : Int) = 4 := rfl
  have q1 : rd ([a, b, c, d] : List Int) 1 = b := rfl
  induction n with
  | zero =>
    intro x acc hn h0 hl ⟨K, f⟩
    refine Pl.ev_unf ⟨K, fun k hk => ?_⟩
    have f := f k hk
    dsimp only at f
    rw [rowN, List.append_nil] at f
    rw [impl_TurtleDraws.l2, q, q1, if_pos (by omega), if_neg (by omega), if_pos (by omega)]
    exact f
  | succ n ih =>
    intro x acc hn h0 hl hf
    have w1 : wrap64 (x + 1) = x + 1 := Pl.w64 (by omega) (by omega)
    obtain ⟨K, f⟩ := ih (x + 1) (acc ++ [cellE E x y]) (by omega) (by omega) (by rw [List.length_append, List.length_singleton]; omega) (by rw [rowN] at hf; rw [List.append_assoc, List.singleton_append]; exact hf)
    refine Pl.ev_unf ⟨K, fun k hk => ?_⟩
    have f := f k hk
    dsimp only at f
    rw [impl_TurtleDraws.l2, q, q1, if_pos (by omega), if_pos (by omega), if_pos (by omega)]
    have hc := cnt_has x y hen
    by_cases c1 : impl_passes.hasE E x y = true
    · rw [decide_eq_true (hc.2 c1), impl_bit.f, if_pos rfl, Option.bind_some, if_pos (by omega), if_pos (by omega), if_pos (by omega), w1]
      rw [cellE, if_pos c1] at f
      exact f
    · rw [decide_eq_false (fun h => c1 (hc.1 h)), impl_bit.f, if_neg (by simp), Option.bind_some, if_pos (by omega), if_pos (by omega), if_pos (by omega), w1]
      rw [cellE, if_neg c1] at f
      exact f
theorem idraw_l1 {Q : Int × Int → Prop} {B : Int} (hen : Ent Q B E) (ha : -10000 ≤ a ∧ a ≤ 10000) (hb : -10000 ≤ b ∧ b ≤ 10000) (hc : -10000 ≤ c ∧ c ≤ 10000) (hd : -10000 ≤ d ∧ d ≤ 10000) (hx : b - a < 60) (hy : d - c < 60) (n : Nat) : ∀ (y : Int) (Rs : List (List Int)), (d + 1 - y).toNat = n → y = c + Rs.length → c ≤ y → (∀ R ∈ Rs, R.length = (b + 1 - a).toNat) → Rs.length ≤ 60 →
    Ev (fun k => impl_TurtleDraws.l1 k E (Rs.map strOfNums) [a, b, c, d] y) (strOfNums (J (Rs ++ rowsN E a (b + 1 - a).toNat n y)), true) := by
  have q : (((([a, b, c, d] : List Int)).length : Nat) : Int) = 4 := rfl
  have q0 : rd ([a, b, c, d] : List Int) 0 = a := rfl
  have q3 : rd ([a, b, c, d] : List Int) 3 = d := rfl
  induction n with
  | zero =>
    intro y Rs hn hy0 hcy hR hl
    have hJ := J_len Rs hR
    have hJ2 : (J Rs).length ≤ 61 * 60 := Nat.le_trans hJ (Nat.mul_le_mul (by omega) hl)
    have hj := J_join Rs
    have hs : (Lib.join ((Rs.map strOfNums).map (·.data.toList)) [47]).length = (J Rs).length := by
      have := congrArg ByteArray.size hj
      rw [sSize] at this
      rw [← this]
      show _ = (List.toArray _).size
      rw [List.size_toArray]
    refine Pl.ev_unf ⟨0, fun k hk => ?_⟩
    rw [impl_TurtleDraws.l1, q, q3, if_pos (by omega), if_neg (by omega), strings_Join.f]
    show ((if _ ∧ (Lib.join ((Rs.map strOfNums).map (·.data.toList)) [47]).length ≤ _ then some (⟨(Lib.join ((Rs.map strOfNums).map (·.data.toList)) [47]).toArray⟩ : ByteArray) else none).bind _) = _
    rw [if_pos ⟨by rw [List.length_map]; omega, by omega⟩, Option.bind_some, hj, rowsN, List.append_nil]
  | succ n ih =>
    intro y Rs hn hy0 hcy hR hl
    have w1 : wrap64 (y + 1) = y + 1 := Pl.w64 (by omega) (by omega)
    have hq : (b + 1 - a).toNat ≤ 60 := by omega
    have := ih (y + 1) (Rs ++ [rowN E (b + 1 - a).toNat a y]) (by omega) (by rw [List.length_append, List.length_singleton]; omega) (by omega) (fun R hm => by
      rcases List.mem_append.1 hm with hm | hm
      · exact hR R hm
      · rw [List.mem_singleton.1 hm, rowN_len]) (by rw [List.length_append, List.length_singleton]; omega)
    rw [List.append_assoc, List.singleton_append, List.map_append] at this
    obtain ⟨K, f⟩ := idraw_l2 hen (a := a) (b := b) (c := c) (d := d) (by omega) (y := y) (by omega) (x8 := Rs.map strOfNums) (by rw [List.length_map]; omega) _ a [] rfl (by omega) (by simp; omega) (by rw [w1]; exact this)
    refine Pl.ev_unf ⟨K, fun k hk => ?_⟩
    have f := f k hk
    dsimp only at f
    rw [impl_TurtleDraws.l1, q, q0, q3, if_pos (by omega), if_pos (by omega), if_pos (by omega)]
    exact f
end
theorem draws_both (s : ByteArray) (m : Int) (hs : s.size ≤ 9223372036854775000) : ∃ r, Ev (fun k => spec_TurtleDraws.f k s m) r ∧ Ev (fun k => impl_TurtleDraws.f k s m) r := by
  obtain ⟨t, ⟨K1, e1⟩, ⟨K2, e2⟩, hb⟩ := short_both s m hs
  cases t with
  | false =>
    refine ⟨((⟨#[]⟩ : ByteArray), false), ⟨K1, fun k hk => ?_⟩, ⟨K2, fun k hk => ?_⟩⟩
    · have e1 := e1 k hk
      dsimp only at e1 ⊢
      rw [spec_TurtleDraws.f, e1, Option.bind_some, if_neg (by simp)]
    · have e2 := e2 k hk
      dsimp only at e2 ⊢
      rw [impl_TurtleDraws.f, e2, Option.bind_some, if_neg (by simp)]
  | true =>
    obtain ⟨g, m0, m1⟩ := hb rfl
    have hl := passed_len g m0 m1
    obtain ⟨K3, e3⟩ := tuSteps_val g m0 m1
    obtain ⟨K4, e4⟩ := once_val (P := passed s m) (by omega)
    obtain ⟨K5, e5⟩ := passes_val g m0 m1
    have hd : Dis (foldU [] (passed s m)) := foldU_dis _ (by simp [Dis])
    have hl2 := foldU_len (passed s m) []
    have hen := foldU_ent (Q := InB 10000) (passed s m) 0 (E := []) (passed_in g m0 m1) (by omega) (by omega) (fun e he => by cases he)
    have h1 : 1 ≤ (foldU [] (passed s m)).length := by
      have h2 : impl_passes.hasE (foldU [] (passed s m)) 0 0 = true := by
        have : ∀ (P : List (Int × Int)) (E : PE), impl_passes.hasE E 0 0 = true → impl_passes.hasE (foldU E P) 0 0 = true := by
          intro P
          induction P with
          | nil => intro E h; exact h
          | cons p P ih => intro E h; rw [foldU_cons]; exact ih _ (by rw [impl_passes.hasE_upd, h, Bool.or_true])
        unfold passed
        rw [foldU_cons]
        exact this _ _ (by rw [impl_passes.hasE_upd]; simp)
      obtain ⟨e, he, _⟩ := hasE_mem.1 h2
      exact List.length_pos_of_mem he
    generalize foldU [] (passed s m) = E at *
    simp only [List.length_nil, Nat.zero_add] at hl2
    have hE : E.length ≤ 1000000 := by omega
    obtain ⟨K6, e6⟩ := sbox_val h1 hE
    obtain ⟨K7, e7⟩ := ibox_val h1 hE
    obtain ⟨a, b, c, d, hbx, ha, hb', hc, hd'⟩ := bx_in h1 hen
    rw [hbx] at e6 e7
    have q : (((([a, b, c, d] : List Int)).length : Nat) : Int) = 4 := rfl
    have q0 : rd ([a, b, c, d] : List Int) 0 = a := rfl
    have q1 : rd ([a, b, c, d] : List Int) 1 = b := rfl
    have q2 : rd ([a, b, c, d] : List Int) 2 = c := rfl
    have q3 : rd ([a, b, c, d] : List Int) 3 = d := rfl
    have w1 : wrap64 (b - a) = b - a := Pl.w64 (by omega) (by omega)
    have w2 : wrap64 (d - c) = d - c := Pl.w64 (by omega) (by omega)
    have core : ∃ r, Ev (fun k => (if b - a ≥ 60 then (spec_TurtleDraws.j0 k (E.map rowE) [a, b, c, d] true) else spec_TurtleDraws.j0 k (E.map rowE) [a, b, c, d] (decide (d - c ≥ 60)))) r ∧ Ev (fun k => (if b - a ≥ 60 then (impl_TurtleDraws.j1 k E [] [a, b, c, d] true) else impl_TurtleDraws.j1 k E [] [a, b, c, d] (decide (d - c ≥ 60)))) r := by
      by_cases c1 : b - a ≥ 60
      · refine ⟨((⟨#[]⟩ : ByteArray), false), Pl.ev_unf ⟨0, fun k _ => ?_⟩, Pl.ev_unf ⟨0, fun k _ => ?_⟩⟩
        · rw [if_pos c1, spec_TurtleDraws.j0, if_pos rfl]
        · rw [if_pos c1, impl_TurtleDraws.j1, if_pos rfl]
      · by_cases c2 : d - c ≥ 60
        · refine ⟨((⟨#[]⟩ : ByteArray), false), Pl.ev_unf ⟨0, fun k _ => ?_⟩, Pl.ev_unf ⟨0, fun k _ => ?_⟩⟩
          · rw [if_neg c1, spec_TurtleDraws.j0, if_pos (decide_eq_true c2)]
          · rw [if_neg c1, impl_TurtleDraws.j1, if_pos (decide_eq_true c2)]
        · obtain ⟨K8, e8⟩ := sdraw_l0 hE (a := a) (b := b) (c := c) (d := d) ha hb' hc hd' (by omega) (by omega) _ c [] rfl (by simp) (by omega) (fun R h => by cases h) (by simp)
          obtain ⟨K9, e9⟩ := idraw_l1 hen (a := a) (b := b) (c := c) (d := d) ha hb' hc hd' (by omega) (by omega) _ c [] rfl (by simp) (by omega) (fun R h => by cases h) (by simp)
          refine ⟨(strOfNums (J ([] ++ rowsN E a (b + 1 - a).toNat (d + 1 - c).toNat c)), true), Pl.ev_unf ⟨K8, fun k hk => ?_⟩, Pl.ev_unf ⟨K9, fun k hk => ?_⟩⟩
          · rw [if_neg c1, spec_TurtleDraws.j0, if_neg (by simp; omega), q, q2, if_pos (by omega)]
            exact e8 k hk
          · rw [if_neg c1, impl_TurtleDraws.j1, if_neg (by simp; omega), q, q2, if_pos (by omega)]
            exact e9 k hk
    obtain ⟨r, ⟨Ka, fa⟩, ⟨Kb, fb⟩⟩ := core
    refine ⟨r, ⟨K1 + K3 + K4 + K6 + Ka, fun k hk => ?_⟩, ⟨K2 + K5 + K7 + Kb, fun k hk => ?_⟩⟩
    · have e1 := e1 k (by omega)
      have e3 := e3 k (by omega)
      have e4 := e4 k (by omega)
      have e6 := e6 k (by omega)
      have fa := fa k (by omega)
      dsimp only at e1 e3 e4 e6 fa ⊢
      rw [spec_TurtleDraws.f, e1, Option.bind_some, if_pos rfl, e3, Option.bind_some, e4, Option.bind_some, e6, Option.bind_some, q, q0, q1, q2, q3, if_pos (by omega), if_pos (by omega), w1, w2, if_pos (show (3 : Int) < 4 by omega), if_pos (show (2 : Int) < 4 by omega)]
      exact fa
    · have e2 := e2 k (by omega)
      have e5 := e5 k (by omega)
      have e7 := e7 k (by omega)
      have fb := fb k (by omega)
      dsimp only at e2 e5 e7 fb ⊢
      rw [impl_TurtleDraws.f, e2, Option.bind_some, if_pos rfl, impl_TurtleDraws.g, e5, Option.bind_some, if_pos ⟨hd, hE⟩, impl_TurtleDraws.r, e7, Option.bind_some, q, q0, q1, q2, q3, if_pos (by omega), if_pos (by omega), w1, w2, if_pos (show (3 : Int) < 4 by omega), if_pos (show (2 : Int) < 4 by omega)]
      exact fb
theorem FnExactTurtleDraws (a0 : ByteArray) (a1 : Int) (h0 : a0.size ≤ maxLen) (h1 : (Lit.int .i64 a1).wf = true) : ∃ k, laws_FnExactTurtleDraws.f k a0 a1 = some true := by
  by_cases s0 : (a0.size : Int) ≤ 1048576
  · obtain ⟨⟨r1, r2⟩, ⟨K1, e1⟩, ⟨K2, e2⟩⟩ := draws_both a0 a1 (by omega)
    refine ⟨K1 + K2, ?_⟩
    have e1 := e1 (K1 + K2) (by omega)
    have e2 := e2 (K1 + K2) (by omega)
    dsimp only at e1 e2
    rw [laws_FnExactTurtleDraws.f, if_neg (by omega), e1, Option.bind_some, e2, Option.bind_some]
    dsimp only
    rw [if_pos rfl, bne_self_eq_false, if_neg (by simp)]
  · refine ⟨0, ?_⟩
    rw [laws_FnExactTurtleDraws.f, if_pos (by omega)]

end Go.Proofs.Ytklnfjjpjkphiaa.Pure
