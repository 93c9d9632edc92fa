/- Plain lemmas: the loops of all boards of a rule and a size: both sides go through the same boards in the same order, so they meet the same lengths. No condition. -/
import Derived.Test.YtgaplnhjddlieaaDoorPNx3
import Derived.Test.YtgaplnhjddlieaaDoorPNx4
import Derived.Test.YtgaplnhjddlieaaDoorPNx6
import Derived.Test.YtgaplnhjddlieaaDoorPNx7
import Derived.Test.YtgaplnhjddlieaaDoorNPuLoA
import Derived.Test.YtgaplnhjddlieaaDoorPuRows
namespace Go.Proofs.YtgaplnhjddlieaaDoor.Pure
open Go.RowKit Go.Proofs.YtgaplnhjddlieaaDoor Go.Proofs.YtgaplnhjddlieaaDoor.PN Go.Proofs.YtgaplnhjddlieaaDoorW.PrintWords Go.Proofs.YtgaplnhjddlieaaDoorW.PrintLast
set_option linter.unusedVariables false
set_option linter.unusedSimpArgs false

/-! one loop: from a board on until one is met that has been seen -/
def runW : Nat → List Int → Wd → Int × List Int
  | 0, S, _ => (0, S)
  | f + 1, S, s => if idx s ∈ S then (0, S) else ((runW f (idx s :: S) s.nx).1 + 1, (runW f (idx s :: S) s.nx).2)
theorem run_le : ∀ (f : Nat) (S : List Int) (s : Wd), 0 ≤ (runW f S s).1 ∧ (runW f S s).1 ≤ f
  | 0, S, s => ⟨Int.le_refl 0, Int.le_refl 0⟩
  | f + 1, S, s => by
    have := run_le f (idx s :: S) s.nx
    rw [runW]
    split <;> constructor <;> dsimp only <;> omega
structure Seen (n : Int) (S : List Int) : Prop where
  nd : S.Nodup
  mem : ∀ j ∈ S, 0 ≤ j ∧ j < n
theorem few_ints : ∀ (n : Nat) (l : List Int), l.Nodup → (∀ x ∈ l, 0 ≤ x ∧ x < n) → l.length ≤ n
  | 0, l, _, h => by
    cases l with
    | nil => exact Nat.le_refl 0
    | cons a l => have := h a List.mem_cons_self; omega
  | n + 1, l, hd, h => by
    have e : (l.erase (n : Int)).length ≤ n := by
      refine few_ints n _ (hd.erase _) fun x hx => ?_
      obtain ⟨h1, h2⟩ := (List.Nodup.mem_erase_iff hd).1 hx
      have := h x h2
      omega
    have := List.le_length_erase (l := l) (a := (n : Int))
    omega
theorem seen_len {n : Int} (h0 : 0 ≤ n) {S : List Int} (h : Seen n S) : (S.length : Int) ≤ n := by
  have := few_ints n.toNat S h.nd (fun x hx => by have := h.mem x hx; omega)
  omega
theorem run_seen {ru : ByteArray} {w h : Int} (F : Few ru w h) : ∀ (f : Nat) (S : List Int) (s : Wd), Seen (Nn ru w h) S → GW ru w h s → Seen (Nn ru w h) (runW f S s).2
  | 0, S, s, hS, _ => hS
  | f + 1, S, s, hS, g => by
    rw [runW]
    by_cases c : idx s ∈ S
    · rw [if_pos c]
      exact hS
    · rw [if_neg c]
      exact run_seen F f (idx s :: S) s.nx ⟨List.nodup_cons.2 ⟨c, hS.nd⟩, fun j hj => by
        rcases List.mem_cons.1 hj with rfl | hj
        · exact idx_in F g
        · exact hS.mem j hj⟩ (gw_nx g)
/-! all boards in their order: the lengths met -/
def allW (ru : ByteArray) (w h : Int) (F : Nat) : Nat → Int → List Int → List Int → List Int
  | 0, _, L, _ => L
  | n + 1, i, L, S => allW ru w h F n (i + 1) (if (runW F S (wdAt ru w h i)).1 > 0 then L ++ [(runW F S (wdAt ru w h i)).1] else L) (runW F S (wdAt ru w h i)).2
theorem wdAt_gw {ru : ByteArray} {w h : Int} (g : Few ru w h) {n : Int} (n0 : 0 ≤ n) : GW ru w h (wdAt ru w h n) := ⟨wdAt_good g n0, rfl, rfl, rfl⟩
structure InvW (ru : ByteArray) (w h : Int) (i : Int) (L S : List Int) : Prop where
  seen : Seen (Nn ru w h) S
  len : (L.length : Int) ≤ i
  first : L = [] → S = []
  some_ : L = [] → i = 0
theorem inv_step {ru : ByteArray} {w h : Int} (F : Few ru w h) {i : Int} {L S : List Int} (i0 : 0 ≤ i) (v : InvW ru w h i L S) (f : Nat) : InvW ru w h (i + 1) (if (runW (f + 1) S (wdAt ru w h i)).1 > 0 then L ++ [(runW (f + 1) S (wdAt ru w h i)).1] else L) (runW (f + 1) S (wdAt ru w h i)).2 := by
  have hne : L = [] → (runW (f + 1) S (wdAt ru w h i)).1 > 0 := fun e => by
    rw [v.first e, runW, if_neg (by simp)]
    have := (run_le f [idx (wdAt ru w h i)] (wdAt ru w h i).nx).1
    show _ + 1 > (0 : Int)
    omega
  have hl := v.len
  have hn : (if (runW (f + 1) S (wdAt ru w h i)).1 > 0 then L ++ [(runW (f + 1) S (wdAt ru w h i)).1] else L) ≠ [] := by
    split
    · simp
    · next c => exact fun e => c (hne e)
  refine ⟨run_seen F _ S _ v.seen (wdAt_gw F i0), ?_, fun e => absurd e hn, fun e => absurd e hn⟩
  split
  · rw [List.length_append, List.length_singleton]; omega
  · omega
theorem all_inv {ru : ByteArray} {w h : Int} (F : Few ru w h) (f : Nat) : ∀ (n : Nat) (i : Int) (L S : List Int), 0 ≤ i → InvW ru w h i L S → ((allW ru w h (f + 1) n i L S).length : Int) ≤ i + n ∧ (0 < i + n → allW ru w h (f + 1) n i L S ≠ [])
  | 0, i, L, S, i0, v => by
    rw [allW]
    have := v.len
    exact ⟨by omega, fun hp e => by have := v.some_ e; omega⟩
  | n + 1, i, L, S, i0, v => by
    rw [allW]
    have := all_inv F f n (i + 1) _ _ (by omega) (inv_step F i0 v f)
    exact ⟨by have := this.1; omega, fun _ => this.2 (by omega)⟩
/-! the reference: boards seen as a row of bools -/
def Bs (n : Int) (bs : List Bool) (S : List Int) : Prop := (bs.length : Int) = n ∧ ∀ j : Int, 0 ≤ j → j < n → rdOf false bs j = decide (j ∈ S)
theorem bs_set {n : Int} {bs : List Bool} {S : List Int} (h : Bs n bs S) {a : Int} (a0 : 0 ≤ a) (a1 : a < n) : Bs n (bs.set a.toNat true) (a :: S) := by
  obtain ⟨h1, h2⟩ := h
  refine ⟨by rw [List.length_set]; exact h1, fun j j0 j1 => ?_⟩
  have hj : j.toNat < bs.length := by omega
  have ha : a.toNat < bs.length := by omega
  have e := h2 j j0 j1
  unfold rdOf at e ⊢
  rw [List.getD_eq_getElem?_getD] at e ⊢
  by_cases c : a = j
  · subst c
    rw [List.getElem?_set_self ha]
    simp
  · rw [List.getElem?_set_ne (by omega), e]
    simp [Ne.symm c]
theorem spec_ins {ru : ByteArray} {w h : Int} {bs : List Bool} {i n : Int} {res : List (Int × Int)} : ∀ (B A : List (Int × Int)), (A ++ B).length ≤ 100000 → (∀ a ∈ A, a.1 < n) → (∀ a ∈ B, 1 ≤ a.2 ∧ a.2 ≤ 100000) →
    Ev (fun k => spec_loLoops.l0 k ru w h bs (A ++ ins B n) (Nn ru w h) (wrap64 (i + 1))) res →
    Ev (fun k => spec_loLoops.l2 k ru w h bs (A ++ B) n (A.length : Int) (Nn ru w h) i) res
  | [], A, hl, hA, hB, ⟨K, f⟩ => by
    refine Pl.ev_unf ⟨K, fun k hk => ?_⟩
    have f := f k hk
    dsimp only at f
    rw [List.append_nil] at hl ⊢
    rw [spec_loLoops.l2, if_neg (by omega), if_pos (by omega), if_pos (by omega), if_pos (by omega), spec_loLoops.insP, show ((A.length : Nat) : Int).toNat = A.length by omega, List.take_length, List.drop_length, List.append_nil]
    exact f
  | b :: B, A, hl, hA, hB, hf => by
    have hlen : (A ++ b :: B).length = A.length + B.length + 1 := by rw [List.length_append, List.length_cons]; omega
    have hrd : spec_loLoops.rdP (A ++ b :: B) (A.length : Int) = b := by
      unfold spec_loLoops.rdP
      rw [show ((A.length : Nat) : Int).toNat = A.length by omega, List.getD_eq_getElem?_getD, List.getElem?_append_right (Nat.le_refl _), Nat.sub_self]
      rfl
    have hb := hB b List.mem_cons_self
    by_cases c1 : b.1 < n
    · have w1 : wrap64 ((A.length : Int) + 1) = ((A ++ [b]).length : Int) := by
        rw [List.length_append, List.length_singleton, Pl.w64 (by omega) (by omega)]
        omega
      obtain ⟨K, f⟩ := spec_ins B (A ++ [b]) (by rw [List.append_assoc]; exact hl) (fun a ha => by
        rcases List.mem_append.1 ha with ha | ha
        · exact hA a ha
        · rw [List.mem_singleton.1 ha]; exact c1) (fun a ha => hB a (List.mem_cons_of_mem _ ha)) (by
          rw [ins, if_pos c1] at hf
          rw [List.append_assoc]
          exact hf)
      refine Pl.ev_unf ⟨K, fun k hk => ?_⟩
      have f := f k hk
      dsimp only at f
      rw [List.append_assoc] at f
      rw [spec_loLoops.l2, hrd, if_pos (by omega), if_pos (by omega), if_pos c1, w1]
      exact f
    · rw [ins, if_neg c1] at hf
      by_cases c2 : b.1 = n
      · rw [if_pos c2] at hf
        obtain ⟨K, f⟩ := hf
        refine Pl.ev_unf ⟨K, fun k hk => ?_⟩
        have f := f k hk
        dsimp only at f
        have w1 : wrap64 (b.2 + 1) = b.2 + 1 := Pl.w64 (by omega) (by omega)
        have e : (A ++ b :: B).set ((A.length : Int)).toNat (b.1, b.2 + 1) = A ++ (b.1, b.2 + 1) :: B := by
          rw [show ((A.length : Nat) : Int).toNat = A.length by omega, List.set_append_right _ _ (Nat.le_refl _), Nat.sub_self]
          rfl
        rw [spec_loLoops.l2, hrd, if_pos (by omega), if_pos (by omega), if_neg c1, if_pos c2, w1, e]
        exact f
      · rw [if_neg c2] at hf
        obtain ⟨K, f⟩ := hf
        refine Pl.ev_unf ⟨K, fun k hk => ?_⟩
        have f := f k hk
        dsimp only at f
        have e : spec_loLoops.insP (A ++ b :: B) (A.length : Int) n = A ++ (n, 1) :: b :: B := by
          unfold spec_loLoops.insP
          rw [show ((A.length : Nat) : Int).toNat = A.length by omega, List.take_left, List.drop_left, List.append_assoc]
          rfl
        rw [spec_loLoops.l2, hrd, if_pos (by omega), if_pos (by omega), if_neg c1, if_neg c2, if_pos (by omega), e]
        exact f
section
variable {ru : ByteArray} {w h : Int} (F : Few ru w h)
include F
theorem Nn_in : 1 ≤ Nn ru w h ∧ Nn ru w h ≤ 3000 := by
  obtain ⟨a0, a1⟩ := wh_in F.w1 F.w9 F.h1 F.h9
  have p := pow_pos' F.r.lo (w * h).toNat
  have := mul_ge (a := 4 * (w * h)) (b := (ru.size : Int) ^ (w * h).toNat) (by omega) p
  have := F.n
  unfold Nn
  constructor <;> omega
theorem spec_run {X : List (Int × Int)} {i : Int} {res : List (Int × Int)} : ∀ (f : Nat) (S : List Int) (s : Wd) (bs : List Bool) (n : Int), Seen (Nn ru w h) S → GW ru w h s → Nn ru w h < S.length + f → Bs (Nn ru w h) bs S → 0 ≤ n → n + f ≤ 100000 →
    (∀ bs', Bs (Nn ru w h) bs' (runW f S s).2 → Ev (fun k => if n + (runW f S s).1 = 0 then spec_loLoops.l0 k ru w h bs' X (Nn ru w h) (wrap64 (i + 1)) else spec_loLoops.l2 k ru w h bs' X (n + (runW f S s).1) 0 (Nn ru w h) i) res) →
    Ev (fun k => spec_loLoops.l1 k ru w h bs X n (Nn ru w h) i s.ru s.w s.h s.c s.x s.y s.v) res
  | 0, S, s, bs, n, hS, g, hf, _, _, _, _ => by
    have := seen_len (by have := Nn_in F; omega) hS
    omega
  | f + 1, S, s, bs, n, hS, g, hf, hb, n0, n1, hk => by
    obtain ⟨K1, q1⟩ := index_val F g
    obtain ⟨j0, j1⟩ := idx_in F g
    have hlen := hb.1
    have hat := hb.2 _ j0 j1
    rw [runW] at hk
    by_cases c : idx s ∈ S
    · rw [if_pos c] at hk
      obtain ⟨K2, q2⟩ := hk bs hb
      refine Pl.ev_unf ⟨K1 + K2, fun k hk' => ?_⟩
      have q1 := q1 k (by omega)
      have q2 := q2 k (by omega)
      dsimp only at q1 q2
      rw [Int.add_zero] at q2
      rw [spec_loLoops.l1, q1, Option.bind_some, if_pos j0, if_pos (by omega), hat, if_pos (decide_eq_true c)]
      exact q2
    · rw [if_neg c] at hk
      have w1 : wrap64 (n + 1) = n + 1 := Pl.w64 (by omega) (by omega)
      obtain ⟨K2, q2⟩ := spec_run f (idx s :: S) s.nx (bs.set (idx s).toNat true) (n + 1) ⟨List.nodup_cons.2 ⟨c, hS.nd⟩, fun j hj => by
        rcases List.mem_cons.1 hj with rfl | hj
        · exact ⟨j0, j1⟩
        · exact hS.mem j hj⟩ (gw_nx g) (by rw [List.length_cons]; omega) (bs_set hb j0 j1) (by omega) (by omega) (fun bs' hb' => by
          have := hk bs' hb'
          dsimp only at this
          rw [show n + ((runW f (idx s :: S) s.nx).1 + 1) = n + 1 + (runW f (idx s :: S) s.nx).1 by omega] at this
          exact this)
      refine Pl.ev_unf ⟨K1 + K2 + 1, fun k hk' => ?_⟩
      obtain ⟨k, rfl⟩ : ∃ m, k = m + 1 := ⟨k - 1, by omega⟩
      have q1 := q1 (k + 1) (by omega)
      have q2 := q2 (k + 1) (by omega)
      dsimp only at q1 q2
      rw [spec_loLoops.l1, q1, Option.bind_some, if_pos j0, if_pos (by omega), hat, if_neg (by simp [c]), Option.bind_some, if_pos j0, if_pos (by omega), step_spec g.g k, Option.bind_some, w1]
      exact q2
theorem spec_all {f : Nat} (hf : (f : Int) = Nn ru w h) (m : Nat) : ∀ (i : Int) (L S : List Int) (bs : List Bool), (Nn ru w h - i).toNat = m → 0 ≤ i → i ≤ Nn ru w h → InvW ru w h i L S → Bs (Nn ru w h) bs S →
    Ev (fun k => spec_loLoops.l0 k ru w h bs (rowsOf L) (Nn ru w h) i) (rowsOf (allW ru w h (f + 1) m i L S)) := by
  have hN := Nn_in F
  induction m with
  | zero =>
    intro i L S bs hm i0 i1 v hb
    refine Pl.ev_unf ⟨0, fun k _ => ?_⟩
    rw [spec_loLoops.l0, if_neg (by omega), allW]
  | succ m ih =>
    intro i L S bs hm i0 i1 v hb
    have w1 : wrap64 (i + 1) = i + 1 := Pl.w64 (by omega) (by omega)
    obtain ⟨K1, q1⟩ := world_val F (n := i) i0 (by omega)
    have v' := inv_step F i0 v f
    have hr := run_le (f + 1) S (wdAt ru w h i)
    have hs := rows_str L
    have hp := (rows_perm L).length_eq
    have hlen := v.len
    have hrl := rows_len hs
    have hcont : ∀ bs', Bs (Nn ru w h) bs' (runW (f + 1) S (wdAt ru w h i)).2 → Ev (fun k => if 0 + (runW (f + 1) S (wdAt ru w h i)).1 = 0 then spec_loLoops.l0 k ru w h bs' (rowsOf L) (Nn ru w h) (wrap64 (i + 1)) else spec_loLoops.l2 k ru w h bs' (rowsOf L) (0 + (runW (f + 1) S (wdAt ru w h i)).1) 0 (Nn ru w h) i) (rowsOf (allW ru w h (f + 1) (m + 1) i L S)) := fun bs' hb' => by
      have h1 := ih (i + 1) _ _ bs' (by omega) (by omega) (by omega) v' hb'
      rw [allW]
      by_cases c : (runW (f + 1) S (wdAt ru w h i)).1 = 0
      · rw [if_neg (by omega)] at h1 ⊢
        obtain ⟨K, q⟩ := h1
        refine ⟨K, fun k hk => ?_⟩
        have q := q k hk
        dsimp only at q ⊢
        rw [if_pos (by omega), w1]
        exact q
      · rw [if_pos (by omega)] at h1 ⊢
        rw [rowsOf_snoc] at h1
        obtain ⟨K, q⟩ := spec_ins (bs := bs') (i := i) (n := (runW (f + 1) S (wdAt ru w h i)).1) (rowsOf L) [] (by rw [List.nil_append]; omega) (fun a ha => by cases ha) (fun a ha => ⟨hs.2 a ha, by have := count_le hs a ha; omega⟩) (by rw [w1, List.nil_append]; exact h1)
        refine ⟨K, fun k hk => ?_⟩
        have q := q k hk
        dsimp only at q ⊢
        rw [if_neg (by omega), Int.zero_add]
        exact q
    obtain ⟨K2, q2⟩ := spec_run F (X := rowsOf L) (i := i) (f + 1) S (wdAt ru w h i) bs 0 v.seen (wdAt_gw F i0) (by omega) hb (by omega) (by omega) hcont
    refine Pl.ev_unf ⟨K1 + K2, fun k hk => ?_⟩
    have q1 := q1 k (by omega)
    have q2 := q2 k (by omega)
    dsimp only at q1 q2
    rw [spec_loLoops.l0, if_pos (by omega), q1, Option.bind_some]
    exact q2
end
/-! the program: boards seen as a map -/
def kwS (s : Wd) : Lit := impl_loopsOf.kw s.ru s.w s.h s.c s.x s.y s.v
theorem wf_gw {ru : ByteArray} {w h : Int} {s : Wd} (g : GW ru w h s) : impl_loopsOf.Wf s.ru s.w s.h s.c s.x s.y s.v := by
  have g := g.g
  have r6 := g.r6
  have w1 := g.w1
  have w9 := g.w9
  have h1 := g.h1
  have h9 := g.h9
  obtain ⟨a0, a1⟩ := wh_in w1 w9 h1 h9
  have cs := g.cs
  have x0 := g.x0
  have xw := g.xw
  have y0 := g.y0
  have yh := g.yh
  have v0 := g.v0
  have v3 := g.v3
  unfold impl_loopsOf.Wf impl_loopsOf.in64
  refine ⟨⟨by omega, by omega⟩, ⟨by omega, by omega⟩, ⟨by omega, by omega⟩, ⟨by omega, by omega⟩, ⟨by omega, by omega⟩, by omega, by omega⟩
structure Dr (ru : ByteArray) (w h : Int) (M : impl_loopsOf.MD) (S : List Int) : Prop where
  n : M.1 = S.length
  t : Maps.Tidy M.2
  at_ : ∀ s, GW ru w h s → impl_loopsOf.at_ M.2 (kwS s) = decide (idx s ∈ S)
theorem dr_nil (ru : ByteArray) (w h : Int) : Dr ru w h (0, .map []) [] := ⟨rfl, Maps.tidy_empty, fun s _ => rfl⟩
theorem dr_put {ru : ByteArray} {w h : Int} {M : impl_loopsOf.MD} {S : List Int} (d : Dr ru w h M S) {s : Wd} (g : GW ru w h s) : Dr ru w h (impl_loopsOf.putM M (kwS s)) (idx s :: S) := by
  refine ⟨by show M.1 + 1 = _; rw [d.n, List.length_cons], d.t.put (impl_loopsOf.isKey _ _ _ _ _ _ _) _, fun s' g' => ?_⟩
  show impl_loopsOf.at_ (M.2.put (kwS s) (.lit (.bool true))) (kwS s') = _
  by_cases c : s' = s
  · subst c
    unfold impl_loopsOf.at_
    rw [Maps.atKey_put_same d.t.isMap (show WideAt.IsKeyLit (kwS s') from trivial)]
    simp
  · have hne : kwS s' ≠ kwS s := fun e => c (by
      obtain ⟨e1, e2, e3, e4, e5, e6, e7⟩ := impl_loopsOf.kw_inj (wf_gw g') (wf_gw g) e
      cases s
      cases s'
      simp only [Wd.mk.injEq]
      exact ⟨e1, e2, e3, e4, e5, e6, e7⟩)
    have h1 := d.at_ s' g'
    unfold impl_loopsOf.at_ at h1 ⊢
    rw [Maps.atKey_put_other hne, h1]
    have : idx s' ≠ idx s := fun e => c (idx_inj g' g e)
    simp [this]
section
variable {ru : ByteArray} {w h : Int} (F : Few ru w h)
include F
theorem impl_run {L : List Int} {cs : ByteArray} {kk : Int} {list : List ByteArray} {x35 x36 x42 way : Int} {res : List Int × Bool} (hL : L.length ≤ 100000) : ∀ (f : Nat) (S : List Int) (s : Wd) (M : impl_loopsOf.MD) (n : Int), Seen (Nn ru w h) S → GW ru w h s → Nn ru w h < S.length + f → Dr ru w h M S → 0 ≤ n → n + f ≤ 100000 →
    (∀ M', Dr ru w h M' (runW f S s).2 → Ev (fun k => impl_loopsOf.l2 k ru w h (if n + (runW f S s).1 > 0 then L ++ [n + (runW f S s).1] else L) M' cs kk list x35 x36 x42 kk (wrap64 (way + 1))) res) →
    Ev (fun k => impl_loopsOf.l3 k ru w h L M cs kk n list x35 x36 x42 kk way s.ru s.w s.h s.c s.x s.y s.v) res
  | 0, S, s, M, n, hS, g, hf, _, _, _, _ => by
    have := seen_len (by have := Nn_in F; omega) hS
    omega
  | f + 1, S, s, M, n, hS, g, hf, hd, n0, n1, hk => by
    obtain ⟨j0, j1⟩ := idx_in F g
    have hN := Nn_in F
    have hsl := seen_len (by omega) hS
    have hat := hd.at_ s g
    have hwf := wf_gw g
    rw [runW] at hk
    by_cases c : idx s ∈ S
    · rw [if_pos c] at hk
      obtain ⟨K2, q2⟩ := hk M hd
      refine Pl.ev_unf ⟨K2, fun k hk' => ?_⟩
      have q2 := q2 k (by omega)
      dsimp only at q2
      rw [Int.add_zero] at q2
      rw [impl_loopsOf.l3, if_pos hwf, show impl_loopsOf.kw s.ru s.w s.h s.c s.x s.y s.v = kwS s from rfl, hat, if_pos (decide_eq_true c)]
      by_cases c2 : n > 0
      · rw [if_pos c2] at q2
        rw [if_pos c2, if_pos (by omega)]
        exact q2
      · rw [if_neg c2] at q2
        rw [if_neg c2]
        exact q2
    · rw [if_neg c] at hk
      have w1 : wrap64 (n + 1) = n + 1 := Pl.w64 (by omega) (by omega)
      obtain ⟨K2, q2⟩ := impl_run hL f (idx s :: S) s.nx (impl_loopsOf.putM M (kwS s)) (n + 1) ⟨List.nodup_cons.2 ⟨c, hS.nd⟩, fun j hj => by
        rcases List.mem_cons.1 hj with rfl | hj
        · exact ⟨j0, j1⟩
        · exact hS.mem j hj⟩ (gw_nx g) (by rw [List.length_cons]; omega) (dr_put hd g) (by omega) (by omega) (fun M' hd' => by
          have := hk M' hd'
          dsimp only at this
          rw [show n + ((runW f (idx s :: S) s.nx).1 + 1) = n + 1 + (runW f (idx s :: S) s.nx).1 by omega] at this
          exact this)
      refine Pl.ev_unf ⟨K2, fun k hk' => ?_⟩
      have q2 := q2 k (by omega)
      dsimp only at q2
      have hn := hd.n
      rw [impl_loopsOf.l3, if_pos hwf, show impl_loopsOf.kw s.ru s.w s.h s.c s.x s.y s.v = kwS s from rfl, hat, if_neg (by simp [c]), if_pos (by omega), step_impl g.g, Option.bind_some, w1]
      exact q2
end
def finW (L : List Int) : List Int × Bool := (L.mergeSort fun x y => decide (x ≤ y), true)
theorem wd_parts {ru : ByteArray} {w h : Int} (F : Few ru w h) {j kk way : Int} (j0 : 0 ≤ j) (k0 : 0 ≤ kk) (k1 : kk < w * h) (v0 : 0 ≤ way) (v1 : way < 4) : wdAt ru w h ((j * (w * h) + kk) * 4 + way) = ⟨ru, w, h, strOfNums (dg ru.size (w * h).toNat j), kk % w, kk / w, way⟩ := by
  have w1 := F.w1
  have h1 := F.h1
  have e1 : ((j * (w * h) + kk) * 4 + way) / 4 = j * (w * h) + kk := Pl.node_div v0 v1
  have e2 : ((j * (w * h) + kk) * 4 + way) % 4 = way := Pl.node_mod v0 v1
  have e3 : j * (w * h) + kk = (j * h + kk / w) * w + kk % w := by
    have := Int.mul_ediv_add_emod kk w
    rw [Int.add_mul, Int.mul_assoc, Int.mul_comm h w, Int.mul_comm (kk / w) w]
    omega
  have x0 := Pl.mod_lo (a := kk) (b := w) (by omega)
  have x1 := Pl.mod_hi (a := kk) (b := w) (by omega)
  have e4 : (j * (w * h) + kk) / w = j * h + kk / w := by rw [e3]; exact Pl.node_div x0 x1
  have e5 : (j * (w * h) + kk) % w = kk % w := by rw [e3]; exact Pl.node_mod x0 x1
  have y0 : 0 ≤ kk / w := Int.ediv_nonneg k0 (by omega)
  have y1 : kk / w < h := Int.ediv_lt_of_lt_mul (by omega) (by rw [Int.mul_comm]; exact k1)
  have e6 : (j * h + kk / w) / h = j := Pl.node_div y0 y1
  have e7 : (j * h + kk / w) % h = kk / w := Pl.node_mod y0 y1
  unfold wdAt
  rw [e1, e2, e4, e5, e6, e7]
section
variable {ru : ByteArray} {w h : Int} (F : Few ru w h) {f : Nat} (hf : (f : Int) = Nn ru w h)
include F hf
theorem impl_way {list : List ByteArray} {x35 x36 x42 : Int} {cs : ByteArray} {kk : Nat} {b N : Nat} (hb : b + 4 ≤ N) (hN : (N : Int) = Nn ru w h) (hkk : kk ≤ 100) (hwd : ∀ way : Nat, way < 4 → wdAt ru w h ((b + way : Nat) : Int) = ⟨ru, w, h, cs, (kk : Int) % w, (kk : Int) / w, (way : Int)⟩)
    (next : ∀ (L S : List Int) (M : impl_loopsOf.MD), InvW ru w h ((b + 4 : Nat) : Int) L S → Dr ru w h M S → Ev (fun k => impl_loopsOf.l1 k ru w h L M cs list x35 x36 x42 (wrap64 ((kk : Int) + 1))) (finW (allW ru w h (f + 1) (N - (b + 4)) ((b + 4 : Nat) : Int) L S)))
    (n : Nat) : ∀ (way : Nat) (L S : List Int) (M : impl_loopsOf.MD), 4 - way = n → way ≤ 4 → InvW ru w h ((b + way : Nat) : Int) L S → Dr ru w h M S →
    Ev (fun k => impl_loopsOf.l2 k ru w h L M cs (kk : Int) list x35 x36 x42 (kk : Int) (way : Int)) (finW (allW ru w h (f + 1) (N - (b + way)) ((b + way : Nat) : Int) L S)) := by
  have hN0 := Nn_in F
  have hw1 := F.w1
  induction n with
  | zero =>
    intro way L S M hn hw v d
    have : way = 4 := by omega
    subst this
    obtain ⟨K, q⟩ := next L S M v d
    refine Pl.ev_unf ⟨K, fun k hk => ?_⟩
    have q := q k hk
    dsimp only at q
    rw [impl_loopsOf.l2, if_neg (by omega)]
    exact q
  | succ n ih =>
    intro way L S M hn hw v d
    have w1 : wrap64 ((way : Int) + 1) = ((way + 1 : Nat) : Int) := by rw [Pl.w64 (by omega) (by omega)]; omega
    have hwd' := hwd way (by omega)
    have hlen := v.len
    have he : N - (b + way) = (N - (b + (way + 1))) + 1 := by omega
    have e2 : ((b + (way + 1) : Nat) : Int) = ((b + way : Nat) : Int) + 1 := by omega
    rw [he, allW]
    have v' := inv_step F (by omega) v f
    have hx : Int.tmod (kk : Int) w = (kk : Int) % w := Pl.tmod_nn (by omega)
    have hy1 : (kk : Int) / w ≤ (kk : Int) := Int.ediv_le_self _ (by omega)
    have hy0 : 0 ≤ (kk : Int) / w := Int.ediv_nonneg (by omega) (by omega)
    have hy : wrap64 (Int.tdiv (kk : Int) w) = (kk : Int) / w := by rw [Pl.tdiv_nn (by omega)]; exact Pl.w64 (by omega) (by omega)
    obtain ⟨s, hs⟩ : ∃ s, s = wdAt ru w h ((b + way : Nat) : Int) := ⟨_, rfl⟩
    have gs : GW ru w h s := by rw [hs]; exact wdAt_gw F (by omega)
    rw [← hs] at v' ⊢
    obtain ⟨K, q⟩ := impl_run F (L := L) (cs := cs) (kk := (kk : Int)) (list := list) (x35 := x35) (x36 := x36) (x42 := x42) (way := (way : Int)) (res := finW (allW ru w h (f + 1) (N - (b + (way + 1))) (((b + way : Nat) : Int) + 1) (if (runW (f + 1) S s).1 > 0 then L ++ [(runW (f + 1) S s).1] else L) (runW (f + 1) S s).2)) (by omega) (f + 1) S s M 0 v.seen gs (by omega) d (by omega) (by omega) (fun M' hd' => by
        have h1 := ih (way + 1) _ _ M' (by omega) (by omega) (by rw [e2]; exact v') hd'
        rw [e2] at h1
        rw [w1, Int.zero_add]
        exact h1)
    refine Pl.ev_unf ⟨K, fun k hk => ?_⟩
    have q := q k hk
    dsimp only at q
    rw [hs, hwd'] at q
    rw [impl_loopsOf.l2, if_pos (by omega), if_neg (by omega), hx, hy, hs, hwd']
    exact q
theorem impl_cell {list : List ByteArray} {x35 x36 : Int} {cs : ByteArray} {b N m : Nat} (hb : b + m * 4 ≤ N) (hN : (N : Int) = Nn ru w h) (hm : m ≤ 100) (hwd : ∀ kk : Nat, kk < m → ∀ way : Nat, way < 4 → wdAt ru w h ((b + kk * 4 + way : Nat) : Int) = ⟨ru, w, h, cs, (kk : Int) % w, (kk : Int) / w, (way : Int)⟩)
    (next : ∀ (L S : List Int) (M : impl_loopsOf.MD), InvW ru w h ((b + m * 4 : Nat) : Int) L S → Dr ru w h M S → Ev (fun k => impl_loopsOf.l0 k ru w h L M list x35 (wrap64 (x36 + 1))) (finW (allW ru w h (f + 1) (N - (b + m * 4)) ((b + m * 4 : Nat) : Int) L S)))
    (n : Nat) : ∀ (kk : Nat) (L S : List Int) (M : impl_loopsOf.MD), m - kk = n → kk ≤ m → InvW ru w h ((b + kk * 4 : Nat) : Int) L S → Dr ru w h M S →
    Ev (fun k => impl_loopsOf.l1 k ru w h L M cs list x35 x36 (m : Int) (kk : Int)) (finW (allW ru w h (f + 1) (N - (b + kk * 4)) ((b + kk * 4 : Nat) : Int) L S)) := by
  induction n with
  | zero =>
    intro kk L S M hn hk v d
    have : kk = m := by omega
    subst this
    obtain ⟨K, q⟩ := next L S M v d
    refine Pl.ev_unf ⟨K, fun k hk => ?_⟩
    have q := q k hk
    dsimp only at q
    rw [impl_loopsOf.l1, if_neg (by omega)]
    exact q
  | succ n ih =>
    intro kk L S M hn hk v d
    have w1 : wrap64 ((kk : Int) + 1) = ((kk + 1 : Nat) : Int) := by rw [Pl.w64 (by omega) (by omega)]; omega
    have e : b + (kk + 1) * 4 = b + kk * 4 + 4 := by omega
    obtain ⟨K, q⟩ := impl_way F hf (list := list) (x35 := x35) (x36 := x36) (x42 := (m : Int)) (cs := cs) (kk := kk) (b := b + kk * 4) (N := N) (by omega) hN (by omega) (hwd kk (by omega)) (fun L' S' M' v' d' => by
      rw [w1, ← e]
      rw [← e] at v'
      exact ih (kk + 1) L' S' M' (by omega) (by omega) v' d') _ 0 L S M rfl (by omega) v d
    refine Pl.ev_unf ⟨K, fun k hk => ?_⟩
    have q := q k hk
    dsimp only at q
    rw [impl_loopsOf.l1, if_pos (by omega)]
    exact q
theorem impl_texts {N m T : Nat} (hm : (m : Int) = w * h) (hm1 : 1 ≤ m ∧ m ≤ 100) (hNT : N = T * (m * 4)) (hN : (N : Int) = Nn ru w h) (hT : T ≤ 3000) (hT1 : 1 ≤ T)
    (n : Nat) : ∀ (j b : Nat) (L S : List Int) (M : impl_loopsOf.MD), T - j = n → j ≤ T → b = j * (m * 4) → InvW ru w h (b : Int) L S → Dr ru w h M S →
    Ev (fun k => impl_loopsOf.l0 k ru w h L M (dgs ru.size m T) (T : Int) (j : Int)) (finW (allW ru w h (f + 1) (N - b) (b : Int) L S)) := by
  have hmt : (w * h).toNat = m := by omega
  have hN3 := (Nn_in F).2
  induction n with
  | zero =>
    intro j b L S M hn hj hb v d
    have hjT : j = T := by omega
    subst hjT
    have hbN : b = N := by rw [hb, hNT]
    have hpos : 0 < b := by
      rw [hb]
      exact Nat.mul_pos (by omega) (by omega)
    clear hNT hb
    have hlen := v.len
    have hne : L ≠ [] := fun e => by have := v.some_ e; omega
    have hl0 : 0 < L.length := by
      cases L with
      | nil => exact absurd rfl hne
      | cons _ _ => simp
    refine Pl.ev_unf ⟨0, fun k _ => ?_⟩
    rw [impl_loopsOf.l0, if_neg (by omega), if_pos ⟨hl0, by omega⟩, show N - b = 0 by omega, allW]
    rfl
  | succ n ih =>
    intro j b L S M hn hj hb v d
    have w1 : wrap64 ((j : Int) + 1) = ((j + 1 : Nat) : Int) := by clear hNT hb; rw [Pl.w64 (by omega) (by omega)]; omega
    have w2 : wrap64 (w * h) = (m : Int) := by rw [← hm]; clear hNT hb; exact Pl.w64 (by omega) (by omega)
    have hj1 : j + 1 ≤ T := Nat.lt_of_sub_eq_succ hn
    have hj3 : T - (j + 1) = n := by rw [Nat.sub_succ, hn]; rfl
    have hb2 : b + m * 4 = (j + 1) * (m * 4) := by rw [hb, Nat.succ_mul]
    have hbN : b + m * 4 ≤ N := by rw [hb2, hNT]; exact Nat.mul_le_mul_right _ hj1
    have hwd : ∀ kk : Nat, kk < m → ∀ way : Nat, way < 4 → wdAt ru w h ((b + kk * 4 + way : Nat) : Int) = ⟨ru, w, h, strOfNums (dg ru.size m (j : Int)), (kk : Int) % w, (kk : Int) / w, (way : Int)⟩ := fun kk hkk way hway => by
      have := wd_parts F (j := (j : Int)) (kk := (kk : Int)) (way := (way : Int)) (Int.natCast_nonneg _) (Int.natCast_nonneg _) (by rw [← hm]; exact Int.ofNat_lt.2 hkk) (Int.natCast_nonneg _) (Int.ofNat_lt.2 hway)
      rw [hmt] at this
      rw [← this, hb, ← hm]
      congr 1
      simp only [Int.natCast_add, Int.natCast_mul]
      rw [Int.add_mul, Int.mul_assoc]
      rfl
    have hj2 : j < T := hj1
    clear hb hNT
    obtain ⟨K, q⟩ := impl_cell F hf (list := dgs ru.size m T) (x35 := (T : Int)) (x36 := (j : Int)) (cs := strOfNums (dg ru.size m (j : Int))) (b := b) (N := N) (m := m) hbN hN hm1.2 hwd (fun L' S' M' v' d' => by
      rw [w1]
      exact ih (j + 1) (b + m * 4) L' S' M' hj3 hj1 hb2 v' d') _ 0 L S M rfl (Nat.zero_le _) v d
    refine Pl.ev_unf ⟨K, fun k hk => ?_⟩
    have q := q k hk
    dsimp only at q
    rw [impl_loopsOf.l0, if_pos (Int.ofNat_lt.2 hj2), if_pos (Int.natCast_nonneg _), dgs_len, if_pos (Int.ofNat_lt.2 hj2), dgs_at (Int.natCast_nonneg _) (Int.ofNat_lt.2 hj2), w2]
    exact q
end
theorem loops_both {ru : ByteArray} {w h : Int} (F : Few ru w h) : ∃ L : List Int, L ≠ [] ∧ (L.length : Int) ≤ 3000 ∧ Ev (fun k => spec_loLoops.f k ru w h) ((rowsOf L).map spec_loLoops.rowP) ∧ Ev (fun k => impl_loopsOf.f k ru w h) (finW L) := by
  have hN := Nn_in F
  obtain ⟨a0, a1⟩ := wh_in F.w1 F.w9 F.h1 F.h9
  have r1 := F.r.lo
  have r6 := F.r.hi
  have hTI := few_T F
  obtain ⟨m, hm⟩ : ∃ m : Nat, m = (w * h).toNat := ⟨_, rfl⟩
  have hmi : (m : Int) = w * h := by omega
  obtain ⟨T, hT⟩ : ∃ T : Nat, T = ru.size ^ m := ⟨_, rfl⟩
  have hT3 : T ≤ 3000 := by
    have h1 : ((ru.size ^ m : Nat) : Int) ≤ ((3000 : Nat) : Int) := by rw [← hm] at hTI; simpa using hTI
    rw [hT]
    exact Int.ofNat_le.1 h1
  have hT1 : 1 ≤ T := by rw [hT]; exact Nat.pow_pos (by omega)
  obtain ⟨N, hNd⟩ : ∃ N : Nat, N = T * (m * 4) := ⟨_, rfl⟩
  have hNN : (N : Int) = Nn ru w h := by
    unfold Nn
    rw [hNd, hT, ← hm, ← hmi]
    simp only [Int.natCast_mul, Int.natCast_pow]
    rw [Int.mul_comm, Int.mul_comm (m : Int) _]
    rfl
  have v0 : InvW ru w h (0 : Int) [] [] := ⟨⟨List.nodup_nil, fun j hj => by cases hj⟩, by simp, fun _ => rfl, fun _ => rfl⟩
  have ha := all_inv F N N 0 [] [] (by omega) v0
  refine ⟨allW ru w h (N + 1) N 0 [] [], ha.2 (by omega), by have := ha.1; omega, ?_, ?_⟩
  · obtain ⟨K1, q1⟩ := many_val F.r F.w1 F.w9 F.h1 F.h9
    have hb : Bs (Nn ru w h) (List.replicate (Nn ru w h).toNat false) [] := by
      refine ⟨by rw [List.length_replicate]; omega, fun j j0 j1 => ?_⟩
      unfold rdOf
      rw [List.getD_eq_getElem?_getD, List.getElem?_replicate]
      split <;> rfl
    obtain ⟨K2, q2⟩ := spec_all F hNN _ 0 [] [] _ rfl (by omega) (by omega) v0 hb
    refine ⟨K1 + K2, fun k hk => ?_⟩
    have q1 := q1 k (by omega)
    have q2 := q2 k (by omega)
    dsimp only at q1 q2 ⊢
    rw [if_pos F.n] at q1
    have e : ((Nn ru w h - 0).toNat) = N := by omega
    rw [e] at q2
    rw [spec_loLoops.f, spec_loLoops.g, q1, Option.bind_some]
    show Option.bind (if 0 ≤ Nn ru w h then (if (Nn ru w h).toNat ≤ 281474976710656 then Option.bind (some (List.replicate (Nn ru w h).toNat false)) _ else none) else none) _ = _
    rw [if_pos (by omega), if_pos (by omega), Option.bind_some, hb.1]
    have q2' : spec_loLoops.l0 k ru w h (List.replicate (Nn ru w h).toNat false) [] (Nn ru w h) 0 = some (rowsOf (allW ru w h (N + 1) N 0 [] [])) := q2
    rw [q2', Option.bind_some]
  · obtain ⟨b, x, ⟨K1, q1⟩, hb⟩ := counted_val ru w h
    obtain rfl : b = true := hb.2 F
    obtain ⟨K2, q2⟩ := digits_val (T := ru.size) (M := m) (by omega) (by omega) (by rw [hm]; exact hTI) (by omega)
    obtain ⟨K3, q3⟩ := impl_texts F hNN (N := N) (m := m) (T := T) hmi (by omega) hNd hNN hT3 hT1 _ 0 0 [] [] (0, .map []) rfl (Nat.zero_le _) (by rw [Nat.zero_mul]) v0 (dr_nil ru w h)
    refine ⟨K1 + K2 + K3, fun k hk => ?_⟩
    have q1 := q1 k (by omega)
    have q2 := q2 k (by omega)
    have q3 := q3 k (by omega)
    dsimp only at q1 q2 q3 ⊢
    have w1 : wrap64 (w * h) = (m : Int) := by rw [hmi]; exact Pl.w64 (by omega) (by omega)
    rw [impl_loopsOf.f, q1, Option.bind_some]
    dsimp only
    rw [if_pos rfl, w1, q2, Option.bind_some, dgs_len, ← hT]
    exact q3

end Go.Proofs.YtgaplnhjddlieaaDoor.Pure
