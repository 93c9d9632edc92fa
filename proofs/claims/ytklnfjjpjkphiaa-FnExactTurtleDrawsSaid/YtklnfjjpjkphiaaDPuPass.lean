/- Plain lemmas: the points that a turtle passes: counted by the program in a map, by the reference in two lists. No condition. -/
import Derived.Test.YtklnfjjpjkphiaaPDx1
import Derived.Test.YtklnfjjpjkphiaaPDx2
import Derived.Test.YtklnfjjpjkphiaaPDx3
import Derived.Test.YtklnfjjpjkphiaaPDx6
import Derived.Test.YtklnfjjpjkphiaaPDx7
import Derived.Test.YtklnfjjpjkphiaaPDx8
import Derived.Test.YtklnfjjpjkphiaaDPuTurt
namespace Go.Proofs.Ytklnfjjpjkphiaa.Pure
open Go.RowKit Go.Proofs.Ytklnfjjpjkphiaa Go.Proofs.Ytklnfjjpjkphiaa.PD Go.Proofs.YtklnfjjpjkphiaaW.PrintWords Go.Proofs.YtklnfjjpjkphiaaW.PrintLast
set_option linter.unusedVariables false
set_option linter.unusedSimpArgs false

abbrev PE := List (Int × Int × Int)
def ptsS (a b : Int) : Nat → Int → Int → List (Int × Int)
  | 0, _, _ => []
  | n + 1, x, y => (x + a, y + b) :: ptsS a b n (x + a) (y + b)
def ptsP (p : S67) (t : Tu) : List (Int × Int) := ptsS (tdx t.v) (tdy t.v) p.f0.toNat t.x t.y
def ptsL : PL → Tu → List (Int × Int)
  | [], _ => []
  | p :: l, t => ptsP p t ++ ptsL l (advP t p)
def ptsN (l : PL) : Nat → Tu → List (Int × Int)
  | 0, _ => []
  | n + 1, t => ptsL l t ++ ptsN l n (advL t l)
def foldU (E : PE) (P : List (Int × Int)) : PE := P.foldl (fun E p => impl_passes.upd E p.1 p.2) E
theorem foldU_append (E : PE) (P Q : List (Int × Int)) : foldU E (P ++ Q) = foldU (foldU E P) Q := List.foldl_append
theorem foldU_cons (E : PE) (p : Int × Int) (P : List (Int × Int)) : foldU E (p :: P) = foldU (impl_passes.upd E p.1 p.2) P := rfl
theorem upd_len (E : PE) (x y : Int) : (impl_passes.upd E x y).length ≤ E.length + 1 := by
  rw [impl_passes.upd_length]
  split <;> omega
theorem foldU_len : ∀ (P : List (Int × Int)) (E : PE), (foldU E P).length ≤ E.length + P.length
  | [], E => by simp [foldU]
  | p :: P, E => by
    have := foldU_len P (impl_passes.upd E p.1 p.2)
    have := upd_len E p.1 p.2
    rw [foldU_cons, List.length_cons]
    omega
theorem ptsS_len (a b : Int) : ∀ (n : Nat) (x y : Int), (ptsS a b n x y).length = n
  | 0, _, _ => rfl
  | n + 1, x, y => by rw [ptsS, List.length_cons, ptsS_len a b n]
theorem ptsL_len : ∀ (l : PL) (t : Tu), Dig l → ((ptsL l t).length : Int) = sm l
  | [], t, _ => rfl
  | p :: l, t, hd => by
    obtain ⟨h1, h2⟩ := dig_tail hd
    have := ptsL_len l (advP t p) h2
    rw [ptsL, List.length_append, ptsP, ptsS_len, sm]
    omega
theorem ptsN_len {l : PL} (hd : Dig l) (hl : l.length ≤ 9) (n : Nat) : ∀ t : Tu, (ptsN l n t).length ≤ 81 * n := by
  have h2 := sm_in l hd
  induction n with
  | zero => intro t; simp [ptsN]
  | succ n ih =>
    intro t
    have := ih (advL t l)
    have := ptsL_len l t hd
    rw [ptsN, List.length_append]
    omega
theorem padd_val {E : PE} {x y : Int} (h : E.length < 1000000) (hx : -9000000 ≤ x ∧ x ≤ 9000000) (hy : -9000000 ≤ y ∧ y ≤ 9000000) : impl_passes.add E x y = some (impl_passes.upd E x y) := by
  rw [impl_passes.add, if_pos ⟨h, ⟨by omega, by omega⟩, by omega, by omega⟩]
theorem stepsF_padd {a b : Int} (ha : -1 ≤ a ∧ a ≤ 1) (hb : -1 ≤ b ∧ b ≤ 1) (n : Nat) : ∀ (E : PE) (x y : Int), E.length + n ≤ 100000 → -1000000 + n ≤ x → x + n ≤ 1000000 → -1000000 + n ≤ y → y + n ≤ 1000000 → stepsF impl_passes.add a b n E x y = some (foldU E (ptsS a b n x y)) := by
  induction n with
  | zero => intro E x y _ _ _ _ _; rfl
  | succ n ih =>
    intro E x y hE x0 x1 y0 y1
    have := upd_len E (x + a) (y + b)
    rw [stepsF, padd_val (by omega) (by omega) (by omega), Option.bind_some, ih _ _ _ (by omega) (by omega) (by omega) (by omega) (by omega), ptsS, foldU_cons]
theorem partsF_padd : ∀ (l : PL) (t : Tu) (E : PE) (B : Int), TuIn t B → Dig l → B + 9 * l.length ≤ 900000 → E.length + 9 * l.length ≤ 100000 → partsF impl_passes.add (fun s _ _ => some s) l E t = some (foldU E (ptsL l t))
  | [], t, E, B, _, _, _, _ => rfl
  | p :: l, t, E, B, ht, hd, hB, hE => by
    obtain ⟨h1, h2⟩ := dig_tail hd
    rw [List.length_cons] at hB hE
    have hs := foldU_len (ptsP p t) E
    have hl : (ptsP p t).length = p.f0.toNat := ptsS_len _ _ _ _ _
    have := ht.x0; have := ht.x1; have := ht.y0; have := ht.y1
    rw [partsF, partF, stepsF_padd (tdx_in t.v) (tdy_in t.v) _ _ _ _ (by omega) (by omega) (by omega) (by omega) (by omega), Option.bind_some, Option.bind_some]
    rw [partsF_padd l (advP t p) _ (B + 9) (tuIn_le (advP_in ht h1) (by omega)) h2 (by omega) (by unfold ptsP at hs hl; omega), ptsL, foldU_append]
    rfl
theorem repF_padd {l : PL} (hl : l.length ≤ 9) (hd : Dig l) (n : Nat) : ∀ (t : Tu) (E : PE) (B : Int), TuIn t B → B + 81 * n ≤ 100000 → E.length + 81 * n ≤ 90000 → repF impl_passes.add (fun s _ _ => some s) l n E t = some (foldU E (ptsN l n t)) := by
  have h2 := sm_in l hd
  induction n with
  | zero => intro t E B _ _ _; rfl
  | succ n ih =>
    intro t E B ht hB hE
    have hs := foldU_len (ptsL l t) E
    have := ptsL_len l t hd
    rw [repF, partsF_padd l t E B ht hd (by omega) (by omega), Option.bind_some, ih _ _ (B + 81) (tuIn_le (advL_in l ht hd) (by omega)) (by omega) (by omega), ptsN, foldU_append]
/-! the points, the start first -/
def passed (s : ByteArray) (m : Int) : List (Int × Int) := (0, 0) :: ptsN (pl s (s.size / 2) 0) m.toNat ⟨0, 0, 0⟩
theorem passed_len {s : ByteArray} (g : GoodP s) {m : Int} (m0 : 0 ≤ m) (m1 : m ≤ 100) : (passed s m).length ≤ 8101 := by
  obtain ⟨hl, hd⟩ := pl_small g
  have := ptsN_len hd hl m.toNat ⟨0, 0, 0⟩
  unfold passed
  rw [List.length_cons]
  omega
theorem passes_val {s : ByteArray} (g : GoodP s) {m : Int} (m0 : 0 ≤ m) (m1 : m ≤ 100) : Ev (fun k => impl_passes.f k s m) (foldU [] (passed s m)) := by
  obtain ⟨hl, hd⟩ := pl_small g
  obtain ⟨K, f⟩ := walk_val g m0 m1 (repF_padd hl hd m.toNat ⟨0, 0, 0⟩ [(0, 0, 1)] 0 ⟨by decide, by decide, by decide, by decide, by decide, by decide⟩ (by omega) (by simp; omega))
  refine ⟨K, fun k hk => ?_⟩
  have f := f k hk
  dsimp only at f ⊢
  rw [impl_passes.f, f, Option.bind_some]
  rfl
def rowQ (p : Int × Int) : List Int := [p.1, p.2]
theorem tuSteps_l2 {s : ByteArray} {m i : Int} {r : List (List Int)} (n : Nat) : ∀ (t : Tu) (acc : List (List Int)) (d B : Int), d.toNat = n → 0 ≤ d → d ≤ 9 → TuIn t B → B + n ≤ 900000 → acc.length + n ≤ 100000 →
    Ev (fun k => spec_tuSteps.l2 k s m (acc ++ (ptsS (tdx t.v) (tdy t.v) n t.x t.y).map rowQ) i 0 (pos n t.x (tdx t.v)) (pos n t.y (tdy t.v)) t.v) r → Ev (fun k => spec_tuSteps.l2 k s m acc i d t.x t.y t.v) r := by
  induction n with
  | zero =>
    intro t acc d B hn h0 h1 ht hB hl he
    obtain rfl : d = 0 := by omega
    simpa [ptsS, pos] using he
  | succ n ih =>
    intro t acc d B hn h0 h1 ht hB hl he
    have w1 : wrap64 (d - 1) = d - 1 := Pl.w64 (by omega) (by omega)
    have hx := tdx_in t.v
    have hy := tdy_in t.v
    have := ht.x0; have := ht.x1; have := ht.y0; have := ht.y1
    have ht2 : TuIn ⟨t.x + tdx t.v, t.y + tdy t.v, t.v⟩ (B + 1) := ⟨by dsimp only; omega, by dsimp only; omega, by dsimp only; omega, by dsimp only; omega, ht.v0, ht.v3⟩
    obtain ⟨K, f⟩ := ih ⟨t.x + tdx t.v, t.y + tdy t.v, t.v⟩ (acc ++ [[t.x + tdx t.v, t.y + tdy t.v]]) (d - 1) (B + 1) (by omega) (by omega) (by omega) ht2 (by omega) (by rw [List.length_append]; simp; omega) (by
      dsimp only
      rw [List.append_assoc]
      exact he)
    refine Pl.ev_unf ⟨K, fun k hk => ?_⟩
    have f := f k hk
    dsimp only at f
    have hg := tuGo_val (t := t) (d := 1) (tuIn_le ht (by omega)) (by omega) (by omega)
    rw [spec_tuSteps.l2, if_pos (by omega), hg, Option.bind_some]
    dsimp only
    rw [if_pos (by omega), w1]
    exact f
theorem tuSteps_l1 {s : ByteArray} (g : GoodP s) {m : Int} {r : List (List Int)} (n : Nat) : ∀ (i : Int) (t : Tu) (B : Int) (acc : List (List Int)), ((s.size : Int) - i).toNat = 2 * n → 0 ≤ i → i ≤ s.size → i % 2 = 0 → TuIn t B → B + 9 * n ≤ 800000 → acc.length + 9 * n ≤ 90000 →
    Ev (fun k => spec_tuSteps.l0 k s (wrap64 (m - 1)) (acc ++ (ptsL (pl s n i) t).map rowQ) (advL t (pl s n i)).x (advL t (pl s n i)).y (advL t (pl s n i)).v) r → Ev (fun k => spec_tuSteps.l1 k s m acc i t.x t.y t.v) r := by
  have hi := g.hi
  induction n with
  | zero =>
    intro i t B acc hn h0 h1 h2 ht hB hl he
    obtain ⟨K, f⟩ := he
    refine Pl.ev_unf ⟨K, fun k hk => ?_⟩
    have f := f k hk
    simp only [pl, ptsL, List.map_nil, List.append_nil, advL] at f
    rw [spec_tuSteps.l1, if_neg (by omega)]
    exact f
  | succ n ih =>
    intro i t B acc hn h0 h1 h2 ht hB hl he
    have hb := (g.al i h0 (by omega)).1 h2
    have w1 : wrap64 (i + 2) = i + 2 := Pl.w64 (by omega) (by omega)
    obtain ⟨p, hp⟩ : ∃ p : S67, p = ⟨bt s i - 48, bt s (i + 1)⟩ := ⟨_, rfl⟩
    have hp0 : p.f0 = bt s i - 48 := by rw [hp]
    have hp1 : p.f1 = bt s (i + 1) := by rw [hp]
    have hpl : pl s (n + 1) i = p :: pl s n (i + 2) := by rw [hp]; rfl
    rw [hpl, ptsL, List.map_append, ← List.append_assoc, advL] at he
    have hlp : (ptsP p t).length = p.f0.toNat := ptsS_len _ _ _ _ _
    have ha := advP_in ht (show 0 ≤ p.f0 ∧ p.f0 ≤ 9 by omega)
    obtain ⟨K, f⟩ := ih (i + 2) (advP t p) (B + 9) (acc ++ (ptsP p t).map rowQ) (by omega) (by omega) (by omega) (by omega) (tuIn_le ha (by omega)) (by omega) (by rw [List.length_append, List.length_map]; omega) he
    have he2 : Ev (fun k => spec_tuSteps.l2 k s m (acc ++ (ptsS (tdx t.v) (tdy t.v) p.f0.toNat t.x t.y).map rowQ) i 0 (pos p.f0.toNat t.x (tdx t.v)) (pos p.f0.toNat t.y (tdy t.v)) t.v) r := by
      refine Pl.ev_unf ⟨K, fun k hk => ?_⟩
      have f := f k hk
      dsimp only at f
      rw [spec_tuSteps.l2, if_neg (by omega), tuSign_val ht.v0 ht.v3 h0 (by omega) (by omega), Option.bind_some, w1, ← hp1]
      exact f
    obtain ⟨K2, f2⟩ := tuSteps_l2 p.f0.toNat t acc p.f0 B rfl (by omega) (by omega) ht (by omega) (by omega) he2
    refine Pl.ev_unf ⟨K2, fun k hk => ?_⟩
    have f2 := f2 k hk
    dsimp only at f2
    rw [spec_tuSteps.l1, if_pos (by omega), if_pos h0, show (bt s i - 48) % 256 = p.f0 by omega]
    exact f2
theorem tuSteps_l0 {s : ByteArray} (g : GoodP s) (n : Nat) : ∀ (m : Int) (t : Tu) (B : Int) (acc : List (List Int)), m.toNat = n → 0 ≤ m → m ≤ 100 → TuIn t B → B + 81 * n ≤ 100000 → acc.length + 81 * n ≤ 80000 →
    Ev (fun k => spec_tuSteps.l0 k s m acc t.x t.y t.v) (acc ++ (ptsN (pl s (s.size / 2) 0) n t).map rowQ) := by
  obtain ⟨hl, hd⟩ := pl_small g
  have hi := g.hi
  have hev := g.ev
  induction n with
  | zero =>
    intro m t B acc hn h0 h1 ht hB ha
    refine Pl.ev_unf ⟨0, fun k _ => ?_⟩
    rw [spec_tuSteps.l0, if_neg (by omega)]
    simp [ptsN]
  | succ n ih =>
    intro m t B acc hn h0 h1 ht hB ha
    have w1 : wrap64 (m - 1) = m - 1 := Pl.w64 (by omega) (by omega)
    have hsm := sm_in (pl s (s.size / 2) 0) hd
    have hel := ptsL_len (pl s (s.size / 2) 0) t hd
    have h2 := ih (m - 1) (advL t (pl s (s.size / 2) 0)) (B + 81) (acc ++ (ptsL (pl s (s.size / 2) 0) t).map rowQ) (by omega) (by omega) (by omega) (tuIn_le (advL_in (pl s (s.size / 2) 0) ht hd) (by omega)) (by omega) (by rw [List.length_append, List.length_map]; omega)
    rw [← w1] at h2
    obtain ⟨K, f⟩ := tuSteps_l1 g (m := m) (s.size / 2) 0 t B acc (by omega) (by omega) (by omega) (by omega) ht (by omega) (by omega) h2
    refine Pl.ev_unf ⟨K, fun k hk => ?_⟩
    rw [spec_tuSteps.l0, if_pos (by omega), ptsN, List.map_append, ← List.append_assoc]
    exact f k hk
theorem tuSteps_val {s : ByteArray} (g : GoodP s) {m : Int} (m0 : 0 ≤ m) (m1 : m ≤ 100) : Ev (fun k => spec_tuSteps.f k s m) ((passed s m).map rowQ) :=
  tuSteps_l0 g m.toNat m ⟨0, 0, 0⟩ 0 [[0, 0]] rfl m0 m1 ⟨by decide, by decide, by decide, by decide, by decide, by decide⟩ (by omega) (by simp; omega)

/-! each point once -/
def Dis (E : PE) : Prop := E.Pairwise fun a b => ¬ (a.1 = b.1 ∧ a.2.1 = b.2.1)
theorem hasE_mem {E : PE} {x y : Int} : impl_passes.hasE E x y = true ↔ ∃ e ∈ E, e.1 = x ∧ e.2.1 = y := by
  unfold impl_passes.hasE
  rw [List.any_eq_true]
  simp only [Bool.and_eq_true, decide_eq_true_eq]
theorem upd_dis : ∀ {E : PE} (x y : Int), Dis E → Dis (impl_passes.upd E x y)
  | [], x, y, _ => by simp [impl_passes.upd, Dis]
  | e :: E, x, y, h => by
    obtain ⟨h1, h2⟩ := List.pairwise_cons.1 h
    unfold impl_passes.upd
    by_cases c : e.1 = x ∧ e.2.1 = y
    · rw [if_pos c]
      exact List.pairwise_cons.2 ⟨fun b hb => h1 b hb, h2⟩
    · rw [if_neg c]
      refine List.pairwise_cons.2 ⟨fun b hb => ?_, upd_dis x y h2⟩
      rcases (impl_passes.upd_mem E x y).1 b hb with ⟨b', hb', q1, q2⟩ | ⟨q1, q2⟩
      · rw [q1, q2]; exact h1 b' hb'
      · rw [q1, q2]; exact c
theorem foldU_dis : ∀ (P : List (Int × Int)) {E : PE}, Dis E → Dis (foldU E P)
  | [], E, h => h
  | p :: P, E, h => foldU_dis P (upd_dis p.1 p.2 h)
def upAll (E : PE) (x y : Int) : PE := E.map fun e => if e.1 = x ∧ e.2.1 = y then (e.1, e.2.1, wrap64 (e.2.2 + 1)) else e
theorem upd_all : ∀ {E : PE} (x y : Int), Dis E → impl_passes.upd E x y = if impl_passes.hasE E x y = true then upAll E x y else E ++ [(x, y, 1)]
  | [], x, y, _ => rfl
  | e :: E, x, y, h => by
    obtain ⟨h1, h2⟩ := List.pairwise_cons.1 h
    have ih := upd_all x y h2
    unfold impl_passes.upd
    by_cases c : e.1 = x ∧ e.2.1 = y
    · have hh : impl_passes.hasE (e :: E) x y = true := hasE_mem.2 ⟨e, List.mem_cons_self, c⟩
      rw [if_pos c, if_pos hh]
      unfold upAll
      rw [List.map_cons, if_pos c]
      congr 1
      exact ((List.map_congr_left (fun b hb => if_neg (fun d => h1 b hb ⟨c.1.trans d.1.symm, c.2.trans d.2.symm⟩))).trans (List.map_id' E)).symm
    · have hh : impl_passes.hasE (e :: E) x y = impl_passes.hasE E x y := by
        unfold impl_passes.hasE
        rw [List.any_cons]
        have : (decide (e.1 = x) && decide (e.2.1 = y)) = false := by
          rw [← Bool.not_eq_true]
          simpa using c
        rw [this, Bool.false_or]
      rw [if_neg c, ih, hh]
      unfold upAll
      rw [List.map_cons, if_neg c]
      split <;> rfl
def rowE (e : Int × Int × Int) : List Int := [e.1, e.2.1]
def ge (E : PE) (i : Int) : Int × Int × Int := E.getD i.toNat (0, 0, 0)
theorem ge_at {E : PE} {i : Int} (h : i.toNat < E.length) : ge E i = E[i.toNat] := by
  simp [ge, List.getD_eq_getElem?_getD, List.getElem?_eq_getElem h]
theorem rowE_at {E : PE} {i : Int} (h0 : 0 ≤ i) (h : i < E.length) : rd_L1 (E.map rowE) i = [(ge E i).1, (ge E i).2.1] := by
  have h2 : i.toNat < E.length := by omega
  rw [ge_at h2]
  simp [rd_L1, rowE, List.getD_eq_getElem?_getD, List.getElem?_eq_getElem h2]
theorem rowQ_at {P : List (Int × Int)} {i : Int} (h0 : 0 ≤ i) (h : i < P.length) : rd_L1 (P.map rowQ) i = [(P[i.toNat]'(by omega)).1, (P[i.toNat]'(by omega)).2] := by
  have h2 : i.toNat < P.length := by omega
  simp [rd_L1, rowQ, List.getD_eq_getElem?_getD, List.getElem?_eq_getElem h2]
theorem rd_setP {l : List Int} {i j v : Int} (hi : 0 ≤ i) (hl : i < l.length) (hj : 0 ≤ j) : rd (l.set i.toNat v) j = if j = i then v else rd l j := by
  unfold rd
  rw [List.getD_eq_getElem?_getD, List.getD_eq_getElem?_getD, List.getElem?_set]
  by_cases e : j = i
  · subst e
    rw [if_pos rfl, if_pos (by omega), if_pos rfl]
    rfl
  · rw [if_neg (by omega), if_neg e]
def isAt (E : PE) (x y i : Int) : Prop := (ge E i).1 = x ∧ (ge E i).2.1 = y
instance (E : PE) (x y i : Int) : Decidable (isAt E x y i) := inferInstanceAs (Decidable (_ ∧ _))
theorem once_l1 {E : PE} {x y : Int} {P : List (List Int)} {pl ip : Int} {r : List (List Int) × Int} (hE : E.length ≤ 100000) (n : Nat) : ∀ (i : Int) (T : List Int) (fd : Bool), ((E.length : Int) - i).toNat = n → 0 ≤ i → i ≤ E.length → T.length = E.length →
    ∃ (T' : List Int) (fd' : Bool), T'.length = E.length ∧ (∀ j : Int, 0 ≤ j → j < i → rd T' j = rd T j) ∧ (∀ j : Int, i ≤ j → j < E.length → rd T' j = if isAt E x y j then wrap64 (rd T j + 1) else rd T j) ∧ (fd' = true ↔ fd = true ∨ ∃ j : Int, i ≤ j ∧ j < E.length ∧ isAt E x y j) ∧
      (Ev (fun k => spec_tuOnce.l1 k (E.map rowE) T' [x, y] fd' P pl ip E.length E.length) r → Ev (fun k => spec_tuOnce.l1 k (E.map rowE) T [x, y] fd P pl ip E.length i) r) := by
  induction n with
  | zero =>
    intro i T fd hn h0 h1 hT
    obtain rfl : i = E.length := by omega
    refine ⟨T, fd, hT, fun j _ _ => rfl, fun j _ _ => by omega, ⟨.inl, ?_⟩, fun h => h⟩
    rintro (h | ⟨j, _, _, _⟩)
    · exact h
    · omega
  | succ n ih =>
    intro i T fd hn h0 h1 hT
    have w1 : wrap64 (i + 1) = i + 1 := Pl.w64 (by omega) (by omega)
    have hlen : ((E.map rowE).length : Int) = E.length := by rw [List.length_map]
    have e0 : rd_L1 (E.map rowE) i = [(ge E i).1, (ge E i).2.1] := rowE_at h0 (by omega)
    by_cases c : isAt E x y i
    · obtain ⟨T', fd', a1, a2, a3, a4, a5⟩ := ih (i + 1) (T.set i.toNat (wrap64 (rd T i + 1))) true (by omega) (by omega) (by omega) (by rw [List.length_set]; exact hT)
      refine ⟨T', fd', a1, fun j j0 j1 => ?_, fun j j0 j1 => ?_, ?_, fun h => ?_⟩
      · rw [a2 j j0 (by omega), rd_setP h0 (by omega) j0, if_neg (by omega)]
      · by_cases d : j = i
        · subst d
          rw [a2 j (by omega) (by omega), rd_setP h0 (by omega) (by omega), if_pos rfl, if_pos c]
        · rw [a3 j (by omega) j1, rd_setP h0 (by omega) (by omega), if_neg d]
      · rw [a4]
        exact ⟨fun _ => .inr ⟨i, by omega, by omega, c⟩, fun _ => .inl rfl⟩
      · obtain ⟨K, f⟩ := a5 h
        refine Pl.ev_unf ⟨K, fun k hk => ?_⟩
        have f := f k hk
        dsimp only at f
        rw [spec_tuOnce.l1, if_pos (by omega), if_pos h0, if_pos (by omega), e0, if_pos (by simp), if_pos (by simp), show rd [(ge E i).1, (ge E i).2.1] 0 = (ge E i).1 from rfl, show rd [(ge E i).1, (ge E i).2.1] 1 = (ge E i).2.1 from rfl, show rd [x, y] 0 = x from rfl, show rd [x, y] 1 = y from rfl, if_pos c.1, if_pos (by simp), if_pos (by simp), if_pos c.2, if_pos (by omega), w1]
        exact f
    · obtain ⟨T', fd', a1, a2, a3, a4, a5⟩ := ih (i + 1) T fd (by omega) (by omega) (by omega) hT
      refine ⟨T', fd', a1, fun j j0 j1 => a2 j j0 (by omega), fun j j0 j1 => ?_, ?_, fun h => ?_⟩
      · by_cases d : j = i
        · subst d
          rw [a2 j (by omega) (by omega), if_neg c]
        · exact a3 j (by omega) j1
      · rw [a4]
        constructor
        · rintro (h | ⟨j, j0, j1, h⟩)
          · exact .inl h
          · exact .inr ⟨j, by omega, j1, h⟩
        · rintro (h | ⟨j, j0, j1, h⟩)
          · exact .inl h
          · by_cases d : j = i
            · subst d; exact absurd h c
            · exact .inr ⟨j, by omega, j1, h⟩
      · obtain ⟨K, f⟩ := a5 h
        refine Pl.ev_unf ⟨K, fun k hk => ?_⟩
        have f := f k hk
        dsimp only at f
        rw [spec_tuOnce.l1, if_pos (by omega), if_pos h0, if_pos (by omega), e0, if_pos (by simp), if_pos (by simp), show rd [(ge E i).1, (ge E i).2.1] 0 = (ge E i).1 from rfl, show rd [(ge E i).1, (ge E i).2.1] 1 = (ge E i).2.1 from rfl, show rd [x, y] 0 = x from rfl, show rd [x, y] 1 = y from rfl]
        by_cases c1 : (ge E i).1 = x
        · rw [if_pos c1, if_pos (by simp), if_pos (by simp), if_neg (fun c2 => c ⟨c1, c2⟩), w1]
          exact f
        · rw [if_neg c1, w1]
          exact f
theorem times_at {E : PE} {i : Int} (h0 : 0 ≤ i) (h : i < E.length) : rd (E.map (·.2.2)) i = (ge E i).2.2 := by
  have h2 : i.toNat < E.length := by omega
  rw [ge_at h2, Pl.rd_get (by rw [List.length_map]; exact h2)]
  simp
theorem hasE_at {E : PE} {x y : Int} : impl_passes.hasE E x y = true ↔ ∃ j : Int, 0 ≤ j ∧ j < E.length ∧ isAt E x y j := by
  rw [hasE_mem]
  constructor
  · rintro ⟨e, he, c⟩
    obtain ⟨j, hj, rfl⟩ := List.getElem_of_mem he
    refine ⟨j, by omega, by omega, ?_⟩
    unfold isAt
    rw [ge_at (by omega)]
    simpa using c
  · rintro ⟨j, j0, j1, c⟩
    unfold isAt at c
    rw [ge_at (by omega)] at c
    exact ⟨_, List.getElem_mem _, c⟩
theorem upAll_times {E : PE} {x y : Int} {T' : List Int} (hT : T'.length = E.length) (h : ∀ j : Int, 0 ≤ j → j < E.length → rd T' j = if isAt E x y j then wrap64 (rd (E.map (·.2.2)) j + 1) else rd (E.map (·.2.2)) j) : T' = (upAll E x y).map (·.2.2) := by
  refine List.ext_getElem (by simp [upAll, hT]) fun m h1 h2 => ?_
  have hm : m < E.length := by omega
  have := h m (by omega) (by omega)
  have hg : ge E m = E[m] := by rw [ge_at (by omega)]; simp
  rw [times_at (by omega) (by omega), Pl.rd_get (by omega)] at this
  simp only [Int.toNat_natCast] at this
  rw [this]
  simp only [upAll, List.map_map, List.getElem_map, Function.comp]
  by_cases c : isAt E x y m
  · rw [if_pos c, hg]
    unfold isAt at c
    rw [hg] at c
    rw [if_pos c]
  · rw [if_neg c, hg]
    unfold isAt at c
    rw [hg] at c
    rw [if_neg c]
theorem upAll_rows (E : PE) (x y : Int) : (upAll E x y).map rowE = E.map rowE := by
  unfold upAll
  rw [List.map_map]
  refine List.map_congr_left fun e _ => ?_
  simp only [Function.comp]
  split <;> rfl
theorem once_l2 {E : PE} {O : List (List Int)} (hE : E.length ≤ 100000) (n : Nat) : ∀ (i acc : Int), ((E.length : Int) - i).toNat = n → 0 ≤ i → i ≤ E.length → 0 ≤ acc → acc ≤ i → Ev (fun k => spec_tuOnce.l2 k O acc (E.map (·.2.2)) E.length i) (O, acc + (((E.drop i.toNat).filter fun e => decide (1 < e.2.2)).length : Int)) := by
  induction n with
  | zero =>
    intro i acc hn h0 h1 a0 a1
    have e : E.drop i.toNat = [] := List.drop_eq_nil_of_le (by omega)
    refine Pl.ev_unf ⟨0, fun k _ => ?_⟩
    rw [spec_tuOnce.l2, if_neg (by omega), e]
    simp
  | succ n ih =>
    intro i acc hn h0 h1 a0 a1
    have w1 : wrap64 (i + 1) = i + 1 := Pl.w64 (by omega) (by omega)
    have w2 : wrap64 (acc + 1) = acc + 1 := Pl.w64 (by omega) (by omega)
    have ed : E.drop i.toNat = ge E i :: E.drop (i + 1).toNat := by
      rw [List.drop_eq_getElem_cons (by omega), ge_at (by omega), show (i + 1).toNat = i.toNat + 1 by omega]
    have hl : ((E.map (·.2.2)).length : Int) = E.length := by rw [List.length_map]
    rw [ed, List.filter_cons]
    by_cases c : (ge E i).2.2 > 1
    · obtain ⟨K, f⟩ := ih (i + 1) (acc + 1) (by omega) (by omega) (by omega) (by omega) (by omega)
      refine Pl.ev_unf ⟨K, fun k hk => ?_⟩
      have f := f k hk
      dsimp only at f
      rw [spec_tuOnce.l2, if_pos (by omega), if_pos h0, if_pos (by omega), times_at h0 (by omega), if_pos c, w1, w2, f, if_pos (by simpa using c), List.length_cons]
      congr 2
      omega
    · obtain ⟨K, f⟩ := ih (i + 1) acc (by omega) (by omega) (by omega) (by omega) (by omega)
      refine Pl.ev_unf ⟨K, fun k hk => ?_⟩
      have f := f k hk
      dsimp only at f
      rw [spec_tuOnce.l2, if_pos (by omega), if_pos h0, if_pos (by omega), times_at h0 (by omega), if_neg c, w1, f, if_neg (by simpa using c)]
def crossed (E : PE) : Int := ((E.filter fun e => decide (1 < e.2.2)).length : Int)
theorem once_l0 {P : List (Int × Int)} (hP : P.length ≤ 10000) (n : Nat) : ∀ (i : Int) (E : PE), ((P.length : Int) - i).toNat = n → 0 ≤ i → i ≤ P.length → Dis E → E.length + n ≤ 20000 → Ev (fun k => spec_tuOnce.l0 k (E.map rowE) (E.map (·.2.2)) (P.map rowQ) P.length i) ((foldU E (P.drop i.toNat)).map rowE, crossed (foldU E (P.drop i.toNat))) := by
  induction n with
  | zero =>
    intro i E hn h0 h1 hd hE
    have e : P.drop i.toNat = [] := List.drop_eq_nil_of_le (by omega)
    obtain ⟨K, f⟩ := once_l2 (E := E) (O := E.map rowE) (by omega) _ 0 0 rfl (by omega) (by omega) (by omega) (by omega)
    refine Pl.ev_unf ⟨K, fun k hk => ?_⟩
    have f := f k hk
    dsimp only at f
    rw [spec_tuOnce.l0, if_neg (by omega), e, List.length_map, f]
    simp [foldU, crossed]
  | succ n ih =>
    intro i E hn h0 h1 hd hE
    have w1 : wrap64 (i + 1) = i + 1 := Pl.w64 (by omega) (by omega)
    have hi : i.toNat < P.length := by omega
    obtain ⟨p, hp⟩ : ∃ p, p = P[i.toNat] := ⟨_, rfl⟩
    have ed : P.drop i.toNat = p :: P.drop (i + 1).toNat := by
      rw [List.drop_eq_getElem_cons hi, hp, show (i + 1).toNat = i.toNat + 1 by omega]
    have er : rd_L1 (P.map rowQ) i = [p.1, p.2] := by rw [rowQ_at h0 (by omega), hp]
    have hpl : ((P.map rowQ).length : Int) = P.length := by rw [List.length_map]
    have hu := upd_len E p.1 p.2
    obtain ⟨K, f⟩ := ih (i + 1) (impl_passes.upd E p.1 p.2) (by omega) (by omega) (by omega) (upd_dis p.1 p.2 hd) (by omega)
    rw [ed, foldU_cons]
    obtain ⟨T', fd', a1, a2, a3, a4, a5⟩ := once_l1 (E := E) (x := p.1) (y := p.2) (P := P.map rowQ) (pl := P.length) (ip := i) (r := ((foldU (impl_passes.upd E p.1 p.2) (P.drop (i + 1).toNat)).map rowE, crossed (foldU (impl_passes.upd E p.1 p.2) (P.drop (i + 1).toNat)))) (by omega) _ 0 (E.map (·.2.2)) false rfl (by omega) (by omega) (by rw [List.length_map])
    have hT := upAll_times a1 (fun j j0 j1 => a3 j j0 j1)
    have hfd : fd' = impl_passes.hasE E p.1 p.2 := by
      rw [Bool.eq_iff_iff, a4, hasE_at]
      simp
    have hua := upd_all p.1 p.2 hd
    have hlE : ((E.map rowE).length : Int) = E.length := by rw [List.length_map]
    obtain ⟨K2, f2⟩ := a5 (by
      refine Pl.ev_unf ⟨K, fun k hk => ?_⟩
      have f := f k hk
      dsimp only at f
      rw [spec_tuOnce.l1, if_neg (by omega)]
      cases hb : impl_passes.hasE E p.1 p.2 with
      | true =>
        rw [hb, if_pos rfl] at hua
        rw [hua, upAll_rows] at f
        rw [hfd, hb, if_pos rfl, hT, w1, hua]
        exact f
      | false =>
        rw [hb, if_neg (by simp)] at hua
        have hsame : upAll E p.1 p.2 = E := by
          unfold upAll
          refine (List.map_congr_left (fun b hbm => if_neg (fun d => ?_))).trans (List.map_id' E)
          have := hasE_mem.2 ⟨b, hbm, d⟩
          rw [hb] at this
          cases this
        rw [hua, List.map_append, List.map_append] at f
        rw [hfd, hb, if_neg (by simp), if_pos h0, if_pos (by omega), if_pos (by rw [List.length_map]; omega), hT, hsame, if_pos (by rw [List.length_map]; omega), er, w1, hua]
        exact f)
    refine Pl.ev_unf ⟨K2, fun k hk => ?_⟩
    have f2 := f2 k hk
    dsimp only at f2
    rw [spec_tuOnce.l0, if_pos (by omega), if_pos h0, if_pos (by omega), er, List.length_map]
    exact f2
theorem once_val {P : List (Int × Int)} (hP : P.length ≤ 10000) : Ev (fun k => spec_tuOnce.f k (P.map rowQ)) ((foldU [] P).map rowE, crossed (foldU [] P)) := by
  obtain ⟨K, f⟩ := once_l0 hP _ 0 [] rfl (by omega) (by omega) (by simp [Dis]) (by simp; omega)
  refine ⟨K, fun k hk => ?_⟩
  have f := f k hk
  dsimp only at f ⊢
  rw [spec_tuOnce.f, List.length_map]
  simpa using f
theorem short_both (s : ByteArray) (m : Int) (hs : s.size ≤ 9223372036854775000) : ∃ b, Ev (fun k => spec_tuShort.f k s m) b ∧ Ev (fun k => impl_isPassed.f k s m) b ∧ (b = true → GoodP s ∧ 0 ≤ m ∧ m ≤ 100) := by
  obtain ⟨b, ⟨K1, e1⟩, ⟨K2, e2⟩, hb⟩ := asked_bothP s m hs
  cases b with
  | false =>
    refine ⟨false, ⟨K1, fun k hk => ?_⟩, ⟨K2, fun k hk => ?_⟩, fun h => by simp at h⟩
    · have e1 := e1 k hk
      dsimp only at e1 ⊢
      rw [spec_tuShort.f, e1, Option.bind_some, if_neg (by simp)]
    · have e2 := e2 k hk
      dsimp only at e2 ⊢
      rw [impl_isPassed.f, e2, Option.bind_some, if_neg (by simp)]
  | true =>
    obtain ⟨g, m0, m1⟩ := hb.1 rfl
    obtain ⟨K3, e3⟩ := tuLength_val g
    obtain ⟨K4, e4⟩ := length_val g m0 m1
    refine ⟨decide (wrap64 (sm (pl s (s.size / 2) 0) * m) ≤ 400), ⟨K1 + K3, fun k hk => ?_⟩, ⟨K2 + K4, fun k hk => ?_⟩, fun _ => ⟨g, m0, m1⟩⟩
    · have e1 := e1 k (by omega)
      have e3 := e3 k (by omega)
      dsimp only at e1 e3 ⊢
      rw [spec_tuShort.f, e1, Option.bind_some, if_pos rfl, e3, Option.bind_some]
    · have e2 := e2 k (by omega)
      have e4 := e4 k (by omega)
      dsimp only at e2 e4 ⊢
      rw [impl_isPassed.f, e2, Option.bind_some, if_pos rfl, e4, Option.bind_some]

end Go.Proofs.Ytklnfjjpjkphiaa.Pure
