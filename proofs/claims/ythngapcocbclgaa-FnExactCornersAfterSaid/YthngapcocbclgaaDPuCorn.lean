/- Plain lemmas on a turtle's corners: what the program's closure collects, and the reference's list. No condition. -/
import Derived.Test.YthngapcocbclgaaPDx1
import Derived.Test.YthngapcocbclgaaPDx3
import Derived.Test.YthngapcocbclgaaPDx4
import Derived.Test.YthngapcocbclgaaDPuTurt
namespace Go.Proofs.Ythngapcocbclgaa.Pure
open Go.RowKit Go.Proofs.Ythngapcocbclgaa Go.Proofs.Ythngapcocbclgaa.PD Go.Proofs.YthngapcocbclgaaW.PrintWords Go.Proofs.YthngapcocbclgaaW.PrintLast
set_option linter.unusedVariables false
set_option linter.unusedSimpArgs false

abbrev Pt := S45
def endsL : PL → Tu → List Pt
  | [], _ => []
  | p :: l, t => ⟨(advP t p).x, (advP t p).y⟩ :: endsL l (advP t p)
def endsN (l : PL) : Nat → Tu → List Pt
  | 0, _ => []
  | n + 1, t => endsL l t ++ endsN l n (advL t l)
theorem endsL_length : ∀ (l : PL) (t : Tu), (endsL l t).length = l.length
  | [], _ => rfl
  | p :: l, t => by simp [endsL, endsL_length l]
theorem endsN_length {l : PL} (hl : l.length ≤ 9) (n : Nat) : ∀ t : Tu, (endsN l n t).length ≤ 9 * n := by
  induction n with
  | zero => intro t; simp [endsN]
  | succ n ih =>
    intro t
    have := ih (advL t l)
    have := endsL_length l t
    simp only [endsN, List.length_append]
    omega
section
variable {σ : Type}
theorem stepsF_keep (a b : Int) (n : Nat) (s : σ) : ∀ (x y : Int), stepsF (fun (s : σ) _ _ => some s) a b n s x y = some s := by
  induction n with
  | zero => intro x y; rfl
  | succ n ih => intro x y; rw [stepsF, Option.bind_some]; exact ih _ _
end
theorem add_val {xs : List Pt} {x y : Int} (h : xs.length ≤ 1000000) : impl_corners.add xs x y = some (xs ++ [⟨x, y⟩]) := by
  rw [impl_corners.add, if_pos (by omega)]
theorem partsF_add : ∀ (l : PL) (t : Tu) (xs : List Pt), xs.length + l.length ≤ 1000000 → partsF (fun s _ _ => some s) impl_corners.add l xs t = some (xs ++ endsL l t)
  | [], t, xs, _ => by simp [partsF, endsL]
  | p :: l, t, xs, h => by
    rw [List.length_cons] at h
    rw [partsF, partF, stepsF_keep, Option.bind_some, add_val (by omega), Option.bind_some, partsF_add l _ _ (by simp; omega), endsL]
    simp
theorem repF_add {l : PL} (hl : l.length ≤ 9) (n : Nat) : ∀ (t : Tu) (xs : List Pt), xs.length + 9 * n ≤ 1000000 → repF (fun s _ _ => some s) impl_corners.add l n xs t = some (xs ++ endsN l n t) := by
  induction n with
  | zero => intro t xs _; simp [repF, endsN]
  | succ n ih =>
    intro t xs h
    have := endsL_length l t
    rw [repF, partsF_add l t xs (by omega), Option.bind_some, ih _ _ (by rw [List.length_append]; omega), endsN, List.append_assoc]
def cornersOf (s : ByteArray) (m : Int) : List Pt := ⟨0, 0⟩ :: endsN (pl s (s.size / 2) 0) m.toNat ⟨0, 0, 0⟩
theorem cornersOf_length {s : ByteArray} (g : GoodP s) {m : Int} (hm : m ≤ 100) : 1 ≤ (cornersOf s m).length ∧ (cornersOf s m).length ≤ 901 := by
  have := endsN_length (pl_small g).1 m.toNat ⟨0, 0, 0⟩
  unfold cornersOf
  rw [List.length_cons]
  omega
theorem corners_val {s : ByteArray} (g : GoodP s) {m : Int} (h0 : 0 ≤ m) (hm : m ≤ 100) : Ev (fun k => impl_corners.f k s m) (cornersOf s m) := by
  obtain ⟨K, f⟩ := walk_val g h0 hm (repF_add (pl_small g).1 m.toNat ⟨0, 0, 0⟩ [⟨0, 0⟩] (by simp; omega))
  refine ⟨K, fun k hk => ?_⟩
  have f := f k hk
  dsimp only at f ⊢
  rw [impl_corners.f, f, Option.bind_some]
  rfl

/-! the reference -/
def rowP (c : Pt) : List Int := [c.f0, c.f1]
theorem tuCorners_l1 {s : ByteArray} (g : GoodP s) {m : Int} {r : List (List Int)} (n : Nat) : ∀ (i : Int) (t : Tu) (B : Int) (acc : List (List Int)), ((s.size : Int) - i).toNat = 2 * n → 0 ≤ i → i ≤ s.size → i % 2 = 0 → TuIn t B → B + 9 * n ≤ 900000 → acc.length + n ≤ 1000000 →
    Ev (fun k => spec_tuCorners.l0 k s (wrap64 (m - 1)) (acc ++ (endsL (pl s n i) t).map rowP) (advL t (pl s n i)).x (advL t (pl s n i)).y (advL t (pl s n i)).v) r → Ev (fun k => spec_tuCorners.l1 k s m acc i t.x t.y t.v) r := by
  have hi := g.hi
  induction n with
  | zero =>
    intro i t B acc hn h0 h1 h2 ht hB hl he
    obtain ⟨K, f⟩ := he
    refine Pl.ev_unf ⟨K, fun k hk => ?_⟩
    have f := f k hk
    simp only [pl, endsL, List.map_nil, List.append_nil, advL] at f
    rw [spec_tuCorners.l1, if_neg (by omega)]
    exact f
  | succ n ih =>
    intro i t B acc hn h0 h1 h2 ht hB hl he
    have hb := (g.al i h0 (by omega)).1 h2
    have w1 : wrap64 (i + 2) = i + 2 := Pl.w64 (by omega) (by omega)
    have he2 : Ev (fun k => spec_tuCorners.l0 k s (wrap64 (m - 1)) ((acc ++ [[(advP t ⟨bt s i - 48, bt s (i + 1)⟩).x, (advP t ⟨bt s i - 48, bt s (i + 1)⟩).y]]) ++ (endsL (pl s n (i + 2)) (advP t ⟨bt s i - 48, bt s (i + 1)⟩)).map rowP) (advL (advP t ⟨bt s i - 48, bt s (i + 1)⟩) (pl s n (i + 2))).x (advL (advP t ⟨bt s i - 48, bt s (i + 1)⟩) (pl s n (i + 2))).y (advL (advP t ⟨bt s i - 48, bt s (i + 1)⟩) (pl s n (i + 2))).v) r := by
      rw [List.append_assoc]
      exact he
    obtain ⟨K, f⟩ := ih (i + 2) (advP t ⟨bt s i - 48, bt s (i + 1)⟩) (B + 9) _ (by omega) (by omega) (by omega) (by omega) (tuIn_le (advP_in ht (show 0 ≤ bt s i - 48 ∧ bt s i - 48 ≤ 9 by omega)) (show B + (bt s i - 48) ≤ B + 9 by omega)) (by omega) (by rw [List.length_append]; simp; omega) he2
    refine Pl.ev_unf ⟨K, fun k hk => ?_⟩
    rw [spec_tuCorners.l1, if_pos (by omega), tuPart_val (tuIn_le ht (by omega)) h0 (by omega) hb, Option.bind_some]
    dsimp only
    rw [tuSign_val ht.v0 ht.v3 h0 (by omega) (by omega), Option.bind_some, w1, if_pos (by omega)]
    exact f k hk
theorem tuCorners_l0 {s : ByteArray} (g : GoodP s) (n : Nat) : ∀ (m : Int) (t : Tu) (B : Int) (acc : List (List Int)), m.toNat = n → 0 ≤ m → m ≤ 100 → TuIn t B → B + 81 * n ≤ 100000 → acc.length + 9 * n ≤ 100000 →
    Ev (fun k => spec_tuCorners.l0 k s m acc t.x t.y t.v) (acc ++ (endsN (pl s (s.size / 2) 0) n t).map rowP) := by
  obtain ⟨hl, hd⟩ := pl_small g
  have hi := g.hi
  have hev := g.ev
  induction n with
  | zero =>
    intro m t B acc hn h0 h1 ht hB ha
    refine Pl.ev_unf ⟨0, fun k _ => ?_⟩
    rw [spec_tuCorners.l0, if_neg (by omega)]
    simp [endsN]
  | succ n ih =>
    intro m t B acc hn h0 h1 ht hB ha
    have w1 : wrap64 (m - 1) = m - 1 := Pl.w64 (by omega) (by omega)
    have hsm := sm_in (pl s (s.size / 2) 0) hd
    have hel := endsL_length (pl s (s.size / 2) 0) t
    have h2 := ih (m - 1) (advL t (pl s (s.size / 2) 0)) (B + 81) (acc ++ (endsL (pl s (s.size / 2) 0) t).map rowP) (by omega) (by omega) (by omega) (tuIn_le (advL_in (pl s (s.size / 2) 0) ht hd) (by omega)) (by omega) (by rw [List.length_append, List.length_map]; omega)
    rw [← w1] at h2
    obtain ⟨K, f⟩ := tuCorners_l1 g (m := m) (s.size / 2) 0 t B acc (by omega) (by omega) (by omega) (by omega) ht (by omega) (by omega) h2
    refine Pl.ev_unf ⟨K, fun k hk => ?_⟩
    rw [spec_tuCorners.l0, if_pos (by omega), endsN, List.map_append, ← List.append_assoc]
    exact f k hk
theorem tuCorners_val {s : ByteArray} (g : GoodP s) {m : Int} (h0 : 0 ≤ m) (hm : m ≤ 100) : Ev (fun k => spec_tuCorners.f k s m) ((cornersOf s m).map rowP) :=
  tuCorners_l0 g m.toNat m ⟨0, 0, 0⟩ 0 [[0, 0]] rfl h0 hm ⟨by decide, by decide, by decide, by decide, by decide, by decide⟩ (by omega) (by simp; omega)
theorem rowP_at {C : List Pt} {i : Int} (h0 : 0 ≤ i) (h : i < C.length) : rd_L1 (C.map rowP) i = rowP (rd_T45 C i) := by
  have h2 : i.toNat < C.length := by omega
  simp [rd_L1, rd_T45, List.getD_eq_getElem?_getD, List.getElem?_eq_getElem h2]
theorem rowP_0 (c : Pt) : rd (rowP c) 0 = c.f0 := rfl
theorem rowP_1 (c : Pt) : rd (rowP c) 1 = c.f1 := rfl
theorem rowP_len (c : Pt) : (rowP c).length = 2 := rfl

end Go.Proofs.Ythngapcocbclgaa.Pure
