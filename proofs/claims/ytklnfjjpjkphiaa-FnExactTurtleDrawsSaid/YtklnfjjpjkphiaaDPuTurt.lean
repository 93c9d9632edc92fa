/- Plain lemmas on turtles: what the program's walk does with any two closures, and where the reference's turtle is. No condition. -/
import Derived.Test.YtklnfjjpjkphiaaPDx3
import Derived.Test.YtklnfjjpjkphiaaPDx6
import Derived.Test.YtklnfjjpjkphiaaPDx7
import Derived.Test.YtklnfjjpjkphiaaDPuParts
namespace Go.Proofs.Ytklnfjjpjkphiaa.Pure
open Go.RowKit Go.Proofs.Ytklnfjjpjkphiaa Go.Proofs.Ytklnfjjpjkphiaa.PD Go.Proofs.YtklnfjjpjkphiaaW.PrintWords Go.Proofs.YtklnfjjpjkphiaaW.PrintLast
set_option linter.unusedVariables false
set_option linter.unusedSimpArgs false

structure Tu where
  x : Int
  y : Int
  v : Int
def tdx (v : Int) : Int := if v = 1 then 1 else if v = 3 then -1 else 0
def tdy (v : Int) : Int := if v = 0 then -1 else if v = 2 then 1 else 0
def tqq (b : Int) : Int := if b = 76 then 3 else if b = 82 then 1 else if b = 85 then 2 else 0
theorem tqq_in (b : Int) : 0 ≤ tqq b ∧ tqq b ≤ 3 := by
  unfold tqq
  split
  · omega
  · split
    · omega
    · split <;> omega
theorem tdx_in (v : Int) : -1 ≤ tdx v ∧ tdx v ≤ 1 := by
  unfold tdx
  split
  · omega
  · split <;> omega
theorem tdy_in (v : Int) : -1 ≤ tdy v ∧ tdy v ≤ 1 := by
  unfold tdy
  split
  · omega
  · split <;> omega
theorem tahead_val {v : Int} (h0 : 0 ≤ v) (h3 : v ≤ 3) : impl_ahead.f v = some (tdx v, tdy v) := by
  rcases (show v = 0 ∨ v = 1 ∨ v = 2 ∨ v = 3 by omega) with rfl | rfl | rfl | rfl <;> rfl
theorem quarters_val (b : Int) : impl_quarters.f b = some (tqq b) := by
  unfold impl_quarters.f tqq
  split
  · rfl
  · split
    · rfl
    · split <;> rfl
theorem woTurn_val (b : Int) : spec_woTurn.f b = some (tqq b) := by
  unfold spec_woTurn.f tqq
  by_cases h1 : b = 82
  · subst h1; rfl
  · by_cases h2 : b = 85
    · subst h2; rfl
    · by_cases h3 : b = 76
      · subst h3; rfl
      · rw [if_neg h1, if_neg h2, if_neg h3, if_neg h3, if_neg h1, if_neg h2]

/-! a place, so many steps on -/
def pos : Nat → Int → Int → Int
  | 0, x, _ => x
  | n + 1, x, a => pos n (x + a) a
theorem pos_in {a : Int} (h : -1 ≤ a ∧ a ≤ 1) (n : Nat) : ∀ x : Int, x - n ≤ pos n x a ∧ pos n x a ≤ x + n := by
  induction n with
  | zero => intro x; simp [pos]
  | succ n ih =>
    intro x
    have := ih (x + a)
    simp only [pos]
    omega
theorem pos_0 (n : Nat) : ∀ x : Int, pos n x 0 = x := by
  induction n with
  | zero => intro x; rfl
  | succ n ih => intro x; rw [pos, ih]; omega
theorem pos_1 (n : Nat) : ∀ x : Int, pos n x 1 = x + n := by
  induction n with
  | zero => intro x; simp [pos]
  | succ n ih => intro x; rw [pos, ih]; omega
theorem pos_m (n : Nat) : ∀ x : Int, pos n x (-1) = x - n := by
  induction n with
  | zero => intro x; simp [pos]
  | succ n ih => intro x; rw [pos, ih]; omega

abbrev PL := List S67
def advP (t : Tu) (p : S67) : Tu := ⟨pos p.f0.toNat t.x (tdx t.v), pos p.f0.toNat t.y (tdy t.v), (t.v + tqq p.f1) % 4⟩
def advL (t : Tu) : PL → Tu
  | [] => t
  | p :: l => advL (advP t p) l
def advN (l : PL) : Nat → Tu → Tu
  | 0, t => t
  | n + 1, t => advN l n (advL t l)
structure TuIn (t : Tu) (B : Int) : Prop where
  x0 : -B ≤ t.x
  x1 : t.x ≤ B
  y0 : -B ≤ t.y
  y1 : t.y ≤ B
  v0 : 0 ≤ t.v
  v3 : t.v ≤ 3
theorem tuIn_le {t : Tu} {B C : Int} (h : TuIn t B) (hBC : B ≤ C) : TuIn t C := ⟨by have := h.x0; omega, by have := h.x1; omega, by have := h.y0; omega, by have := h.y1; omega, h.v0, h.v3⟩
theorem advP_in {t : Tu} {p : S67} {B : Int} (h : TuIn t B) (hp : 0 ≤ p.f0 ∧ p.f0 ≤ 9) : TuIn (advP t p) (B + p.f0) := by
  have h1 := pos_in (tdx_in t.v) p.f0.toNat t.x
  have h2 := pos_in (tdy_in t.v) p.f0.toNat t.y
  have h3 := tqq_in p.f1
  have := h.x0; have := h.x1; have := h.y0; have := h.y1; have := h.v0; have := h.v3
  refine ⟨?_, ?_, ?_, ?_, ?_, ?_⟩ <;> simp only [advP] <;> omega
theorem advL_in : ∀ (l : PL) {t : Tu} {B : Int}, TuIn t B → Dig l → TuIn (advL t l) (B + sm l)
  | [], t, B, h, _ => by simpa [advL, sm] using h
  | p :: l, t, B, h, hd => by
    obtain ⟨h1, h2⟩ := dig_tail hd
    have := advL_in l (advP_in h h1) h2
    rw [advL, sm]
    exact tuIn_le this (by omega)
theorem advN_in {l : PL} (hd : Dig l) (hl : l.length ≤ 9) (n : Nat) : ∀ {t : Tu} {B : Int}, TuIn t B → TuIn (advN l n t) (B + 81 * n) := by
  induction n with
  | zero => intro t B h; simpa [advN] using h
  | succ n ih =>
    intro t B h
    have h1 := advL_in l h hd
    have h2 := sm_in l hd
    have := ih h1
    rw [advN]
    exact tuIn_le this (by omega)

/-! the closures along a walk -/
section
variable {σ : Type} (st en : σ → Int → Int → Option σ)
def stepsF (a b : Int) : Nat → σ → Int → Int → Option σ
  | 0, s, _, _ => some s
  | n + 1, s, x, y => (st s (x + a) (y + b)).bind fun s' => stepsF a b n s' (x + a) (y + b)
def partF (s : σ) (t : Tu) (p : S67) : Option σ := (stepsF st (tdx t.v) (tdy t.v) p.f0.toNat s t.x t.y).bind fun s1 => en s1 (advP t p).x (advP t p).y
def partsF : PL → σ → Tu → Option σ
  | [], s, _ => some s
  | p :: l, s, t => (partF st en s t p).bind fun s2 => partsF l s2 (advP t p)
def repF (l : PL) : Nat → σ → Tu → Option σ
  | 0, s, _ => some s
  | n + 1, s, t => (partsF st en l s t).bind fun s2 => repF l n s2 (advL t l)
end
section
variable {σ : Type} {st en : σ → Int → Int → Option σ} {s1 : σ}
theorem walk_l2 {x1 : ByteArray} {a b x15 x16 x20 x21 x32 v f0 f1 : Int} {x19 : PL} (ha : -1 ≤ a ∧ a ≤ 1) (hb : -1 ≤ b ∧ b ≤ 1) (h9 : x32 ≤ 9) {r : Int × Int × Int × σ} (n : Nat) : ∀ (i x y : Int) (s : σ), (x32 - i).toNat = n → 0 ≤ i → i ≤ x32 → -1000000 + n ≤ x → x + n ≤ 1000000 → -1000000 + n ≤ y → y + n ≤ 1000000 →
    stepsF st a b n s x y = some s1 → Ev (fun k => impl_turtle_walkG.l2 st en k s1 x1 a b x15 x16 x19 x20 x21 x32 x32 (pos n x a) (pos n y b) v f0 f1) r →
    Ev (fun k => impl_turtle_walkG.l2 st en k s x1 a b x15 x16 x19 x20 x21 x32 i x y v f0 f1) r := by
  induction n with
  | zero =>
    intro i x y s hn h0 h1 _ _ _ _ hs he
    obtain rfl : i = x32 := by omega
    simp only [stepsF, Option.some.injEq] at hs
    subst hs
    exact he
  | succ n ih =>
    intro i x y s hn h0 h1 hx0 hx1 hy0 hy1 hs he
    simp only [stepsF] at hs
    obtain ⟨s2, e2, hs⟩ := Option.bind_eq_some_iff.mp hs
    have w1 : wrap64 (i + 1) = i + 1 := Pl.w64 (by omega) (by omega)
    have w2 : wrap64 (x + a) = x + a := Pl.w64 (by omega) (by omega)
    have w3 : wrap64 (y + b) = y + b := Pl.w64 (by omega) (by omega)
    obtain ⟨K, f⟩ := ih (i + 1) (x + a) (y + b) s2 (by omega) (by omega) (by omega) (by omega) (by omega) (by omega) (by omega) hs he
    refine Pl.ev_unf ⟨K, fun k hk => ?_⟩
    have f := f k hk
    rw [impl_turtle_walkG.l2, if_pos (by omega), w2, w3, e2, Option.bind_some, w1]
    exact f
theorem walk_l1 {x1 : ByteArray} {x15 x16 : Int} {L : PL} (hd : Dig L) (hL : L.length ≤ 1000) {r : Int × Int × Int × σ} (n : Nat) : ∀ (i : Int) (t : Tu) (s : σ) (B : Int), ((L.length : Int) - i).toNat = n → 0 ≤ i → i ≤ L.length → TuIn t B → B + 9 * n ≤ 900000 →
    partsF st en (L.drop i.toNat) s t = some s1 → Ev (fun k => impl_turtle_walkG.l0 st en k s1 x1 x15 (wrap64 (x16 + 1)) (advL t (L.drop i.toNat)).x (advL t (L.drop i.toNat)).y (advL t (L.drop i.toNat)).v) r →
    Ev (fun k => impl_turtle_walkG.l1 st en k s x1 x15 x16 L L.length i t.x t.y t.v) r := by
  induction n with
  | zero =>
    intro i t s B hn h0 h1 ht hB hs he
    have e : L.drop i.toNat = [] := List.drop_eq_nil_of_le (by omega)
    rw [e] at hs he
    simp only [partsF, Option.some.injEq] at hs
    subst hs
    obtain ⟨K, f⟩ := he
    refine Pl.ev_unf ⟨K, fun k hk => ?_⟩
    rw [impl_turtle_walkG.l1, if_neg (by omega)]
    exact f k hk
  | succ n ih =>
    intro i t s B hn h0 h1 ht hB hs he
    have e := dropS (l := L) h0 (by omega)
    have hm : rd_T67 L i ∈ L := by rw [rdS_at (by omega)]; exact List.getElem_mem _
    have hb := hd _ hm
    rw [e] at hs he
    simp only [partsF] at hs
    obtain ⟨s2, e2, hs⟩ := Option.bind_eq_some_iff.mp hs
    simp only [partF] at e2
    obtain ⟨s3, e3, e4⟩ := Option.bind_eq_some_iff.mp e2
    have hq := tqq_in (rd_T67 L i).f1
    have w1 : wrap64 (i + 1) = i + 1 := Pl.w64 (by omega) (by omega)
    have v0 := ht.v0
    have v3 := ht.v3
    have w2 : wrap64 (t.v + tqq (rd_T67 L i).f1) = t.v + tqq (rd_T67 L i).f1 := Pl.w64 (by omega) (by omega)
    obtain ⟨K, f⟩ := ih (i + 1) (advP t (rd_T67 L i)) s2 (B + 9) (by omega) (by omega) (by omega) (tuIn_le (advP_in ht hb) (by omega)) (by omega) hs he
    have x0 := ht.x0; have xx1 := ht.x1; have y0 := ht.y0; have y1 := ht.y1
    have h2 : Ev (fun k => impl_turtle_walkG.l2 st en k s x1 (tdx t.v) (tdy t.v) x15 x16 L L.length i (rd_T67 L i).f0 0 t.x t.y t.v (rd_T67 L i).f0 (rd_T67 L i).f1) r := by
      refine walk_l2 (tdx_in t.v) (tdy_in t.v) hb.2 (rd_T67 L i).f0.toNat 0 t.x t.y s (by omega) (by omega) hb.1 (by omega) (by omega) (by omega) (by omega) e3 ?_
      refine Pl.ev_unf ⟨K, fun k hk => ?_⟩
      have e4' : en s3 (pos (rd_T67 L i).f0.toNat t.x (tdx t.v)) (pos (rd_T67 L i).f0.toNat t.y (tdy t.v)) = some s2 := e4
      rw [impl_turtle_walkG.l2, if_neg (by omega), quarters_val, Option.bind_some, e4', Option.bind_some, w1, w2, Pl.tmod_nn (by omega)]
      exact f k hk
    obtain ⟨K2, f2⟩ := h2
    refine Pl.ev_unf ⟨K2, fun k hk => ?_⟩
    rw [impl_turtle_walkG.l1, if_pos (by omega), if_pos h0, if_pos (by omega), tahead_val v0 v3, Option.bind_some]
    exact f2 k hk
theorem pl_small {s : ByteArray} (g : GoodP s) : (pl s (s.size / 2) 0).length ≤ 9 ∧ Dig (pl s (s.size / 2) 0) := by
  have := g.hi
  have := g.ev
  rw [pl_length]
  exact ⟨by omega, pl_dig g.al _ 0 (by omega) (by omega) (by omega)⟩
theorem walk_l0 {s : ByteArray} (g : GoodP s) {m : Int} (hm : m ≤ 100) {c' : σ} (n : Nat) : ∀ (j : Int) (t : Tu) (c : σ) (B : Int), (m - j).toNat = n → 0 ≤ j → j ≤ m → TuIn t B → B + 81 * n ≤ 100000 →
    repF st en (pl s (s.size / 2) 0) n c t = some c' → Ev (fun k => impl_turtle_walkG.l0 st en k c s m j t.x t.y t.v) ((advN (pl s (s.size / 2) 0) n t).x, (advN (pl s (s.size / 2) 0) n t).y, (advN (pl s (s.size / 2) 0) n t).v, c') := by
  obtain ⟨hl, hd⟩ := pl_small g
  obtain ⟨KP, fp⟩ := parts_val g
  induction n with
  | zero =>
    intro j t c B hn h0 h1 ht hB hs
    simp only [repF, Option.some.injEq] at hs
    subst hs
    refine Pl.ev_unf ⟨0, fun k _ => ?_⟩
    rw [impl_turtle_walkG.l0, if_neg (by omega)]
    rfl
  | succ n ih =>
    intro j t c B hn h0 h1 ht hB hs
    simp only [repF] at hs
    obtain ⟨c2, e2, hs⟩ := Option.bind_eq_some_iff.mp hs
    have w1 : wrap64 (j + 1) = j + 1 := Pl.w64 (by omega) (by omega)
    have hsm := sm_in (pl s (s.size / 2) 0) hd
    have ht2 := advL_in (pl s (s.size / 2) 0) ht hd
    have h2 := ih (j + 1) (advL t (pl s (s.size / 2) 0)) c2 (B + 81) (by omega) (by omega) (by omega) (tuIn_le ht2 (by omega)) (by omega) hs
    rw [← w1] at h2
    obtain ⟨K, f⟩ := walk_l1 (x1 := s) (x15 := m) (x16 := j) hd (by omega) (pl s (s.size / 2) 0).length 0 t c B (by omega) (by omega) (by omega) ht (by omega) e2 h2
    refine Pl.ev_unf ⟨K + KP, fun k hk => ?_⟩
    have f := f k (by omega)
    have fp := fp k (by omega)
    dsimp only at fp
    rw [impl_turtle_walkG.l0, if_pos (by omega), fp, Option.bind_some]
    exact f
theorem walk_val {s : ByteArray} (g : GoodP s) {m : Int} (h0 : 0 ≤ m) (hm : m ≤ 100) {c c' : σ} (h : repF st en (pl s (s.size / 2) 0) m.toNat c ⟨0, 0, 0⟩ = some c') :
    Ev (fun k => impl_turtle_walkG.f st en k c 0 0 0 s m) ((advN (pl s (s.size / 2) 0) m.toNat ⟨0, 0, 0⟩).x, (advN (pl s (s.size / 2) 0) m.toNat ⟨0, 0, 0⟩).y, (advN (pl s (s.size / 2) 0) m.toNat ⟨0, 0, 0⟩).v, c') :=
  walk_l0 g hm m.toNat 0 ⟨0, 0, 0⟩ c 0 (by omega) (by omega) h0 ⟨by decide, by decide, by decide, by decide, by decide, by decide⟩ (by omega) h
end
/-! with nothing -/
theorem stepsF_nil (a b : Int) (n : Nat) : ∀ (x y : Int), stepsF (fun (_ : Unit) _ _ => some ()) a b n () x y = some () := by
  induction n with
  | zero => intro x y; rfl
  | succ n ih => intro x y; rw [stepsF, Option.bind_some]; exact ih _ _
theorem partsF_nil : ∀ (l : PL) (t : Tu), partsF (fun (_ : Unit) _ _ => some ()) (fun (_ : Unit) _ _ => some ()) l () t = some ()
  | [], t => rfl
  | p :: l, t => by
    rw [partsF, partF, stepsF_nil, Option.bind_some, Option.bind_some]
    exact partsF_nil l _
theorem repF_nil (l : PL) (n : Nat) : ∀ t : Tu, repF (fun (_ : Unit) _ _ => some ()) (fun (_ : Unit) _ _ => some ()) l n () t = some () := by
  induction n with
  | zero => intro t; rfl
  | succ n ih => intro t; rw [repF, partsF_nil, Option.bind_some]; exact ih _
theorem walk0_val {s : ByteArray} (g : GoodP s) {m : Int} (h0 : 0 ≤ m) (hm : m ≤ 100) :
    Ev (fun k => impl_turtle_walk.f k 0 0 0 s m 0 0) ((advN (pl s (s.size / 2) 0) m.toNat ⟨0, 0, 0⟩).x, (advN (pl s (s.size / 2) 0) m.toNat ⟨0, 0, 0⟩).y, (advN (pl s (s.size / 2) 0) m.toNat ⟨0, 0, 0⟩).v) := by
  obtain ⟨K, f⟩ := walk_val g h0 hm (repF_nil (pl s (s.size / 2) 0) m.toNat ⟨0, 0, 0⟩)
  refine ⟨K, fun k hk => ?_⟩
  have f := f k hk
  dsimp only at f ⊢
  rw [impl_turtle_walk.f, f, Option.bind_some]

/-! the reference's turtle -/
theorem tuGo_val {t : Tu} {d : Int} (h : TuIn t 900000) (h0 : 0 ≤ d) (h9 : d ≤ 9) : spec_tuTurtle_tuGo.f t.x t.y t.v d = some (pos d.toNat t.x (tdx t.v), pos d.toNat t.y (tdy t.v), t.v) := by
  obtain ⟨x, y, v⟩ := t
  obtain ⟨x0, x1, y0, y1, v0, v3⟩ := h
  dsimp only at x0 x1 y0 y1 v0 v3 ⊢
  have e1 : wrap64 (x + d) = x + d := Pl.w64 (by omega) (by omega)
  have e2 : wrap64 (x - d) = x - d := Pl.w64 (by omega) (by omega)
  have e3 : wrap64 (y + d) = y + d := Pl.w64 (by omega) (by omega)
  have e4 : wrap64 (y - d) = y - d := Pl.w64 (by omega) (by omega)
  have hd : ((d.toNat : Nat) : Int) = d := by omega
  rcases (show v = 0 ∨ v = 1 ∨ v = 2 ∨ v = 3 by omega) with rfl | rfl | rfl | rfl
  · rw [spec_tuTurtle_tuGo.f, if_pos rfl, e4, show tdx 0 = 0 from rfl, show tdy 0 = -1 from rfl, pos_0, pos_m, hd]
  · rw [spec_tuTurtle_tuGo.f, if_neg (by omega), if_pos rfl, e1, show tdx 1 = 1 from rfl, show tdy 1 = 0 from rfl, pos_1, pos_0, hd]
  · rw [spec_tuTurtle_tuGo.f, if_neg (by omega), if_neg (by omega), if_pos rfl, e3, show tdx 2 = 0 from rfl, show tdy 2 = 1 from rfl, pos_1, pos_0, hd]
  · rw [spec_tuTurtle_tuGo.f, if_neg (by omega), if_neg (by omega), if_neg (by omega), e2, show tdx 3 = -1 from rfl, show tdy 3 = 0 from rfl, pos_0, pos_m, hd]
theorem tuSign_val {s : ByteArray} {x y v i : Int} (v0 : 0 ≤ v) (v3 : v ≤ 3) (h0 : 0 ≤ i) (h1 : i + 1 < s.size) (h9 : i ≤ 1000000) :
    spec_tuTurtle_tuSign.f x y v s i = some (x, y, (v + tqq (bt s (i + 1))) % 4) := by
  have w1 : wrap64 (i + 1) = i + 1 := Pl.w64 (by omega) (by omega)
  have hq := tqq_in (bt s (i + 1))
  have w2 : wrap64 (v + tqq (bt s (i + 1))) = v + tqq (bt s (i + 1)) := Pl.w64 (by omega) (by omega)
  rw [spec_tuTurtle_tuSign.f, w1, if_pos (by omega), if_pos h1, woTurn_val, Option.bind_some, w2, Pl.tmod_nn (by omega)]
end Go.Proofs.Ytklnfjjpjkphiaa.Pure
