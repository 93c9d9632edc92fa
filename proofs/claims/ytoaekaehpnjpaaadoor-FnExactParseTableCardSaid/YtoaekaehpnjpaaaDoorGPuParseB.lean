/- Plain lemmas: what the reference reads of a table's text: it answers with a table just if the text is the table's. No condition. -/
import Derived.Test.YtoaekaehpnjpaaaDoorPGx1
import Derived.Test.YtoaekaehpnjpaaaDoorPGx2
import Derived.Test.YtoaekaehpnjpaaaDoorPGx3
import Derived.Test.YtoaekaehpnjpaaaDoorPGx4
import Derived.Test.YtoaekaehpnjpaaaDoorPGx5
import Derived.Test.YtoaekaehpnjpaaaDoorGPuParseA
namespace Go.Proofs.YtoaekaehpnjpaaaDoor.Pure
open Go.RowKit Go.Proofs.YtoaekaehpnjpaaaDoor Go.Proofs.YtoaekaehpnjpaaaDoor.PG Go.Proofs.YtoaekaehpnjpaaaDoorW.PrintWords Go.Proofs.YtoaekaehpnjpaaaDoorW.PrintLast
set_option linter.unusedVariables false
set_option linter.unusedSimpArgs false

theorem sp_upto {s : ByteArray} (hs : s.size ≤ 1048576) {c : Int} {acc : List ByteArray} {f p : Int} {r : List ByteArray} (hp : p ≤ s.size) (h : Ev (fun k => spec_l1Split.l0 k s c acc f p) r) (n : Nat) : ∀ i : Int, (p - i).toNat = n → 0 ≤ i → i ≤ p → (∀ j : Int, i ≤ j → j < p → bt s j ≠ c) → Ev (fun k => spec_l1Split.l0 k s c acc f i) r := by
  induction n with
  | zero =>
    intro i hn h0 hi hm
    obtain rfl : i = p := by omega
    exact h
  | succ n ih =>
    intro i hn h0 hi hm
    exact sp_miss hs h0 (by omega) (hm i (by omega) (by omega)) (ih (i + 1) (by omega) (by omega) (by omega) fun j h1 h2 => hm j (by omega) h2)
theorem split_two {s : ByteArray} (hs : s.size ≤ 1048576) {c p : Int} (h0 : 0 ≤ p) (h1 : p < s.size) (hb : bt s p = c) (hn : ∀ j : Int, 0 ≤ j → j < s.size → j ≠ p → bt s j ≠ c) : Ev (fun k => spec_l1Split.f k s c) [s.extract 0 p.toNat, s.extract (p + 1).toNat s.size] := by
  have e := sp_none hs (c := c) _ ([] ++ [s.extract (0 : Int).toNat p.toNat]) (p + 1) (p + 1) rfl (by omega) (by omega) (by omega) (by simp) (fun j h2 h3 => hn j (by omega) h3 (by omega))
  exact sp_upto hs (by omega) (sp_hit hs h0 h1 hb (by omega) h0 (by simp) e) _ 0 rfl (by omega) h0 (fun j h2 h3 => hn j h2 (by omega) (by omega))
theorem row_step {x0 x7 : ByteArray} {a b : Int} {acc : List R1} {v1 v2 : Int} {r : Int × Int × List R1 × Bool} (h3 : 3 ≤ x7.size) (ha : acc.length ≤ 2000000) (e1 : Ev (fun k => spec_l1Read.f k (x7.extract 0 1)) v1) (e2 : Ev (fun k => spec_l1Read.f k (x7.extract 2 3)) v2) (h : Ev (fun k => spec_taParse.l0 k x0 (x7.extract 3 x7.size) a b (acc ++ [⟨v1, x7.extract 1 2, v2⟩])) r) : Ev (fun k => spec_taParse.l0 k x0 x7 a b acc) r := by
  obtain ⟨K1, e1⟩ := e1
  obtain ⟨K2, e2⟩ := e2
  obtain ⟨K, e⟩ := h
  refine Pl.ev_unf ⟨K + K1 + K2, fun k hk => ?_⟩
  have e := e k (by omega)
  have e1 := e1 k (by omega)
  have e2 := e2 k (by omega)
  dsimp only at e e1 e2
  rw [spec_taParse.l0, if_pos (by omega), if_pos (by omega), if_pos (by omega), e1, Option.bind_some, if_pos (by omega), if_pos (by omega), if_pos (by omega), if_pos (by omega), e2, Option.bind_some, if_pos (by omega)]
  exact e
theorem row_end {x0 x7 : ByteArray} {a b : Int} {acc : List R1} (h3 : x7.size = 0) (ha : acc.length ≤ 1048576) : ∃ c, Ev (fun k => spec_taParse.l0 k x0 x7 a b acc) (a, b, acc, c) ∧ (c = true ↔ tabB a b acc = true ∧ bytesOf x0 = TB a b acc) := by
  obtain ⟨⟨K1, e1⟩, _⟩ := tab_both ha a b
  cases hb : tabB a b acc with
  | false =>
    rw [hb] at e1
    refine ⟨false, Pl.ev_unf ⟨K1, fun k hk => ?_⟩, by simp⟩
    have e := e1 k hk
    dsimp only at e
    rw [spec_taParse.l0, if_neg (by omega), e, Option.bind_some, if_neg (by simp)]
  | true =>
    rw [hb] at e1
    obtain ⟨t, ⟨K2, e2⟩, ht⟩ := txt hb
    refine ⟨t.toList == x0.toList, Pl.ev_unf ⟨K1 + K2, fun k hk => ?_⟩, ?_⟩
    · have e := e1 k (by omega)
      have f := e2 k (by omega)
      dsimp only at e f
      rw [spec_taParse.l0, if_neg (by omega), e, Option.bind_some, if_pos rfl, f, Option.bind_some]
    · rw [beq_iff_eq, Pl.toList_inj]
      refine ⟨fun h => ⟨rfl, by rw [← h, ht]⟩, fun h => Pl.bytesOf_inj.1 (by rw [ht, h.2])⟩
theorem rows_total {x0 : ByteArray} {a b : Int} (n : Nat) : ∀ (x7 : ByteArray) (acc : List R1), x7.size = 3 * n → x7.size ≤ 1048576 → acc.length + n ≤ 1000000 → ∃ l c, Ev (fun k => spec_taParse.l0 k x0 x7 a b acc) (a, b, l, c) ∧ (c = true → tabB a b l = true ∧ bytesOf x0 = TB a b l) := by
  induction n with
  | zero =>
    intro x7 acc hn hs ha
    obtain ⟨c, e, hc⟩ := row_end (x0 := x0) (a := a) (b := b) (acc := acc) (x7 := x7) (by omega) (by omega)
    exact ⟨acc, c, e, hc.1⟩
  | succ n ih =>
    intro x7 acc hn hs ha
    obtain ⟨v1, e1⟩ := l1_total (x7.extract 0 1)
    obtain ⟨v2, e2⟩ := l1_total (x7.extract 2 3)
    obtain ⟨l, c, e, hc⟩ := ih (x7.extract 3 x7.size) (acc ++ [⟨v1, x7.extract 1 2, v2⟩]) (by rw [ByteArray.size_extract]; omega) (by rw [ByteArray.size_extract]; omega) (by rw [List.length_append, List.length_singleton]; omega)
    exact ⟨l, c, row_step (by omega) (by omega) e1 e2 e, hc⟩
theorem rows_of {x0 : ByteArray} {a b : Int} : ∀ (l : List R1) (x7 : ByteArray) (acc : List R1), (∀ r ∈ l, SmallR r) → bytesOf x7 = rowB l → acc.length + l.length ≤ 1000000 → tabB a b (acc ++ l) = true → bytesOf x0 = TB a b (acc ++ l) → Ev (fun k => spec_taParse.l0 k x0 x7 a b acc) (a, b, acc ++ l, true)
  | [], x7, acc, hr, hb, hl, ht, hx => by
    have hz : x7.size = 0 := by rw [← bytesOf_length, hb]; rfl
    obtain ⟨c, e, hc⟩ := row_end (x0 := x0) (a := a) (b := b) (acc := acc) hz (by simp at hl; omega)
    rw [List.append_nil] at ht hx ⊢
    obtain rfl := hc.2 ⟨ht, hx⟩
    exact e
  | r :: l, x7, acc, hr, hb, hl, ht, hx => by
    have hg := hr r (by simp)
    obtain ⟨c, hc, hcc⟩ := hg.sg
    have hlen := rowB_len hr
    have hz : x7.size = 3 * (l.length + 1) := by rw [← bytesOf_length, hb, hlen, List.length_cons]
    have hb' : bytesOf x7 = (48 + r.f0) :: c :: (48 + r.f2) :: rowB l := by rw [hb, rowB, hc]; rfl
    have q0 : x7.extract 0 1 = dig r.f0 := Pl.bytesOf_inj.1 (by rw [Pl.bytesOf_extract, hb', dig_bytes hg.a0 (by have := hg.a9; omega)]; rfl)
    have q1 : x7.extract 1 2 = r.f1 := Pl.bytesOf_inj.1 (by rw [Pl.bytesOf_extract, hb', hc]; rfl)
    have q2 : x7.extract 2 3 = dig r.f2 := Pl.bytesOf_inj.1 (by rw [Pl.bytesOf_extract, hb', dig_bytes hg.b0 (by have := hg.b9; omega)]; rfl)
    have q3 : bytesOf (x7.extract 3 x7.size) = rowB l := by
      rw [Pl.bytesOf_extract, List.take_of_length_le (by rw [bytesOf_length]; omega), hb']
      rfl
    have e := rows_of (x0 := x0) (a := a) (b := b) l (x7.extract 3 x7.size) (acc ++ [r]) (fun y hy => hr y (by simp [hy])) q3 (by rw [List.length_cons] at hl; rw [List.length_append, List.length_singleton]; omega) (by rw [List.append_assoc]; exact ht) (by rw [List.append_assoc]; exact hx)
    rw [List.append_assoc] at e
    refine row_step (by omega) (by rw [List.length_cons] at hl; omega) (by rw [q0]; exact l1_dig hg.a0 (by have := hg.a9; omega)) (by rw [q2]; exact l1_dig hg.b0 (by have := hg.b9; omega)) ?_
    rw [q1]
    exact e
theorem ta_false {s : ByteArray} {parts : List ByteArray} : Ev (fun k => spec_taParse.j0 k s parts true) (0, 0, [], false) :=
  Pl.ev_unf ⟨0, fun k _ => by rw [spec_taParse.j0, if_pos rfl]⟩
theorem two_of {l : List ByteArray} (h : (l.length : Int) = 2) : ∃ x y, l = [x, y] := by
  match l, h with
  | [x, y], _ => exact ⟨x, y, rfl⟩
theorem ta_total {s p q : ByteArray} (hp : p.size ≤ 1048576) (hq : q.size ≤ 1048576) (hm : q.size % 3 = 0) : ∃ a b l c, Ev (fun k => spec_taParse.j0 k s [p, q] false) (a, b, l, c) ∧ (c = true → tabB a b l = true ∧ bytesOf s = TB a b l) := by
  obtain ⟨w, ⟨K1, e1⟩, hw⟩ := split_total hp 47
  by_cases c2 : (w.length : Int) = 2
  · obtain ⟨x, y, rfl⟩ := two_of c2
    obtain ⟨v1, K2, e2⟩ := l1_total x
    obtain ⟨v2, K3, e3⟩ := l1_total y
    obtain ⟨l, c, ⟨K4, e4⟩, hc⟩ := rows_total (x0 := s) (a := v1) (b := v2) (q.size / 3) q [] (by omega) hq (by simp; omega)
    refine ⟨v1, v2, l, c, Pl.ev_unf ⟨K1 + K2 + K3 + K4, fun k hk => ?_⟩, hc⟩
    have e1 := e1 k (by omega)
    have e2 := e2 k (by omega)
    have e3 := e3 k (by omega)
    have e4 := e4 k (by omega)
    dsimp only at e1 e2 e3 e4
    rw [spec_taParse.j0, if_neg (by simp), if_pos (by simp), show rdOf ByteArray.empty [p, q] 0 = p from rfl, e1, Option.bind_some, if_pos c2, if_pos (by simp), show rdOf ByteArray.empty [x, y] 0 = x from rfl, e2, Option.bind_some, if_pos (by simp), show rdOf ByteArray.empty [x, y] 1 = y from rfl, e3, Option.bind_some, if_pos (by simp), show rdOf ByteArray.empty [p, q] 1 = q from rfl]
    exact e4
  · refine ⟨0, 0, [], false, Pl.ev_unf ⟨K1, fun k hk => ?_⟩, by simp⟩
    have e1 := e1 k (by omega)
    dsimp only at e1
    rw [spec_taParse.j0, if_neg (by simp), if_pos (by simp), show rdOf ByteArray.empty [p, q] 0 = p from rfl, e1, Option.bind_some, if_neg c2]
theorem taParse_total {s : ByteArray} (hs : s.size ≤ 1048576) : ∃ a b l c, Ev (fun k => spec_taParse.f k s) (a, b, l, c) ∧ (c = true → tabB a b l = true ∧ bytesOf s = TB a b l) := by
  obtain ⟨w, ⟨K1, e1⟩, hw⟩ := split_total hs 58
  obtain ⟨K2, e2⟩ := ta_false (s := s) (parts := w)
  by_cases c1 : (s.size : Int) > 60
  · refine ⟨0, 0, [], false, ⟨K1 + K2, fun k hk => ?_⟩, by simp⟩
    have e1 := e1 k (by omega)
    have e2 := e2 k (by omega)
    dsimp only at e1 e2 ⊢
    rw [spec_taParse.f, e1, Option.bind_some, if_pos c1]
    exact e2
  · by_cases c2 : (w.length : Int) = 2
    · obtain ⟨p, q, rfl⟩ := two_of c2
      by_cases c3 : q.size % 3 = 0
      · obtain ⟨a, b, l, c, ⟨K3, e3⟩, hc⟩ := ta_total (s := s) (hw p (by simp)) (hw q (by simp)) c3
        refine ⟨a, b, l, c, ⟨K1 + K3, fun k hk => ?_⟩, hc⟩
        have e1 := e1 k (by omega)
        have e3 := e3 k (by omega)
        dsimp only at e1 e3 ⊢
        rw [spec_taParse.f, e1, Option.bind_some, if_neg c1, if_pos c2, if_pos (by simp), show rdOf ByteArray.empty [p, q] 1 = q from rfl, show (((q.size : Int) % 3) != 0) = false from bne_eq_false_iff_eq.2 (by omega)]
        exact e3
      · refine ⟨0, 0, [], false, ⟨K1 + K2, fun k hk => ?_⟩, by simp⟩
        have e1 := e1 k (by omega)
        have e2 := e2 k (by omega)
        dsimp only at e1 e2 ⊢
        rw [spec_taParse.f, e1, Option.bind_some, if_neg c1, if_pos c2, if_pos (by simp), show rdOf ByteArray.empty [p, q] 1 = q from rfl, show (((q.size : Int) % 3) != 0) = true from bne_iff_ne.2 (by omega)]
        exact e2
    · refine ⟨0, 0, [], false, ⟨K1 + K2, fun k hk => ?_⟩, by simp⟩
      have e1 := e1 k (by omega)
      have e2 := e2 k (by omega)
      dsimp only at e1 e2 ⊢
      rw [spec_taParse.f, e1, Option.bind_some, if_neg c1, if_neg c2]
      exact e2
theorem parseS_total {s : ByteArray} (hs : s.size ≤ 1048576) : ∃ a b l c, Ev (fun k => spec_ParseTable.f k s) (a, b, l, c) ∧ ((a = 0 ∧ b = 0 ∧ l = [] ∧ c = false) ∨ (c = true ∧ tabB a b l = true ∧ bytesOf s = TB a b l)) := by
  obtain ⟨a, b, l, c, ⟨K, e⟩, hc⟩ := taParse_total hs
  cases c with
  | false =>
    refine ⟨0, 0, [], false, ⟨K, fun k hk => ?_⟩, .inl ⟨rfl, rfl, rfl, rfl⟩⟩
    have e := e k hk
    dsimp only at e ⊢
    rw [spec_ParseTable.f, e, Option.bind_some, if_neg (by simp)]
  | true =>
    refine ⟨a, b, l, true, ⟨K, fun k hk => ?_⟩, .inr ⟨rfl, hc rfl⟩⟩
    have e := e k hk
    dsimp only at e ⊢
    rw [spec_ParseTable.f, e, Option.bind_some, if_pos rfl]
theorem bt_get {s : ByteArray} {L : List Int} (h : bytesOf s = L) (i : Int) : bt s i = rd L i := by rw [Pl.bt_rd, h]
theorem parseS_of {s : ByteArray} {a b : Int} {l : List R1} (ht : tabB a b l = true) (hx : bytesOf s = TB a b l) : Ev (fun k => spec_ParseTable.f k s) (a, b, l, true) := by
  obtain ⟨p0, p4, q0, q4, hlen, hall⟩ := tab_dims ht
  have hl := tab_len ht
  have hr := small_of ht
  have hz : s.size = 4 + 3 * l.length := by
    rw [← bytesOf_length, hx, TB]
    simp only [List.length_cons, rowB_len hr]
    omega
  have b3 : bt s 3 = 58 := by rw [bt_get hx]; rfl
  have hno : ∀ j : Int, 0 ≤ j → j < s.size → j ≠ 3 → bt s j ≠ 58 := fun j h0 h1 h2 => by
    rw [bt_get hx]
    by_cases j0 : j = 0
    · subst j0; show 48 + a ≠ 58; omega
    · by_cases j1 : j = 1
      · subst j1; show (47 : Int) ≠ 58; omega
      · by_cases j2 : j = 2
        · subst j2; show 48 + b ≠ 58; omega
        · have hj : j.toNat = (j - 4).toNat + 4 := by omega
          have hlt : (j - 4).toNat < (rowB l).length := by rw [rowB_len hr]; omega
          have : rd (TB a b l) j = (rowB l)[(j - 4).toNat] := by
            rw [rd, hj, TB]
            simp [List.getD_eq_getElem?_getD, List.getElem?_eq_getElem hlt]
          rw [this]
          exact rowB_no (.inl rfl) hr _ (List.getElem_mem _)
  have e := split_two (s := s) (c := 58) (p := 3) (by omega) (by omega) (by omega) b3 hno
  have h1 : bytesOf (s.extract 0 (3 : Int).toNat) = [48 + a, 47, 48 + b] := by rw [Pl.bytesOf_extract, hx]; rfl
  have h2 : bytesOf (s.extract ((3 : Int) + 1).toNat s.size) = rowB l := by
    rw [Pl.bytesOf_extract, List.take_of_length_le (by rw [bytesOf_length]; omega), hx]
    rfl
  generalize s.extract 0 (3 : Int).toNat = p at e h1
  generalize s.extract ((3 : Int) + 1).toNat s.size = q at e h2
  have hpz : p.size = 3 := by rw [← bytesOf_length, h1]; rfl
  have hqz : q.size = 3 * l.length := by rw [← bytesOf_length, h2, rowB_len hr]
  have e5 := split_two (s := p) (c := 47) (p := 1) (by omega) (by omega) (by omega) (by rw [bt_get h1]; rfl) (fun j h0 h1' h2' => by
    rw [bt_get h1]
    have : j = 0 ∨ j = 2 := by omega
    rcases this with rfl | rfl
    · show 48 + a ≠ 47; omega
    · show 48 + b ≠ 47; omega)
  have r1 : p.extract 0 (1 : Int).toNat = dig a := Pl.bytesOf_inj.1 (by rw [Pl.bytesOf_extract, h1, dig_bytes (by omega) (by omega)]; rfl)
  have r2 : p.extract ((1 : Int) + 1).toNat p.size = dig b := Pl.bytesOf_inj.1 (by rw [Pl.bytesOf_extract, h1, dig_bytes (by omega) (by omega), hpz]; rfl)
  rw [r1, r2] at e5
  obtain ⟨K1, e1⟩ := e
  obtain ⟨K2, e2⟩ := e5
  obtain ⟨K3, e3⟩ := l1_dig (x := a) (by omega) (by omega)
  obtain ⟨K4, e4⟩ := l1_dig (x := b) (by omega) (by omega)
  obtain ⟨K5, e5⟩ := rows_of (x0 := s) (a := a) (b := b) l q [] hr h2 (by simp; omega) ht hx
  rw [List.nil_append] at e5
  refine ⟨K1 + K2 + K3 + K4 + K5 + 1, fun k hk => ?_⟩
  obtain ⟨n, rfl⟩ : ∃ n, k = n + 1 := ⟨k - 1, by omega⟩
  have e1 := e1 (n + 1) (by omega)
  have e2 := e2 n (by omega)
  have e3 := e3 n (by omega)
  have e4 := e4 n (by omega)
  have e5 := e5 n (by omega)
  dsimp only at e1 e2 e3 e4 e5 ⊢
  have ej : spec_taParse.j0 (n + 1) s [p, q] false = some (a, b, l, true) := by
    rw [spec_taParse.j0, if_neg (by simp), if_pos (by simp), show rdOf ByteArray.empty [p, q] 0 = p from rfl, e2, Option.bind_some, if_pos (by simp), if_pos (by simp), show rdOf ByteArray.empty [dig a, dig b] 0 = dig a from rfl, e3, Option.bind_some, if_pos (by simp), show rdOf ByteArray.empty [dig a, dig b] 1 = dig b from rfl, e4, Option.bind_some, if_pos (by simp), show rdOf ByteArray.empty [p, q] 1 = q from rfl]
    exact e5
  have et : spec_taParse.f (n + 1) s = some (a, b, l, true) := by
    rw [spec_taParse.f, e1, Option.bind_some, if_neg (by omega), if_pos (by simp), if_pos (by simp), show rdOf ByteArray.empty [p, q] 1 = q from rfl, show (((q.size : Int) % 3) != 0) = false from bne_eq_false_iff_eq.2 (by omega)]
    exact ej
  rw [spec_ParseTable.f, et, Option.bind_some, if_pos rfl]

end Go.Proofs.YtoaekaehpnjpaaaDoor.Pure
