/- The plain laws of OtherProgram and BackProgram: for every text the program's answer is the reference's. No condition. -/
import Derived.Test.YtbndkoppdkkboaaPAx1
import Derived.Test.YtbndkoppdkkboaaPAx2
import Derived.Test.YtbndkoppdkkboaaPAx3
import Derived.Test.YtbndkoppdkkboaaPuGrow
namespace Go.Proofs.Ytbndkoppdkkboaa.Pure
open Go.RowKit Go.Proofs.Ytbndkoppdkkboaa Go.Proofs.Ytbndkoppdkkboaa.PA Go.Proofs.YtbndkoppdkkboaaW.PrintWords Go.Proofs.YtbndkoppdkkboaaW.PrintLast
set_option linter.unusedVariables false
set_option linter.unusedSimpArgs false

/-- the text with L and R exchanged -/
def oth (s : ByteArray) : ByteArray := strOfNums ((bytesOf s).map Repl.swapI)
theorem swap_range {x : Int} (h : 0 ≤ x ∧ x ≤ 255) : 0 ≤ Repl.swapI x ∧ Repl.swapI x ≤ 255 := by
  unfold Repl.swapI
  split
  · omega
  · split <;> omega
theorem oth_bytes (s : ByteArray) : bytesOf (oth s) = (bytesOf s).map Repl.swapI := by
  unfold oth
  refine Pl.bytesOf_strOf fun x hx => ?_
  obtain ⟨y, hy, rfl⟩ := List.mem_map.1 hx
  obtain ⟨b, hb, rfl⟩ := List.mem_map.1 hy
  exact swap_range ⟨by omega, by have := b.toNat_lt; omega⟩
theorem oth_size (s : ByteArray) : (oth s).size = s.size := by
  rw [← bytesOf_length, oth_bytes, List.length_map, bytesOf_length]
theorem oth_bt {s : ByteArray} {i : Int} (h0 : 0 ≤ i) (h1 : i < s.size) : bt (oth s) i = Repl.swapI (bt s i) := by
  have hl : i.toNat < (bytesOf s).length := by rw [bytesOf_length]; omega
  rw [Pl.bt_rd, Pl.bt_rd, oth_bytes, Pl.rd_get (by rw [List.length_map]; exact hl), Pl.rd_get hl, List.getElem_map]
theorem woOther_l0 {s : ByteArray} (hs : s.size ≤ 1000000) (n : Nat) : ∀ (i : Int) (acc : List Int), ((s.size : Int) - i).toNat = n → 0 ≤ i → i ≤ s.size → acc.length ≤ i →
    Ev (fun k => spec_woOther.l0 k s (strOfNums acc) i) (strOfNums (acc ++ ((bytesOf s).drop i.toNat).map Repl.swapI)) := by
  induction n with
  | zero =>
    intro i acc hn h0 h1 h2
    have e : (bytesOf s).drop i.toNat = [] := List.drop_eq_nil_of_le (by rw [bytesOf_length]; omega)
    refine Pl.ev_unf ⟨0, fun k _ => ?_⟩
    rw [spec_woOther.l0, if_neg (by omega), e]
    simp
  | succ n ih =>
    intro i acc hn h0 h1 h2
    have w1 : wrap64 (i + 1) = i + 1 := Pl.w64 (by omega) (by omega)
    obtain ⟨K, f⟩ := ih (i + 1) (acc ++ [Repl.swapI (bt s i)]) (by omega) (by omega) (by omega) (by simp; omega)
    refine Pl.ev_unf ⟨K, fun k hk => ?_⟩
    have f := f k hk
    dsimp only at f
    rw [List.append_assoc] at f
    have ed := drop_bt (s := s) h0 (by omega)
    have hz : (strOfNums acc).size + 1 ≤ 9223372036854775807 := by rw [str_size]; omega
    rw [spec_woOther.l0, if_pos (by omega), if_pos h0, ed, List.map_cons, w1]
    by_cases c1 : bt s i = 76
    · have e1 : Repl.swapI (bt s i) = 82 := by rw [c1]; rfl
      rw [e1] at f ⊢
      rw [if_pos c1, if_pos hz, show (⟨#[82]⟩ : ByteArray) = strOfNums [82] from rfl, str_app]
      exact f
    · rw [if_neg c1]
      by_cases c2 : bt s i = 82
      · have e1 : Repl.swapI (bt s i) = 76 := by rw [c2]; rfl
        rw [e1] at f ⊢
        rw [if_pos c2, if_pos hz, show (⟨#[76]⟩ : ByteArray) = strOfNums [76] from rfl, str_app]
        exact f
      · have e1 : Repl.swapI (bt s i) = bt s i := by unfold Repl.swapI; rw [if_neg c1, if_neg c2]
        rw [e1] at f ⊢
        rw [if_neg c2, if_pos (by omega), if_pos (by omega), str_piece h0 (by omega), if_pos (by rw [str_size, str_size]; simp; omega), str_app]
        exact f
theorem woOther_val {s : ByteArray} (hs : s.size ≤ 1000000) : Ev (fun k => spec_woOther.f k s) (oth s) := by
  obtain ⟨K, f⟩ := woOther_l0 hs _ 0 [] rfl (by omega) (by omega) (by simp)
  refine ⟨K, fun k hk => ?_⟩
  have f := f k hk
  dsimp only at f ⊢
  rw [spec_woOther.f]
  exact f
theorem other_val {s : ByteArray} (hs : s.size ≤ 1000000) : impl_other.f s = some (oth s) := by
  rw [impl_other.f, if_pos (by omega)]
  rfl

theorem FnExactOtherProgram (a0 : ByteArray) (h0 : a0.size ≤ maxLen) : ∃ k, laws_FnExactOtherProgram.f k a0 = some true := by
  by_cases s0 : (a0.size : Int) ≤ 1048576
  · obtain ⟨b, ⟨K1, e1⟩, ⟨K2, e2⟩, hb⟩ := goodP_both a0 (by omega)
    cases b with
    | false =>
      refine ⟨K1 + K2, ?_⟩
      have e1 := e1 (K1 + K2) (by omega)
      have e2 := e2 (K1 + K2) (by omega)
      dsimp only at e1 e2
      rw [laws_FnExactOtherProgram.f, if_neg (by omega), spec_OtherProgram.f, impl_OtherProgram.f, e1, e2]
      simp
    | true =>
      have g := hb.1 rfl
      have hi := g.hi
      obtain ⟨K3, e3⟩ := woOther_val (s := a0) (by omega)
      refine ⟨K1 + K2 + K3, ?_⟩
      have e1 := e1 (K1 + K2 + K3) (by omega)
      have e2 := e2 (K1 + K2 + K3) (by omega)
      have e3 := e3 (K1 + K2 + K3) (by omega)
      dsimp only at e1 e2 e3
      rw [laws_FnExactOtherProgram.f, if_neg (by omega), spec_OtherProgram.f, impl_OtherProgram.f, e1, e2, Option.bind_some, if_pos rfl, e3, Option.bind_some, Option.bind_some, Option.bind_some, if_pos rfl, other_val (by omega)]
      simp
  · exact ⟨0, by rw [laws_FnExactOtherProgram.f, if_pos (by omega)]⟩

/-! a list turned about in its place -/
theorem rdS_set {l : List S30} {i j : Int} {v : S30} (hi : 0 ≤ i) (hl : i < l.length) (hj : 0 ≤ j) : rd_T30 (l.set i.toNat v) j = if j = i then v else rd_T30 l j := by
  unfold rd_T30
  rw [List.getD_eq_getElem?_getD, List.getD_eq_getElem?_getD, List.getElem?_set]
  by_cases e : j = i
  · subst e
    rw [if_pos rfl, if_pos (by omega), if_pos rfl]
    rfl
  · rw [if_neg (by omega), if_neg e]
theorem turn_l0 (n : Nat) : ∀ (l : List S30) (i : Int), l.length ≤ 1000 → (l.length : Int) - 2 * i ≤ n → 0 ≤ i → i ≤ l.length →
    ∃ y : List S30, Ev (fun k => impl_part.l0 k l i ((l.length : Int) - 1 - i)) y ∧ y.length = l.length ∧ ∀ p : Int, 0 ≤ p → p < l.length → rd_T30 y p = if i ≤ p ∧ p ≤ (l.length : Int) - 1 - i then rd_T30 l ((l.length : Int) - 1 - p) else rd_T30 l p := by
  induction n with
  | zero =>
    intro l i hl hn h0 h1
    refine ⟨l, Pl.ev_unf ⟨0, fun k _ => ?_⟩, rfl, fun p p0 p1 => ?_⟩
    · rw [impl_part.l0, if_neg (by omega)]
    · rw [if_neg (by omega)]
  | succ n ih =>
    intro l i hl hn h0 h1
    by_cases c : i < (l.length : Int) - 1 - i
    · have w1 : wrap64 (i + 1) = i + 1 := Pl.w64 (by omega) (by omega)
      have w2 : wrap64 ((l.length : Int) - 1 - i - 1) = (l.length : Int) - 1 - (i + 1) := by rw [Pl.w64 (by omega) (by omega)]; omega
      obtain ⟨y, ⟨K, f⟩, hy, hr⟩ := ih ((l.set i.toNat ⟨(rd_T30 l ((l.length : Int) - 1 - i)).f0, (rd_T30 l ((l.length : Int) - 1 - i)).f1⟩).set ((l.length : Int) - 1 - i).toNat ⟨(rd_T30 l i).f0, (rd_T30 l i).f1⟩) (i + 1) (by simpa using hl) (by simp; omega) (by omega) (by simp; omega)
      simp only [List.length_set] at f hy hr
      refine ⟨y, Pl.ev_unf ⟨K, fun k hk => ?_⟩, hy, fun p p0 p1 => ?_⟩
      · rw [impl_part.l0, if_pos c, if_pos (by omega), if_pos (by omega), if_pos h0, if_pos (by omega), w1, w2]
        exact f k hk
      · rw [hr p p0 p1]
        have hz : ∀ q : Int, 0 ≤ q → q < l.length → rd_T30 ((l.set i.toNat ⟨(rd_T30 l ((l.length : Int) - 1 - i)).f0, (rd_T30 l ((l.length : Int) - 1 - i)).f1⟩).set ((l.length : Int) - 1 - i).toNat ⟨(rd_T30 l i).f0, (rd_T30 l i).f1⟩) q = if q = (l.length : Int) - 1 - i then rd_T30 l i else if q = i then rd_T30 l ((l.length : Int) - 1 - i) else rd_T30 l q := fun q q0 q1 => by
          rw [rdS_set (by omega) (by rw [List.length_set]; omega) q0, rdS_set h0 (by omega) q0]
        by_cases d1 : p = i
        · subst d1
          rw [if_neg (by omega), hz p p0 p1, if_neg (by omega), if_pos rfl, if_pos (by omega)]
        · by_cases d2 : p = (l.length : Int) - 1 - i
          · rw [if_neg (by omega), hz p p0 p1, if_pos d2, if_pos (by omega), show (l.length : Int) - 1 - p = i by omega]
          · by_cases d3 : i + 1 ≤ p ∧ p ≤ (l.length : Int) - 1 - (i + 1)
            · rw [if_pos d3, hz _ (by omega) (by omega), if_neg (by omega), if_neg (by omega), if_pos (by omega)]
            · rw [if_neg d3, hz p p0 p1, if_neg d2, if_neg d1, if_neg (by omega)]
    · refine ⟨l, Pl.ev_unf ⟨0, fun k _ => ?_⟩, rfl, fun p p0 p1 => ?_⟩
      · rw [impl_part.l0, if_neg c]
      · by_cases d : i ≤ p ∧ p ≤ (l.length : Int) - 1 - i
        · rw [if_pos d, show (l.length : Int) - 1 - p = p by omega]
        · rw [if_neg d]
theorem turn_val {l : List S30} (hl : l.length ≤ 1000) : Ev (fun k => impl_part.f k l) l.reverse := by
  obtain ⟨y, ⟨K, f⟩, hy, hr⟩ := turn_l0 l.length l 0 hl (by omega) (by omega) (by omega)
  have e : y = l.reverse := by
    refine List.ext_getElem (by rw [hy, List.length_reverse]) fun j h1 h2 => ?_
    have := hr (j : Int) (by omega) (by omega)
    rw [if_pos (by omega), rdS_at (by omega), rdS_at (by omega)] at this
    simp only [Int.toNat_natCast] at this
    rw [this, List.getElem_reverse]
    congr 1
    omega
  subst e
  have w1 : wrap64 ((l.length : Int) - 1) = (l.length : Int) - 1 - 0 := by rw [Pl.w64 (by omega) (by omega)]; omega
  refine ⟨K, fun k hk => ?_⟩
  dsimp only
  rw [impl_part.f, w1]
  exact f k hk
theorem oth_good {s : ByteArray} (g : GoodP s) : GoodP (oth s) := by
  refine ⟨by rw [oth_size]; exact g.ev, by rw [oth_size]; exact g.lo, by rw [oth_size]; exact g.hi, fun j j0 j1 => ?_⟩
  rw [oth_size] at j1
  rw [oth_bt j0 j1]
  obtain ⟨h1, h2⟩ := g.al j j0 j1
  refine ⟨fun h => ?_, fun h => ?_⟩
  · have := h1 h
    unfold Repl.swapI
    rw [if_neg (by omega), if_neg (by omega)]
    exact this
  · have := h2 h
    unfold Sig at this ⊢
    unfold Repl.swapI
    rcases this with e | e | e | e <;> rw [e] <;> decide
theorem pl_snoc (s : ByteArray) (n : Nat) : ∀ i : Int, pl s (n + 1) i = pl s n i ++ [⟨bt s (i + 2 * n) - 48, bt s (i + 2 * n + 1)⟩] := by
  induction n with
  | zero =>
    intro i
    simp [pl]
  | succ n ih =>
    intro i
    rw [pl, ih (i + 2), pl, List.cons_append, show i + 2 + 2 * (n : Int) = i + 2 * ((n + 1 : Nat) : Int) by omega]
theorem back_l0 {s : ByteArray} (g : GoodP s) (n : Nat) : ∀ (acc : List Int), 2 * (n : Int) ≤ s.size → acc.length ≤ 1000 - 2 * n → n ≤ 100 →
    Ev (fun k => spec_BackProgram.l0 k s (strOfNums acc) (2 * (n : Int) - 2)) (strOfNums (acc ++ txt 1 (pl (oth s) n 0).reverse), true) := by
  have hi := g.hi
  induction n with
  | zero =>
    intro acc hn ha h1
    refine Pl.ev_unf ⟨0, fun k _ => ?_⟩
    rw [spec_BackProgram.l0, if_neg (by omega)]
    simp [pl, txt]
  | succ n ih =>
    intro acc hn ha h1
    have w1 : wrap64 (2 * ((n + 1 : Nat) : Int) - 2 + 1) = 2 * (n : Int) + 1 := by rw [Pl.w64 (by omega) (by omega)]; omega
    have w2 : wrap64 (2 * ((n + 1 : Nat) : Int) - 2 + 2) = 2 * (n : Int) + 2 := by rw [Pl.w64 (by omega) (by omega)]; omega
    have w3 : wrap64 (2 * ((n + 1 : Nat) : Int) - 2 - 2) = 2 * (n : Int) - 2 := by rw [Pl.w64 (by omega) (by omega)]; omega
    have e0 : 2 * ((n + 1 : Nat) : Int) - 2 = 2 * (n : Int) := by omega
    obtain ⟨K, f⟩ := ih (acc ++ [bt s (2 * n), Repl.swapI (bt s (2 * n + 1))]) (by omega) (by simp; omega) (by omega)
    have p1 : s.extract (2 * (n : Int)).toNat (2 * (n : Int) + 1).toNat = strOfNums [bt s (2 * n)] := str_piece (by omega) (by omega)
    have p2 : s.extract (2 * (n : Int) + 1).toNat (2 * (n : Int) + 2).toNat = strOfNums [bt s (2 * n + 1)] := by
      have := str_piece (s := s) (i := 2 * (n : Int) + 1) (by omega) (by omega)
      rwa [show 2 * (n : Int) + 1 + 1 = 2 * (n : Int) + 2 by omega] at this
    have hb := bt_range s (2 * n + 1)
    obtain ⟨K2, f2⟩ := woOther_val (s := strOfNums [bt s (2 * n + 1)]) (by rw [str_size]; simp)
    have eo : oth (strOfNums [bt s (2 * n + 1)]) = strOfNums [Repl.swapI (bt s (2 * n + 1))] := by
      unfold oth
      rw [Pl.bytesOf_strOf (by simpa using hb)]
      rfl
    refine Pl.ev_unf ⟨K + K2, fun k hk => ?_⟩
    have f := f k (by omega)
    have f2 := f2 k (by omega)
    dsimp only at f f2
    rw [spec_BackProgram.l0, if_pos (by omega), if_pos (by omega), w1, w2, w3, e0, if_pos (by omega), if_pos (by omega), if_pos (by omega), if_pos (by omega), if_pos (by omega), p2, f2, Option.bind_some, eo, p1, str_app, if_pos (by rw [str_size, str_size]; simp), if_pos (by rw [str_size, str_size]; simp; omega), str_app]
    rw [pl_snoc, List.reverse_append, List.reverse_singleton, Int.zero_add]
    simp only [List.singleton_append, txt]
    have q1 : bt (oth s) (2 * (n : Int)) = bt s (2 * n) := by
      rw [oth_bt (by omega) (by omega)]
      have := (g.al (2 * n) (by omega) (by omega)).1 (by omega)
      unfold Repl.swapI
      rw [if_neg (by omega), if_neg (by omega)]
    rw [q1, oth_bt (by omega) (by omega), show 48 + (bt s (2 * (n : Int)) - 48) * 1 = bt s (2 * n) by omega]
    rw [List.append_assoc] at f
    exact f
theorem FnExactBackProgram (a0 : ByteArray) (h0 : a0.size ≤ maxLen) : ∃ k, laws_FnExactBackProgram.f k a0 = some true := by
  by_cases s0 : (a0.size : Int) ≤ 1048576
  · obtain ⟨b, ⟨K1, e1⟩, ⟨K2, e2⟩, hb⟩ := goodP_both a0 (by omega)
    cases b with
    | false =>
      refine ⟨K1 + K2, ?_⟩
      have e1 := e1 (K1 + K2) (by omega)
      have e2 := e2 (K1 + K2) (by omega)
      dsimp only at e1 e2
      rw [laws_FnExactBackProgram.f, if_neg (by omega), spec_BackProgram.f, impl_BackProgram.f, e1, e2]
      simp
    | true =>
      have g := hb.1 rfl
      have hi := g.hi
      have he := g.ev
      have g' := oth_good g
      obtain ⟨K3, e3⟩ := back_l0 g (a0.size / 2) [] (by omega) (by simp) (by omega)
      obtain ⟨K4, e4⟩ := parts_val g'
      rw [oth_size] at e4
      have hl : (pl (oth a0) (a0.size / 2) 0).length = a0.size / 2 := pl_length ..
      obtain ⟨K5, e5⟩ := turn_val (l := pl (oth a0) (a0.size / 2) 0) (by omega)
      have hd : Dig (pl (oth a0) (a0.size / 2) 0).reverse := fun p hp => pl_dig g'.al (a0.size / 2) 0 (by omega) (by omega) (by rw [oth_size]; omega) p (List.mem_reverse.1 hp)
      obtain ⟨K6, e6⟩ := text_val hd (by rw [List.length_reverse]; omega)
      refine ⟨K1 + K2 + K3 + K4 + K5 + K6, ?_⟩
      have e1 := e1 (K1 + K2 + K3 + K4 + K5 + K6) (by omega)
      have e2 := e2 (K1 + K2 + K3 + K4 + K5 + K6) (by omega)
      have e3 := e3 (K1 + K2 + K3 + K4 + K5 + K6) (by omega)
      have e4 := e4 (K1 + K2 + K3 + K4 + K5 + K6) (by omega)
      have e5 := e5 (K1 + K2 + K3 + K4 + K5 + K6) (by omega)
      have e6 := e6 (K1 + K2 + K3 + K4 + K5 + K6) (by omega)
      dsimp only at e1 e2 e3 e4 e5 e6
      have w : wrap64 ((a0.size : Int) - 2) = 2 * ((a0.size / 2 : Nat) : Int) - 2 := by rw [Pl.w64 (by omega) (by omega)]; omega
      rw [laws_FnExactBackProgram.f, if_neg (by omega), spec_BackProgram.f, impl_BackProgram.f, e1, e2, Option.bind_some, if_pos rfl, w, show (⟨#[]⟩ : ByteArray) = strOfNums [] from rfl, e3, Option.bind_some, Option.bind_some, if_pos rfl, other_val (by omega), Option.bind_some, e4, Option.bind_some, e5, Option.bind_some, e6, Option.bind_some]
      simp
  · exact ⟨0, by rw [laws_FnExactBackProgram.f, if_pos (by omega)]⟩

end Go.Proofs.Ytbndkoppdkkboaa.Pure
