/- Plain law of MirrorTable: for every table the program's answer is the reference's. No condition. -/
import Derived.Test.YtliachoefnplbaaGreatPMx2
import Derived.Test.YtliachoefnplbaaGreatPMx3
import Derived.Test.YtliachoefnplbaaGreatPMx4
import Derived.Test.YtliachoefnplbaaGreatPMx5
import Derived.Test.YtliachoefnplbaaGreatPMx6
import Derived.Test.YtliachoefnplbaaGreatPMx7
import Derived.Test.YtliachoefnplbaaGreatMPuMark
namespace Go.Proofs.YtliachoefnplbaaGreat.Pure
open Go.RowKit Go.Proofs.YtliachoefnplbaaGreat Go.Proofs.YtliachoefnplbaaGreat.PM Go.Proofs.YtliachoefnplbaaGreatW.PrintWords Go.Proofs.YtliachoefnplbaaGreatW.PrintLast
set_option linter.unusedVariables false
set_option linter.unusedSimpArgs false

theorem drop_bt {s : ByteArray} {i : Int} (h0 : 0 ≤ i) (h : i < s.size) : (bytesOf s).drop i.toNat = bt s i :: (bytesOf s).drop (i + 1).toNat := by
  have hi : i.toNat < (bytesOf s).length := by rw [bytesOf_length]; omega
  rw [List.drop_eq_getElem_cons hi, Pl.bt_rd, Pl.rd_get hi, show (i + 1).toNat = i.toNat + 1 by omega]
theorem str_piece {s : ByteArray} {i : Int} (h0 : 0 ≤ i) (h1 : i < s.size) : s.extract i.toNat (i + 1).toNat = strOfNums [bt s i] := by
  have hb := bt_range s i
  apply Pl.bytesOf_inj.1
  rw [Pl.bytesOf_strOf (by simpa using hb), Pl.bytesOf_extract, List.drop_take, drop_bt h0 h1, show (i + 1).toNat - i.toNat = 1 by omega]
  rfl
theorem str_app (a b : List Int) : strOfNums a ++ strOfNums b = strOfNums (a ++ b) := by
  apply Pl.ba_ext
  rw [ByteArray.toList_data_append, strOfNums_data, strOfNums_data, strOfNums_data, List.map_append]
theorem str_size (a : List Int) : (strOfNums a).size = a.length := by
  rw [← data_length, strOfNums_data, List.length_map]
/-- the text with L and R exchanged -/
def oth (s : ByteArray) : ByteArray := strOfNums ((bytesOf s).map Repl.swapI)
theorem swap_range {x : Int} (h : 0 ≤ x ∧ x ≤ 255) : 0 ≤ Repl.swapI x ∧ Repl.swapI x ≤ 255 := by
  unfold Repl.swapI
  split
  · omega
  · split <;> omega
theorem oth_bytes (s : ByteArray) : bytesOf (oth s) = (bytesOf s).map Repl.swapI := by
  unfold oth
  refine Pl.bytesOf_strOf fun x hx => ?_
  obtain ⟨y, hy, rfl⟩ := List.mem_map.1 hx
  obtain ⟨b, hb, rfl⟩ := List.mem_map.1 hy
  exact swap_range ⟨by omega, by have := b.toNat_lt; omega⟩
theorem oth_size (s : ByteArray) : (oth s).size = s.size := by
  rw [← bytesOf_length, oth_bytes, List.length_map, bytesOf_length]
theorem oth_bt {s : ByteArray} {i : Int} (h0 : 0 ≤ i) (h1 : i < s.size) : bt (oth s) i = Repl.swapI (bt s i) := by
  have hl : i.toNat < (bytesOf s).length := by rw [bytesOf_length]; omega
  rw [Pl.bt_rd, Pl.bt_rd, oth_bytes, Pl.rd_get (by rw [List.length_map]; exact hl), Pl.rd_get hl, List.getElem_map]
theorem woOther_l0 {s : ByteArray} (hs : s.size ≤ 1000000) (n : Nat) : ∀ (i : Int) (acc : List Int), ((s.size : Int) - i).toNat = n → 0 ≤ i → i ≤ s.size → acc.length ≤ i →
    Ev (fun k => spec_woOther.l0 k s (strOfNums acc) i) (strOfNums (acc ++ ((bytesOf s).drop i.toNat).map Repl.swapI)) := by
  induction n with
  | zero =>
    intro i acc hn h0 h1 h2
    have e : (bytesOf s).drop i.toNat = [] := List.drop_eq_nil_of_le (by rw [bytesOf_length]; omega)
    refine Pl.ev_unf ⟨0, fun k _ => ?_⟩
    rw [spec_woOther.l0, if_neg (by omega), e]
    simp
  | succ n ih =>
    intro i acc hn h0 h1 h2
    have w1 : wrap64 (i + 1) = i + 1 := Pl.w64 (by omega) (by omega)
    obtain ⟨K, f⟩ := ih (i + 1) (acc ++ [Repl.swapI (bt s i)]) (by omega) (by omega) (by omega) (by simp; omega)
    refine Pl.ev_unf ⟨K, fun k hk => ?_⟩
    have f := f k hk
    dsimp only at f
    rw [List.append_assoc] at f
    have ed := drop_bt (s := s) h0 (by omega)
    have hz : (strOfNums acc).size + 1 ≤ 9223372036854775807 := by rw [str_size]; omega
    rw [spec_woOther.l0, if_pos (by omega), if_pos h0, ed, List.map_cons, w1]
    by_cases c1 : bt s i = 76
    · have e1 : Repl.swapI (bt s i) = 82 := by rw [c1]; rfl
      rw [e1] at f ⊢
      rw [if_pos c1, if_pos hz, show (⟨#[82]⟩ : ByteArray) = strOfNums [82] from rfl, str_app]
      exact f
    · rw [if_neg c1]
      by_cases c2 : bt s i = 82
      · have e1 : Repl.swapI (bt s i) = 76 := by rw [c2]; rfl
        rw [e1] at f ⊢
        rw [if_pos c2, if_pos hz, show (⟨#[76]⟩ : ByteArray) = strOfNums [76] from rfl, str_app]
        exact f
      · have e1 : Repl.swapI (bt s i) = bt s i := by unfold Repl.swapI; rw [if_neg c1, if_neg c2]
        rw [e1] at f ⊢
        rw [if_neg c2, if_pos (by omega), if_pos (by omega), str_piece h0 (by omega), if_pos (by rw [str_size, str_size]; simp; omega), str_app]
        exact f
theorem woOther_val {s : ByteArray} (hs : s.size ≤ 1000000) : Ev (fun k => spec_woOther.f k s) (oth s) := by
  obtain ⟨K, f⟩ := woOther_l0 hs _ 0 [] rfl (by omega) (by omega) (by simp)
  refine ⟨K, fun k hk => ?_⟩
  have f := f k hk
  dsimp only at f ⊢
  rw [spec_woOther.f]
  exact f
theorem other_val {s : ByteArray} (hs : s.size ≤ 1000000) : impl_other.f s = some (oth s) := by
  rw [impl_other.f, if_pos (by omega)]
  rfl


/-- a row with L and R exchanged -/
def mir (p : R1) : R1 := ⟨p.f0, oth p.f1, p.f2⟩
theorem specM_l0 {l : List R1} (hl : l.length ≤ 1000) (hs : ∀ p ∈ l, p.f1.size = 1) (a b : Int) (n : Nat) : ∀ (i : Int) (acc : List R1), ((l.length : Int) - i).toNat = n → 0 ≤ i → i ≤ l.length → acc.length ≤ i →
    Ev (fun k => spec_MirrorTable.l0 k l l.length i a b acc) (a, b, acc ++ (l.drop i.toNat).map mir, true) := by
  induction n with
  | zero =>
    intro i acc hn h0 h1 h2
    have e : l.drop i.toNat = [] := List.drop_eq_nil_of_le (by omega)
    refine Pl.ev_unf ⟨0, fun k _ => ?_⟩
    rw [spec_MirrorTable.l0, if_neg (by omega), e]
    simp
  | succ n ih =>
    intro i acc hn h0 h1 h2
    have w1 : wrap64 (i + 1) = i + 1 := Pl.w64 (by omega) (by omega)
    have hi : i.toNat < l.length := by omega
    have hr : rd_T38 l i = l[i.toNat] := rd1 hi
    have hsz := hs _ (List.getElem_mem hi)
    obtain ⟨K, f⟩ := ih (i + 1) (acc ++ [mir l[i.toNat]]) (by omega) (by omega) (by omega) (by simp; omega)
    obtain ⟨K2, f2⟩ := woOther_val (s := l[i.toNat].f1) (by omega)
    refine Pl.ev_unf ⟨K + K2, fun k hk => ?_⟩
    have f := f k (by omega)
    have f2 := f2 k (by omega)
    dsimp only at f f2
    rw [List.append_assoc] at f
    rw [spec_MirrorTable.l0, if_pos (by omega), if_pos h0, if_pos (by omega), hr, f2, Option.bind_some, if_pos (by omega), w1, List.drop_eq_getElem_cons hi, List.map_cons, show i.toNat + 1 = (i + 1).toNat by omega]
    exact f
theorem implM_l0 {l : List R1} (hl : l.length ≤ 1000) (hs : ∀ p ∈ l, p.f1.size = 1) (a b : Int) (n : Nat) : ∀ (i : Int) (cur : List R1), ((l.length : Int) - i).toNat = n → 0 ≤ i → i ≤ l.length → cur = (l.map mir).take i.toNat ++ l.drop i.toNat →
    Ev (fun k => impl_MirrorTable.l0 k l.length i a b cur) (a, b, l.map mir, true) := by
  induction n with
  | zero =>
    intro i cur hn h0 h1 hc
    have e : l.drop i.toNat = [] := List.drop_eq_nil_of_le (by omega)
    have e2 : (l.map mir).take i.toNat = l.map mir := List.take_of_length_le (by rw [List.length_map]; omega)
    refine Pl.ev_unf ⟨0, fun k _ => ?_⟩
    rw [impl_MirrorTable.l0, if_neg (by omega), hc, e, e2, List.append_nil]
  | succ n ih =>
    intro i cur hn h0 h1 hc
    have w1 : wrap64 (i + 1) = i + 1 := Pl.w64 (by omega) (by omega)
    have hi : i.toNat < l.length := by omega
    have hlen : cur.length = l.length := by
      rw [hc, List.length_append, List.length_take, List.length_map, List.length_drop]
      omega
    have hti : ((l.map mir).take i.toNat).length = i.toNat := by rw [List.length_take, List.length_map]; omega
    have hr : rd_T38 cur i = l[i.toNat] := by
      rw [rd1 (by omega)]
      have : cur[i.toNat]? = some l[i.toNat] := by
        rw [hc, List.getElem?_append_right (by omega), hti, Nat.sub_self, List.getElem?_drop, Nat.add_zero, List.getElem?_eq_getElem hi]
      rw [List.getElem?_eq_getElem (by omega)] at this
      exact Option.some.inj this
    have hsz := hs _ (List.getElem_mem hi)
    have hset : cur.set i.toNat (mir l[i.toNat]) = (l.map mir).take (i + 1).toNat ++ l.drop (i + 1).toNat := by
      rw [hc, List.set_append_right _ _ (by omega), hti, Nat.sub_self, List.drop_eq_getElem_cons hi, List.set_cons_zero, show (i + 1).toNat = i.toNat + 1 by omega, List.take_succ_eq_append_getElem (by rw [List.length_map]; exact hi), List.getElem_map, List.append_assoc, List.singleton_append]
    obtain ⟨K, f⟩ := ih (i + 1) (cur.set i.toNat (mir l[i.toNat])) (by omega) (by omega) (by omega) hset
    refine Pl.ev_unf ⟨K, fun k hk => ?_⟩
    rw [impl_MirrorTable.l0, if_pos (by omega), if_pos h0, if_pos (by omega), hr, other_val (by omega), Option.bind_some, w1]
    exact f k hk
theorem size_one {a0 a1 : Int} {l : List R1} (h : l.all (impl_IsTable.ok a0 a1) = true) : ∀ p ∈ l, p.f1.size = 1 := fun p hp => by
  have hm := List.all_eq_true.1 h p hp
  unfold impl_IsTable.ok at hm
  simp only [Bool.and_eq_true, decide_eq_true_eq] at hm
  exact hm.2.2.1
theorem mirror_both {l : List R1} (hl : l.length ≤ 1048576) (a0 a1 : Int) : ∃ (r0 r1 : Int) (L : List R1) (b : Bool), L.length ≤ 1048576 ∧ Ev (fun k => spec_MirrorTable.f k a0 a1 l) (r0, r1, L, b) ∧ Ev (fun k => impl_MirrorTable.f k a0 a1 l) (r0, r1, L, b) := by
  obtain ⟨⟨K, f⟩, g⟩ := tab_both hl a0 a1
  by_cases ct : tabB a0 a1 l = true
  · rw [ct] at f g
    obtain ⟨d0, d1, d2, d3, d4, d5⟩ := tab_dims ct
    obtain ⟨q0, q1⟩ := Pl.mul_in (a := a0) (b := a1) (A := 4) (B := 4) (by omega) d1 (by omega) d3
    have qp := Int.mul_pos (a := a0) (b := a1) (by omega) (by omega)
    have hs := size_one d5
    obtain ⟨K1, f1⟩ := specM_l0 (l := l) (by omega) hs a0 a1 _ 0 [] rfl (by omega) (by omega) (by simp)
    obtain ⟨K2, f2⟩ := implM_l0 (l := l) (by omega) hs a0 a1 _ 0 l rfl (by omega) (by omega) (by simp)
    refine ⟨a0, a1, l.map mir, true, by rw [List.length_map]; exact hl, ⟨K + K1, fun k hk => ?_⟩, ⟨K2, fun k hk => ?_⟩⟩
    · have f : spec_taGood.f k a0 a1 l = some true := f k (by omega)
      have f1 := f1 k (by omega)
      dsimp only at f1 ⊢
      rw [spec_MirrorTable.f, f, Option.bind_some, if_pos rfl]
      exact f1
    · have f2 := f2 k (by omega)
      dsimp only at f2 ⊢
      rw [impl_MirrorTable.f, g, Option.bind_some, if_pos rfl, impl_Table_own.f, impl_Row_31.f, if_pos (by omega), if_pos (by omega), Option.bind_some, Option.bind_some]
      exact f2
  · have ct : tabB a0 a1 l = false := by simpa using ct
    rw [ct] at f g
    refine ⟨0, 0, [], false, by simp, ⟨K, fun k hk => ?_⟩, ⟨0, fun k hk => ?_⟩⟩
    · have f : spec_taGood.f k a0 a1 l = some false := f k (by omega)
      dsimp only
      rw [spec_MirrorTable.f, f, Option.bind_some, if_neg (by simp)]
    · dsimp only
      rw [impl_MirrorTable.f, g, Option.bind_some, if_neg (by simp)]
theorem FnExactMirrorTable (a0_0 : Int) (a0_1 : Int) (l0_2 : List (S45)) (h0 : ((Lit.int .i64 a0_0).wf = true) ∧ ((Lit.int .i64 a0_1).wf = true) ∧ (l0_2.length ≤ 9223372036854775807 ∧ ∀ e_ ∈ l0_2, ((Lit.int .i64 e_.f0).wf = true) ∧ (e_.f1.size ≤ maxLen) ∧ ((Lit.int .i64 e_.f2).wf = true))) : ∃ k, laws_FnExactMirrorTable.f k a0_0 a0_1 l0_2 = some true := by
  obtain ⟨_, _, hl, he⟩ := h0
  obtain ⟨v, ⟨K1, f1⟩, v0, v1, hv⟩ := szTable_val (l := l0_2) (fun e h => Pl.le_max (he e h).2.1) hl a0_0 a0_1
  by_cases c : v < 0
  · refine ⟨K1, ?_⟩
    have f1 : laws_szTable.f K1 a0_0 a0_1 l0_2 1048576 = some v := f1 K1 (Nat.le_refl _)
    rw [laws_FnExactMirrorTable.f, f1, Option.bind_some, if_pos c]
  · have hl' := hv (by omega)
    obtain ⟨K2, f2⟩ := toTable_val hl' a0_0 a0_1
    have hm : (l0_2.map cv).length ≤ 1048576 := by rw [List.length_map]; exact hl'
    obtain ⟨r0, r1, L, b, hL, ⟨K3, f3⟩, ⟨K4, f4⟩⟩ := mirror_both hm a0_0 a0_1
    obtain ⟨K5, f5⟩ := eqTable_self hm a0_0 a0_1
    obtain ⟨K6, f6⟩ := eqTable_self hL r0 r1
    obtain ⟨t', _, ⟨K7, f7⟩, _⟩ := mark_rows hm
    obtain ⟨L', _, ⟨K8, f8⟩, ⟨K9, f9⟩⟩ := mark_rows hL
    obtain ⟨K, hK⟩ : ∃ K, K = K1 + K2 + K3 + K4 + K5 + K6 + K7 + K8 + K9 := ⟨_, rfl⟩
    have g1 : laws_szTable.f (K + 3) a0_0 a0_1 l0_2 1048576 = some v := f1 (K + 3) (by omega)
    have g2 : ∀ k, K ≤ k → laws_toTable.f k a0_0 a0_1 l0_2 = some (a0_0, a0_1, l0_2.map cv) := fun k hk => f2 k (by omega)
    have g3 : spec_MirrorTable.f (K + 3) a0_0 a0_1 (l0_2.map cv) = some (r0, r1, L, b) := f3 (K + 3) (by omega)
    have g4 : ∀ k, K ≤ k → impl_MirrorTable.f k a0_0 a0_1 (l0_2.map cv) = some (r0, r1, L, b) := fun k hk => f4 k (by omega)
    have g5 : laws_eqTable.f (K + 2) a0_0 a0_1 (l0_2.map cv) a0_0 a0_1 (l0_2.map cv) = some true := f5 (K + 2) (by omega)
    have g6 : ∀ k, K ≤ k → laws_eqTable.f k r0 r1 L r0 r1 L = some true := fun k hk => f6 k (by omega)
    have g7 : laws_markTable.f (K + 2) a0_0 a0_1 (l0_2.map cv) 1 = some (1 + 3 * ((l0_2.map cv).length : Int), t') := by
      have f7 : laws_markRowS.f (K + 2) (l0_2.map cv) 1 = some (1 + 3 * ((l0_2.map cv).length : Int), t') := f7 (K + 2) (by omega)
      rw [laws_markTable.f, f7, Option.bind_some]
    have g8 : laws_markTable.f (K + 1) r0 r1 L 1 = some (1 + 3 * (L.length : Int), L') := by
      have f8 : laws_markRowS.f (K + 1) L 1 = some (1 + 3 * (L.length : Int), L') := f8 (K + 1) (by omega)
      rw [laws_markTable.f, f8, Option.bind_some]
    have g9 : ∀ k, K ≤ k → laws_heldTable.f k r0 r1 L' 1 = some (1 + 3 * (L.length : Int)) := fun k hk => by
      have f9 : laws_heldRowS.f k L' 1 = some (1 + 3 * (L.length : Int)) := f9 k (by omega)
      rw [laws_heldTable.f, f9, Option.bind_some, if_neg (by omega)]
    refine ⟨K + 3, ?_⟩
    rw [laws_FnExactMirrorTable.f, g1, Option.bind_some, if_neg c, g2 (K + 3) (by omega)]
    simp only [Option.bind_some]
    rw [g3, g4 (K + 3) (by omega)]
    simp only [Option.bind_some]
    rw [g6 (K + 3) (by omega), Option.bind_some, if_pos rfl, bne_self_eq_false, laws_FnExactMirrorTable.j0, if_neg (by simp), g2 (K + 2) (by omega)]
    simp only [Option.bind_some]
    rw [g5, Option.bind_some, if_pos rfl, g7]
    simp only [Option.bind_some]
    rw [if_neg (by omega), g6 (K + 2) (by omega), Option.bind_some, if_pos rfl, bne_self_eq_false, laws_FnExactMirrorTable.j1, if_neg (by simp), g8]
    simp only [Option.bind_some]
    rw [g9 (K + 1) (by omega), Option.bind_some, if_neg (by omega), if_pos rfl, g2 (K + 1) (by omega)]
    simp only [Option.bind_some]
    rw [g4 (K + 1) (by omega)]
    simp only [Option.bind_some]
    rw [g6 (K + 1) (by omega), Option.bind_some, if_pos rfl, bne_self_eq_false, laws_FnExactMirrorTable.j2, if_neg (by simp), g9 K (by omega), Option.bind_some, if_neg (by omega), if_pos rfl]

end Go.Proofs.YtliachoefnplbaaGreat.Pure
