/- The plain law of TableText: for every table the program's text is the reference's. No condition. -/
import Derived.Test.YtmjjmibgoeobpaaDoorPTx3
import Derived.Test.YtmjjmibgoeobpaaDoorPTx4
import Derived.Test.YtmjjmibgoeobpaaDoorPTx5
import Derived.Test.YtmjjmibgoeobpaaDoorTPuTab
namespace Go.Proofs.YtmjjmibgoeobpaaDoor.Pure
open Go.RowKit Go.Proofs.YtmjjmibgoeobpaaDoor Go.Proofs.YtmjjmibgoeobpaaDoor.PT Go.Proofs.YtmjjmibgoeobpaaDoorW.PrintWords Go.Proofs.YtmjjmibgoeobpaaDoorW.PrintLast
set_option linter.unusedVariables false
set_option linter.unusedSimpArgs false

def dig (n : Int) : ByteArray := strOfNums [48 + n]
theorem dig_size (n : Int) : (dig n).size = 1 := by
  unfold dig
  rw [← data_length, strOfNums_data, List.length_map]
  rfl
theorem dig_num {n : Int} (h0 : 0 ≤ n) (h1 : n ≤ 9) (k : Nat) : spec_l1Num.f (k + 1) n = some (dig n) := by
  have w : wrap64 (48 + n) % 256 = 48 + n := by rw [Pl.w64 (by omega) (by omega)]; omega
  rw [spec_l1Num.f, if_pos (by omega), w]
  rfl
theorem dig_itoa {n : Int} (h0 : 0 ≤ n) (h1 : n ≤ 9) : strconv_Itoa_46.f n = some (dig n) := by
  unfold strconv_Itoa_46.f
  rw [if_pos ⟨h0, by omega⟩]
  congr 1
  apply Pl.ba_ext
  unfold dig
  rw [strOfNums_data, Lib.decDigits, dif_pos (by omega)]
  have h : n = 0 ∨ n = 1 ∨ n = 2 ∨ n = 3 ∨ n = 4 ∨ n = 5 ∨ n = 6 ∨ n = 7 ∨ n = 8 ∨ n = 9 := by omega
  rcases h with rfl | rfl | rfl | rfl | rfl | rfl | rfl | rfl | rfl | rfl <;> rfl
theorem join_two {x y s : ByteArray} (hx : x.size ≤ 9) (hy : y.size ≤ 9) (hs : s.size ≤ 9) : strings_Join.f (([] ++ [x]) ++ [y]) s = some (x ++ s ++ y) := by
  have hj : Lib.join ((([] ++ [x]) ++ [y] : List ByteArray).map (·.data.toList)) s.data.toList = x.data.toList ++ s.data.toList ++ y.data.toList := by
    simp [Lib.join, List.intercalate, List.intersperse]
  unfold strings_Join.f
  rw [hj, if_pos ⟨by simp, by
    rw [List.length_append, List.length_append, data_length, data_length, data_length]
    omega⟩]
  congr 1
  first | done | (apply Pl.ba_ext; rw [ByteArray.toList_data_append, ByteArray.toList_data_append])
theorem list_two {a b : Int} (a0 : 0 ≤ a) (a9 : a ≤ 9) (b0 : 0 ≤ b) (b9 : b ≤ 9) {s : ByteArray} (hs : s.size ≤ 9) (k : Nat) : impl_listText.f (k + 3) s [a, b] = some (dig a ++ s ++ dig b) := by
  have q : ((([a, b] : List Int)).length : Int) = 2 := rfl
  have q0 : rd ([a, b] : List Int) 0 = a := rfl
  have q1 : rd ([a, b] : List Int) 1 = b := rfl
  have w1 : wrap64 (0 + 1) = 1 := Pl.w64 (by omega) (by omega)
  have w2 : wrap64 (1 + 1) = 2 := Pl.w64 (by omega) (by omega)
  rw [impl_listText.f, impl_listText.l0, q, if_pos (by omega), if_pos (by omega), if_pos (by omega), q0, dig_itoa a0 a9, Option.bind_some, if_pos (by simp), w1]
  rw [impl_listText.l0, q, if_pos (by omega), if_pos (by omega), if_pos (by omega), q1, dig_itoa b0 b9, Option.bind_some, if_pos (by simp), w2]
  rw [impl_listText.l0, if_neg (by omega), join_two (by rw [dig_size]; omega) (by rw [dig_size]; omega) hs, Option.bind_some]
structure SmallR (r : R1) : Prop where
  a0 : 0 ≤ r.f0
  a9 : r.f0 ≤ 9
  b0 : 0 ≤ r.f2
  b9 : r.f2 ≤ 9
  sz : r.f1.size = 1
theorem tt_l0 {l : List R1} (hl : l.length ≤ 1000) (hr : ∀ j : Int, 0 ≤ j → j < l.length → SmallR (rd_T39 l j)) (n : Nat) : ∀ (i : Int) (acc : ByteArray), ((l.length : Int) - i).toNat = n → 0 ≤ i → i ≤ l.length → (acc.size : Int) ≤ 10 + 3 * i → ∃ r, Ev (fun k => spec_taText.l0 k acc l l.length i) r ∧ Ev (fun k => impl_TableText.l0 k acc l l.length i) (r, true) := by
  induction n with
  | zero =>
    intro i acc hn h0 h1 hb
    refine ⟨acc, Pl.ev_unf ⟨0, fun k _ => ?_⟩, Pl.ev_unf ⟨0, fun k _ => ?_⟩⟩
    · rw [spec_taText.l0, if_neg (by omega)]
    · rw [impl_TableText.l0, if_neg (by omega)]
  | succ n ih =>
    intro i acc hn h0 h1 hb
    obtain ⟨a0, a9, b0, b9, sz⟩ := hr i h0 (by omega)
    have w1 : wrap64 (i + 1) = i + 1 := Pl.w64 (by omega) (by omega)
    have s1 : (dig (rd_T39 l i).f0 ++ (rd_T39 l i).f1).size = 2 := by rw [ByteArray.size_append, dig_size, sz]
    have s2 : (dig (rd_T39 l i).f0 ++ (rd_T39 l i).f1 ++ dig (rd_T39 l i).f2).size = 3 := by rw [ByteArray.size_append, s1, dig_size]
    obtain ⟨r, ⟨K1, f1⟩, ⟨K2, f2⟩⟩ := ih (i + 1) (acc ++ (dig (rd_T39 l i).f0 ++ (rd_T39 l i).f1 ++ dig (rd_T39 l i).f2)) (by omega) (by omega) (by omega) (by rw [ByteArray.size_append, s2]; omega)
    refine ⟨r, Pl.ev_unf ⟨K1 + 3, fun k hk => ?_⟩, Pl.ev_unf ⟨K2 + 3, fun k hk => ?_⟩⟩
    · have e := f1 k (by omega)
      dsimp only at e
      obtain ⟨q, rfl⟩ : ∃ q, k = q + 1 := ⟨k - 1, by omega⟩
      rw [spec_taText.l0, if_pos (by omega), if_pos h0, if_pos (by omega), dig_num a0 a9, Option.bind_some, if_pos (by rw [dig_size, sz]; omega), dig_num b0 b9, Option.bind_some, if_pos (by rw [s1, dig_size]; omega), if_pos (by rw [s2]; omega), w1]
      exact e
    · have e := f2 k (by omega)
      dsimp only at e
      obtain ⟨q, rfl⟩ : ∃ q, k = q + 3 := ⟨k - 3, by omega⟩
      rw [impl_TableText.l0, if_pos (by omega), if_pos h0, if_pos (by omega), list_two a0 a9 b0 b9 (by omega), Option.bind_some, if_pos (by rw [s2]; omega), w1]
      exact e
theorem tt_both {l : List R1} (hl : l.length ≤ 1048576) (a0 a1 : Int) : ∃ r b, Ev (fun k => spec_TableText.f k a0 a1 l) (r, b) ∧ Ev (fun k => impl_TableText.f k a0 a1 l) (r, b) := by
  obtain ⟨⟨K1, e1⟩, e2⟩ := tab_both hl a0 a1
  cases hb : tabB a0 a1 l with
  | false =>
    rw [hb] at e1 e2
    refine ⟨⟨#[]⟩, false, ⟨K1, fun k hk => ?_⟩, ⟨0, fun k hk => ?_⟩⟩
    · have e := e1 k hk
      dsimp only at e ⊢
      rw [spec_TableText.f, e, Option.bind_some, if_neg (by simp)]
    · dsimp only
      rw [impl_TableText.f, e2, Option.bind_some, if_neg (by simp)]
  | true =>
    rw [hb] at e1 e2
    obtain ⟨p0, p4, q0, q4, hlen, hall⟩ := tab_dims hb
    obtain ⟨m0, m1⟩ := Pl.mul_in (a := a0) (b := a1) (A := 4) (B := 4) (by omega) p4 (by omega) q4
    have hr : ∀ j : Int, 0 ≤ j → j < l.length → SmallR (rd_T39 l j) := fun j h0 h1 => by
      have hj : j.toNat < l.length := by omega
      have ho := List.all_eq_true.1 hall (rd_T39 l j) (by rw [rd1 hj]; exact List.getElem_mem _)
      unfold impl_IsTable.ok at ho
      simp only [Bool.and_eq_true, decide_eq_true_eq] at ho
      obtain ⟨⟨h1, h2⟩, ⟨h3, h4⟩, h5, _⟩ := ho
      rw [Pl.w64 (by omega) (by omega)] at h2 h4
      exact ⟨h1, by omega, h3, by omega, h5⟩
    have z1 : (dig a0 ++ (⟨#[47]⟩ : ByteArray)).size = 2 := by rw [ByteArray.size_append, dig_size]; rfl
    have z2 : (dig a0 ++ (⟨#[47]⟩ : ByteArray) ++ dig a1).size = 3 := by rw [ByteArray.size_append, z1, dig_size]
    obtain ⟨r, ⟨K3, f3⟩, ⟨K4, f4⟩⟩ := tt_l0 (l := l) (by omega) hr _ 0 (dig a0 ++ (⟨#[47]⟩ : ByteArray) ++ dig a1 ++ (⟨#[58]⟩ : ByteArray)) rfl (by omega) (by omega) (by rw [ByteArray.size_append, z2]; show ((3 + 1 : Nat) : Int) ≤ _; omega)
    refine ⟨r, true, ⟨K1 + K3 + 1, fun k hk => ?_⟩, ⟨K4 + 3, fun k hk => ?_⟩⟩
    · have e := e1 k (by omega)
      have f := f3 k (by omega)
      obtain ⟨q, rfl⟩ : ∃ q, k = q + 1 := ⟨k - 1, by omega⟩
      dsimp only at e f ⊢
      rw [spec_TableText.f, e, Option.bind_some, if_pos rfl, spec_taText.f, dig_num (by omega) (by omega), Option.bind_some, if_pos (by rw [dig_size]; omega), dig_num (by omega) (by omega), Option.bind_some, if_pos (by rw [z1, dig_size]; omega), if_pos (by rw [z2]; omega), f, Option.bind_some]
    · have f := f4 k (by omega)
      obtain ⟨q, rfl⟩ : ∃ q, k = q + 3 := ⟨k - 3, by omega⟩
      dsimp only at f ⊢
      rw [impl_TableText.f, e2, Option.bind_some, if_pos rfl, list_two (by omega) (by omega) (by omega) (by omega) (by show 1 ≤ 9; omega), Option.bind_some, if_pos (by rw [z2]; omega)]
      exact f
theorem FnExactTableText (a0_0 : Int) (a0_1 : Int) (l0_2 : List (S57)) (h0 : ((Lit.int .i64 a0_0).wf = true) ∧ ((Lit.int .i64 a0_1).wf = true) ∧ (l0_2.length ≤ 9223372036854775807 ∧ ∀ e_ ∈ l0_2, ((Lit.int .i64 e_.f0).wf = true) ∧ (e_.f1.size ≤ maxLen) ∧ ((Lit.int .i64 e_.f2).wf = true))) : ∃ k, laws_FnExactTableText.f k a0_0 a0_1 l0_2 = some true := by
  obtain ⟨_, _, hl, he⟩ := h0
  obtain ⟨v, ⟨K1, f1⟩, v0, v1, hv⟩ := szTable_val (l := l0_2) (fun e h => Pl.le_max (he e h).2.1) hl a0_0 a0_1
  by_cases c : v < 0
  · refine ⟨K1, ?_⟩
    have f1 : laws_szTable.f K1 a0_0 a0_1 l0_2 1048576 = some v := f1 K1 (Nat.le_refl _)
    rw [laws_FnExactTableText.f, f1, Option.bind_some, if_pos c]
  · have hl' := hv (by omega)
    obtain ⟨K2, f2⟩ := toTable_val hl' a0_0 a0_1
    have hm : (l0_2.map cv).length ≤ 1048576 := by rw [List.length_map]; exact hl'
    obtain ⟨r, b, ⟨K3, f3⟩, ⟨K4, f4⟩⟩ := tt_both hm a0_0 a0_1
    obtain ⟨K5, f5⟩ := eqTable_self hm a0_0 a0_1
    obtain ⟨K, hK⟩ : ∃ K, K = K1 + K2 + K3 + K4 + K5 := ⟨_, rfl⟩
    have g1 : laws_szTable.f (K + 1) a0_0 a0_1 l0_2 1048576 = some v := f1 (K + 1) (by omega)
    have g2 : ∀ k, K ≤ k → laws_toTable.f k a0_0 a0_1 l0_2 = some (a0_0, a0_1, l0_2.map cv) := fun k hk => f2 k (by omega)
    have g3 : spec_TableText.f (K + 1) a0_0 a0_1 (l0_2.map cv) = some (r, b) := f3 (K + 1) (by omega)
    have g4 : impl_TableText.f (K + 1) a0_0 a0_1 (l0_2.map cv) = some (r, b) := f4 (K + 1) (by omega)
    have g5 : laws_eqTable.f K a0_0 a0_1 (l0_2.map cv) a0_0 a0_1 (l0_2.map cv) = some true := f5 K (by omega)
    refine ⟨K + 1, ?_⟩
    rw [laws_FnExactTableText.f, g1, Option.bind_some, if_neg c, g2 (K + 1) (by omega)]
    simp only [Option.bind_some]
    rw [g3]
    simp only [Option.bind_some]
    rw [g4]
    simp only [Option.bind_some]
    rw [if_pos trivial, bne_self_eq_false, laws_FnExactTableText.j0, if_neg (by simp), g2 K (Nat.le_refl _)]
    simp only [Option.bind_some]
    rw [g5, Option.bind_some, if_pos rfl]

end Go.Proofs.YtmjjmibgoeobpaaDoor.Pure
