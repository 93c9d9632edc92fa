/- Plain lemmas: what the program reads of a table's text: numbers with a sign between them, and rows. No condition. -/
import Derived.Test.YtoaekaehpnjpaaaDoorPGx1
import Derived.Test.YtoaekaehpnjpaaaDoorPGx5
import Derived.Test.YtoaekaehpnjpaaaDoorPGx6
import Derived.Lib.AtoiAllCases
import Derived.Lib.SplitLaws
import Derived.Lib.IndexMore
import Derived.Test.YtoaekaehpnjpaaaDoorGPuParseA
namespace Go.Proofs.YtoaekaehpnjpaaaDoor.Pure
open Go.RowKit Go.Proofs.YtoaekaehpnjpaaaDoor Go.Proofs.YtoaekaehpnjpaaaDoor.PG Go.Proofs.YtoaekaehpnjpaaaDoorW.PrintWords Go.Proofs.YtoaekaehpnjpaaaDoorW.PrintLast
set_option linter.unusedVariables false
set_option linter.unusedSimpArgs false

theorem itoa_dig {n : Int} (h0 : 0 ≤ n) (h1 : n ≤ 9) : (⟨(Lib.itoa n).toArray⟩ : ByteArray) = dig n := by
  apply Pl.ba_ext
  unfold dig
  rw [strOfNums_data, Lib.itoa, if_neg (by omega), Lib.decDigits, dif_pos (by omega)]
  have h : n = 0 ∨ n = 1 ∨ n = 2 ∨ n = 3 ∨ n = 4 ∨ n = 5 ∨ n = 6 ∨ n = 7 ∨ n = 8 ∨ n = 9 := by omega
  rcases h with rfl | rfl | rfl | rfl | rfl | rfl | rfl | rfl | rfl | rfl <;> rfl
theorem number_total {w : ByteArray} (hw : w.size ≤ 1048576) : ∃ n b, impl_number.f w 4 = some (n, b) ∧ (b = true → w = dig n ∧ 0 ≤ n ∧ n ≤ 4) := by
  cases hq : Lib.atoiAll w.data.toList with
  | ok v =>
    have e1 : strconv_Atoi_36.f w = some (v, false) := by rw [strconv_Atoi_36.f, if_pos (by omega), hq]
    have hb := Lib.atoiAll_bounds hq
    have e2 : strconv_Itoa_37.f v = some ⟨(Lib.itoa v).toArray⟩ := by rw [strconv_Itoa_37.f, if_pos hb]
    rw [impl_number.f, e1, Option.bind_some, if_neg (by simp), e2, Option.bind_some]
    by_cases c : (⟨(Lib.itoa v).toArray⟩ : ByteArray).toList = w.toList
    · rw [if_pos c, within_val, Option.bind_some]
      cases hk : (decide (0 ≤ v) && decide (v ≤ 4)) with
      | false => exact ⟨0, false, by rw [if_neg (by simp)], by simp⟩
      | true =>
        simp only [Bool.and_eq_true, decide_eq_true_eq] at hk
        refine ⟨v, true, by rw [if_pos rfl], fun _ => ⟨?_, hk⟩⟩
        rw [← itoa_dig hk.1 (by omega)]
        exact (Pl.toList_inj.1 c).symm
    · exact ⟨0, false, by rw [if_neg c], by simp⟩
  | range =>
    have e1 : strconv_Atoi_36.f w = some (Lib.atoiSat w.data.toList, true) := by rw [strconv_Atoi_36.f, if_pos (by omega), hq]
    exact ⟨0, false, by rw [impl_number.f, e1, Option.bind_some, if_pos (by simp)], by simp⟩
  | _ =>
    have e1 : strconv_Atoi_36.f w = some (0, true) := by rw [strconv_Atoi_36.f, if_pos (by omega), hq]
    exact ⟨0, false, by rw [impl_number.f, e1, Option.bind_some, if_pos (by simp)], by simp⟩
theorem atoi_dig {n : Int} (h0 : 0 ≤ n) (h1 : n ≤ 4) : Lib.atoiAll (dig n).data.toList = .ok n := by
  have h : n = 0 ∨ n = 1 ∨ n = 2 ∨ n = 3 ∨ n = 4 := by omega
  rcases h with rfl | rfl | rfl | rfl | rfl <;> first | rfl | decide
theorem number_dig {n : Int} (h0 : 0 ≤ n) (h1 : n ≤ 4) : impl_number.f (dig n) 4 = some (n, true) := by
  have e1 : strconv_Atoi_36.f (dig n) = some (n, false) := by rw [strconv_Atoi_36.f, if_pos (by rw [dig_size]; omega), atoi_dig h0 h1]
  have e2 : strconv_Itoa_37.f n = some (dig n) := by rw [strconv_Itoa_37.f, if_pos (by omega), itoa_dig h0 (by omega)]
  rw [impl_number.f, e1, Option.bind_some, if_neg (by simp), e2, Option.bind_some, if_pos rfl, within_val, decide_eq_true h0, decide_eq_true h1, Bool.and_self, Option.bind_some, if_pos rfl]
theorem rdOf_get {l : List ByteArray} {i : Int} (h : i.toNat < l.length) : rdOf ByteArray.empty l i = l[i.toNat] := by
  simp [rdOf, List.getD_eq_getElem?_getD, List.getElem?_eq_getElem h]
theorem nums_l0 {ws : List ByteArray} (hw : ∀ x ∈ ws, x.size ≤ 1048576) (hl : ws.length ≤ 2000000) (n : Nat) : ∀ (i : Int) (acc : List Int), ((ws.length : Int) - i).toNat = n → 0 ≤ i → i ≤ ws.length → (acc.length : Int) = i → ∃ r b, Ev (fun k => impl_numbers.l0 k 2 4 acc ws ws.length i) (r, b) ∧ (b = true → r.length = 2 ∧ ∃ ns : List Int, r = acc ++ ns ∧ ns.map dig = ws.drop i.toNat ∧ ∀ m ∈ ns, 0 ≤ m ∧ m ≤ 4) := by
  induction n with
  | zero =>
    intro i acc hn h0 h1 ha
    by_cases c : (acc.length : Int) = 2
    · refine ⟨acc, true, Pl.ev_unf ⟨0, fun k _ => ?_⟩, fun _ => ⟨by omega, [], by simp, ?_, by simp⟩⟩
      · rw [impl_numbers.l0, if_neg (by omega), if_pos c]
      · rw [List.drop_eq_nil_of_le (by omega)]
        rfl
    · refine ⟨List.replicate (2 : Int).toNat 0, false, Pl.ev_unf ⟨0, fun k _ => ?_⟩, by simp⟩
      rw [impl_numbers.l0, if_neg (by omega), if_neg c, if_pos (by omega), if_pos (by decide)]
  | succ n ih =>
    intro i acc hn h0 h1 ha
    have hj : i.toNat < ws.length := by omega
    obtain ⟨m, b, e, hb⟩ := number_total (w := ws[i.toNat]) (hw _ (List.getElem_mem _))
    have w1 : wrap64 (i + 1) = i + 1 := Pl.w64 (by omega) (by omega)
    cases b with
    | false =>
      refine ⟨List.replicate (2 : Int).toNat 0, false, Pl.ev_unf ⟨0, fun k _ => ?_⟩, by simp⟩
      rw [impl_numbers.l0, if_pos (by omega), if_pos h0, if_pos (by omega), rdOf_get hj, e, Option.bind_some, if_neg (by simp), if_pos (by omega), if_pos (by decide)]
    | true =>
      obtain ⟨hd, hm⟩ := hb rfl
      obtain ⟨r, b, ⟨K, f⟩, hr⟩ := ih (i + 1) (acc ++ [m]) (by omega) (by omega) (by omega) (by rw [List.length_append, List.length_singleton]; omega)
      refine ⟨r, b, Pl.ev_unf ⟨K, fun k hk => ?_⟩, fun hb => ?_⟩
      · have f := f k hk
        dsimp only at f
        rw [impl_numbers.l0, if_pos (by omega), if_pos h0, if_pos (by omega), rdOf_get hj, e, Option.bind_some, if_pos rfl, if_pos (by omega), w1]
        exact f
      · obtain ⟨h2, ns, rfl, hns, hall⟩ := hr hb
        refine ⟨h2, m :: ns, by simp, ?_, ?_⟩
        · rw [List.drop_eq_getElem_cons hj, show i.toNat + 1 = (i + 1).toNat by omega, ← hns, hd]
          rfl
        · intro y hy
          rcases List.mem_cons.1 hy with rfl | hy
          · exact hm
          · exact hall y hy
theorem split_size (sep : ByteArray) (N : Nat) : ∀ (k : Nat) (s : ByteArray), s.size ≤ N → ∀ x ∈ Lib.splitB sep 0 k s, x.size ≤ N
  | 0, s, hs, x, hx => by
    rw [Lib.splitB_zero, List.mem_singleton] at hx
    rw [hx]
    exact hs
  | k + 1, s, hs, x, hx => by
    unfold Lib.splitB at hx
    split at hx
    · rw [List.mem_singleton] at hx
      rw [hx]
      exact hs
    · rcases List.mem_cons.1 hx with rfl | hx
      · rw [ByteArray.size_extract]; omega
      · exact split_size sep N k _ (by rw [ByteArray.size_extract]; omega) x hx
theorem cut_at {L : List UInt8} {c : UInt8} {i : Nat} (h : L[i]? = some c) : L = L.take i ++ c :: L.drop (i + 1) := by
  have hi : i < L.length := by
    rcases Nat.lt_or_ge i L.length with h1 | h1
    · exact h1
    · rw [List.getElem?_eq_none h1] at h; cases h
  have e : L[i] = c := by rw [List.getElem?_eq_getElem hi] at h; exact Option.some.inj h
  conv => lhs; rw [← List.take_append_drop i L, List.drop_eq_getElem_cons hi, e]
theorem index_at {L : List UInt8} {c : UInt8} (h : Lib.index L [c] ≠ -1) : L[(Lib.index L [c]).toNat]? = some c := by
  rcases Lib.index_spec L [c] with ⟨h1, _⟩ | ⟨i, h1, _, h2, _⟩
  · exact absurd h1 h
  · rw [h1]
    exact Lib.occAt_head rfl h2
theorem numbers_total {h : ByteArray} (hs : h.size ≤ 1048576) : ∃ r b, Ev (fun k => impl_numbers.f k h (⟨#[47]⟩ : ByteArray) 2 4) (r, b) ∧ (b = true → ∃ n1 n2 : Int, r = [n1, n2] ∧ bytesOf h = [48 + n1, 47, 48 + n2] ∧ (0 ≤ n1 ∧ n1 ≤ 4) ∧ 0 ≤ n2 ∧ n2 ≤ 4) := by
  have h1 : 1 ≤ (⟨#[47]⟩ : ByteArray).size := by decide
  have e1 : strings_Split.f h (⟨#[47]⟩ : ByteArray) = some (Lib.splitB (⟨#[47]⟩ : ByteArray) 0 (Lib.countB h (⟨#[47]⟩ : ByteArray)) h) := by rw [strings_Split.f, if_pos ⟨by omega, h1⟩]
  have hlen := Lib.splitB_all (⟨#[47]⟩ : ByteArray) h1 0 _ h rfl
  have hcnt := Lib.countB_le (⟨#[47]⟩ : ByteArray) h1 _ h (Nat.le_refl _)
  have hsz := split_size (⟨#[47]⟩ : ByteArray) 1048576 (Lib.countB h (⟨#[47]⟩ : ByteArray)) h hs
  obtain ⟨r, b, ⟨K, f⟩, hr⟩ := nums_l0 (ws := Lib.splitB (⟨#[47]⟩ : ByteArray) 0 (Lib.countB h (⟨#[47]⟩ : ByteArray)) h) hsz (by omega) _ 0 [] rfl (by omega) (by omega) rfl
  refine ⟨r, b, ⟨K, fun k hk => ?_⟩, fun hb => ?_⟩
  · have f := f k hk
    dsimp only at f ⊢
    rw [impl_numbers.f, e1, Option.bind_some]
    exact f
  · obtain ⟨h2, ns, rfl, hns, hall⟩ := hr hb
    rw [show (0 : Int).toNat = 0 from rfl, List.drop_zero] at hns
    have hc : Lib.countB h (⟨#[47]⟩ : ByteArray) = 1 := by
      have := congrArg List.length hns
      rw [List.length_map, hlen] at this
      omega
    rw [hc] at hns
    obtain ⟨n1, n2, rfl⟩ : ∃ n1 n2, r = [n1, n2] := by
      match r, h2 with
      | [x, y], _ => exact ⟨x, y, rfl⟩
    have b1 := hall n1 (by simp)
    have b2 := hall n2 (by simp)
    refine ⟨n1, n2, rfl, ?_, b1, b2⟩
    unfold Lib.splitB at hns
    split at hns
    · simp at hns
    · rename_i hi
      rw [Lib.splitB_zero] at hns
      simp only [List.map_cons, List.map_nil, List.cons.injEq, and_true] at hns
      have hix : Lib.index h.data.toList [47] ≠ -1 := fun e => hi (beq_iff_eq.2 e)
      have ha := index_at hix
      have hcut := cut_at ha
      have d1 : (dig n1).data.toList = h.data.toList.take (Lib.index h.data.toList [47]).toNat := by
        rw [hns.1, Lib.extract_from_zero]
        rfl
      have d2 : bytesOf (dig n2) = (bytesOf h).drop ((Lib.index h.data.toList [47]).toNat + 1) := by
        rw [hns.2, Pl.bytesOf_extract, List.take_of_length_le (by rw [bytesOf_length]; exact Nat.le_refl _)]
        rfl
      have q : bytesOf h = bytesOf (dig n1) ++ 47 :: bytesOf (dig n2) := by
        rw [d2]
        unfold bytesOf
        rw [d1]
        conv => lhs; rw [hcut]
        rw [List.map_append, List.map_cons, List.map_drop]
        rfl
      rw [q, dig_bytes b1.1 (by omega), dig_bytes b2.1 (by omega)]
      rfl
theorem split_dig {a b : Int} (a0 : 1 ≤ a) (a4 : a ≤ 4) (b0 : 1 ≤ b) (b4 : b ≤ 4) : strings_Split.f (strOfNums [48 + a, 47, 48 + b]) (⟨#[47]⟩ : ByteArray) = some [dig a, dig b] := by
  have ha : a = 1 ∨ a = 2 ∨ a = 3 ∨ a = 4 := by omega
  have hb : b = 1 ∨ b = 2 ∨ b = 3 ∨ b = 4 := by omega
  rcases ha with rfl | rfl | rfl | rfl <;> rcases hb with rfl | rfl | rfl | rfl <;> first | rfl | decide | decide +kernel
theorem numbers_dig {h : ByteArray} {a b : Int} (a0 : 1 ≤ a) (a4 : a ≤ 4) (b0 : 1 ≤ b) (b4 : b ≤ 4) (hh : bytesOf h = [48 + a, 47, 48 + b]) : Ev (fun k => impl_numbers.f k h (⟨#[47]⟩ : ByteArray) 2 4) ([a, b], true) := by
  obtain rfl : h = strOfNums [48 + a, 47, 48 + b] := by rw [← hh, Pl.strOf_bytesOf]
  refine ⟨3, fun k hk => ?_⟩
  obtain ⟨q, rfl⟩ : ∃ q, k = q + 3 := ⟨k - 3, by omega⟩
  have w1 : wrap64 (0 + 1) = 1 := Pl.w64 (by omega) (by omega)
  have w2 : wrap64 (1 + 1) = 2 := Pl.w64 (by omega) (by omega)
  have hl : (([dig a, dig b] : List ByteArray).length : Int) = 2 := rfl
  dsimp only
  rw [impl_numbers.f, split_dig a0 a4 b0 b4, Option.bind_some, hl, impl_numbers.l0, if_pos (by omega), if_pos (by omega), hl, if_pos (by omega), show rdOf ByteArray.empty [dig a, dig b] 0 = dig a from rfl, number_dig (by omega) a4, Option.bind_some, if_pos rfl, if_pos (by simp), w1,
    impl_numbers.l0, if_pos (by omega), if_pos (by omega), hl, if_pos (by omega), show rdOf ByteArray.empty [dig a, dig b] 1 = dig b from rfl, number_dig (by omega) b4, Option.bind_some, if_pos rfl, if_pos (by simp), w2,
    impl_numbers.l0, if_neg (by omega), if_pos (by simp)]
  rfl
def rws : List Int → List R1
  | x :: y :: z :: t => ⟨x - 48, strOfNums [y], z - 48⟩ :: rws t
  | _ => []
theorem rws_len (n : Nat) : ∀ B : List Int, B.length = 3 * n → (rws B).length = n := by
  induction n with
  | zero =>
    intro B h
    obtain rfl : B = [] := List.eq_nil_of_length_eq_zero (by omega)
    rfl
  | succ n ih =>
    intro B h
    match B, h with
    | x :: y :: z :: t, h =>
      simp only [List.length_cons] at h
      rw [rws, List.length_cons, ih t (by omega)]
theorem rowB_rws (n : Nat) : ∀ B : List Int, B.length = 3 * n → (∀ x ∈ B, 0 ≤ x ∧ x ≤ 255) → rowB (rws B) = B := by
  induction n with
  | zero =>
    intro B h _
    obtain rfl : B = [] := List.eq_nil_of_length_eq_zero (by omega)
    rfl
  | succ n ih =>
    intro B h hB
    match B, h with
    | x :: y :: z :: t, h =>
      simp only [List.length_cons] at h
      have hy := hB y (by simp)
      rw [rws, rowB, ih t (by omega) (fun q hq => hB q (by simp [hq])), Pl.bytesOf_strOf (by intro q hq; simp at hq; omega), show 48 + (x - 48) = x by omega, show 48 + (z - 48) = z by omega]
      rfl
theorem rws_rowB : ∀ l : List R1, (∀ r ∈ l, SmallR r) → rws (rowB l) = l
  | [], _ => rfl
  | r :: l, h => by
    obtain ⟨c, hc, _⟩ := (h r (by simp)).sg
    have e : strOfNums [c] = r.f1 := by rw [← hc, Pl.strOf_bytesOf]
    rw [rowB, hc]
    show rws ((48 + r.f0) :: c :: (48 + r.f2) :: rowB l) = r :: l
    rw [rws, rws_rowB l (fun x hx => h x (by simp [hx])), e, show 48 + r.f0 - 48 = r.f0 by omega, show 48 + r.f2 - 48 = r.f2 by omega]
theorem rowsI {s : ByteArray} (hs : s.size ≤ 1048576) {a b : Int} (n : Nat) : ∀ (i : Int) (acc : List R1), (s.size : Int) - i = 3 * n → 0 ≤ i → (3 * acc.length : Int) ≤ i → Ev (fun k => impl_ParseTable.l0 k s i a b acc) (if tabB a b (acc ++ rws ((bytesOf s).drop i.toNat)) = true then (a, b, acc ++ rws ((bytesOf s).drop i.toNat), true) else (0, 0, [], false)) := by
  induction n with
  | zero =>
    intro i acc hn h0 ha
    have hd : (bytesOf s).drop i.toNat = [] := List.drop_eq_nil_of_le (by rw [bytesOf_length]; omega)
    rw [hd, show rws [] = [] from rfl, List.append_nil]
    refine Pl.ev_unf ⟨0, fun k _ => ?_⟩
    rw [impl_ParseTable.l0, if_neg (by omega), (tab_both (l := acc) (by omega) a b).2, Option.bind_some]
    by_cases c : tabB a b acc = true
    · rw [if_pos c, if_pos c]
    · rw [if_neg c, if_neg c]
  | succ n ih =>
    intro i acc hn h0 ha
    have d1 := sDrop (s := s) (i := i) h0 (by omega)
    have d2 := sDrop (s := s) (i := i + 1) (by omega) (by omega)
    have d3 := sDrop (s := s) (i := i + 1 + 1) (by omega) (by omega)
    have pc := sPiece (s := s) (i := i + 1) (by omega) (by omega)
    have r0 := bt_range s i
    have r2 := bt_range s (i + 1 + 1)
    have e := ih (i + 3) (acc ++ [⟨bt s i - 48, strOfNums [bt s (i + 1)], bt s (i + 1 + 1) - 48⟩]) (by omega) (by omega) (by rw [List.length_append, List.length_singleton]; omega)
    have hd : rws ((bytesOf s).drop i.toNat) = ⟨bt s i - 48, strOfNums [bt s (i + 1)], bt s (i + 1 + 1) - 48⟩ :: rws ((bytesOf s).drop (i + 3).toNat) := by
      rw [d1, d2, d3, rws, show i + 1 + 1 + 1 = i + 3 by omega]
    rw [List.append_assoc, List.singleton_append, ← hd] at e
    obtain ⟨K, e⟩ := e
    refine Pl.ev_unf ⟨K, fun k hk => ?_⟩
    have e := e k hk
    dsimp only at e
    rw [impl_ParseTable.l0, Pl.w64 (n := i + 1) (by omega) (by omega), Pl.w64 (n := i + 2) (by omega) (by omega), Pl.w64 (n := i + 3) (by omega) (by omega), if_pos (by omega), if_pos h0, if_pos (by omega), if_pos (by omega), if_pos (by omega), if_pos (by omega), if_pos (by omega), if_pos (by omega),
      show i + 2 = i + 1 + 1 by omega, pc, Pl.w64 (n := bt s i) (by omega) (by omega), Pl.w64 (n := bt s (i + 1 + 1)) (by omega) (by omega), Pl.w64 (n := bt s i - 48) (by omega) (by omega), Pl.w64 (n := bt s (i + 1 + 1) - 48) (by omega) (by omega)]
    exact e

end Go.Proofs.YtoaekaehpnjpaaaDoor.Pure
