/- The plain law of ParseTable: the program and the reference both answer with a table just if the text is that table's. No condition. -/
import Derived.Test.YtoaekaehpnjpaaaDoorPGx5
import Derived.Test.YtoaekaehpnjpaaaDoorPGx6
import Derived.Test.YtoaekaehpnjpaaaDoorPGx9
import Derived.Test.YtoaekaehpnjpaaaDoorGPuParseB
import Derived.Test.YtoaekaehpnjpaaaDoorGPuParseC
import Derived.Test.YtoaekaehpnjpaaaDoorGPuTMark
namespace Go.Proofs.YtoaekaehpnjpaaaDoor.Pure
open Go.RowKit Go.Proofs.YtoaekaehpnjpaaaDoor Go.Proofs.YtoaekaehpnjpaaaDoor.PG Go.Proofs.YtoaekaehpnjpaaaDoorW.PrintWords Go.Proofs.YtoaekaehpnjpaaaDoorW.PrintLast
set_option linter.unusedVariables false
set_option linter.unusedSimpArgs false

theorem cut_total {s : ByteArray} (hs : s.size ≤ 1048576) : ∃ h r f, strings_Cut.f s (⟨#[58]⟩ : ByteArray) = some (h, r, f) ∧ h.size ≤ 1048576 ∧ r.size ≤ 1048576 ∧ (f = true → bytesOf s = bytesOf h ++ 58 :: bytesOf r) := by
  have hl : s.data.toList.length = s.size := data_length s
  refine ⟨_, _, _, by rw [strings_Cut.f, if_pos (by omega)], ?_⟩
  show (⟨(Lib.cut s.data.toList [58]).1.toArray⟩ : ByteArray).size ≤ 1048576 ∧ (⟨(Lib.cut s.data.toList [58]).2.1.toArray⟩ : ByteArray).size ≤ 1048576 ∧ ((Lib.cut s.data.toList [58]).2.2 = true → bytesOf s = bytesOf (⟨(Lib.cut s.data.toList [58]).1.toArray⟩ : ByteArray) ++ 58 :: bytesOf (⟨(Lib.cut s.data.toList [58]).2.1.toArray⟩ : ByteArray))
  rw [← data_length, ← data_length]
  by_cases c : 0 ≤ Lib.index s.data.toList [58]
  · have e : Lib.cut s.data.toList [58] = (s.data.toList.take (Lib.index s.data.toList [58]).toNat, s.data.toList.drop ((Lib.index s.data.toList [58]).toNat + 1), true) := by
      rw [Lib.cut, if_pos c]
      rfl
    rw [e]
    have ha := index_at (L := s.data.toList) (c := 58) (by omega)
    have hcut := cut_at ha
    refine ⟨?_, ?_, fun _ => ?_⟩
    · show (s.data.toList.take (Lib.index s.data.toList [58]).toNat).length ≤ _
      rw [List.length_take]; omega
    · show (s.data.toList.drop ((Lib.index s.data.toList [58]).toNat + 1)).length ≤ _
      rw [List.length_drop]; omega
    · show s.data.toList.map _ = (s.data.toList.take (Lib.index s.data.toList [58]).toNat).map _ ++ 58 :: (s.data.toList.drop ((Lib.index s.data.toList [58]).toNat + 1)).map _
      conv => lhs; rw [hcut]
      rw [List.map_append, List.map_cons]
      rfl
  · have e : Lib.cut s.data.toList [58] = (s.data.toList, [], false) := by rw [Lib.cut, if_neg c]
    rw [e]
    refine ⟨?_, ?_, fun h => by cases h⟩
    · show s.data.toList.length ≤ _
      omega
    · show ([] : List UInt8).length ≤ _
      simp
theorem cut_of {s : ByteArray} {a b : Int} {l : List R1} (a0 : 1 ≤ a) (a4 : a ≤ 4) (b0 : 1 ≤ b) (b4 : b ≤ 4) (hs : s.size ≤ 1048576) (hx : bytesOf s = TB a b l) : ∃ h r, strings_Cut.f s (⟨#[58]⟩ : ByteArray) = some (h, r, true) ∧ bytesOf h = [48 + a, 47, 48 + b] ∧ bytesOf r = rowB l := by
  obtain ⟨⟨L⟩⟩ := s
  have hx' : L.map (fun b => (b.toNat : Int)) = TB a b l := hx
  rw [TB] at hx'
  match L, hs, hx, hx' with
  | [], _, _, hx' => simp at hx'
  | [_], _, _, hx' => simp at hx'
  | [_, _], _, _, hx' => simp at hx'
  | [_, _, _], _, _, hx' => simp at hx'
  | x0 :: x1 :: x2 :: x3 :: R, hs, hx, hx' =>
    simp only [List.map_cons, List.cons.injEq] at hx'
    obtain ⟨h0, h1, h2, h3, h4⟩ := hx'
    obtain rfl : x1 = 47 := UInt8.toNat_inj.1 (by show x1.toNat = 47; omega)
    obtain rfl : x3 = 58 := UInt8.toNat_inj.1 (by show x3.toNat = 58; omega)
    have n0 : ((58 : UInt8) == x0) = false := by
      rw [beq_eq_false_iff_ne]
      intro e
      subst e
      have : ((58 : UInt8).toNat : Int) = 58 := rfl
      omega
    have n2 : ((58 : UInt8) == x2) = false := by
      rw [beq_eq_false_iff_ne]
      intro e
      subst e
      have : ((58 : UInt8).toNat : Int) = 58 := rfl
      omega
    have hi : Lib.index (x0 :: 47 :: x2 :: 58 :: R) [58] = ((3 : Nat) : Int) := Lib.index_first (by simp) (by simp [Lib.occAt, List.isPrefixOf]) (fun j hj => by
      have : j = 0 ∨ j = 1 ∨ j = 2 := by omega
      rcases this with rfl | rfl | rfl
      · simp [Lib.occAt, List.isPrefixOf, n0]
      · simp [Lib.occAt, List.isPrefixOf]
      · simp [Lib.occAt, List.isPrefixOf, n2])
    have e : Lib.cut (x0 :: 47 :: x2 :: 58 :: R) [58] = ([x0, 47, x2], R, true) := by
      rw [Lib.cut, hi, if_pos (by omega)]
      rfl
    refine ⟨⟨[x0, 47, x2].toArray⟩, ⟨R.toArray⟩, ?_, ?_, ?_⟩
    · rw [strings_Cut.f, if_pos (by omega)]
      show some ((⟨(Lib.cut (x0 :: 47 :: x2 :: 58 :: R) [58]).1.toArray⟩ : ByteArray), (⟨(Lib.cut (x0 :: 47 :: x2 :: 58 :: R) [58]).2.1.toArray⟩ : ByteArray), (Lib.cut (x0 :: 47 :: x2 :: 58 :: R) [58]).2.2) = _
      rw [e]
    · show [(x0.toNat : Int), 47, (x2.toNat : Int)] = _
      rw [h0, h2]
    · exact h4
theorem pt_false {r : ByteArray} {x : List Int} : Ev (fun k => impl_ParseTable.j0 k r x true) (0, 0, [], false) :=
  Pl.ev_unf ⟨0, fun k _ => by rw [impl_ParseTable.j0, if_pos rfl]⟩
theorem pt_true {r : ByteArray} (hr : r.size ≤ 1048576) {a b : Int} (n : Nat) (hn : r.size = 3 * n) : Ev (fun k => impl_ParseTable.j0 k r [a, b] false) (if tabB a b (rws (bytesOf r)) = true then (a, b, rws (bytesOf r), true) else (0, 0, [], false)) := by
  obtain ⟨K, e⟩ := rowsI hr (a := a) (b := b) n 0 [] (by omega) (by omega) (by simp)
  rw [List.nil_append, show (0 : Int).toNat = 0 from rfl, List.drop_zero] at e
  refine Pl.ev_unf ⟨K, fun k hk => ?_⟩
  have e := e k hk
  dsimp only at e
  rw [impl_ParseTable.j0, if_neg (by simp), if_pos (by simp), if_pos (by simp), show rd [a, b] 0 = a from rfl, show rd [a, b] 1 = b from rfl]
  exact e
theorem parseI_total {s : ByteArray} (hs : s.size ≤ 1048576) : ∃ a b l c, Ev (fun k => impl_ParseTable.f k s) (a, b, l, c) ∧ ((a = 0 ∧ b = 0 ∧ l = [] ∧ c = false) ∨ (c = true ∧ tabB a b l = true ∧ bytesOf s = TB a b l)) := by
  obtain ⟨h, r, f, e1, hh, hr, hf⟩ := cut_total hs
  obtain ⟨x, b2, ⟨K2, e2⟩, hb⟩ := numbers_total hh
  obtain ⟨K3, e3⟩ := pt_false (r := r) (x := x)
  have bad : Ev (fun k => impl_ParseTable.j0 k r x true) (0, 0, [], false) := ⟨K3, e3⟩
  cases b2 with
  | false =>
    refine ⟨0, 0, [], false, ⟨K2 + K3, fun k hk => ?_⟩, .inl ⟨rfl, rfl, rfl, rfl⟩⟩
    have e2 := e2 k (by omega)
    have e3 := e3 k (by omega)
    dsimp only at e2 e3 ⊢
    rw [impl_ParseTable.f, e1, Option.bind_some, e2, Option.bind_some, if_neg (by simp)]
    exact e3
  | true =>
    cases f with
    | false =>
      refine ⟨0, 0, [], false, ⟨K2 + K3, fun k hk => ?_⟩, .inl ⟨rfl, rfl, rfl, rfl⟩⟩
      have e2 := e2 k (by omega)
      have e3 := e3 k (by omega)
      dsimp only at e2 e3 ⊢
      rw [impl_ParseTable.f, e1, Option.bind_some, e2, Option.bind_some, if_pos rfl, if_neg (by simp)]
      exact e3
    | true =>
      by_cases c : r.size % 3 = 0
      · obtain ⟨n1, n2, rfl, hb1, hb2, hb3⟩ := hb rfl
        obtain ⟨K4, e4⟩ := pt_true hr (a := n1) (b := n2) (r.size / 3) (by omega)
        have hcut := hf rfl
        have ev : Ev (fun k => impl_ParseTable.f k s) (if tabB n1 n2 (rws (bytesOf r)) = true then (n1, n2, rws (bytesOf r), true) else (0, 0, [], false)) := by
          refine ⟨K2 + K4, fun k hk => ?_⟩
          have e2 := e2 k (by omega)
          have e4 := e4 k (by omega)
          dsimp only at e2 e4 ⊢
          rw [impl_ParseTable.f, e1, Option.bind_some, e2, Option.bind_some, if_pos rfl, if_pos rfl]
          dsimp only
          rw [show (((r.size : Int) % 3) != 0) = false from bne_eq_false_iff_eq.2 (by omega)]
          exact e4
        by_cases ct : tabB n1 n2 (rws (bytesOf r)) = true
        · rw [if_pos ct] at ev
          refine ⟨_, _, _, _, ev, .inr ⟨rfl, ct, ?_⟩⟩
          rw [hcut, hb1, TB, rowB_rws (r.size / 3) (bytesOf r) (by rw [bytesOf_length]; omega) (fun x hx => Pl.bytesOf_range hx)]
          rfl
        · rw [if_neg ct] at ev
          exact ⟨_, _, _, _, ev, .inl ⟨rfl, rfl, rfl, rfl⟩⟩
      · refine ⟨0, 0, [], false, ⟨K2 + K3, fun k hk => ?_⟩, .inl ⟨rfl, rfl, rfl, rfl⟩⟩
        have e2 := e2 k (by omega)
        have e3 := e3 k (by omega)
        dsimp only at e2 e3 ⊢
        rw [impl_ParseTable.f, e1, Option.bind_some, e2, Option.bind_some, if_pos rfl, if_pos rfl]
        dsimp only
        rw [show (((r.size : Int) % 3) != 0) = true from bne_iff_ne.2 (by omega)]
        exact e3
theorem parseI_of {s : ByteArray} {a b : Int} {l : List R1} (hs : s.size ≤ 1048576) (ht : tabB a b l = true) (hx : bytesOf s = TB a b l) : Ev (fun k => impl_ParseTable.f k s) (a, b, l, true) := by
  obtain ⟨p0, p4, q0, q4, hlen, hall⟩ := tab_dims ht
  have hl := tab_len ht
  have hr := small_of ht
  obtain ⟨h, r, e1, hh, hrr⟩ := cut_of p0 p4 q0 q4 hs hx
  have hz : r.size = 3 * l.length := by rw [← bytesOf_length, hrr, rowB_len hr]
  obtain ⟨K2, e2⟩ := numbers_dig p0 p4 q0 q4 hh
  obtain ⟨K4, e4⟩ := pt_true (r := r) (by omega) (a := a) (b := b) l.length hz
  rw [hrr, rws_rowB l hr, if_pos ht] at e4
  refine ⟨K2 + K4, fun k hk => ?_⟩
  have e2 := e2 k (by omega)
  have e4 := e4 k (by omega)
  dsimp only at e2 e4 ⊢
  rw [impl_ParseTable.f, e1, Option.bind_some, e2, Option.bind_some, if_pos rfl, if_pos rfl]
  dsimp only
  rw [show (((r.size : Int) % 3) != 0) = false from bne_eq_false_iff_eq.2 (by omega)]
  exact e4
theorem parse_both {s : ByteArray} (hs : s.size ≤ 1048576) : ∃ a b l c, l.length ≤ 16 ∧ Ev (fun k => spec_ParseTable.f k s) (a, b, l, c) ∧ Ev (fun k => impl_ParseTable.f k s) (a, b, l, c) := by
  obtain ⟨a, b, l, c, e, h⟩ := parseS_total hs
  rcases h with ⟨rfl, rfl, rfl, rfl⟩ | ⟨rfl, ht, hx⟩
  · obtain ⟨a, b, l, c, e', h'⟩ := parseI_total hs
    rcases h' with ⟨rfl, rfl, rfl, rfl⟩ | ⟨rfl, ht, hx⟩
    · exact ⟨0, 0, [], false, by simp, e, e'⟩
    · exact ⟨a, b, l, true, tab_len ht, parseS_of ht hx, e'⟩
  · exact ⟨a, b, l, true, tab_len ht, e, parseI_of hs ht hx⟩
theorem FnExactParseTable (a0 : ByteArray) (h0 : a0.size ≤ maxLen) : ∃ k, laws_FnExactParseTable.f k a0 = some true := by
  by_cases hs : (a0.size : Int) ≤ 1048576
  · obtain ⟨x, y, r, c, hr, ⟨K1, e1⟩, ⟨K2, e2⟩⟩ := parse_both (s := a0) (by omega)
    obtain ⟨K3, e3⟩ := eqTable_self (l := r) (by omega) x y
    obtain ⟨r', hr', ⟨K4, e4⟩, ⟨K5, e5⟩⟩ := mark_rows (l := r) (by omega)
    obtain ⟨K, hK⟩ : ∃ K, K = K1 + K2 + K3 + K4 + K5 := ⟨_, rfl⟩
    have g3 : spec_ParseTable.f (K + 2) a0 = some (x, y, r, c) := e1 (K + 2) (by omega)
    have g4 : ∀ k, K ≤ k → impl_ParseTable.f k a0 = some (x, y, r, c) := fun k hk => e2 k (by omega)
    have g5 : ∀ k, K ≤ k → laws_eqTable.f k x y r x y r = some true := fun k hk => e3 k (by omega)
    have g8 : laws_markTable.f (K + 1) x y r 1 = some (1 + 3 * (r.length : Int), r') := by
      have f8 : laws_markRowS.f (K + 1) r 1 = some (1 + 3 * (r.length : Int), r') := e4 (K + 1) (by omega)
      rw [laws_markTable.f, f8, Option.bind_some]
    have g9 : ∀ k, K ≤ k → laws_heldTable.f k x y r' 1 = some (1 + 3 * (r.length : Int)) := fun k hk => by
      have f9 : laws_heldRowS.f k r' 1 = some (1 + 3 * (r.length : Int)) := e5 k (by omega)
      rw [laws_heldTable.f, f9, Option.bind_some, if_neg (by omega)]
    refine ⟨K + 2, ?_⟩
    rw [laws_FnExactParseTable.f, if_neg (by omega), g3, g4 (K + 2) (by omega)]
    simp only [Option.bind_some]
    rw [g5 (K + 2) (by omega), Option.bind_some, if_pos rfl, bne_self_eq_false, laws_FnExactParseTable.j0, if_neg (by simp), g8]
    simp only [Option.bind_some]
    rw [g9 (K + 1) (by omega), Option.bind_some, if_neg (by omega), if_pos rfl, g4 (K + 1) (by omega)]
    simp only [Option.bind_some]
    rw [g5 (K + 1) (by omega), Option.bind_some, if_pos rfl, bne_self_eq_false, laws_FnExactParseTable.j1, if_neg (by simp), g9 K (by omega), Option.bind_some, if_neg (by omega), if_pos rfl]
  · refine ⟨0, ?_⟩
    rw [laws_FnExactParseTable.f, if_pos (by omega)]

end Go.Proofs.YtoaekaehpnjpaaaDoor.Pure
