/- What Go's strings.Replacer of single bytes computes: the walk of a text over the table. No condition beyond what each theorem names. -/
import Derived.Test.YtliachoefnplbaaGreatRepl2
namespace Go.Proofs.YtliachoefnplbaaGreat.Repl
open Go.RowKit Go.Proofs.YtliachoefnplbaaGreatW.PrintWords Go.Proofs.YtliachoefnplbaaGreatW.PrintLast Go.Proofs.YtliachoefnplbaaGreatW.PrintMore
set_option linter.unusedVariables false
set_option linter.unusedSimpArgs false

def swapI (b : Int) : Int := if b = 76 then 82 else if b = 82 then 76 else b
theorem bytes_event {P : Program} {ops : Array Oper} {rest : List Oper} {o : Oper} {a : Act} {Q : Exit → Act → World → Prop} {W : World} (hgd : o.guard = none) {N : Tmp} (_hd : o.dst = some N) {src dst e : TypeId} {u : TypeDesc} {x : Operand} {s : ByteArray} (ho : o.op = .convert src dst x) (hx : a.eval x = .string s)
    (hs : P.underlying src = some u) (hd : P.underlying dst = some (.slice e)) (he : P.underlying e = some (.int .u8))
    (h : ∀ g cap C w1, g = W.heap.size → w1.heap[g]? = some (.cells C e (C.size, C.size + 1)) → C.size = max s.size cap → (∀ j, j < s.size → C[j]? = some (.int .u8 (s.data.toList.getD j 0).toNat)) → Below W.heap.size W w1 →
      wpList P ops Q rest (a.put o.dst (.slice (some ⟨g, 0, none⟩) s.size cap)) w1) : wpList P ops Q (o :: rest) a W := by
  have hrun : (execOp a.eval o).run P W = .ok (.value (.slice (some ⟨W.heap.size, 0, none⟩) s.size (grownCap W s.size 0 e))) (Lib.bytesWorld W e s) := by
    have hc := Lib.run_convert_string_bytes (P := P) W src dst e s hs hd he
    unfold execOp
    simp only [ho, hx]
    simp [hc, Result.andThen]
  refine Kd.event_run hgd hrun (h W.heap.size _ (Lib.bytesCells W e s) _ rfl (Lib.bytesWorld_at_new W e s) ?_ ?_ (bytes_below (Below.refl _ _) (Nat.le_refl _) e s))
  · simp [Lib.bytesCells]
    have := data_length s
    simp at this
    omega
  · intro j hj
    have := data_length s
    simp [Lib.bytesCells, Array.getElem?_append, List.getD, hj]
theorem mark_cell {w1 : World} {g j : Nat} {C : Array Value} {e : TypeId} {v : Value} (hb : w1.heap[g]? = some (.cells C e (C.size, C.size + 1))) (hc : C[j]? = some v) : w1.cell? ⟨g, j, none⟩ = some v ∧ w1.frozen? ⟨g, j, none⟩ = false := by
  refine ⟨by simp [World.cell?, hb, hc], ?_⟩
  have hj : j < C.size := (Array.getElem?_eq_some_iff.1 hc).1
  simp [World.frozen?, hb]
  omega
theorem row_set {w1 : World} {g j : Nat} {C : Array Value} {e : TypeId} {v : Value} (hb : w1.heap[g]? = some (.cells C e (C.size, C.size + 1))) : (w1.setCell ⟨g, j, none⟩ v).heap[g]? = some (.cells (C.setIfInBounds j v) e ((C.setIfInBounds j v).size, (C.setIfInBounds j v).size + 1)) := by
  simp [World.setCell, Array.getElem?_modify, hb]
theorem wrap_in {n : Int} (h1 : -9223372036854775808 ≤ n) (h2 : n ≤ 9223372036854775807) : wrap64 n = n := by
  unfold wrap64
  omega
/-- byte j of a text -/
def bb (s : ByteArray) (j : Nat) : Nat := (s.data.toList.getD j 0).toNat
theorem bb_at {s : ByteArray} {n : Nat} (h : n < s.size) : s[n].toNat = bb s n := by
  have hl : n < s.data.toList.length := by rw [data_length]; exact h
  unfold bb
  rw [List.getD_eq_getElem?_getD, List.getElem?_eq_getElem hl]
  rfl
theorem bb_lt (s : ByteArray) (j : Nat) : bb s j < 256 := UInt8.toNat_lt _
theorem swapI_nat (b : Nat) : ((swap b : Nat) : Int) = swapI (b : Int) := by
  unfold swap swapI
  by_cases c : b = 76
  · subst c; rfl
  · by_cases c2 : b = 82
    · subst c2; rfl
    · rw [if_neg c, if_neg c2, if_neg (by omega), if_neg (by omega)]
theorem map_get {s : ByteArray} {i : Nat} (h : i < s.size) : ((bytesOf s).map swapI).getD i 0 = ((swap (bb s i) : Nat) : Int) := by
  have hl : i < s.data.toList.length := by rw [data_length]; exact h
  rw [swapI_nat]
  unfold bb
  rw [List.getD_eq_getElem?_getD, List.getElem?_map, bytesOf, List.getElem?_map, List.getD_eq_getElem?_getD, List.getElem?_eq_getElem hl]
  rfl
theorem map_same {s : ByteArray} (h : ∀ j, j < s.size → swap (bb s j) = bb s j) : strOfNums ((bytesOf s).map swapI) = s := by
  have e : (bytesOf s).map swapI = s.data.toList.map fun b => (b.toNat : Int) := by
    apply List.ext_getElem?
    intro i
    rcases Nat.lt_or_ge i s.size with hi | hi
    · have h1 := map_get hi
      rw [h i hi] at h1
      have hl : i < s.data.toList.length := by rw [data_length]; exact hi
      have hl2 : i < ((bytesOf s).map swapI).length := by rw [List.length_map, bytesOf_length]; exact hi
      rw [List.getD_eq_getElem?_getD, List.getElem?_eq_getElem hl2] at h1
      rw [List.getElem?_eq_getElem hl2, List.getElem?_map, List.getElem?_eq_getElem hl]
      have h2 : ((bytesOf s).map swapI)[i] = ((bb s i : Nat) : Int) := h1
      rw [h2]
      unfold bb
      rw [List.getD_eq_getElem?_getD, List.getElem?_eq_getElem hl]
      rfl
    · rw [List.getElem?_eq_none (by rw [List.length_map, bytesOf_length]; exact hi), List.getElem?_eq_none (by rw [List.length_map, data_length]; exact hi)]
  rw [e]
  unfold strOfNums
  rw [List.map_map, List.map_congr_left (g := id) (fun b _ => by simp), List.map_id]
/-- what stands at byte j when the bytes ahead of n are done -/
def done (s : ByteArray) (n j : Nat) : Nat := if j < n then swap (bb s j) else bb s j
def Row (s : ByteArray) (n : Nat) (W : World) (w0 : Nat) (v : Value) : Prop := ∃ (g cap : Nat) (C : Array Value), v = .slice (some ⟨g, 0, none⟩) s.size cap ∧ w0 ≤ g ∧ W.heap[g]? = some (.cells C 5 (C.size, C.size + 1)) ∧ ∀ j, j < s.size → C[j]? = some (.int .u8 (done s n j : Int))

set_option maxHeartbeats 4000000 in
set_option maxRecDepth 100000 in
theorem bytes_calls (a : Nat) (s : ByteArray) (w : World) (hsz : s.size ≤ 1000000000) (hT : w.heap[a]? = some (.cells table 95 (0, 0))) :
    Calls Tryz.prog 112 #[.pointer (some ⟨a, 0, none⟩), .string s] w fun e w' => e = .returned (.string (strOfNums ((bytesOf s).map swapI))) ∧ Below w.heap.size w w' := by
  have HT := Aside0.mk hT
  clear hT
  have hnil : ∀ W : World, (binOp .eql 79 (.slice none 0 0) (.slice none 0 0)).run Tryz.prog W = .ok (.bool true) W := fun W => by kernel_rfl
  have hnot : ∀ (W : World) (g n c : Nat), (binOp .eql 79 (.slice (some ⟨g, 0, none⟩) n c) (.slice none 0 0)).run Tryz.prog W = .ok (.bool false) W := fun W g n c => by kernel_rfl
  go_enter Tryz.func112, Tryz.ntmps112
  go_wp2
  go_loopg [5, 6] s.size (fun kq v5 v6 w' => ∃ n : Nat, v6 = .int .i64 (n : Int) ∧ n + kq = s.size ∧ Aside0 (Below w.heap.size w w') ∧ ((v5 = .slice none 0 0 ∧ Aside0 (∀ j, j < n → swap (bb s j) = bb s j)) ∨ Aside0 (Row s n w' w.heap.size v5)))
  case atStart => exact ⟨0, rfl, by omega, ⟨Below.refl _ _⟩, .inl ⟨rfl, ⟨fun j hj => absurd hj (by omega)⟩⟩⟩
  case round =>
    obtain ⟨n, rfl, hn, HB, hrel⟩ := hrel
    by_cases hlt : n < s.size
    · have c1 : decide ((n : Int) < (s.size : Int)) = true := decide_eq_true (by omega)
      have p1 : (0 ≤ (n : Int)) = True := eq_true (by omega)
      have p2 : ((n : Int) < (s.size : Int)) = True := eq_true (by omega)
      have hw64 : wrap64 ((n : Int) + 1) = ((n + 1 : Nat) : Int) := by rw [wrap_in (by omega) (by omega)]; omega
      have p3 : (((s[n].toNat : Nat) : Int) < 256) = True := eq_true (by rw [bb_at hlt]; have := bb_lt s n; omega)
      have hcell : wr.cell? ⟨a, s[n].toNat, none⟩ = some (.int .u8 ((swap s[n].toNat : Nat) : Int)) := by
        rw [bb_at hlt]
        exact cell_later HB.out ((blk_cell HT.out (bb s n)).trans (table_get (bb_lt s n)))
      obtain ⟨k1, rfl⟩ : ∃ k1, gk = k1 + 1 := ⟨gk - 1, by omega⟩
      rcases hrel with ⟨rfl, hs⟩ | hR
      · by_cases hsw : swap s[n].toNat = s[n].toNat
        · have cne : (((swap s[n].toNat : Nat) : Int) != ((s[n].toNat : Nat) : Int)) = false := by rw [hsw]; exact bne_self_eq_false _
          go_wp2
          go_roundg k1
          case measure => omega
          case rel =>
            refine ⟨n + 1, rfl, by omega, HB, .inl ⟨rfl, ⟨fun j hj => ?_⟩⟩⟩
            by_cases e : j = n
            · subst e; rw [← bb_at hlt]; exact hsw
            · exact hs.out j (by omega)
        · have cne : (((swap s[n].toNat : Nat) : Int) != ((s[n].toNat : Nat) : Int)) = true := bne_iff_ne.2 (fun e => hsw (by omega))
          go_wp2_with (first | ((with_reducible refine gate_dst (N := 27) rfl ?_); refine bytes_event rfl (N := 27) rfl (x := .tmp 26) rfl rfl Tryz.underlying9 Tryz.underlying79 Tryz.underlying5 ?_; intro g cap C w1 hg hb hC hc hbel; have HG := Aside0.mk (show w.heap.size ≤ g by rw [hg]; exact HB.out.size); have HB1 := Aside0.mk (below_step HB.out hbel); have HC := Aside0.mk hc; have HH := Aside0.mk hb; replace hcell := cell_later hbel hcell; obtain ⟨hcell2, hfro2⟩ := mark_cell hb (hc n hlt); clear hg hb hC hc hbel))
          go_roundg k1
          case measure => omega
          case rel =>
            refine ⟨n + 1, by first | rfl | rw [hw64], by omega, ⟨below_set HB1.out HG.out⟩, .inr ⟨g, cap, C.setIfInBounds n (.int .u8 ((swap s[n].toNat : Nat) : Int)), rfl, HG.out, row_set HH.out, fun j hj => ?_⟩⟩
            by_cases e : n = j
            · subst e
              rw [Array.getElem?_setIfInBounds_self_of_lt (by have := (Array.getElem?_eq_some_iff.1 (HC.out n hlt)).1; omega)]
              unfold done
              rw [if_pos (by omega), bb_at hlt]
            · rw [Array.getElem?_setIfInBounds_ne e, HC.out j hj]
              unfold done
              by_cases c : j < n + 1
              · rw [if_pos c, hs.out j (by omega)]; rfl
              · rw [if_neg c]; rfl
      · obtain ⟨g, cap, C, rfl, hg, hH, hC⟩ := hR.out
        have hH := Aside0.mk hH
        have hC := Aside0.mk hC
        have hg := Aside0.mk hg
        obtain ⟨hcell2, hfro2⟩ := mark_cell hH.out (hC.out n hlt)
        clear hR
        by_cases hsw : swap s[n].toNat = s[n].toNat
        · have cne : (((swap s[n].toNat : Nat) : Int) != ((s[n].toNat : Nat) : Int)) = false := by rw [hsw]; exact bne_self_eq_false _
          go_wp2
          go_roundg k1
          case measure => omega
          case rel =>
            refine ⟨n + 1, by first | rfl | rw [hw64], by omega, HB, .inr ⟨g, cap, C, rfl, hg.out, hH.out, fun j hj => ?_⟩⟩
            rw [hC.out j hj]
            unfold done
            by_cases e : j = n
            · subst e
              rw [if_neg (by omega), if_pos (by omega), ← bb_at hlt, hsw]
            · by_cases c : j < n
              · rw [if_pos c, if_pos (by omega)]
              · rw [if_neg c, if_neg (by omega)]
        · have cne : (((swap s[n].toNat : Nat) : Int) != ((s[n].toNat : Nat) : Int)) = true := bne_iff_ne.2 (fun e => hsw (by omega))
          go_wp2
          go_roundg k1
          case measure => omega
          case rel =>
            refine ⟨n + 1, by first | rfl | rw [hw64], by omega, ⟨below_set HB.out hg.out⟩, .inr ⟨g, cap, C.setIfInBounds n (.int .u8 ((swap s[n].toNat : Nat) : Int)), rfl, hg.out, row_set hH.out, fun j hj => ?_⟩⟩
            by_cases e : n = j
            · subst e
              rw [Array.getElem?_setIfInBounds_self_of_lt (by have := (Array.getElem?_eq_some_iff.1 (hC.out n hlt)).1; omega)]
              unfold done
              rw [if_pos (by omega), bb_at hlt]
            · rw [Array.getElem?_setIfInBounds_ne e, hC.out j hj]
              unfold done
              by_cases c : j < n
              · rw [if_pos c, if_pos (by omega)]
              · rw [if_neg c, if_neg (by omega)]
    · have c1 : decide ((n : Int) < (s.size : Int)) = false := decide_eq_false (by omega)
      have hns : n = s.size := by omega
      rcases hrel with ⟨rfl, hs⟩ | hR
      · go_wp2
        go_ret
        rw [map_same (fun j hj => hs.out j (by omega))]
        exact ⟨rfl, HB.out⟩
      · obtain ⟨g, cap, C, rfl, hg, hH, hC⟩ := hR.out
        have hconv : (convert 79 9 (.slice (some ⟨g, 0, none⟩) s.size cap)).run Tryz.prog wr = .ok (.string (strOfNums ((bytesOf s).map swapI))) wr := by
          refine run_convert_bytes_arg wr 79 5 Tryz.underlying79 Tryz.underlying5 g 0 s.size cap _ (by rw [List.length_map, bytesOf_length]) (fun i hi => ?_) 9 Tryz.underlying9
          rw [Nat.zero_add, (mark_cell hH (hC i hi)).1, map_get hi]
          unfold done
          rw [if_pos (by omega)]
        clear hR hH hC hg
        go_wp2
        go_ret
        exact ⟨rfl, HB.out⟩
end Go.Proofs.YtliachoefnplbaaGreat.Repl
