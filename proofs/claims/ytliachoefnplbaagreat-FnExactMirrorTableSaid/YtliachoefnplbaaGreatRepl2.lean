/- What Go's strings.Replacer of single bytes computes: the making of its table for the pairs L R, R L. No condition beyond what each theorem names. -/
import Derived.Test.YtliachoefnplbaaGreatRepl1
import Derived.Deep.WholeRow
namespace Go.Proofs.YtliachoefnplbaaGreat.Repl
open Go.RowKit Go.Proofs.YtliachoefnplbaaGreatW.PrintWords Go.Proofs.YtliachoefnplbaaGreatW.PrintLast Go.Proofs.YtliachoefnplbaaGreatW.PrintMore
set_option linter.unusedVariables false
set_option linter.unusedSimpArgs false

def zeros : Array Value := Array.replicate 256 (.int .u8 0)
def upTo (n : Nat) : Array Value := Array.ofFn (n := 256) fun i => if i.val < n then .int .u8 (i.val : Int) else .int .u8 0
theorem zeros_size : zeros.size = 256 := by simp [zeros]
theorem upTo_size (n : Nat) : (upTo n).size = 256 := by simp [upTo]
theorem upTo_get {n i : Nat} (h : i < 256) : (upTo n)[i]? = some (if i < n then .int .u8 (i : Int) else .int .u8 0) := by
  simp [upTo, h]
theorem upTo_zero : upTo 0 = zeros := by
  apply Array.ext
  · simp [upTo, zeros]
  · intro i h1 h2
    simp [upTo, zeros]
theorem upTo_set {n : Nat} (h : n < 256) : (upTo n).setIfInBounds n (.int .u8 (n : Int)) = upTo (n + 1) := by
  apply Array.ext_getElem?
  intro i
  rw [Array.getElem?_setIfInBounds]
  by_cases hi : i < 256
  · rw [upTo_get hi, upTo_get hi]
    by_cases e : n = i
    · subst e
      rw [if_pos rfl, if_pos (by rw [upTo_size]; exact h), if_pos (by omega)]
    · rw [if_neg e]
      by_cases c : i < n
      · rw [if_pos c, if_pos (by omega)]
      · rw [if_neg c, if_neg (by omega)]
  · rw [if_neg (by omega), Array.getElem?_eq_none (by rw [upTo_size]; omega), Array.getElem?_eq_none (by rw [upTo_size]; omega)]
/-- the byte that stands for a byte -/
def swap (b : Nat) : Nat := if b = 76 then 82 else if b = 82 then 76 else b
def table : Array Value := ((upTo 256).setIfInBounds 82 (.int .u8 76)).setIfInBounds 76 (.int .u8 82)
theorem table_get {b : Nat} (h : b < 256) : table[b]? = some (.int .u8 (swap b : Int)) := by
  unfold table swap
  rw [Array.getElem?_setIfInBounds, Array.getElem?_setIfInBounds, upTo_get h]
  by_cases c : b = 76
  · subst c
    rw [if_pos rfl, if_pos (by simp [upTo_size]), if_pos rfl]
    rfl
  · rw [if_neg (fun e => c e.symm), if_neg c]
    by_cases c2 : b = 82
    · subst c2
      rw [if_pos rfl, if_pos (by simp [upTo_size]), if_pos rfl]
      rfl
    · rw [if_neg (fun e => c2 e.symm), if_neg c2, if_pos h]
theorem alloc_table (w : World) : (Instr.alloc 95 true (.tuple #[])).run Tryz.prog w = .ok (.pointer (some ⟨w.heap.size, 0, none⟩)) (w.alloc (.cells zeros 95 (0, 0))) := by kernel_rfl
theorem build_table (w : World) : (Instr.build 95 #[]).run Tryz.prog w = .ok (.agg zeros) w := by kernel_rfl
theorem store_table (w : World) : (Instr.storeAt 95 (.pointer (some ⟨w.heap.size, 0, none⟩)) (.agg zeros)).run Tryz.prog (w.alloc (.cells zeros 95 (0, 0))) = .ok () (w.alloc (.cells zeros 95 (0, 0))) := by
  exact run_storeVar_new (P := Tryz.prog) w 95 zeros zeros (by kernel_rfl) rfl (by kernel_rfl)

theorem cell_later {w w' : World} {a : Addr} {v : Value} (h : Below w.heap.size w w') (hc : w.cell? a = some v) : w'.cell? a = some v := by
  refine (h.cell ?_).trans hc
  unfold World.cell? at hc
  cases hq : w.heap[a.block]? with
  | none => simp [hq] at hc
  | some o => exact blk_lt hq
theorem store_run (w : World) : (do Instr.storeAt 95 (.pointer (some ⟨w.heap.size, 0, none⟩)) (.agg zeros); pure Next.skip : Sem Next).run Tryz.prog (w.alloc (.cells zeros 95 (0, 0))) = .ok .skip (w.alloc (.cells zeros 95 (0, 0))) := by
  have := store_table w
  rw [Sem.run_bind, this]
  rfl
set_option maxHeartbeats 4000000 in
set_option maxRecDepth 100000 in
theorem build_calls (g b2 c2 : Nat) (d0 d1 d2 d3 : Value) (w : World) (hg : w.heap[g]? = some (.cells #[d0, d1, d2, d3, .slice (some ⟨b2, 0, none⟩) 4 c2] 77 (0, 0)))
    (hc : ∀ i : Nat, ∀ s : ByteArray, ([⟨#[76]⟩, ⟨#[82]⟩, ⟨#[82]⟩, ⟨#[76]⟩] : List ByteArray)[i]? = some s → w.cell? ⟨b2, i, none⟩ = some (.string s)) :
    Calls Tryz.prog 45 #[.pointer (some ⟨g, 0, none⟩)] w fun e w' => ∃ a, e = .returned (.iface 96 (.pointer (some ⟨a, 0, none⟩))) ∧ w.heap.size ≤ a ∧ w'.heap[a]? = some (.cells table 95 (0, 0)) ∧ Below w.heap.size w w' := by
  have hz4 : w.cell? ⟨g, 4, none⟩ = some (.slice (some ⟨b2, 0, none⟩) 4 c2) := (blk_cell hg 4).trans rfl
  have k0 := hc 0 _ rfl
  have k1 := hc 1 _ rfl
  have k2 := hc 2 _ rfl
  have k3 := hc 3 _ rfl
  have HC := Aside0.mk hc
  clear hc
  have HG := Aside0.mk hg
  clear hg
  go_enter Tryz.func45, Tryz.ntmps45
  go_wp2
  go_loopg [4, 5] 3 (fun kq v4 v5 w' => ∃ n : Nat, v4 = .bool true ∧ v5 = .int .i64 (2 * n : Nat) ∧ n + kq = 3 ∧ 1 ≤ kq ∧ w = w')
  case atStart => exact ⟨0, rfl, rfl, rfl, by omega, rfl⟩
  case round =>
    obtain ⟨n, rfl, rfl, hn, hk, rfl⟩ := hrel
    have hn3 : n = 0 ∨ n = 1 ∨ n = 2 := by omega
    rcases hn3 with rfl | rfl | rfl
    · obtain rfl : gk = 3 := by omega
      go_wp2
      go_roundg 2
      case measure => omega
      case rel => exact ⟨1, rfl, rfl, rfl, by omega, rfl⟩
    · obtain rfl : gk = 2 := by omega
      go_wp2
      go_roundg 1
      case measure => omega
      case rel => exact ⟨2, rfl, rfl, rfl, by omega, rfl⟩
    · clear hk hn
      go_wp2_with (first
        | ((with_reducible refine gate_dst (N := 60) rfl ?_); refine Kd.event_run rfl (v := .agg zeros) (w1 := w) (by kernel_rfl) ?_)
        | ((with_reducible refine gate_dst (N := 6) rfl ?_); refine Kd.event_run rfl (v := .pointer (some ⟨w.heap.size, 0, none⟩)) (w1 := w.alloc (.cells zeros 95 (0, 0))) (by kernel_rfl) ?_)
        | ((with_reducible refine gate_store (t := 95) (p := 6) (v := .tmp 60) rfl ?_); refine store_event rfl rfl rfl (w1 := w.alloc (.cells zeros 95 (0, 0))) (store_run w) ?_; rintro w' rfl))
      have hb0 : (w.alloc (.cells zeros 95 (0, 0))).heap[w.heap.size]? = some (.cells (upTo 0) 95 (0, 0)) := by rw [upTo_zero]; exact blk_new _ _
      have hB0 := Aside0.mk (below_alloc (Below.refl w.heap.size w) (.cells zeros 95 (0, 0)))
      replace hb0 := Aside0.mk hb0
      go_loopg [61] 256 (fun kq v61 w' => ∃ n : Nat, v61 = .int .i64 (n : Int) ∧ n + kq = 256 ∧ Aside0 (w'.heap[w.heap.size]? = some (.cells (upTo n) 95 (0, 0))) ∧ Aside0 (Below w.heap.size w w'))
      case atStart => exact ⟨0, rfl, rfl, hb0, hB0⟩
      case round =>
        clear hb0 hB0
        obtain ⟨n, rfl, hn, hb, hB⟩ := hrel
        by_cases hlt : n < 256
        · have c1 : decide ((n : Int) < 256) = true := decide_eq_true (by omega)
          have p1 : (0 ≤ (n : Int)) = True := eq_true (by omega)
          have p2 : ((n : Int) < 256) = True := eq_true (by omega)
          have hwr : IntKind.u8.wrap (n : Int) = n := by simp [IntKind.wrap, IntKind.signed, IntKind.bits]; omega
          have hcell := (blk_cell hb.out n).trans (upTo_get hlt)
          rw [if_neg (by omega)] at hcell
          have hfz := blk_frozen hb.out n
          obtain ⟨k1, rfl⟩ : ∃ k1, gk = k1 + 1 := ⟨gk - 1, by omega⟩
          go_wp2
          go_roundg k1
          case measure => omega
          case rel => exact ⟨n + 1, rfl, by omega, ⟨by rw [← upTo_set hlt]; exact blk_set hb.out n _⟩, ⟨below_set hB.out (Nat.le_refl _)⟩⟩
        · obtain rfl : n = 256 := by omega
          clear hn hlt
          have e82 : (({ data := #[82] } : ByteArray)[0]'(by decide)).toNat = 82 := rfl
          have e76 : (({ data := #[76] } : ByteArray)[0]'(by decide)).toNat = 76 := rfl
          go_wp2
          go_loopg [8] 3 (fun kq v8 w' => (kq = 3 ∧ v8 = .int .i64 2 ∧ Aside0 (w'.heap[w.heap.size]? = some (.cells (upTo 256) 95 (0, 0))) ∧ Aside0 (Below w.heap.size w w')) ∨ (kq = 2 ∧ v8 = .int .i64 0 ∧ Aside0 (w'.heap[w.heap.size]? = some (.cells ((upTo 256).setIfInBounds 82 (.int .u8 76)) 95 (0, 0))) ∧ Aside0 (Below w.heap.size w w')) ∨ (kq = 1 ∧ v8 = .int .i64 (-2) ∧ Aside0 (w'.heap[w.heap.size]? = some (.cells table 95 (0, 0))) ∧ Aside0 (Below w.heap.size w w')))
          case atStart => exact .inl ⟨rfl, rfl, hb, hB⟩
          case round =>
            clear hb hB
            rcases hrel with ⟨rfl, rfl, hb, hB⟩ | ⟨rfl, rfl, hb, hB⟩ | ⟨rfl, rfl, hb, hB⟩
            · have k0' := cell_later hB.out k0
              have k1' := cell_later hB.out k1
              have k2' := cell_later hB.out k2
              have k3' := cell_later hB.out k3
              have hcell := (blk_cell hb.out 82).trans (upTo_get (by decide))
              have hfz := blk_frozen hb.out 82
              go_wp2
              go_roundg 2
              case measure => omega
              case rel => exact .inr (.inl ⟨rfl, rfl, ⟨blk_set hb.out 82 _⟩, ⟨below_set hB.out (Nat.le_refl _)⟩⟩)
            · have k0' := cell_later hB.out k0
              have k1' := cell_later hB.out k1
              have k2' := cell_later hB.out k2
              have k3' := cell_later hB.out k3
              have hcell : wr.cell? ⟨w.heap.size, 76, none⟩ = some (.int .u8 76) := (blk_cell hb.out 76).trans (by rw [Array.getElem?_setIfInBounds_ne (by decide)]; exact upTo_get (by decide))
              have hfz := blk_frozen hb.out 76
              go_wp2
              go_roundg 1
              case measure => omega
              case rel => exact .inr (.inr ⟨rfl, rfl, ⟨blk_set hb.out 76 _⟩, ⟨below_set hB.out (Nat.le_refl _)⟩⟩)
            · go_wp2
              go_ret
              exact ⟨_, rfl, Nat.le_refl _, hb.out, hB.out⟩
end Go.Proofs.YtliachoefnplbaaGreat.Repl
