/- What Go's strings.NewReplacer and its Replace compute for the pairs L R, R L: once made, the table is laid behind the once; the text is walked over it. No condition beyond what each theorem names. -/
import Derived.Test.YtliachoefnplbaaGreatRepl3
import Derived.Test.YtliachoefnplbaaGreatWRepsOne
namespace Go.Proofs.YtliachoefnplbaaGreat.Repl
open Go.RowKit Go.Proofs.YtliachoefnplbaaGreatW.PrintWords Go.Proofs.YtliachoefnplbaaGreatW.PrintLast Go.Proofs.YtliachoefnplbaaGreatW.PrintMore
set_option linter.unusedVariables false
set_option linter.unusedSimpArgs false

theorem load_calls (a : Addr) (d : Int) (w : World) (hc : w.cell? a = some (.int .u32 d)) :
    Calls Tryz.prog 43 #[.pointer (some a)] w fun e w' => e = .returned (.bool (d != 0)) ∧ w' = w := by
  have hl := run_call_load (P := Tryz.prog) Tryz.func50 (by kernel_rfl) (by kernel_rfl) (by kernel_rfl) .u32 (by kernel_rfl) hc
  go_enter Tryz.func43, Tryz.ntmps43
  go_wp2
  go_ret
  exact ⟨rfl, rfl⟩
/-- the Replacer's block -/
def Rep (w : World) (g : Nat) (d s q i o : Value) : Prop := w.heap[g]? = some (.cells #[d, s, q, i, o] 77 (0, 0))

set_option maxHeartbeats 4000000 in
set_option maxRecDepth 100000 in
theorem once_calls (g b2 c2 : Nat) (d0 d1 d2 d3 : Value) (w : World) (hg : w.heap[g]? = some (.cells #[d0, d1, d2, d3, .slice (some ⟨b2, 0, none⟩) 4 c2] 77 (0, 0)))
    (hc : ∀ i : Nat, ∀ s : ByteArray, ([⟨#[76]⟩, ⟨#[82]⟩, ⟨#[82]⟩, ⟨#[76]⟩] : List ByteArray)[i]? = some s → w.cell? ⟨b2, i, none⟩ = some (.string s)) :
    Calls Tryz.prog 41 #[.pointer (some ⟨g, 0, none⟩)] w fun e w' => ∃ a, e = .returned (.tuple #[]) ∧ g < a ∧ w'.heap[a]? = some (.cells table 95 (0, 0)) ∧
      w'.heap[g]? = some (.cells #[d0, d1, d2, .iface 96 (.pointer (some ⟨a, 0, none⟩)), .slice none 0 0] 77 (0, 0)) ∧ Below g w w' := by
  have hlt := blk_lt hg
  go_enter Tryz.func41, Tryz.ntmps41
  go_wp2_with (go_at_call 45; refine (build_calls g b2 c2 d0 d1 d2 d3 _ hg hc).mono ?_; rintro e w1 ⟨a, rfl, ha, hb, hB⟩; have hG := blk_below hg hB; have hz3 := (blk_cell hG 3).trans rfl; have hf3 := blk_frozen hG 3; have hz4 : w1.cell? ⟨g, 4, none⟩ = some _ := (blk_cell hG 4).trans rfl; have hf4 := blk_frozen hG 4)
  go_end0
  exact ⟨a, rfl, by omega, blk_far (blk_far hb (by show a ≠ g; omega) _) (by show a ≠ g; omega) _, blk_set (blk_set hG 3 _) 4 _, ((hB.mono (Nat.le_of_lt hlt)).setCell (Nat.le_refl _) _).setCell (Nat.le_refl _) _⟩

set_option maxHeartbeats 4000000 in
set_option maxRecDepth 100000 in
theorem slow_calls (g b2 c2 : Nat) (d2 d3 : Value) (w : World) (hg : w.heap[g]? = some (.cells #[.int .u32 0, .int .i32 0, d2, d3, .slice (some ⟨b2, 0, none⟩) 4 c2] 77 (0, 0))) (hne : b2 ≠ g)
    (hc : ∀ i : Nat, ∀ s : ByteArray, ([⟨#[76]⟩, ⟨#[82]⟩, ⟨#[82]⟩, ⟨#[76]⟩] : List ByteArray)[i]? = some s → w.cell? ⟨b2, i, none⟩ = some (.string s)) :
    Calls Tryz.prog 44 #[.pointer (some ⟨g, 0, none⟩), .func (.func 41) #[.pointer (some ⟨g, 0, none⟩)] #[]] w fun e w' => ∃ a, e = .returned (.tuple #[]) ∧ g < a ∧ w'.heap[a]? = some (.cells table 95 (0, 0)) ∧
      w'.heap[g]? = some (.cells #[.int .u32 1, .int .i32 0, d2, .iface 96 (.pointer (some ⟨a, 0, none⟩)), .slice none 0 0] 77 (0, 0)) ∧ Below g w w' := by
  have hz1 : w.cell? ⟨g, 1, none⟩ = some (.int .i32 0) := (blk_cell hg 1).trans rfl
  have hf1 := blk_frozen hg 1
  have hg1 : (w.setCell ⟨g, 1, none⟩ (.int .i32 1)).heap[g]? = some (.cells #[.int .u32 0, .int .i32 1, d2, d3, .slice (some ⟨b2, 0, none⟩) 4 c2] 77 (0, 0)) := blk_set hg 1 _
  have hB1 : Below g w (w.setCell ⟨g, 1, none⟩ (.int .i32 1)) := (Below.refl g w).setCell (Nat.le_refl _) _
  have hc1 : ∀ i : Nat, ∀ s : ByteArray, ([⟨#[76]⟩, ⟨#[82]⟩, ⟨#[82]⟩, ⟨#[76]⟩] : List ByteArray)[i]? = some s → (w.setCell ⟨g, 1, none⟩ (.int .i32 1)).cell? ⟨b2, i, none⟩ = some (.string s) := fun i s h => (World.cell?_setCell_other _ _ _ _ (fun e => hne (congrArg Addr.block e).symm)).trans (hc i s h)
  have hz0 : (w.setCell ⟨g, 1, none⟩ (.int .i32 1)).cell? ⟨g, 0, none⟩ = some (.int .u32 0) := (blk_cell hg1 0).trans rfl
  have hnot : ∀ (x : Bool) (w : World), (Op.unary .not (.bool x)).run Tryz.prog w = .ok (.bool (!x)) w := fun _ _ => rfl
  go_enter_defers Tryz.func44, Tryz.ntmps44
  go_wp2_with (first
    | (go_at_call 51; refine (lock_free ⟨g, 1, none⟩ _ hz1 hf1).mono ?_; rintro e w' ⟨rfl, rfl⟩)
    | (go_at_call 43; refine (load_calls ⟨g, 0, none⟩ 0 _ hz0).mono ?_; rintro e w' ⟨rfl, rfl⟩)
    | (go_at_call 41; refine (once_calls g b2 c2 (.int .u32 0) (.int .i32 1) d2 d3 _ hg1 hc1).mono ?_; rintro e w2 ⟨a, rfl, ha, hT, hG, hB⟩))
  refine leaves_cons (f := 53) (args := #[.pointer (some ⟨g, 0, none⟩), .bool true]) (by simp) (by simp [go_sem]) ?_
  refine (store_deferred ⟨g, 0, none⟩ (.int .u32 0) .returning _ ((blk_cell hG 0).trans rfl) (blk_frozen hG 0)).mono ?_
  rintro e u' w'' ⟨rfl, rfl, rfl⟩
  have hG2 : (w2.drew.setCell ⟨g, 0, none⟩ (.int .u32 1)).heap[g]? = some (.cells #[.int .u32 1, .int .i32 1, d2, .iface 96 (.pointer (some ⟨a, 0, none⟩)), .slice none 0 0] 77 (0, 0)) := blk_set (blk_drew hG) 0 _
  refine leaves_cons (f := 52) (args := #[.pointer (some ⟨g, 1, none⟩)]) (by simp [settle]) (by simp [go_sem]) ?_
  refine (unlock_deferred ⟨g, 1, none⟩ _ _ ((blk_cell hG2 1).trans rfl) (blk_frozen hG2 1)).mono ?_
  rintro e u' w'' ⟨rfl, rfl, rfl⟩
  have hG3 : ((w2.drew.setCell ⟨g, 0, none⟩ (.int .u32 1)).setCell ⟨g, 1, none⟩ (.int .i32 0)).heap[g]? = some (.cells #[.int .u32 1, .int .i32 0, d2, .iface 96 (.pointer (some ⟨a, 0, none⟩)), .slice none 0 0] 77 (0, 0)) := blk_set hG2 1 _
  have hT3 : ((w2.drew.setCell ⟨g, 0, none⟩ (.int .u32 1)).setCell ⟨g, 1, none⟩ (.int .i32 0)).heap[a]? = some (.cells table 95 (0, 0)) := blk_far (blk_far (blk_drew hT) (by show a ≠ g; omega) _) (by show a ≠ g; omega) _
  have hB3 : Below g w ((w2.drew.setCell ⟨g, 0, none⟩ (.int .u32 1)).setCell ⟨g, 1, none⟩ (.int .i32 0)) := ((hB1.trans hB).drew.setCell (Nat.le_refl _) _).setCell (Nat.le_refl _) _
  exact ⟨_, results_none rfl _ _ _, a, rfl, ha, hT3, hG3, hB3⟩

set_option maxHeartbeats 4000000 in
set_option maxRecDepth 100000 in
theorem do_calls (g b2 c2 : Nat) (d2 d3 : Value) (w : World) (hg : w.heap[g]? = some (.cells #[.int .u32 0, .int .i32 0, d2, d3, .slice (some ⟨b2, 0, none⟩) 4 c2] 77 (0, 0))) (hne : b2 ≠ g)
    (hc : ∀ i : Nat, ∀ s : ByteArray, ([⟨#[76]⟩, ⟨#[82]⟩, ⟨#[82]⟩, ⟨#[76]⟩] : List ByteArray)[i]? = some s → w.cell? ⟨b2, i, none⟩ = some (.string s)) :
    Calls Tryz.prog 40 #[.pointer (some ⟨g, 0, none⟩), .func (.func 41) #[.pointer (some ⟨g, 0, none⟩)] #[]] w fun e w' => ∃ a, e = .returned (.tuple #[]) ∧ g < a ∧ w'.heap[a]? = some (.cells table 95 (0, 0)) ∧
      w'.heap[g]? = some (.cells #[.int .u32 1, .int .i32 0, d2, .iface 96 (.pointer (some ⟨a, 0, none⟩)), .slice none 0 0] 77 (0, 0)) ∧ Below g w w' := by
  have hz0 : w.cell? ⟨g, 0, none⟩ = some (.int .u32 0) := (blk_cell hg 0).trans rfl
  have hnot : ∀ (x : Bool) (w : World), (Op.unary .not (.bool x)).run Tryz.prog w = .ok (.bool (!x)) w := fun _ _ => rfl
  go_enter Tryz.func40, Tryz.ntmps40
  go_wp2_with (first
    | (go_at_call 43; refine (load_calls ⟨g, 0, none⟩ 0 _ hz0).mono ?_; rintro e w' ⟨rfl, rfl⟩)
    | (go_at_call 44; refine (slow_calls g b2 c2 d2 d3 _ hg hne hc).mono ?_; rintro e w2 ⟨a, rfl, ha, hT, hG, hB⟩))
  go_end0
  exact ⟨a, rfl, ha, hT, hG, hB⟩

set_option maxHeartbeats 4000000 in
set_option maxRecDepth 100000 in
theorem replace_calls (g b2 c2 : Nat) (d2 d3 : Value) (s : ByteArray) (w : World) (hsz : s.size ≤ 1000000000) (hg : w.heap[g]? = some (.cells #[.int .u32 0, .int .i32 0, d2, d3, .slice (some ⟨b2, 0, none⟩) 4 c2] 77 (0, 0))) (hne : b2 ≠ g)
    (hc : ∀ i : Nat, ∀ s : ByteArray, ([⟨#[76]⟩, ⟨#[82]⟩, ⟨#[82]⟩, ⟨#[76]⟩] : List ByteArray)[i]? = some s → w.cell? ⟨b2, i, none⟩ = some (.string s)) :
    Calls Tryz.prog 33 #[.pointer (some ⟨g, 0, none⟩), .string s] w fun e w' => e = .returned (.string (strOfNums ((bytesOf s).map swapI))) ∧ Below g w w' := by
  have hmf : ∀ (fn : Fn) (first cap : Array Value) (w : World), (Instr.makeFunc fn first cap).run Tryz.prog w = .ok (.func fn first cap) w := fun _ _ _ _ => rfl
  have hmeth : ∀ (k : Nat) (p : Value) (w : World), (method (k + 1) 96 p "Replace").run Tryz.prog w = .ok (112, p) w := fun k p w => by kernel_rfl
  go_enter Tryz.func33, Tryz.ntmps33
  go_wp2_with (first
    | (go_at_call 40; refine (do_calls g b2 c2 d2 d3 _ hg hne hc).mono ?_; rintro e w2 ⟨a, rfl, ha, hT, hG, hB⟩; have hz3 : w2.cell? ⟨g, 3, none⟩ = some (.iface 96 (.pointer (some ⟨a, 0, none⟩))) := (blk_cell hG 3).trans rfl)
    | (go_at_call 112; refine (bytes_calls a s _ hsz hT).mono ?_; rintro e w3 ⟨rfl, hB3⟩))
  go_ret
  exact ⟨rfl, hB.trans (hB3.mono (Nat.le_of_lt (blk_lt hG)))⟩

theorem info_string : (Tryz.prog.info? 9).map (fun i => (i.zero, i.size, i.bytes)) = some (some (.string ByteArray.empty), 1, 16) := by kernel_rfl
abbrev pairs : List ByteArray := [⟨#[76]⟩, ⟨#[82]⟩, ⟨#[82]⟩, ⟨#[76]⟩]
set_option maxHeartbeats 4000000 in
set_option maxRecDepth 100000 in
theorem new_calls (A : Option Addr) (c : Nat) (w : World) (hr : Kd.C Kd.string w A 4 pairs) :
    Calls Tryz.prog 32 #[.slice A 4 c] w fun e w' => ∃ g b2 c2, e = .returned (.pointer (some ⟨g, 0, none⟩)) ∧ w.heap.size ≤ g ∧ b2 ≠ g ∧ w'.heap[g]? = some (.cells #[.int .u32 0, .int .i32 0, .int .u32 0, .nilIface, .slice (some ⟨b2, 0, none⟩) 4 c2] 77 (0, 0)) ∧
      (∀ i : Nat, ∀ s : ByteArray, pairs[i]? = some s → w'.cell? ⟨b2, i, none⟩ = some (.string s)) ∧ Below w.heap.size w w' := by
  have HC := Aside0.mk hr
  clear hr
  go_enter Tryz.func32, Tryz.ntmps32
  go_wp2_with (first
    | ((with_reducible refine gate_builtin (b := .append) (xs := #[.const (.slice none 0 0), .tmp 8]) rfl ?_); at_builtin; refine Kd.R_append_row Value.string ByteArray.empty (h1 := fun _ => rfl) (w0 := w) w.heap.size rfl (.const (.slice none 0 0)) (.tmp 8) 61 9 (.string ByteArray.empty) 16 rfl Tryz.underlying61 info_string rfl (by decide) (.slice none 0 0) [] pairs A 4 c (fun _ => True) rfl rfl (fun _ _ => trivial) (Kd.R_nil _ _ _ _ _) HC.out (Below.refl _ _) (Nat.le_refl _) (by decide) ?_; intro v1 w1 ho hb hg hat; obtain ⟨b2, c2, rfl, hbb, hlt, cells, hh⟩ := Kd.R_form ho (by decide); have HO := Aside0.mk (show Kd.R Kd.string 9 w1 w.heap.size (fun _ => True) (.slice (some ⟨b2, 0, none⟩) 4 c2) pairs from ho); have HB := Aside0.mk hb; clear ho hb hg hat hh)
    | ((with_reducible refine gate_dst (N := 11) rfl ?_); refine box_event ?hg (N := 11) ?hd (cs := #[.int .u32 0, .int .i32 0, .int .u32 0, .nilIface, .slice (some ⟨b2, 0, none⟩) 4 c2]) (t := 77) ?hr ?_; (case hd => rfl); (case hg => rfl); (case hr => first | (go_simp; done) | (go_simp; rfl)); intro g hg w6 hbox hb))
  subst hg
  go_ret
  refine ⟨_, b2, c2, rfl, HB.out.size, by omega, hbox, fun i s hs => ?_, below_step HB.out hb⟩
  have hi : i < pairs.length := (List.getElem?_eq_some_iff.1 hs).1
  have h1 := (Kd.R_celln (enc := Value.string) (h1 := fun _ => rfl) ByteArray.empty HO.out (i : Int) (by omega) (by have : pairs.length = 4 := rfl; omega)).1
  rw [Int.toNat_natCast] at h1
  refine cell_later hb (h1.trans ?_)
  unfold rdOf
  rw [Int.toNat_natCast, List.getD_eq_getElem?_getD, hs]
  rfl

set_option maxHeartbeats 4000000 in
set_option maxRecDepth 100000 in
/-- the program's exchange of L and R -/
theorem other_calls (s : ByteArray) (w : World) (hsz : s.size ≤ 1000000000) :
    Calls Tryz.prog 17 #[.string s] w fun e w' => e = .returned (.string (strOfNums ((bytesOf s).map swapI))) ∧ Below w.heap.size w w' := by
  go_enter Tryz.func17, Tryz.ntmps17
  go_wp2_with (first
    | ((with_reducible refine gate_dst (N := 3) rfl ?_); refine Kd.R_lit Kd.string _ 9 ?hg (N := 3) ?hd (xs := ([⟨#[76]⟩, ⟨#[82]⟩, ⟨#[82]⟩, ⟨#[76]⟩] : List ByteArray)) (inner := [.string (⟨#[76]⟩ : ByteArray), .string (⟨#[82]⟩ : ByteArray), .string (⟨#[82]⟩ : ByteArray), .string (⟨#[76]⟩ : ByteArray)]) (ok := fun _ => True) (okp := fun _ => True) ?hr ?hp (fun _ hk => hk) trivial (Below.refl _ _) (Nat.le_refl _) (by simp) ?_; (case hd => rfl); (case hg => rfl); (case hr => first | (go_simp; done) | (go_simp; rfl)); (case hp => exact (Reps.one (show Kd.M Kd.string _ _ _ (⟨#[76]⟩ : ByteArray) [.string (⟨#[76]⟩ : ByteArray)] from rfl) (Reps.one (show Kd.M Kd.string _ _ _ (⟨#[82]⟩ : ByteArray) [.string (⟨#[82]⟩ : ByteArray)] from rfl) (Reps.one (show Kd.M Kd.string _ _ _ (⟨#[82]⟩ : ByteArray) [.string (⟨#[82]⟩ : ByteArray)] from rfl) (Reps.one (show Kd.M Kd.string _ _ _ (⟨#[76]⟩ : ByteArray) [.string (⟨#[76]⟩ : ByteArray)] from rfl) (Reps.none _ _)))))); intro v1 w1 ho hb hg_ hnew_; clear hg_ hnew_; obtain ⟨A, c, rfl⟩ := Kd.R_slice ho; have HO := Aside0.mk ho; have HB := Aside0.mk hb; clear ho hb)
    | (go_at_call 32; refine (new_calls A c _ (Kd.R_reads' HO.out).2.2).mono ?_; rintro e w2 ⟨g, b2, c2, rfl, hg, hne, hG, hc, hB2⟩; have HB2 := Aside0.mk (below_step HB.out hB2); have HG := Aside0.mk (Nat.le_trans HB.out.size hg); clear hB2 hg)
    | (go_at_call 33; refine (replace_calls g b2 c2 (.int .u32 0) .nilIface s _ hsz hG hne hc).mono ?_; rintro e w3 ⟨rfl, hB3⟩))
  go_ret
  exact ⟨rfl, HB2.out.trans (hB3.mono HG.out)⟩
end Go.Proofs.YtliachoefnplbaaGreat.Repl
