/- Plain lemmas on numbers, bytes and rounds, in the printed texts' words. No program in sight. No condition. -/
import Derived.Test.YtoaekaehpnjpaaaDoorWWords
import Derived.RowKit
namespace Go.Proofs.YtoaekaehpnjpaaaDoor.Pl
open Go.RowKit Go.Proofs.YtoaekaehpnjpaaaDoorW.PrintWords
set_option linter.unusedVariables false

theorem wf_i64 {a : Int} (h : (Lit.int .i64 a).wf = true) : -9223372036854775808 ≤ a ∧ a ≤ 9223372036854775807 := by
  simpa [Lit.wf, IntKind.min, IntKind.max, IntKind.signed, IntKind.bits] using h
theorem le_max {a : ByteArray} (h : a.size ≤ maxLen) : a.size ≤ 9223372036854775807 := h

theorem w64 {n : Int} (h1 : -9223372036854775808 ≤ n) (h2 : n ≤ 9223372036854775807) : wrap64 n = n := by
  unfold wrap64
  omega

/-! tests that linear arithmetic decides (the discharger proves the premise) -/
theorem lt_t {a b : Int} (h : a < b) : (a < b) = True := eq_true h
theorem lt_f {a b : Int} (h : b ≤ a) : (a < b) = False := eq_false (by omega)
theorem le_t {a b : Int} (h : a ≤ b) : (a ≤ b) = True := eq_true h
theorem le_f {a b : Int} (h : b < a) : (a ≤ b) = False := eq_false (by omega)
theorem ge_t {a b : Int} (h : b ≤ a) : (a ≥ b) = True := eq_true h
theorem ge_f {a b : Int} (h : a < b) : (a ≥ b) = False := eq_false (by omega)
theorem gt_t {a b : Int} (h : b < a) : (a > b) = True := eq_true h
theorem gt_f {a b : Int} (h : a ≤ b) : (a > b) = False := eq_false (by omega)
theorem eq_t {a b : Int} (h : a = b) : (a = b) = True := eq_true h
theorem eq_f {a b : Int} (h : a ≠ b) : (a = b) = False := eq_false h
theorem nlt_t {a b : Nat} (h : a < b) : (a < b) = True := eq_true h
theorem nle_t {a b : Nat} (h : a ≤ b) : (a ≤ b) = True := eq_true h

/-! rounds -/
theorem ev_unf {α : Type} {g : Nat → Option α} {r : α} (h : ∃ K, ∀ k, K ≤ k → g (k + 1) = some r) : Ev g r := by
  obtain ⟨K, h⟩ := h
  refine ⟨K + 1, fun n hn => ?_⟩
  obtain ⟨m, rfl⟩ : ∃ m, n = m + 1 := ⟨n - 1, by omega⟩
  exact h m (by omega)
theorem ev_all {α : Type} {g : Nat → Option α} {r : α} (h : ∀ k, g k = some r) : Ev g r := ⟨0, fun k _ => h k⟩
theorem ev_at {α : Type} {g : Nat → Option α} {r : α} (h : Ev g r) : ∃ K, ∀ k, K ≤ k → g k = some r := h
theorem ev_of {α : Type} {g : Nat → Option α} {r : α} (K : Nat) (h : ∀ k, K ≤ k → g k = some r) : Ev g r := ⟨K, h⟩

theorem bnd {α β : Type} {x : Option α} {a : α} (h : x = some a) (g : α → Option β) : x.bind g = g a := by rw [h]; rfl

/-! division -/
theorem tmod_nn {a b : Int} (h : 0 ≤ a) : Int.tmod a b = a % b := Int.tmod_eq_emod_of_nonneg h
theorem tdiv_nn {a b : Int} (h : 0 ≤ a) : Int.tdiv a b = a / b := Int.tdiv_eq_ediv_of_nonneg h
theorem tmod_emod (n m : Int) : Int.tmod n m % m = n % m := by
  rw [Int.tmod_def, Int.sub_mul_emod_self_left]
theorem mod_lo {a b : Int} (h : 0 < b) : 0 ≤ a % b := Int.emod_nonneg _ (by omega)
theorem mod_hi {a b : Int} (h : 0 < b) : a % b < b := Int.emod_lt_of_pos _ h
theorem node_mod {x y w : Int} (h0 : 0 ≤ x) (h1 : x < w) : (y * w + x) % w = x := by
  rw [Int.add_comm, Int.add_mul_emod_self_right, Int.emod_eq_of_lt h0 h1]
theorem node_div {x y w : Int} (h0 : 0 ≤ x) (h1 : x < w) : (y * w + x) / w = y := by
  rw [Int.add_comm, Int.add_mul_ediv_right _ _ (by omega), Int.ediv_eq_zero_of_lt h0 h1, Int.zero_add]
theorem node_lt {x y w h : Int} (h0 : 0 ≤ x) (h1 : x < w) (h2 : 0 ≤ y) (h3 : y < h) : 0 ≤ y * w + x ∧ y * w + x < w * h := by
  have a : 0 ≤ y * w := Int.mul_nonneg h2 (by omega)
  have b : y * w ≤ (h - 1) * w := Int.mul_le_mul_of_nonneg_right (by omega) (by omega)
  have c : (h - 1) * w = w * h - w := by rw [Int.sub_mul, Int.mul_comm h w, Int.one_mul]
  omega
theorem mul_in {a b A B : Int} (h0 : 0 ≤ a) (h1 : a ≤ A) (h2 : 0 ≤ b) (h3 : b ≤ B) : 0 ≤ a * b ∧ a * b ≤ A * B :=
  ⟨Int.mul_nonneg h0 h2, Int.mul_le_mul h1 h3 h2 (by omega)⟩
theorem node_at {n w h : Int} (hw : 0 < w) (h0 : 0 ≤ n) (h1 : n < w * h) : 0 ≤ n % w ∧ n % w < w ∧ 0 ≤ n / w ∧ n / w < h ∧ (n / w) * w + n % w = n := by
  refine ⟨mod_lo hw, mod_hi hw, Int.ediv_nonneg h0 (by omega), Int.ediv_lt_of_lt_mul hw (by rw [Int.mul_comm]; exact h1), ?_⟩
  have := Int.emod_add_mul_ediv n w
  rw [Int.mul_comm] at this
  omega

/-! bytes -/
theorem ba_ext {a b : ByteArray} (h : a.data.toList = b.data.toList) : a = b := by
  obtain ⟨⟨a⟩⟩ := a
  obtain ⟨⟨b⟩⟩ := b
  simpa using h
theorem toList_data (a : ByteArray) : a.toList = a.data.toList := ByteArray.toList_eq a
theorem toList_inj {a b : ByteArray} : a.toList = b.toList ↔ a = b := by
  rw [toList_data, toList_data]
  exact ⟨ba_ext, fun h => by rw [h]⟩
theorem map_inj {α β : Type} {f : α → β} (hf : ∀ x y, f x = f y → x = y) : ∀ {l l' : List α}, l.map f = l'.map f → l = l'
  | [], [], _ => rfl
  | [], _ :: _, h => by simp at h
  | _ :: _, [], h => by simp at h
  | x :: l, y :: l', h => by
    simp only [List.map_cons, List.cons.injEq] at h
    rw [hf x y h.1, map_inj hf h.2]
theorem bytesOf_inj {a b : ByteArray} : bytesOf a = bytesOf b ↔ a = b := by
  refine ⟨fun h => ba_ext ?_, fun h => by rw [h]⟩
  unfold bytesOf at h
  exact map_inj (fun x y hxy => UInt8.toNat_inj.1 (Int.ofNat.inj hxy)) h
theorem bytesOf_append (a b : ByteArray) : bytesOf (a ++ b) = bytesOf a ++ bytesOf b := by
  simp [bytesOf]
theorem bytesOf_extract (a : ByteArray) (i j : Nat) : bytesOf (a.extract i j) = ((bytesOf a).take j).drop i := by
  simp [bytesOf, List.map_take, List.map_drop, List.take_drop]
  by_cases h : i ≤ j
  · rw [show i + (j - i) = j by omega]
  · rw [List.drop_eq_nil_of_le (by simp; omega), List.drop_eq_nil_of_le (by simp; omega)]
theorem bytesOf_range {s : ByteArray} {n : Int} (h : n ∈ bytesOf s) : 0 ≤ n ∧ n ≤ 255 := by
  unfold bytesOf at h
  obtain ⟨b, _, rfl⟩ := List.mem_map.1 h
  have := b.toNat_lt
  omega
theorem bytesOf_strOf {l : List Int} (h : ∀ n ∈ l, 0 ≤ n ∧ n ≤ 255) : bytesOf (strOfNums l) = l := by
  unfold bytesOf
  rw [strOfNums_data, List.map_map]
  conv => rhs; rw [← List.map_id l]
  refine List.map_congr_left fun n hn => ?_
  have := h n hn
  simp [UInt8.toNat_ofNat']
  omega
theorem strOf_bytesOf (s : ByteArray) : strOfNums (bytesOf s) = s := bytesOf_inj.1 (bytesOf_strOf fun _ h => bytesOf_range h)
theorem bt_rd (s : ByteArray) (i : Int) : bt s i = rd (bytesOf s) i := (rd_bytesOf s i).symm
theorem rd_get {l : List Int} {i : Int} (h : i.toNat < l.length) : rd l i = l[i.toNat] := by
  simp [rd, List.getD_eq_getElem?_getD, List.getElem?_eq_getElem h]

end Go.Proofs.YtoaekaehpnjpaaaDoor.Pl
