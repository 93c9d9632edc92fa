/- What the program's moved computes, over any function value that tells a place: the cells, each in its new place. No condition beyond what each theorem names. -/
import Derived.Test.YthffmjmcgafciaaWMore
import Derived.Test.YthffmjmcgafciaaWLast
import Derived.Test.YthffmjmcgafciaaWKept
import Derived.Test.YthffmjmcgafciaaProg
import Derived.Tactics
import Derived.Tactics2
import Derived.Laws.Pointers
import Derived.RegionTactic
import Derived.RegionCalls
import Derived.ChangeAlike
namespace Go.Proofs.Ythffmjmcgafciaa.Shift
open Go.RowKit Go.Proofs.YthffmjmcgafciaaW.PrintWords Go.Proofs.YthffmjmcgafciaaW.PrintLast Go.Proofs.YthffmjmcgafciaaW.PrintMore
set_option linter.unusedVariables false
set_option linter.unusedSimpArgs false

/-- the place tO which cell n goes -/
def place (tO : Int → Int → Int × Int) (fr wd : Int) (n : Nat) : Int := wrap64 (wrap64 ((tO ((n : Int) % fr) (wrap64 ((n : Int) / fr))).2 * wd) + (tO ((n : Int) % fr) (wrap64 ((n : Int) / fr))).1)
/-- the cells when n of them are laid -/
def laid (tO : Int → Int → Int × Int) (fr wd : Int) (s : ByteArray) (m : Nat) : Nat → List Int
  | 0 => List.replicate m 0
  | n + 1 => (laid tO fr wd s m n).set (place tO fr wd n).toNat (bt s n)
theorem laid_length (tO : Int → Int → Int × Int) (fr wd : Int) (s : ByteArray) (m n : Nat) : (laid tO fr wd s m n).length = m := by
  induction n with
  | zero => simp [laid]
  | succ n ih => simp [laid, ih]
theorem info_u8 : (Try.prog.info? 5).map (fun i => (i.zero, i.size, i.bytes)) = some (some (.int .u8 0), 1, 1) := by kernel_rfl
theorem byte_at {s : ByteArray} {n : Nat} (h : n < s.size) : ((s[n].toNat : Nat) : Int) = bt s n := by
  unfold bt
  rw [dif_pos (by rw [Int.toNat_natCast]; exact h)]
  rfl
theorem wrap_in {n : Int} (h1 : -9223372036854775808 ≤ n) (h2 : n ≤ 9223372036854775807) : wrap64 n = n := by
  unfold wrap64
  omega
set_option maxHeartbeats 4000000 in
set_option maxRecDepth 100000 in
theorem moved_calls (g : Nat) (caps : Array Value) (eg : ∀ args w, (callFunc g args).run Try.prog w = .ok (.enter g args) w) (tO : Int → Int → Int × Int) (s : ByteArray) (fr wd ht : Int) (w : World)
    (hc : ∀ W, Below w.heap.size w W → ∀ x y, Calls Try.prog g (#[.int .i64 x, .int .i64 y] ++ caps) W fun e W' => e = .returned (.tuple #[.int .i64 (tO x y).1, .int .i64 (tO x y).2]) ∧ W' = W.drew)
    (hs0 : 0 < s.size) (hsz : s.size ≤ 1000) (hm : wrap64 (wd * ht) = (s.size : Int)) (hfr : fr ≠ 0) (hp : ∀ n : Nat, n < s.size → 0 ≤ place tO fr wd n ∧ place tO fr wd n < s.size) :
    Calls Try.prog 15 #[.string s, .int .i64 fr, .int .i64 wd, .int .i64 ht, .func (.func g) #[] caps] w fun e w' => e = .returned (.string (strOfNums (laid tO fr wd s s.size s.size))) ∧ Below w.heap.size w w' := by
  have HB0 := Aside0.mk (Below.refl w.heap.size w)
  have hfr0 : (fr == 0) = false := beq_eq_false_iff_ne.mpr hfr
  go_enter Try.func15, Try.ntmps15
  go_wp2_with (first | ((with_reducible refine gate_dst (N := 18) rfl ?_); refine Kd.R_make (Kd.int .u8) (w0 := w) w.heap.size 5 rfl (N := 18) rfl 41 (.tmp 17) (.tmp 17) rfl (s.size : Int) (by show Value.int .i64 (wrap64 (wd * ht)) = _; rw [hm]) (by show Value.int .i64 (wrap64 (wd * ht)) = _; rw [hm]) Try.underlying41 (.int .u8 0) 1 info_u8 rfl (by decide) (by omega) 0 (ok := fun _ => True) (okp := fun _ => True) rfl (fun _ hk => hk) trivial (by omega) (by simp; omega) (Below.refl _ _) (Nat.le_refl _) ?_; intro v1 w1 ho hb hg_ hnew_; clear hg_ hnew_; rw [Int.toNat_natCast] at ho; obtain ⟨A, c, rfl⟩ := Kd.R_slice ho; have HO := Aside0.mk (show Kd.R (Kd.int .u8) 5 w1 w.heap.size (fun _ => True) (.slice A s.size c) (laid tO fr wd s s.size 0) from by have h_ := ho; rw [List.length_replicate] at h_; exact h_); have HB := Aside0.mk hb; clear ho hb))
  obtain ⟨g0, c0, e0, hg0, _, _⟩ := Kd.R_form HO.out (by rw [laid_length]; exact hs0)
  rw [laid_length] at e0
  cases e0
  have HG0 := Aside0.mk hg0
  clear hg0
  go_wp2
  go_loopg [21] s.size (fun kq v21 w' => ∃ n : Nat, v21 = .int .i64 (n : Int) ∧ n + kq = s.size ∧ Aside0 (Kd.R (Kd.int .u8) 5 w' w.heap.size (fun _ => True) (.slice (some ⟨g0, 0, none⟩) s.size c) (laid tO fr wd s s.size n)) ∧ Aside0 (Below w.heap.size w w'))
  case atStart => exact ⟨0, rfl, by omega, HO, HB⟩
  case round =>
    clear HO HB
    obtain ⟨n, rfl, hn, HO, HB⟩ := hrel
    by_cases hlt : n < s.size
    · have c1 : decide ((n : Int) < (s.size : Int)) = true := decide_eq_true (by omega)
      have p1 : (0 ≤ (n : Int)) = True := eq_true (by omega)
      have p2 : ((n : Int) < (s.size : Int)) = True := eq_true (by omega)
      have hq := hp n hlt
      have hx := Kd.R_celln (enc := Value.int .u8) (h1 := fun _ => rfl) (0 : Int) HO.out (place tO fr wd n) hq.1 hq.2
      have hput := Kd.R_putn (enc := Value.int .u8) (h1 := fun _ => rfl) HO.out (place tO fr wd n) (bt s n)
      obtain ⟨hx1, hx2⟩ := hx
      have hbt := byte_at hlt
      have hq1 := eq_true hq.1
      have hq2 := eq_true hq.2
      unfold place at hx1 hx2 hq1 hq2 hput
      replace hput := Aside0.mk hput
      clear hq
      obtain ⟨k1, rfl⟩ : ∃ k1, gk = k1 + 1 := ⟨gk - 1, by omega⟩
      go_wp2_with fail
      refine start_ (n := 13) (S := fun w' => True) (ds := []) #[false, false, false, false, false, false, false, false, false, false, false, false, false] (by kernel_rfl) rfl rfl trivial (fun hHeld => ?_)
      refine pure_ (i := 0) (N := some 25) (v := ?_) (a' := ?_) #[true, false, false, false, false, false, false, false, false, false, false, false, false] rfl rfl (by kernel_rfl) (fun _ _ _ h => h) (Or.inl ⟨by rfl, ?_⟩) ?_ ?_
      rotate_left
      · intro w'
        go_simp
        with_reducible rfl
      rotate_left
      · simp only [Act.put, List.setIfInBounds_toArray, List.set_cons_zero, List.set_cons_succ, i64_w, i32_w]
        rfl
      refine pure_ (i := 1) (N := some 26) (v := ?_) (a' := ?_) #[true, true, false, false, false, false, false, false, false, false, false, false, false] rfl rfl (by kernel_rfl) (fun _ _ _ h => h) (Or.inl ⟨by rfl, ?_⟩) ?_ ?_
      rotate_left
      · intro w'
        go_simp
        with_reducible rfl
      rotate_left
      · simp only [Act.put, List.setIfInBounds_toArray, List.set_cons_zero, List.set_cons_succ, i64_w, i32_w]
        rfl
      refine pure_ (i := 2) (N := some 27) (v := ?_) (a' := ?_) #[true, true, true, false, false, false, false, false, false, false, false, false, false] rfl rfl (by kernel_rfl) (fun _ _ _ h => h) (Or.inl ⟨by rfl, ?_⟩) ?_ ?_
      rotate_left
      · intro w'
        go_simp
        with_reducible rfl
      rotate_left
      · simp only [Act.put, List.setIfInBounds_toArray, List.set_cons_zero, List.set_cons_succ, i64_w, i32_w]
        rfl
      refine pure_ (i := 3) (N := some 28) (v := ?_) (a' := ?_) #[true, true, true, true, false, false, false, false, false, false, false, false, false] rfl rfl (by kernel_rfl) (fun _ _ _ h => h) (Or.inl ⟨by rfl, ?_⟩) ?_ ?_
      rotate_left
      · intro w'
        go_simp
        with_reducible rfl
      rotate_left
      · simp only [Act.put, List.setIfInBounds_toArray, List.set_cons_zero, List.set_cons_succ, i64_w, i32_w]
        rfl
      refine pure_ (i := 4) (N := some 29) (v := ?_) (a' := ?_) #[true, true, true, true, true, false, false, false, false, false, false, false, false] rfl rfl (by kernel_rfl) (fun _ _ _ h => h) (Or.inl ⟨by rfl, ?_⟩) ?_ ?_
      rotate_left
      · intro w'
        go_simp
        with_reducible rfl
      rotate_left
      · simp only [Act.put, List.setIfInBounds_toArray, List.set_cons_zero, List.set_cons_succ, i64_w, i32_w]
        rfl
      refine pure_ (i := 5) (N := some 30) (v := ?_) (a' := ?_) #[true, true, true, true, true, true, false, false, false, false, false, false, false] rfl rfl (by kernel_rfl) (fun _ _ _ h => h) (Or.inl ⟨by rfl, ?_⟩) ?_ ?_
      rotate_left
      · intro w'
        go_simp
        with_reducible rfl
      rotate_left
      · simp only [Act.put, List.setIfInBounds_toArray, List.set_cons_zero, List.set_cons_succ, i64_w, i32_w]
        rfl
      refine pure_ (i := 6) (N := some 31) (v := ?_) (a' := ?_) #[true, true, true, true, true, true, true, false, false, false, false, false, false] rfl rfl (by kernel_rfl) (fun _ _ _ h => h) (Or.inl ⟨by rfl, ?_⟩) ?_ ?_
      rotate_left
      · intro w'
        go_simp
        with_reducible rfl
      rotate_left
      · simp only [Act.put, List.setIfInBounds_toArray, List.set_cons_zero, List.set_cons_succ, i64_w, i32_w]
        rfl
      refine one_ (i := 7) (N := some 32) #[true, true, true, true, true, true, true, true, false, false, false, false, false] rfl rfl (by kernel_rfl) (by decide) (fun K hK => ?_)
      refine call_ g (#[.int .i64 (Int.tmod (n : Int) fr), .int .i64 (wrap64 (Int.tdiv (n : Int) fr))] ++ caps) (by rfl) rfl ?hr ?_
      case hr => go_simp
      refine (hc _ (below_drew1 HB.out) _ _).mono ?_
      rintro e w3 ⟨rfl, rfl⟩
      refine ⟨_, rfl, ?_⟩
      refine hK.out _ _ trivial (fun hHeld => ?_)
      clear hK K
      refine norm_ (a' := ?_) ?_ ?_
      rotate_left
      · show Act.put _ (some 32) _ = _
        simp only [Act.put, List.setIfInBounds_toArray, List.set_cons_zero, List.set_cons_succ, i64_w, i32_w]
        rfl
      refine pure_ (i := 8) (N := some 24) (v := ?_) (a' := ?_) #[true, true, true, true, true, true, true, true, true, false, false, false, false] rfl rfl (by kernel_rfl) (fun _ _ _ h => h) (Or.inl ⟨by rfl, ?_⟩) ?_ ?_
      rotate_left
      · intro w'
        go_simp
        with_reducible rfl
      rotate_left
      · simp only [Act.put, List.setIfInBounds_toArray, List.set_cons_zero, List.set_cons_succ, i64_w, i32_w]
        rfl
      refine pure_ (i := 9) (N := some 33) (v := ?_) (a' := ?_) #[true, true, true, true, true, true, true, true, true, true, false, false, false] rfl rfl (by kernel_rfl) (fun _ _ _ h => h) (Or.inl ⟨by rfl, ?_⟩) ?_ ?_
      rotate_left
      · intro w'
        go_simp
        with_reducible rfl
      rotate_left
      · simp only [Act.put, List.setIfInBounds_toArray, List.set_cons_zero, List.set_cons_succ, i64_w, i32_w]
        rfl
      refine pure_ (i := 10) (N := some 34) (v := ?_) (a' := ?_) #[true, true, true, true, true, true, true, true, true, true, true, false, false] rfl rfl (by kernel_rfl) (fun _ _ _ h => h) (Or.inl ⟨by rfl, ?_⟩) ?_ ?_
      rotate_left
      · intro w'
        go_simp
        with_reducible rfl
      rotate_left
      · simp only [Act.put, List.setIfInBounds_toArray, List.set_cons_zero, List.set_cons_succ, i64_w, i32_w]
        rfl
      refine pure_ (i := 11) (N := some 13) (v := ?_) (a' := ?_) #[true, true, true, true, true, true, true, true, true, true, true, true, false] rfl rfl (by kernel_rfl) (fun _ _ _ h => h) (Or.inl ⟨by rfl, ?_⟩) ?_ ?_
      rotate_left
      · intro w'
        go_simp
        with_reducible rfl
      rotate_left
      · simp only [Act.put, List.setIfInBounds_toArray, List.set_cons_zero, List.set_cons_succ, i64_w, i32_w]
        rfl
      refine pure_ (i := 12) (N := some 14) (v := ?_) (a' := ?_) #[true, true, true, true, true, true, true, true, true, true, true, true, true] rfl rfl (by kernel_rfl) (fun _ _ _ h => h) (Or.inl ⟨by rfl, ?_⟩) ?_ ?_
      rotate_left
      · intro w'
        go_simp
        with_reducible rfl
      rotate_left
      · simp only [Act.put, List.setIfInBounds_toArray, List.set_cons_zero, List.set_cons_succ, i64_w, i32_w]
        rfl
      refine done_ (by kernel_rfl) ?_
      go_wp2
      go_roundg k1
      case measure => omega
      case rel => exact ⟨n + 1, rfl, by omega, ⟨Kd.R_drew (Kd.R_drew hput.out)⟩, ⟨by repeat (first | (with_reducible first | exact HB.out | apply below_alloc | apply pw_below_drewN | apply below_drew1 | refine below_set ?_ HG0.out) | exact HB.out)⟩⟩
    · have c1 : decide ((n : Int) < (s.size : Int)) = false := decide_eq_false (by omega)
      obtain rfl : n = s.size := by omega
      have hconv : (convert 41 9 (.slice (some ⟨g0, 0, none⟩) s.size c)).run Try.prog wr = .ok (.string (strOfNums (laid tO fr wd s s.size s.size))) wr := by
        refine run_convert_bytes_arg wr 41 5 Try.underlying41 Try.underlying5 g0 0 s.size c _ (laid_length _ _ _ _ _ _) (fun i hi => ?_) 9 Try.underlying9
        have h1 := (Kd.R_celln (enc := Value.int .u8) (h1 := fun _ => rfl) (0 : Int) HO.out (i : Int) (by omega) (by omega)).1
        rw [Int.toNat_natCast] at h1
        rw [Nat.zero_add, h1]
        unfold rdOf
        rw [Int.toNat_natCast]
      go_wp2
      go_ret
      exact ⟨rfl, HB.out⟩
end Go.Proofs.Ythffmjmcgafciaa.Shift
