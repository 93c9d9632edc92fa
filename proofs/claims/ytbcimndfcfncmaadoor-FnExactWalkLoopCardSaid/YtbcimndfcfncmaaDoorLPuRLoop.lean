/- The plain law of WalkLoop: the reference's numbers of states and the program's texts of states tell the same states apart. No condition. -/
import Derived.Test.YtbcimndfcfncmaaDoorPLx3
import Derived.Test.YtbcimndfcfncmaaDoorPLx4
import Derived.Test.YtbcimndfcfncmaaDoorPLx5
import Derived.Test.YtbcimndfcfncmaaDoorPLx6
import Derived.Test.YtbcimndfcfncmaaDoorLPuRoute
namespace Go.Proofs.YtbcimndfcfncmaaDoor.Pure
open Go.RowKit Go.Proofs.YtbcimndfcfncmaaDoor Go.Proofs.YtbcimndfcfncmaaDoor.PL Go.Proofs.YtbcimndfcfncmaaDoorW.PrintWords Go.Proofs.YtbcimndfcfncmaaDoorW.PrintLast
set_option linter.unusedVariables false
set_option linter.unusedSimpArgs false

def Dig (m : List Int) : Prop := ∀ e ∈ m, 0 ≤ e ∧ e < 4
def Ten (m : List Int) : Prop := ∀ e ∈ m, 0 ≤ e ∧ e < 10
theorem dig_good {l : List (List Int)} {m : List Int} (hg : Good l m) : Dig m := fun e he => by
  obtain ⟨j, j0, j1, rfl⟩ := rd_mem he
  have := hg.2.2.2 j j0 (by have := hg.2.2.1; omega)
  have := hg.2.2.1
  omega
/-! the reference's number -/
def enc : List Int → Int → Int
  | [], n => n
  | k :: m, n => enc m (n * 4 + k)
theorem enc_inj : ∀ (m m' : List Int) (n n' : Int), m.length = m'.length → Dig m → Dig m' → enc m n = enc m' n' → n = n' ∧ m = m'
  | [], [], n, n', _, _, _, h => ⟨h, rfl⟩
  | [], _ :: _, _, _, h, _, _, _ => by simp at h
  | _ :: _, [], _, _, h, _, _, _ => by simp at h
  | k :: m, k' :: m', n, n', hl, hd, hd', h => by
    obtain ⟨h1, h2⟩ := enc_inj m m' (n * 4 + k) (n' * 4 + k') (by simpa using hl) (fun e he => hd e (List.mem_cons_of_mem _ he)) (fun e he => hd' e (List.mem_cons_of_mem _ he)) h
    have := hd k List.mem_cons_self
    have := hd' k' List.mem_cons_self
    refine ⟨by omega, ?_⟩
    rw [h2, show k = k' by omega]
def pw : Nat → Int
  | 0 => 1
  | j + 1 => 4 * pw j
theorem pw_le {j : Nat} (h : j ≤ 10) : pw j ≤ 1048576 := by
  have : ∀ i : Fin 11, pw i ≤ 1048576 := by decide
  exact this ⟨j, by omega⟩
def num (m : List Int) (a : Int) : Int := enc m 0 * 10 + a
theorem num_inj {m m' : List Int} {a a' : Int} (hl : m.length = m'.length) (hd : Dig m) (hd' : Dig m') (h0 : 0 ≤ a) (h1 : a < 10) (h0' : 0 ≤ a') (h1' : a' < 10) (h : num m a = num m' a') : m = m' ∧ a = a' := by
  unfold num at h
  have he : enc m 0 = enc m' 0 := by omega
  exact ⟨(enc_inj m m' 0 0 hl hd hd' he).2, by omega⟩
/-! the program's text -/
def dg (e : Int) : List UInt8 := Lib.decDigits e.toNat
theorem dg_one {e : Int} (h0 : 0 ≤ e) (h1 : e < 10) : dg e = [UInt8.ofNat (48 + e.toNat)] := by
  unfold dg
  rw [Lib.decDigits, dif_pos (by omega)]
theorem u8_inj {e e' : Int} (h0 : 0 ≤ e) (h1 : e < 10) (h0' : 0 ≤ e') (h1' : e' < 10) (h : UInt8.ofNat (48 + e.toNat) = UInt8.ofNat (48 + e'.toNat)) : e = e' := by
  have q := congrArg UInt8.toNat h
  rw [UInt8.toNat_ofNat', UInt8.toNat_ofNat', Nat.mod_eq_of_lt (by omega), Nat.mod_eq_of_lt (by omega)] at q
  omega
theorem jt_cons {e : Int} {r : List Int} (h0 : 0 ≤ e) (h1 : e < 10) : Lib.joinTail [44] ((e :: r).map dg) = 44 :: UInt8.ofNat (48 + e.toNat) :: Lib.joinTail [44] (r.map dg) := by
  simp [Lib.joinTail, dg_one h0 h1]
theorem jt_len : ∀ (r : List Int), Ten r → (Lib.joinTail [44] (r.map dg)).length = 2 * r.length
  | [], _ => rfl
  | e :: r, h => by
    have he := h e List.mem_cons_self
    rw [jt_cons he.1 he.2, List.length_cons, List.length_cons, jt_len r (fun x hx => h x (List.mem_cons_of_mem _ hx)), List.length_cons]
    omega
theorem jt_inj : ∀ (r r' : List Int), r.length = r'.length → Ten r → Ten r' → Lib.joinTail [44] (r.map dg) = Lib.joinTail [44] (r'.map dg) → r = r'
  | [], [], _, _, _, _ => rfl
  | [], _ :: _, h, _, _, _ => by simp at h
  | _ :: _, [], h, _, _, _ => by simp at h
  | e :: r, e' :: r', hl, h, h', q => by
    have he := h e List.mem_cons_self
    have he' := h' e' List.mem_cons_self
    rw [jt_cons he.1 he.2, jt_cons he'.1 he'.2] at q
    injection q with _ q
    injection q with q1 q2
    rw [u8_inj he.1 he.2 he'.1 he'.2 q1, jt_inj r r' (by simpa using hl) (fun x hx => h x (List.mem_cons_of_mem _ hx)) (fun x hx => h' x (List.mem_cons_of_mem _ hx)) q2]
def txt (m : List Int) (a : Int) : ByteArray := ⟨(Lib.join ((a :: m).map dg) [44]).toArray⟩
theorem txt_join {m : List Int} {a : Int} (h0 : 0 ≤ a) (h1 : a < 10) : Lib.join ((a :: m).map dg) [44] = UInt8.ofNat (48 + a.toNat) :: Lib.joinTail [44] (m.map dg) := by
  rw [List.map_cons, Lib.join_cons, dg_one h0 h1]
  rfl
theorem txt_list (m : List Int) (a : Int) : (txt m a).data.toList = Lib.join ((a :: m).map dg) [44] := rfl
theorem ten_dig {m : List Int} (h : Dig m) : Ten m := fun e he => by have := h e he; omega
theorem txt_size {m : List Int} {a : Int} (h0 : 0 ≤ a) (h1 : a < 10) (hd : Dig m) : (Lib.join ((a :: m).map dg) [44]).length = 2 * m.length + 1 := by
  rw [txt_join h0 h1, List.length_cons, jt_len m (ten_dig hd)]
theorem txt_inj {m m' : List Int} {a a' : Int} (hl : m.length = m'.length) (hd : Dig m) (hd' : Dig m') (h0 : 0 ≤ a) (h1 : a < 10) (h0' : 0 ≤ a') (h1' : a' < 10) (h : (txt m a).data.toList = (txt m' a').data.toList) : m = m' ∧ a = a' := by
  rw [txt_list, txt_list, txt_join h0 h1, txt_join h0' h1'] at h
  injection h with q1 q2
  exact ⟨jt_inj m m' hl (ten_dig hd) (ten_dig hd') q2, u8_inj h0 h1 h0' h1' q1⟩
def key (m : List Int) (a : Int) : Lit := .string (txt m a).data.toList
def it (e : Int) : ByteArray := ⟨(Lib.decDigits e.toNat).toArray⟩
theorem list_l0 {y : List Int} {s r : ByteArray} (hy : Ten y) (hl : y.length ≤ 11) (n : Nat) : ∀ (i : Int) (P : List ByteArray), (y.length - i).toNat = n → 0 ≤ i → i ≤ y.length → P.length ≤ 1000 → (P.length : Int) = i → strings_Join.f (P ++ (y.drop i.toNat).map it) s = some r → Ev (fun k => impl_listText.l0 k s P y y.length i) r := by
  induction n with
  | zero =>
    intro i P hn h0 h1 hp hpi hj
    rw [List.drop_eq_nil_of_le (by omega), List.map_nil, List.append_nil] at hj
    refine Pl.ev_unf ⟨0, fun k _ => ?_⟩
    rw [impl_listText.l0, if_neg (by omega), hj, Option.bind_some]
  | succ n ih =>
    intro i P hn h0 h1 hp hpi hj
    have hi : i.toNat < y.length := by omega
    have he := hy _ (mem_rd (l := y) (j := i) h0 (by omega))
    rw [List.drop_eq_getElem_cons hi, List.map_cons, ← Pl.rd_get hi, show i.toNat + 1 = (i + 1).toNat by omega] at hj
    have w1 : wrap64 (i + 1) = i + 1 := Pl.w64 (by omega) (by omega)
    obtain ⟨K, f⟩ := ih (i + 1) (P ++ [it (rd y i)]) (by omega) (by omega) (by omega) (by rw [List.length_append]; simp; omega) (by rw [List.length_append]; simp; omega) (by rw [List.append_assoc]; exact hj)
    have hI : strconv_Itoa_28.f (rd y i) = some (it (rd y i)) := by
      rw [strconv_Itoa_28.f, if_pos (by omega)]
      rfl
    refine Pl.ev_unf ⟨K, fun k hk => ?_⟩
    rw [impl_listText.l0, if_pos (by omega), if_pos h0, if_pos (by omega), hI, Option.bind_some, if_pos (by omega), w1]
    exact f k hk
theorem list_val {m : List Int} {a : Int} (hl : m.length ≤ 10) (hd : Dig m) (h0 : 0 ≤ a) (h1 : a < 10) : Ev (fun k => impl_listText.f k ⟨#[44]⟩ ([a] ++ m)) (txt m a) := by
  have hT : Ten (a :: m) := fun e he => by
    rcases List.mem_cons.1 he with rfl | he
    · exact ⟨h0, h1⟩
    · exact ten_dig hd e he
  have hz := txt_size h0 h1 hd
  have hm : ((a :: m).map it).map (fun x : ByteArray => x.data.toList) = (a :: m).map dg := by
    rw [List.map_map]
    rfl
  obtain ⟨K, f⟩ := list_l0 (y := a :: m) (s := ⟨#[44]⟩) (r := txt m a) hT (by simp; omega) _ 0 [] rfl (by omega) (by omega) (by simp) rfl (by
    have e0 : ([] : List ByteArray) ++ ((a :: m).drop (0 : Int).toNat).map it = (a :: m).map it := rfl
    rw [e0, strings_Join.f, hm]
    have e1 : (⟨#[44]⟩ : ByteArray).data.toList = [44] := rfl
    rw [e1, if_pos ⟨by simp; omega, by omega⟩]
    rfl)
  exact ⟨K, fun k hk => f k hk⟩
/-! the reference's walk -/
theorem s_l1 {l : List (List Int)} {m : List Int} {a x9 : Int} {S : List Int} {v : Int × Int × Bool} (hl : m.length ≤ 10) (hd : Dig m) (h0 : 0 ≤ a) (h1 : a < 10) (hv : Ev (fun k => spec_WalkLoop.l2 k a S x9 (num m a) S.length 0 l m) v) (n : Nat) :
    ∀ (i x : Int), ((m.length : Int) - i).toNat = n → 0 ≤ i → i ≤ m.length → 0 ≤ x → x < pw i.toNat → enc (m.drop i.toNat) x = enc m 0 → Ev (fun k => spec_WalkLoop.l1 k a S x9 x m m.length i l m) v := by
  induction n with
  | zero =>
    intro i x hn i0 i1 x0 x1 hx
    rw [List.drop_eq_nil_of_le (by omega)] at hx
    have hx : x = enc m 0 := hx
    have hb := pw_le (j := i.toNat) (by omega)
    have w1 : wrap64 (x * 10) = x * 10 := Pl.w64 (by omega) (by omega)
    have w2 : wrap64 (x * 10 + a) = num m a := by rw [Pl.w64 (by omega) (by omega), hx]; rfl
    obtain ⟨K, f⟩ := hv
    refine Pl.ev_unf ⟨K, fun k hk => ?_⟩
    rw [spec_WalkLoop.l1, if_neg (by omega), w1, w2]
    exact f k hk
  | succ n ih =>
    intro i x hn i0 i1 x0 x1 hx
    have hi : i.toNat < m.length := by omega
    have he := hd _ (mem_rd (l := m) (j := i) i0 (by omega))
    have hb := pw_le (j := i.toNat) (by omega)
    rw [List.drop_eq_getElem_cons hi, ← Pl.rd_get hi, show i.toNat + 1 = (i + 1).toNat by omega] at hx
    have hx : enc (m.drop (i + 1).toNat) (x * 4 + rd m i) = enc m 0 := hx
    have w0 : wrap64 (x * 4) = x * 4 := Pl.w64 (by omega) (by omega)
    have w1 : wrap64 (x * 4 + rd m i) = x * 4 + rd m i := Pl.w64 (by omega) (by omega)
    have w2 : wrap64 (i + 1) = i + 1 := Pl.w64 (by omega) (by omega)
    have hp : pw (i + 1).toNat = 4 * pw i.toNat := by rw [show (i + 1).toNat = i.toNat + 1 by omega]; rfl
    obtain ⟨K, f⟩ := ih (i + 1) (x * 4 + rd m i) (by omega) (by omega) (by omega) (by omega) (by omega) hx
    refine Pl.ev_unf ⟨K, fun k hk => ?_⟩
    rw [spec_WalkLoop.l1, if_pos (by omega), if_pos i0, if_pos (by omega), w0, w1, w2]
    exact f k hk
theorem s_hit {l : List (List Int)} {m : List Int} {a x9 c : Int} {S : List Int} (hS : S.length ≤ 3001) {j : Int} (j0 : 0 ≤ j) (j1 : j < S.length) (hj : rd S j = c) (hq : ∀ q : Int, 0 ≤ q → q < j → rd S q ≠ c) (n : Nat) :
    ∀ i : Int, (j - i).toNat = n → 0 ≤ i → i ≤ j → Ev (fun k => spec_WalkLoop.l2 k a S x9 c S.length i l m) (j, wrap64 (x9 - j), true) := by
  induction n with
  | zero =>
    intro i hn i0 i1
    have e : i = j := by omega
    subst e
    refine Pl.ev_unf ⟨0, fun k _ => ?_⟩
    rw [spec_WalkLoop.l2, if_pos (by omega), if_pos i0, if_pos (by omega), if_pos hj]
  | succ n ih =>
    intro i hn i0 i1
    have w2 : wrap64 (i + 1) = i + 1 := Pl.w64 (by omega) (by omega)
    obtain ⟨K, f⟩ := ih (i + 1) (by omega) (by omega) (by omega)
    refine Pl.ev_unf ⟨K, fun k hk => ?_⟩
    rw [spec_WalkLoop.l2, if_pos (by omega), if_pos i0, if_pos (by omega), if_neg (hq i i0 (by omega)), w2]
    exact f k hk
theorem s_miss {l : List (List Int)} {m m' : List Int} {a b x9 c : Int} {S : List Int} {v : Int × Int × Bool} (hS : S.length ≤ 3001) (hq : ∀ q : Int, 0 ≤ q → q < S.length → rd S q ≠ c) (hs : spec_roStep.f l m a = some (b, m')) (hv : Ev (fun k => spec_WalkLoop.l0 k b (S ++ [c]) (wrap64 (x9 + 1)) l m') v) (n : Nat) :
    ∀ i : Int, ((S.length : Int) - i).toNat = n → 0 ≤ i → i ≤ S.length → Ev (fun k => spec_WalkLoop.l2 k a S x9 c S.length i l m) v := by
  induction n with
  | zero =>
    intro i hn i0 i1
    obtain ⟨K, f⟩ := hv
    refine Pl.ev_unf ⟨K, fun k hk => ?_⟩
    rw [spec_WalkLoop.l2, if_neg (by omega), if_pos (by omega), hs, Option.bind_some]
    exact f k hk
  | succ n ih =>
    intro i hn i0 i1
    have w2 : wrap64 (i + 1) = i + 1 := Pl.w64 (by omega) (by omega)
    obtain ⟨K, f⟩ := ih (i + 1) (by omega) (by omega) (by omega)
    refine Pl.ev_unf ⟨K, fun k hk => ?_⟩
    rw [spec_WalkLoop.l2, if_pos (by omega), if_pos i0, if_pos (by omega), if_neg (hq i i0 (by omega)), w2]
    exact f k hk
/-! both -/
def Rel (N : Nat) (S : List Int) (D : DataW Unit) : Prop := ∀ (m : List Int) (a : Int), m.length = N → Dig m → 0 ≤ a → a < 10 →
  (∃ j : Int, 0 ≤ j ∧ j < S.length ∧ rd S j = num m a ∧ (∀ q : Int, 0 ≤ q → q < j → rd S q ≠ num m a) ∧ Maps.has D (key m a) = true ∧ impl_WalkLoop.at_ D (txt m a) = j) ∨ ((∀ q : Int, 0 ≤ q → q < S.length → rd S q ≠ num m a) ∧ Maps.has D (key m a) = false)
theorem rd_snoc {S : List Int} {c q : Int} (h0 : 0 ≤ q) (h1 : q < S.length) : rd (S ++ [c]) q = rd S q := by
  unfold rd
  rw [List.getD_eq_getElem?_getD, List.getD_eq_getElem?_getD, List.getElem?_append_left (by omega)]
theorem rd_last {S : List Int} {c : Int} : rd (S ++ [c]) (S.length : Int) = c := by
  unfold rd
  simp
theorem rel_put {N : Nat} {S : List Int} {D : DataW Unit} {m : List Int} {a : Int} (hD : Maps.IsMap D) (hR : Rel N S D) (hm : m.length = N) (hd : Dig m) (h0 : 0 ≤ a) (h1 : a < 10) (hq : ∀ q : Int, 0 ≤ q → q < S.length → rd S q ≠ num m a) :
    Rel N (S ++ [num m a]) (D.put (key m a) (.lit (.int .i64 (S.length : Int)))) := by
  have hlen : ((S ++ [num m a]).length : Int) = S.length + 1 := by rw [List.length_append]; rfl
  intro m' a' hm' hd' h0' h1'
  by_cases e : m = m' ∧ a = a'
  · obtain ⟨rfl, rfl⟩ := e
    refine .inl ⟨S.length, by omega, by omega, rd_last, fun q q0 q1 => ?_, Maps.has_put_same hD (by trivial) _, ?_⟩
    · rw [rd_snoc q0 q1]
      exact hq q q0 q1
    · unfold impl_WalkLoop.at_
      have := Maps.atKey_put_same (k := key m a) hD (by trivial) (.lit (.int .i64 (S.length : Int))) (.lit (.int .i64 0))
      unfold key at this
      unfold key
      rw [this]
  · have hn : num m a ≠ num m' a' := fun h => e (num_inj (hm.trans hm'.symm) hd hd' h0 h1 h0' h1' h)
    have hk : key m' a' ≠ key m a := fun h => by
      unfold key at h
      injection h with h
      obtain ⟨r1, r2⟩ := txt_inj (hm'.trans hm.symm) hd' hd h0' h1' h0 h1 h
      exact e ⟨r1.symm, r2.symm⟩
    have hat : impl_WalkLoop.at_ (D.put (key m a) (.lit (.int .i64 (S.length : Int)))) (txt m' a') = impl_WalkLoop.at_ D (txt m' a') := by
      unfold impl_WalkLoop.at_
      have := Maps.atKey_put_other (D := D) hk (.lit (.int .i64 (S.length : Int))) (.lit (.int .i64 0))
      unfold key at this
      unfold key
      rw [this]
    rw [Maps.has_put_other hk, hat]
    rcases hR m' a' hm' hd' h0' h1' with ⟨j, j0, j1, hj, hjq, hh, ha⟩ | ⟨hjq, hh⟩
    · refine .inl ⟨j, j0, by omega, (rd_snoc j0 j1).trans hj, fun q q0 q1 => ?_, hh, ha⟩
      rw [rd_snoc q0 (by omega)]
      exact hjq q q0 q1
    · refine .inr ⟨fun q q0 q1 => ?_, hh⟩
      by_cases c : q < S.length
      · rw [rd_snoc q0 c]
        exact hjq q q0 c
      · have : q = S.length := by omega
        subst this
        rw [rd_last]
        exact hn
theorem loop_both {l : List (List Int)} (n : Nat) : ∀ (i a : Int) (m : List Int) (S : List Int) (D : DataW Unit), (3001 - i).toNat = n → 0 ≤ i → i ≤ 3001 → Good l m → 0 ≤ a → a < l.length → (S.length : Int) = i → Maps.IsMap D → Rel l.length S D →
    ∃ v : Int × Int × Bool, Ev (fun k => spec_WalkLoop.l0 k a S i l m) v ∧ Ev (fun k => impl_WalkLoop.l0 k a D i l m) v := by
  induction n with
  | zero =>
    intro i a m S D hn i0 i1 hg a0 a1 hS hD hR
    refine ⟨(0, 0, false), Pl.ev_unf ⟨0, fun k _ => ?_⟩, Pl.ev_unf ⟨0, fun k _ => ?_⟩⟩
    · rw [spec_WalkLoop.l0, if_neg (by omega)]
    · rw [impl_WalkLoop.l0, if_neg (by omega)]
  | succ n ih =>
    intro i a m S D hn i0 i1 hg a0 a1 hS hD hR
    have g2 := hg.2.1
    have g3 := hg.2.2.1
    have hd := dig_good hg
    have a9 : a < 10 := by omega
    have hml : m.length ≤ 10 := by omega
    have w1 : wrap64 (i + 1) = i + 1 := Pl.w64 (by omega) (by omega)
    obtain ⟨K1, f1⟩ := list_val hml hd a0 a9
    have hz : (txt m a).size ≤ 1000000 := by
      have := txt_size a0 a9 hd
      show (Lib.join ((a :: m).map dg) [44]).toArray.size ≤ 1000000
      rw [List.size_toArray]
      omega
    have h1 := fun (v : Int × Int × Bool) (hv : Ev (fun k => spec_WalkLoop.l2 k a S i (num m a) S.length 0 l m) v) => s_l1 (l := l) hml hd a0 a9 hv _ 0 0 rfl (by omega) (by omega) (by omega) (by decide) rfl
    rcases hR m a g3 hd a0 a9 with ⟨j, j0, j1, hj, hjq, hh, ha⟩ | ⟨hjq, hh⟩
    · obtain ⟨K2, f2⟩ := h1 _ (s_hit (x9 := i) (l := l) (m := m) (a := a) (by omega) j0 j1 hj hjq _ 0 rfl (by omega) (by omega))
      refine ⟨(j, wrap64 (i - j), true), Pl.ev_unf ⟨K2, fun k hk => ?_⟩, Pl.ev_unf ⟨K1, fun k hk => ?_⟩⟩
      · rw [spec_WalkLoop.l0, if_pos (by omega)]
        exact f2 k hk
      · have f1 := f1 k hk
        dsimp only at f1
        unfold key at hh
        rw [impl_WalkLoop.l0, if_pos (by omega), Option.bind_some, if_pos (by simp; omega), f1, Option.bind_some, if_pos hz, if_pos hh, ha]
    · obtain ⟨b, m1, s1, s2, hg1, b0, b1⟩ := step_both hg a0 a1
      obtain ⟨v, h3, ⟨K3, f3⟩⟩ := ih (i + 1) b m1 (S ++ [num m a]) (D.put (key m a) (.lit (.int .i64 i))) (by omega) (by omega) (by omega) hg1 b0 b1 (by rw [List.length_append]; simp; omega) (hD.put _ _) (by rw [← hS]; exact rel_put hD hR g3 hd a0 a9 hjq)
      obtain ⟨K2, f2⟩ := h1 v (s_miss (by omega) hjq s1 (by rw [w1]; exact h3) _ 0 rfl (by omega) (by omega))
      refine ⟨v, Pl.ev_unf ⟨K2, fun k hk => ?_⟩, Pl.ev_unf ⟨K1 + K3, fun k hk => ?_⟩⟩
      · rw [spec_WalkLoop.l0, if_pos (by omega)]
        exact f2 k hk
      · have f1 := f1 k (by omega)
        have f3 := f3 k (by omega)
        dsimp only at f1 f3
        unfold key at hh f3
        rw [impl_WalkLoop.l0, if_pos (by omega), Option.bind_some, if_pos (by simp; omega), f1, Option.bind_some, if_pos hz, if_neg (by rw [hh]; simp), s2, Option.bind_some, w1]
        exact f3
theorem walkloop_both {l : List (List Int)} {m : List Int} (hr : ∀ e ∈ l, e.length ≤ 1048576) (hl : l.length ≤ 1048576) (hm : m.length ≤ 1048576) (a1 : Int) :
    ∃ v : Int × Int × Bool, Ev (fun k => spec_WalkLoop.f k l m a1) v ∧ Ev (fun k => impl_WalkLoop.f k l m a1) v := by
  obtain ⟨g, ⟨K1, f1⟩, ⟨K2, f2⟩, hg⟩ := good_both hr hl hm
  have wn : wrap64 ((l.length : Int) - 1) = l.length - 1 := Pl.w64 (by omega) (by omega)
  obtain ⟨p, hp⟩ : ∃ p, p = (decide (0 ≤ a1) && decide (a1 ≤ (l.length : Int) - 1)) := ⟨_, rfl⟩
  have e1 : ([a1] : List Int).all (fun n => decide (0 ≤ n) && decide (n ≤ (l.length : Int) - 1)) = p := by rw [hp]; simp
  have hS : ∀ k, K1 ≤ k → spec_roNode.f k l m a1 = some (g && p) := fun k hk => by
    have f1 := f1 k hk
    dsimp only at f1
    rw [spec_roNode.f, f1, Option.bind_some, wn, in_val, ← hp]
    cases g <;> cases p <;> rfl
  have hI : ∀ k, K2 ≤ k → impl_isNode.f k l m [a1] = some (g && p) := fun k hk => by
    have f2 := f2 k hk
    dsimp only at f2
    rw [impl_isNode.f, f2, Option.bind_some, wn, impl_areWithin.f, e1]
    cases g <;> cases p <;> rfl
  by_cases c : (g && p) = true
  · rw [c] at hS hI
    simp only [Bool.and_eq_true] at c
    obtain ⟨c1, c2⟩ := c
    have G := hg c1
    have hp' := hp.symm.trans c2
    simp only [Bool.and_eq_true, decide_eq_true_eq] at hp'
    obtain ⟨⟨K3, f3⟩, ⟨K4, f4⟩⟩ := own_both G
    obtain ⟨v, ⟨K5, f5⟩, ⟨K6, f6⟩⟩ := loop_both (l := l) _ 0 a1 m [] (.map []) rfl (by omega) (by omega) G hp'.1 (by omega) rfl Maps.isMap_empty (fun m' a' _ _ _ _ => .inr ⟨fun q q0 q1 => absurd q1 (by simp; omega), rfl⟩)
    refine ⟨v, ⟨K1 + K3 + K5, fun k hk => ?_⟩, ⟨K2 + K4 + K6, fun k hk => ?_⟩⟩
    · have f3 := f3 k (by omega)
      have f5 := f5 k (by omega)
      dsimp only at f3 f5 ⊢
      rw [spec_WalkLoop.f, hS k (by omega), Option.bind_some, if_pos rfl, f3, Option.bind_some]
      exact f5
    · have f4 := f4 k (by omega)
      have f6 := f6 k (by omega)
      dsimp only at f4 f6 ⊢
      rw [impl_WalkLoop.f, hI k (by omega), Option.bind_some, if_pos rfl, f4, Option.bind_some]
      exact f6
  · have c' : (g && p) = false := by simpa using c
    rw [c'] at hS hI
    refine ⟨(0, 0, false), ⟨K1, fun k hk => ?_⟩, ⟨K2, fun k hk => ?_⟩⟩
    · dsimp only
      rw [spec_WalkLoop.f, hS k hk, Option.bind_some, if_neg (by simp)]
    · dsimp only
      rw [impl_WalkLoop.f, hI k hk, Option.bind_some, if_neg (by simp)]
theorem FnExactWalkLoop (l0_0 : List (List Int)) (l0_1 : List Int) (a1 : Int) (h0 : (l0_0.length ≤ 9223372036854775807 ∧ ∀ e_ ∈ l0_0, e_.length ≤ 9223372036854775807 ∧ ∀ x_ ∈ e_, (Lit.int .i64 x_).wf = true) ∧ (l0_1.length ≤ 9223372036854775807 ∧ ∀ e_ ∈ l0_1, (Lit.int .i64 e_).wf = true)) (h1 : (Lit.int .i64 a1).wf = true) : ∃ k, laws_FnExactWalkLoop.f k l0_0 l0_1 a1 = some true := by
  obtain ⟨v, ⟨K1, f1⟩, hv⟩ := szRoute_val (l := l0_0) (m := l0_1) h0.1.1 (fun e he => (h0.1.2 e he).1) h0.2.1
  by_cases c : v < 0
  · refine ⟨K1, ?_⟩
    have f1 : laws_szRoute.f K1 l0_0 l0_1 1048576 = some v := f1 K1 (Nat.le_refl _)
    rw [laws_FnExactWalkLoop.f, f1, Option.bind_some, if_pos c]
  · have hv' := hv (by omega)
    have hr : ∀ e ∈ l0_0, e.length ≤ 1048576 := fun e he => by have := tot_mem he; omega
    have hl : l0_0.length ≤ 1048576 := by omega
    have hm : l0_1.length ≤ 1048576 := by omega
    obtain ⟨K2, f2⟩ := toRoute_val hl hr hm
    obtain ⟨⟨x, y, z⟩, ⟨K3, f3⟩, ⟨K4, f4⟩⟩ := walkloop_both hr hl hm a1
    obtain ⟨K6, f6⟩ := eqRoute_self hl hr hm
    obtain ⟨K, hK⟩ : ∃ K, K = K1 + K2 + K3 + K4 + K6 := ⟨_, rfl⟩
    refine ⟨K + 1, ?_⟩
    have g1 := f1 (K + 1) (by omega)
    have g2 := f2 (K + 1) (by omega)
    have g3 := f3 (K + 1) (by omega)
    have g4 := f4 (K + 1) (by omega)
    have e2 := f2 K (by omega)
    have e6 := f6 K (by omega)
    dsimp only at g1 g2 g3 g4 e2 e6
    rw [laws_FnExactWalkLoop.f, g1, Option.bind_some, if_neg c, g2, Option.bind_some, g3, Option.bind_some, Option.bind_some, g4, Option.bind_some, if_pos rfl, if_pos rfl, laws_FnExactWalkLoop.j0, if_neg (by simp), e2, Option.bind_some, e6, Option.bind_some, if_pos rfl]

end Go.Proofs.YtbcimndfcfncmaaDoor.Pure
