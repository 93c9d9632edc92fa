/- Plain lemmas: a table's text, and what the reference reads of a text. No condition. -/
import Derived.Test.YtoaekaehpnjpaaaDoorPGx1
import Derived.Test.YtoaekaehpnjpaaaDoorPGx2
import Derived.Test.YtoaekaehpnjpaaaDoorPGx3
import Derived.Test.YtoaekaehpnjpaaaDoorPGx4
import Derived.Test.YtoaekaehpnjpaaaDoorPGx5
import Derived.Test.YtoaekaehpnjpaaaDoorGPuTab
import Derived.Test.YtoaekaehpnjpaaaDoorPuStr
namespace Go.Proofs.YtoaekaehpnjpaaaDoor.Pure
open Go.RowKit Go.Proofs.YtoaekaehpnjpaaaDoor Go.Proofs.YtoaekaehpnjpaaaDoor.PG Go.Proofs.YtoaekaehpnjpaaaDoorW.PrintWords Go.Proofs.YtoaekaehpnjpaaaDoorW.PrintLast
set_option linter.unusedVariables false
set_option linter.unusedSimpArgs false

def dig (n : Int) : ByteArray := strOfNums [48 + n]
theorem dig_size (n : Int) : (dig n).size = 1 := by
  unfold dig
  rw [← data_length, strOfNums_data, List.length_map]
  rfl
theorem dig_bytes {n : Int} (h0 : 0 ≤ n) (h1 : n ≤ 9) : bytesOf (dig n) = [48 + n] := Pl.bytesOf_strOf (by intro x hx; simp at hx; omega)
theorem dig_num {n : Int} (h0 : 0 ≤ n) (h1 : n ≤ 9) (k : Nat) : spec_l1Num.f (k + 1) n = some (dig n) := by
  have w : wrap64 (48 + n) % 256 = 48 + n := by rw [Pl.w64 (by omega) (by omega)]; omega
  rw [spec_l1Num.f, if_pos (by omega), w]
  rfl
def rowB : List R1 → List Int
  | [] => []
  | r :: l => (48 + r.f0) :: (bytesOf r.f1 ++ (48 + r.f2) :: rowB l)
def TB (a b : Int) (l : List R1) : List Int := (48 + a) :: 47 :: (48 + b) :: 58 :: rowB l
structure SmallR (r : R1) : Prop where
  a0 : 0 ≤ r.f0
  a9 : r.f0 ≤ 3
  b0 : 0 ≤ r.f2
  b9 : r.f2 ≤ 3
  sz : r.f1.size = 1
  sg : ∃ c : Int, bytesOf r.f1 = [c] ∧ (c = 76 ∨ c = 82 ∨ c = 78 ∨ c = 85)
theorem sg_of {t : ByteArray} (h1 : t.size = 1) (h2 : 0 ≤ Lib.indexByte (⟨#[76, 82, 78, 85]⟩ : ByteArray).data.toList (t.data.toList.getD 0 0)) : ∃ c : Int, bytesOf t = [c] ∧ (c = 76 ∨ c = 82 ∨ c = 78 ∨ c = 85) := by
  obtain ⟨⟨l⟩⟩ := t
  match l, h1 with
  | [c], _ =>
    have h3 : 0 ≤ Lib.indexByte [76, 82, 78, 85] c := h2
    refine ⟨c.toNat, rfl, ?_⟩
    by_cases c1 : c = 76
    · subst c1; exact .inl rfl
    · by_cases c2 : c = 82
      · subst c2; exact .inr (.inl rfl)
      · by_cases c3 : c = 78
        · subst c3; exact .inr (.inr (.inl rfl))
        · by_cases c4 : c = 85
          · subst c4; exact .inr (.inr (.inr rfl))
          · have n1 : ((76 : UInt8) == c) = false := by simpa using fun h => c1 h.symm
            have n2 : ((82 : UInt8) == c) = false := by simpa using fun h => c2 h.symm
            have n3 : ((78 : UInt8) == c) = false := by simpa using fun h => c3 h.symm
            have n4 : ((85 : UInt8) == c) = false := by simpa using fun h => c4 h.symm
            have e : Lib.indexByte [76, 82, 78, 85] c = -1 := by
              simp [Lib.indexByte, n1, n2, n3, n4]
            rw [e] at h3
            omega
theorem small_of {a b : Int} {l : List R1} (h : tabB a b l = true) : ∀ r ∈ l, SmallR r := by
  obtain ⟨p0, p4, q0, q4, hlen, hall⟩ := tab_dims h
  intro r hr
  have ho := List.all_eq_true.1 hall r hr
  unfold impl_IsTable.ok at ho
  simp only [Bool.and_eq_true, decide_eq_true_eq] at ho
  obtain ⟨⟨h1, h2⟩, ⟨h3, h4⟩, h5, h6⟩ := ho
  rw [Pl.w64 (by omega) (by omega)] at h2 h4
  exact ⟨h1, by omega, h3, by omega, h5, sg_of h5 h6⟩
theorem tab_len {a b : Int} {l : List R1} (h : tabB a b l = true) : l.length ≤ 16 := by
  obtain ⟨p0, p4, q0, q4, hlen, hall⟩ := tab_dims h
  obtain ⟨m0, m1⟩ := Pl.mul_in (a := a) (b := b) (A := 4) (B := 4) (by omega) p4 (by omega) q4
  omega
theorem rowB_len : ∀ {l : List R1}, (∀ r ∈ l, SmallR r) → (rowB l).length = 3 * l.length
  | [], _ => rfl
  | r :: l, h => by
    obtain ⟨c, hc, _⟩ := (h r (by simp)).sg
    have := rowB_len (l := l) fun x hx => h x (by simp [hx])
    simp only [rowB, hc, List.length_cons, List.length_append, this, List.length_nil]
    omega
theorem rowB_no {x : Int} (hx : x = 58 ∨ x = 47) : ∀ {l : List R1}, (∀ r ∈ l, SmallR r) → ∀ y ∈ rowB l, y ≠ x
  | [], _, y, hy => by simp [rowB] at hy
  | r :: l, h, y, hy => by
    have hr := h r (by simp)
    obtain ⟨c, hc, hcc⟩ := hr.sg
    have h1 := hr.a0; have h2 := hr.a9; have h3 := hr.b0; have h4 := hr.b9
    simp only [rowB, hc, List.mem_cons, List.mem_append, List.not_mem_nil, or_false] at hy
    rcases hy with rfl | rfl | rfl | hy
    · omega
    · omega
    · omega
    · exact rowB_no hx (fun x hx => h x (by simp [hx])) y hy
theorem txt_l0 {l : List R1} (hl : l.length ≤ 1000) (hr : ∀ r ∈ l, SmallR r) (n : Nat) : ∀ (i : Int) (acc : ByteArray), ((l.length : Int) - i).toNat = n → 0 ≤ i → i ≤ l.length → (acc.size : Int) ≤ 10 + 3 * i → ∃ r, Ev (fun k => spec_taText.l0 k acc l l.length i) r ∧ bytesOf r = bytesOf acc ++ rowB (l.drop i.toNat) := by
  induction n with
  | zero =>
    intro i acc hn h0 h1 hb
    refine ⟨acc, Pl.ev_unf ⟨0, fun k _ => ?_⟩, ?_⟩
    · rw [spec_taText.l0, if_neg (by omega)]
    · rw [List.drop_eq_nil_of_le (by omega)]
      simp [rowB]
  | succ n ih =>
    intro i acc hn h0 h1 hb
    have hj : i.toNat < l.length := by omega
    have hg := hr l[i.toNat] (List.getElem_mem _)
    have hd : l.drop i.toNat = l[i.toNat] :: l.drop (i + 1).toNat := by rw [List.drop_eq_getElem_cons hj, show (i + 1).toNat = i.toNat + 1 by omega]
    have hrd : rd_T36 l i = l[i.toNat] := rd1 hj
    generalize l[i.toNat] = y at hg hd hrd
    obtain ⟨a0, a9, b0, b9, sz, _⟩ := hg
    have w1 : wrap64 (i + 1) = i + 1 := Pl.w64 (by omega) (by omega)
    have s1 : (dig y.f0 ++ y.f1).size = 2 := by rw [ByteArray.size_append, dig_size, sz]
    have s2 : (dig y.f0 ++ y.f1 ++ dig y.f2).size = 3 := by rw [ByteArray.size_append, s1, dig_size]
    obtain ⟨r, ⟨K1, f1⟩, hbr⟩ := ih (i + 1) (acc ++ (dig y.f0 ++ y.f1 ++ dig y.f2)) (by omega) (by omega) (by omega) (by rw [ByteArray.size_append, s2]; omega)
    refine ⟨r, Pl.ev_unf ⟨K1 + 3, fun k hk => ?_⟩, ?_⟩
    · have e := f1 k (by omega)
      dsimp only at e
      obtain ⟨q, rfl⟩ : ∃ q, k = q + 1 := ⟨k - 1, by omega⟩
      rw [spec_taText.l0, if_pos (by omega), if_pos h0, if_pos (by omega), hrd, dig_num a0 (by omega), Option.bind_some, if_pos (by rw [dig_size, sz]; omega), dig_num b0 (by omega), Option.bind_some, if_pos (by rw [s1, dig_size]; omega), if_pos (by rw [s2]; omega), w1]
      exact e
    · rw [hbr, hd, Pl.bytesOf_append, Pl.bytesOf_append, Pl.bytesOf_append, dig_bytes a0 (by omega), dig_bytes b0 (by omega)]
      simp [rowB]
theorem txt {a b : Int} {l : List R1} (h : tabB a b l = true) : ∃ r, Ev (fun k => spec_taText.f k a b l) r ∧ bytesOf r = TB a b l := by
  obtain ⟨p0, p4, q0, q4, hlen, hall⟩ := tab_dims h
  have z1 : (dig a ++ (⟨#[47]⟩ : ByteArray)).size = 2 := by rw [ByteArray.size_append, dig_size]; rfl
  have z2 : (dig a ++ (⟨#[47]⟩ : ByteArray) ++ dig b).size = 3 := by rw [ByteArray.size_append, z1, dig_size]
  have hl := tab_len h
  obtain ⟨r, ⟨K3, f3⟩, hr⟩ := txt_l0 (l := l) (by omega) (small_of h) _ 0 (dig a ++ (⟨#[47]⟩ : ByteArray) ++ dig b ++ (⟨#[58]⟩ : ByteArray)) rfl (by omega) (by omega) (by rw [ByteArray.size_append, z2]; show ((3 + 1 : Nat) : Int) ≤ _; omega)
  refine ⟨r, ⟨K3 + 1, fun k hk => ?_⟩, ?_⟩
  · have f := f3 k (by omega)
    obtain ⟨q, rfl⟩ : ∃ q, k = q + 1 := ⟨k - 1, by omega⟩
    dsimp only at f ⊢
    rw [spec_taText.f, dig_num (by omega) (by omega), Option.bind_some, if_pos (by rw [dig_size]; omega), dig_num (by omega) (by omega), Option.bind_some, if_pos (by rw [z1, dig_size]; omega), if_pos (by rw [z2]; omega), f]
  · rw [hr, Pl.bytesOf_append, Pl.bytesOf_append, Pl.bytesOf_append, dig_bytes (by omega) (by omega), dig_bytes (by omega) (by omega)]
    rfl
theorem sp_hit {s : ByteArray} {c : Int} {acc : List ByteArray} {f i : Int} {r : List ByteArray} (hs : s.size ≤ 1048576) (h0 : 0 ≤ i) (hi : i < s.size) (hb : bt s i = c) (f0 : 0 ≤ f) (f1 : f ≤ i) (ha : acc.length ≤ 2000000) (h : Ev (fun k => spec_l1Split.l0 k s c (acc ++ [s.extract f.toNat i.toNat]) (i + 1) (i + 1)) r) : Ev (fun k => spec_l1Split.l0 k s c acc f i) r := by
  obtain ⟨K, e⟩ := h
  refine Pl.ev_unf ⟨K, fun k hk => ?_⟩
  have e := e k hk
  dsimp only at e
  rw [spec_l1Split.l0, if_pos hi, if_pos h0, if_pos hb, if_pos f0, if_pos f1, if_pos (by omega), if_pos (by omega), Pl.w64 (n := i + 1) (by omega) (by omega)]
  exact e
theorem sp_miss {s : ByteArray} {c : Int} {acc : List ByteArray} {f i : Int} {r : List ByteArray} (hs : s.size ≤ 1048576) (h0 : 0 ≤ i) (hi : i < s.size) (hb : bt s i ≠ c) (h : Ev (fun k => spec_l1Split.l0 k s c acc f (i + 1)) r) : Ev (fun k => spec_l1Split.l0 k s c acc f i) r := by
  obtain ⟨K, e⟩ := h
  refine Pl.ev_unf ⟨K, fun k hk => ?_⟩
  have e := e k hk
  dsimp only at e
  rw [spec_l1Split.l0, if_pos hi, if_pos h0, if_neg hb, Pl.w64 (n := i + 1) (by omega) (by omega)]
  exact e
theorem sp_end {s : ByteArray} {c : Int} {acc : List ByteArray} {f i : Int} (hi : (s.size : Int) ≤ i) (f0 : 0 ≤ f) (f1 : f ≤ s.size) (ha : acc.length ≤ 2000000) : Ev (fun k => spec_l1Split.l0 k s c acc f i) (acc ++ [s.extract f.toNat s.size]) := by
  refine Pl.ev_unf ⟨0, fun k _ => ?_⟩
  rw [spec_l1Split.l0, if_neg (by omega), if_pos f0, if_pos f1, if_pos (by omega)]
theorem sp_total {s : ByteArray} (hs : s.size ≤ 1048576) (c : Int) (n : Nat) : ∀ (acc : List ByteArray) (f i : Int), ((s.size : Int) - i).toNat = n → 0 ≤ f → f ≤ i → i ≤ s.size → acc.length ≤ i → (∀ x ∈ acc, x.size ≤ 1048576) → ∃ r, Ev (fun k => spec_l1Split.l0 k s c acc f i) r ∧ ∀ x ∈ r, x.size ≤ 1048576 := by
  have hx : ∀ p q : Nat, q ≤ s.size → (s.extract p q).size ≤ 1048576 := fun p q hq => by rw [ByteArray.size_extract]; omega
  induction n with
  | zero =>
    intro acc f i hn f0 f1 hi ha hm
    refine ⟨_, sp_end (by omega) f0 (by omega) (by omega), fun x hx' => ?_⟩
    rcases List.mem_append.1 hx' with h | h
    · exact hm x h
    · rw [List.mem_singleton.1 h]
      exact hx _ _ (Nat.le_refl _)
  | succ n ih =>
    intro acc f i hn f0 f1 hi ha hm
    by_cases hb : bt s i = c
    · obtain ⟨r, hr, hr2⟩ := ih (acc ++ [s.extract f.toNat i.toNat]) (i + 1) (i + 1) (by omega) (by omega) (by omega) (by omega) (by rw [List.length_append, List.length_singleton]; omega) (fun x hx' => by
        rcases List.mem_append.1 hx' with h | h
        · exact hm x h
        · rw [List.mem_singleton.1 h]
          exact hx _ _ (by omega))
      exact ⟨r, sp_hit hs (by omega) (by omega) hb f0 f1 (by omega) hr, hr2⟩
    · obtain ⟨r, hr, hr2⟩ := ih acc f (i + 1) (by omega) f0 (by omega) (by omega) (by omega) hm
      exact ⟨r, sp_miss hs (by omega) (by omega) hb hr, hr2⟩
theorem split_total {s : ByteArray} (hs : s.size ≤ 1048576) (c : Int) : ∃ r, Ev (fun k => spec_l1Split.f k s c) r ∧ ∀ x ∈ r, x.size ≤ 1048576 :=
  sp_total hs c _ [] 0 0 rfl (by omega) (by omega) (by omega) (by simp) (by simp)
theorem sp_none {s : ByteArray} (hs : s.size ≤ 1048576) {c : Int} (n : Nat) : ∀ (acc : List ByteArray) (f i : Int), ((s.size : Int) - i).toNat = n → 0 ≤ f → f ≤ i → i ≤ s.size → acc.length ≤ 2000000 → (∀ j : Int, i ≤ j → j < s.size → bt s j ≠ c) → Ev (fun k => spec_l1Split.l0 k s c acc f i) (acc ++ [s.extract f.toNat s.size]) := by
  induction n with
  | zero =>
    intro acc f i hn f0 f1 hi ha hm
    exact sp_end (by omega) f0 (by omega) ha
  | succ n ih =>
    intro acc f i hn f0 f1 hi ha hm
    exact sp_miss hs (by omega) (by omega) (hm i (by omega) (by omega)) (ih acc f (i + 1) (by omega) f0 (by omega) (by omega) ha fun j h1 h2 => hm j (by omega) h2)
theorem l1_l0 {t : ByteArray} (ht : t.size ≤ 6) (n : Nat) : ∀ (v i : Int), ((t.size : Int) - i).toNat = n → 0 ≤ i → i ≤ t.size → ∃ r, Ev (fun k => spec_l1Read.l0 k t v i) r := by
  induction n with
  | zero =>
    intro v i hn h0 h1
    exact ⟨v, Pl.ev_unf ⟨0, fun k _ => by rw [spec_l1Read.l0, if_neg (by omega)]⟩⟩
  | succ n ih =>
    intro v i hn h0 h1
    by_cases c1 : bt t i < 48
    · exact ⟨-1, Pl.ev_unf ⟨0, fun k _ => by rw [spec_l1Read.l0, if_pos (by omega), if_pos h0, if_pos c1]⟩⟩
    · by_cases c2 : bt t i > 57
      · exact ⟨-1, Pl.ev_unf ⟨0, fun k _ => by rw [spec_l1Read.l0, if_pos (by omega), if_pos h0, if_neg c1, if_pos c2]⟩⟩
      · obtain ⟨r, K, e⟩ := ih (wrap64 ((wrap64 (10 * v)) + (((bt t i) - 48) % 256))) (i + 1) (by omega) (by omega) (by omega)
        refine ⟨r, Pl.ev_unf ⟨K, fun k hk => ?_⟩⟩
        have e := e k hk
        dsimp only at e
        rw [spec_l1Read.l0, if_pos (by omega), if_pos h0, if_neg c1, if_neg c2, Pl.w64 (n := i + 1) (by omega) (by omega)]
        exact e
theorem l1_total (t : ByteArray) : ∃ v, Ev (fun k => spec_l1Read.f k t) v := by
  by_cases h : (1 : Int) ≤ t.size ∧ (t.size : Int) ≤ 6
  · obtain ⟨r, K, e⟩ := l1_l0 (t := t) (by omega) _ 0 0 rfl (by omega) (by omega)
    have hj : ∀ b : Bool, ∃ v, Ev (fun k => spec_l1Read.j0 k t b) v := fun b => by
      cases b with
      | true => exact ⟨-1, Pl.ev_unf ⟨0, fun k _ => by rw [spec_l1Read.j0, if_pos rfl]⟩⟩
      | false => exact ⟨r, Pl.ev_unf ⟨K, fun k hk => by rw [spec_l1Read.j0, if_neg (by simp)]; exact e k hk⟩⟩
    by_cases c : bt t 0 = 48
    · obtain ⟨v, K, e⟩ := hj (decide ((t.size : Int) > 1))
      refine ⟨v, K, fun k hk => ?_⟩
      dsimp only
      rw [spec_l1Read.f, in_val, decide_eq_true h.1, decide_eq_true h.2, Bool.and_self, Option.bind_some, if_pos rfl, if_pos (by omega), if_pos c]
      exact e k hk
    · obtain ⟨v, K, e⟩ := hj false
      refine ⟨v, K, fun k hk => ?_⟩
      dsimp only
      rw [spec_l1Read.f, in_val, decide_eq_true h.1, decide_eq_true h.2, Bool.and_self, Option.bind_some, if_pos rfl, if_pos (by omega), if_neg c]
      exact e k hk
  · refine ⟨-1, 1, fun k hk => ?_⟩
    obtain ⟨q, rfl⟩ : ∃ q, k = q + 1 := ⟨k - 1, by omega⟩
    dsimp only
    have hf : (decide ((1 : Int) ≤ t.size) && decide ((t.size : Int) ≤ 6)) = false := by
      cases hq : (decide ((1 : Int) ≤ t.size) && decide ((t.size : Int) ≤ 6)) with
      | false => rfl
      | true =>
        simp only [Bool.and_eq_true, decide_eq_true_eq] at hq
        exact absurd hq h
    rw [spec_l1Read.f, in_val, hf, Option.bind_some, if_neg (by simp), spec_l1Read.j0, if_pos rfl]
theorem l1_dig {x : Int} (h0 : 0 ≤ x) (h1 : x ≤ 9) : Ev (fun k => spec_l1Read.f k (dig x)) x := by
  have hs : ((dig x).size : Int) = 1 := by rw [dig_size]; rfl
  have hb : bt (dig x) 0 = 48 + x := by
    rw [Pl.bt_rd, dig_bytes h0 h1]
    rfl
  have hl : ∀ k, spec_l1Read.l0 (k + 2) (dig x) 0 0 = some x := fun k => by
    rw [spec_l1Read.l0, hs, if_pos (by omega), if_pos (by omega), hb, if_neg (by omega), if_neg (by omega), Pl.w64 (n := 10 * 0) (by omega) (by omega), Pl.w64 (n := 0 + 1) (by omega) (by omega), show (48 + x - 48) % 256 = x by omega, Pl.w64 (n := 10 * 0 + x) (by omega) (by omega), spec_l1Read.l0, hs, if_neg (by omega)]
    congr 1
    omega
  refine ⟨3, fun k hk => ?_⟩
  obtain ⟨q, rfl⟩ : ∃ q, k = q + 3 := ⟨k - 3, by omega⟩
  dsimp only
  have hj : spec_l1Read.j0 (q + 3) (dig x) false = some x := by
    rw [spec_l1Read.j0, if_neg (by simp)]
    exact hl q
  rw [spec_l1Read.f, in_val, hs, show (decide ((1 : Int) ≤ 1) && decide ((1 : Int) ≤ 6)) = true from by decide, Option.bind_some, if_pos rfl, if_pos (by omega), show decide ((1 : Int) > 1) = false from by decide]
  by_cases c : bt (dig x) 0 = 48
  · rw [if_pos c]; exact hj
  · rw [if_neg c]; exact hj

end Go.Proofs.YtoaekaehpnjpaaaDoor.Pure
