/- The plain law of IsScene: for every scene the program's answer is the reference's. No condition. -/
import Derived.Test.YtanecddhfdlnlaaPBx1
import Derived.Test.YtanecddhfdlnlaaPBx3
import Derived.Test.YtanecddhfdlnlaaPBx4
import Derived.Test.YtanecddhfdlnlaaPBx5
import Derived.Test.YtanecddhfdlnlaaPBx6
import Derived.Test.YtanecddhfdlnlaaBPuTab
namespace Go.Proofs.Ytanecddhfdlnlaa.Pure
open Go.RowKit Go.Proofs.Ytanecddhfdlnlaa Go.Proofs.Ytanecddhfdlnlaa.PB Go.Proofs.YtanecddhfdlnlaaW.PrintWords Go.Proofs.YtanecddhfdlnlaaW.PrintLast
set_option linter.unusedVariables false
set_option linter.unusedSimpArgs false

def inB (a b c : Int) : Bool := decide (b ≤ a) && decide (a ≤ c)
theorem inS (a b c : Int) : spec_l1In.f a b c = some (inB a b c) := in_val a b c
theorem inI (a b c : Int) : impl_within.f a b c = some (inB a b c) := within_val a b c
theorem cells_l0 {s : ByteArray} (hs : s.size ≤ 9000000000) (x t : Int) (n : Nat) : ∀ i : Int, ((s.size : Int) - i).toNat = n → 0 ≤ i → i ≤ s.size → ∃ b : Bool, Ev (fun k => impl_areCells.l0 k s x t s.size i) (b && ((s.size : Int) == x)) ∧
    (∀ (a0 : Int) (l : List R1) (w h px py pw ps : Int), Ev (fun k => spec_taScene.l0 k i a0 t l w h s px py pw ps) (b && (inB px 0 (wrap64 (w - 1)) && (inB py 0 (wrap64 (h - 1)) && (inB pw 0 3 && inB ps 0 (wrap64 (a0 - 1))))))) := by
  induction n with
  | zero =>
    intro i hn h0 h1
    refine ⟨true, Pl.ev_unf ⟨0, fun k _ => ?_⟩, fun a0 l w h px py pw ps => Pl.ev_unf ⟨0, fun k _ => ?_⟩⟩
    · rw [impl_areCells.l0, if_neg (by omega), Bool.true_and]
    · rw [spec_taScene.l0, if_neg (by omega), inS, Option.bind_some, inS, inS, inS, Bool.true_and]
      generalize inB px 0 (wrap64 (w - 1)) = p
      generalize inB py 0 (wrap64 (h - 1)) = q
      generalize inB pw 0 3 = r
      generalize inB ps 0 (wrap64 (a0 - 1)) = u
      cases p <;> cases q <;> cases r <;> rfl
  | succ n ih =>
    intro i hn h0 h1
    obtain ⟨b, ⟨K, f⟩, hg⟩ := ih (i + 1) (by omega) (by omega) (by omega)
    have w1 : wrap64 (i + 1) = i + 1 := Pl.w64 (by omega) (by omega)
    refine ⟨inB (wrap64 (wrap64 (bt s i) - 48)) 0 (wrap64 (t - 1)) && b, Pl.ev_unf ⟨K, fun k hk => ?_⟩, fun a0 l w h px py pw ps => ?_⟩
    · have f : impl_areCells.l0 k s x t s.size (i + 1) = some (b && ((s.size : Int) == x)) := f k hk
      rw [impl_areCells.l0, if_pos (by omega), if_pos h0, if_pos (by omega), inI, Option.bind_some, w1, f]
      generalize inB (wrap64 (wrap64 (bt s i) - 48)) 0 (wrap64 (t - 1)) = c
      cases c <;> rfl
    · obtain ⟨K2, g⟩ := hg a0 l w h px py pw ps
      refine Pl.ev_unf ⟨K2, fun k hk => ?_⟩
      have g : spec_taScene.l0 k (i + 1) a0 t l w h s px py pw ps = some (b && (inB px 0 (wrap64 (w - 1)) && (inB py 0 (wrap64 (h - 1)) && (inB pw 0 3 && inB ps 0 (wrap64 (a0 - 1)))))) := g k hk
      rw [spec_taScene.l0, if_pos (by omega), if_pos h0, inS, Option.bind_some, w1, g]
      generalize inB (wrap64 (wrap64 (bt s i) - 48)) 0 (wrap64 (t - 1)) = c
      cases c <;> rfl
theorem size_val (a b : Int) : impl_isSize.f a b = some (inB a 1 9 && inB b 1 9) := by
  rw [impl_isSize.f, inI, Option.bind_some, inI]
  generalize inB a 1 9 = p
  generalize inB b 1 9 = q
  cases p <;> rfl
theorem ant_val (a b c d e : Int) : impl_isAnt.f a b c d e = some (inB c 0 (wrap64 (a - 1)) && (inB d 0 (wrap64 (b - 1)) && inB e 0 3)) := by
  rw [impl_isAnt.f, inI, Option.bind_some, inI, impl_isWay.f, inI]
  generalize inB c 0 (wrap64 (a - 1)) = p
  generalize inB d 0 (wrap64 (b - 1)) = q
  generalize inB e 0 3 = r
  cases p <;> cases q <;> rfl
theorem scene_both {l : List R1} (hl : l.length ≤ 1048576) (a0 a1 w h : Int) (s : ByteArray) (hs : s.size ≤ 9000000000) (px py pw ps : Int) : ∃ b, Ev (fun k => spec_IsScene.f k a0 a1 l w h s px py pw ps) b ∧ Ev (fun k => impl_IsScene.f k a0 a1 l w h s px py pw ps) b := by
  obtain ⟨⟨K, f⟩, g⟩ := tab_both hl a0 a1
  obtain ⟨b, ⟨K2, f2⟩, hsp⟩ := cells_l0 hs (wrap64 (w * h)) a1 _ 0 rfl (by omega) (by omega)
  obtain ⟨K3, f3⟩ := hsp a0 l w h px py pw ps
  generalize hT : tabB a0 a1 l = T at f g
  refine ⟨T && (inB w 1 9 && (inB h 1 9 && (((s.size : Int) == wrap64 (w * h)) && (b && (inB px 0 (wrap64 (w - 1)) && (inB py 0 (wrap64 (h - 1)) && (inB pw 0 3 && inB ps 0 (wrap64 (a0 - 1))))))))), ⟨K + K3 + 1, fun k hk => ?_⟩, ⟨K2, fun k hk => ?_⟩⟩
  · have f : spec_taGood.f k a0 a1 l = some T := f k (by omega)
    obtain ⟨q, rfl⟩ : ∃ q, k = q + 1 := ⟨k - 1, by omega⟩
    have f3 : spec_taScene.l0 q 0 a0 a1 l w h s px py pw ps = some (b && (inB px 0 (wrap64 (w - 1)) && (inB py 0 (wrap64 (h - 1)) && (inB pw 0 3 && inB ps 0 (wrap64 (a0 - 1)))))) := f3 q (by omega)
    have eb : ((s.size : Int) != wrap64 (w * h)) = !((s.size : Int) == wrap64 (w * h)) := rfl
    dsimp only
    rw [spec_IsScene.f, spec_taScene.f, f, Option.bind_some, inS, inS, eb]
    simp only [Option.bind_some, spec_taScene.j0]
    rw [f3]
    generalize (b && (inB px 0 (wrap64 (w - 1)) && (inB py 0 (wrap64 (h - 1)) && (inB pw 0 3 && inB ps 0 (wrap64 (a0 - 1)))))) = m
    generalize ((s.size : Int) == wrap64 (w * h)) = n
    generalize inB w 1 9 = p
    generalize inB h 1 9 = u
    cases T <;> cases p <;> cases u <;> cases n <;> rfl
  · have f2 : impl_areCells.l0 k s (wrap64 (w * h)) a1 s.size 0 = some (b && ((s.size : Int) == wrap64 (w * h))) := f2 k hk
    have es : impl_Table_isState.f a0 a1 l ps = some (inB ps 0 (wrap64 (a0 - 1))) := impl_IsTable.state a0 a1 l ps
    dsimp only
    rw [impl_IsScene.f, g, Option.bind_some, size_val, impl_areCells.f, f2, ant_val, es]
    generalize ((s.size : Int) == wrap64 (w * h)) = n
    generalize inB w 1 9 = p
    generalize inB h 1 9 = u
    generalize inB px 0 (wrap64 (w - 1)) = p1
    generalize inB py 0 (wrap64 (h - 1)) = p2
    generalize inB pw 0 3 = p3
    generalize inB ps 0 (wrap64 (a0 - 1)) = p4
    cases T <;> cases p <;> cases u <;> cases n <;> cases b <;> cases p1 <;> cases p2 <;> cases p3 <;> rfl
theorem eqScene_self {l : List R1} (hl : l.length ≤ 1048576) (a0 a1 w h : Int) (s : ByteArray) (px py pw ps : Int) : Ev (fun k => laws_eqScene.f k a0 a1 l w h s px py pw ps a0 a1 l w h s px py pw ps) true := by
  obtain ⟨K, f⟩ := eqTable_self hl a0 a1
  refine ⟨K, fun k hk => ?_⟩
  have f : laws_eqTable.f k a0 a1 l a0 a1 l = some true := f k hk
  dsimp only
  rw [laws_eqScene.f, f, Option.bind_some, if_pos rfl, if_pos rfl, if_pos rfl, if_pos rfl, if_pos rfl, if_pos rfl, if_pos rfl, if_pos rfl]
theorem FnExactIsScene (a0_0 : Int) (a0_1 : Int) (l0_2 : List (S85)) (a0_3 : Int) (a0_4 : Int) (a0_5 : ByteArray) (a0_6 : Int) (a0_7 : Int) (a0_8 : Int) (a0_9 : Int) (h0 : (((Lit.int .i64 a0_0).wf = true) ∧ ((Lit.int .i64 a0_1).wf = true) ∧ (l0_2.length ≤ 9223372036854775807 ∧ ∀ e_ ∈ l0_2, ((Lit.int .i64 e_.f0).wf = true) ∧ (e_.f1.size ≤ maxLen) ∧ ((Lit.int .i64 e_.f2).wf = true))) ∧ ((Lit.int .i64 a0_3).wf = true) ∧ ((Lit.int .i64 a0_4).wf = true) ∧ (a0_5.size ≤ maxLen) ∧ ((Lit.int .i64 a0_6).wf = true) ∧ ((Lit.int .i64 a0_7).wf = true) ∧ ((Lit.int .i64 a0_8).wf = true) ∧ ((Lit.int .i64 a0_9).wf = true)) : ∃ k, laws_FnExactIsScene.f k a0_0 a0_1 l0_2 a0_3 a0_4 a0_5 a0_6 a0_7 a0_8 a0_9 = some true := by
  obtain ⟨⟨_, _, hl, he⟩, _, _, hc, _⟩ := h0
  have hc := Pl.le_max hc
  obtain ⟨v, ⟨K1, f1⟩, v0, v1, hv⟩ := szTable_val (l := l0_2) (fun e h => Pl.le_max (he e h).2.1) hl a0_0 a0_1
  have w1 : wrap64 (v - (a0_5.size : Int)) = v - (a0_5.size : Int) := Pl.w64 (by omega) (by omega)
  by_cases c : v - (a0_5.size : Int) < 0
  · refine ⟨K1, ?_⟩
    have f1 : laws_szTable.f K1 a0_0 a0_1 l0_2 1048576 = some v := f1 K1 (Nat.le_refl _)
    have e : laws_szScene.f K1 a0_0 a0_1 l0_2 a0_3 a0_4 a0_5 a0_6 a0_7 a0_8 a0_9 1048576 = some (-1) := by
      rw [laws_szScene.f, f1, Option.bind_some, w1, if_pos c]
      by_cases d : v < 0
      · rw [if_pos d]
      · rw [if_neg d]
    rw [laws_FnExactIsScene.f, e, Option.bind_some, if_pos (by omega)]
  · have hl' := hv (by omega)
    obtain ⟨K2, f2⟩ := toTable_val hl' a0_0 a0_1
    have hm : (l0_2.map cv).length ≤ 1048576 := by rw [List.length_map]; exact hl'
    obtain ⟨r, ⟨K3, f3⟩, ⟨K4, f4⟩⟩ := scene_both hm a0_0 a0_1 a0_3 a0_4 a0_5 (by omega) a0_6 a0_7 a0_8 a0_9
    obtain ⟨K5, f5⟩ := eqScene_self hm a0_0 a0_1 a0_3 a0_4 a0_5 a0_6 a0_7 a0_8 a0_9
    obtain ⟨K, hK⟩ : ∃ K, K = K1 + K2 + K3 + K4 + K5 := ⟨_, rfl⟩
    have g1 : laws_szTable.f K a0_0 a0_1 l0_2 1048576 = some v := f1 K (by omega)
    have e : laws_szScene.f K a0_0 a0_1 l0_2 a0_3 a0_4 a0_5 a0_6 a0_7 a0_8 a0_9 1048576 = some (v - (a0_5.size : Int)) := by
      rw [laws_szScene.f, g1, Option.bind_some, w1, if_neg (by omega), if_neg c]
    have g2 : laws_toTable.f K a0_0 a0_1 l0_2 = some (a0_0, a0_1, l0_2.map cv) := f2 K (by omega)
    have g2' : laws_toScene.f K a0_0 a0_1 l0_2 a0_3 a0_4 a0_5 a0_6 a0_7 a0_8 a0_9 = some (a0_0, a0_1, l0_2.map cv, a0_3, a0_4, a0_5, a0_6, a0_7, a0_8, a0_9) := by
      rw [laws_toScene.f, g2, Option.bind_some]
    have g3 : spec_IsScene.f K a0_0 a0_1 (l0_2.map cv) a0_3 a0_4 a0_5 a0_6 a0_7 a0_8 a0_9 = some r := f3 K (by omega)
    have g4 : impl_IsScene.f K a0_0 a0_1 (l0_2.map cv) a0_3 a0_4 a0_5 a0_6 a0_7 a0_8 a0_9 = some r := f4 K (by omega)
    have g5 : laws_eqScene.f K a0_0 a0_1 (l0_2.map cv) a0_3 a0_4 a0_5 a0_6 a0_7 a0_8 a0_9 a0_0 a0_1 (l0_2.map cv) a0_3 a0_4 a0_5 a0_6 a0_7 a0_8 a0_9 = some true := f5 K (by omega)
    refine ⟨K, ?_⟩
    rw [laws_FnExactIsScene.f, e, Option.bind_some, if_neg c, g2']
    simp only [Option.bind_some]
    rw [g3, g4]
    simp only [Option.bind_some]
    rw [g5, bne_self_eq_false, if_neg (by simp), Option.bind_some, if_pos rfl]

end Go.Proofs.Ytanecddhfdlnlaa.Pure
