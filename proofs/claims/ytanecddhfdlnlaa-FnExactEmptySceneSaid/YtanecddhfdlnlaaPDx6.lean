-- Printed for this claim by gprint.py, a program of this session round the kit's printer. Lean checks it.
import Derived.Test.YtanecddhfdlnlaaPDx0
import Derived.Test.YtanecddhfdlnlaaPDx1
import Derived.Test.YtanecddhfdlnlaaPDx2
import Derived.Test.YtanecddhfdlnlaaPDx3
import Derived.Test.YtanecddhfdlnlaaPDx4
import Derived.Test.YtanecddhfdlnlaaPDx5
namespace Go.Proofs.Ytanecddhfdlnlaa.PD
open Go.RowKit Go.Proofs.YtanecddhfdlnlaaW.PrintWords Go.Proofs.YtanecddhfdlnlaaW.PrintLast Go.Proofs.YtanecddhfdlnlaaW.PrintMore
attribute [local go_sem] max2_int min2_int max_two min_two max_three min_three max_four min_four   -- for this text's walks alone
set_option linter.unusedVariables false
set_option linter.unusedSimpArgs false

theorem dn {P Q : Prop} (q : Q) (h : Q → P := by (intro q; (with_reducible repeat (first | refine blk_drewN ?_ _ | refine blk_drew ?_ | refine blk_alloc ?_ _)); exact q)) : P := h q
theorem bl0 {P Q : Prop} (q : Q) (h : Q → P := by (intro q; repeat (first | (with_reducible first | exact q | apply below_alloc | apply pw_below_drewN | apply below_drew1) | exact q))) : P := h q
theorem bl1 {P Q A0 : Prop} (q : Q) (a0 : A0) (h : Q → A0 → P := by (intro q a0; repeat (first | (with_reducible first | exact q | apply below_alloc | apply pw_below_drewN | apply below_drew1 | refine below_set ?_ a0) | exact q))) : P := h q a0
theorem bl2 {P Q A0 A1 : Prop} (q : Q) (a0 : A0) (a1 : A1) (h : Q → A0 → A1 → P := by (intro q a0 a1; repeat (first | (with_reducible first | exact q | apply below_alloc | apply pw_below_drewN | apply below_drew1 | refine below_set ?_ a0 | refine below_set ?_ a1) | exact q))) : P := h q a0 a1
theorem bl3 {P Q A0 A1 A2 : Prop} (q : Q) (a0 : A0) (a1 : A1) (a2 : A2) (h : Q → A0 → A1 → A2 → P := by (intro q a0 a1 a2; repeat (first | (with_reducible first | exact q | apply below_alloc | apply pw_below_drewN | apply below_drew1 | refine below_set ?_ a0 | refine below_set ?_ a1 | refine below_set ?_ a2) | exact q))) : P := h q a0 a1 a2
theorem bl4 {P Q A0 A1 A2 A3 : Prop} (q : Q) (a0 : A0) (a1 : A1) (a2 : A2) (a3 : A3) (h : Q → A0 → A1 → A2 → A3 → P := by (intro q a0 a1 a2 a3; repeat (first | (with_reducible first | exact q | apply below_alloc | apply pw_below_drewN | apply below_drew1 | refine below_set ?_ a0 | refine below_set ?_ a1 | refine below_set ?_ a2 | refine below_set ?_ a3) | exact q))) : P := h q a0 a1 a2 a3
theorem bl5 {P Q A0 A1 A2 A3 A4 : Prop} (q : Q) (a0 : A0) (a1 : A1) (a2 : A2) (a3 : A3) (a4 : A4) (h : Q → A0 → A1 → A2 → A3 → A4 → P := by (intro q a0 a1 a2 a3 a4; repeat (first | (with_reducible first | exact q | apply below_alloc | apply pw_below_drewN | apply below_drew1 | refine below_set ?_ a0 | refine below_set ?_ a1 | refine below_set ?_ a2 | refine below_set ?_ a3 | refine below_set ?_ a4) | exact q))) : P := h q a0 a1 a2 a3 a4
theorem bb {w w1 w0 : World} {g : Nat} {o : Obj} (q : w0.heap[g]? = some o) (hb : Below w.heap.size w w1) (h : w0.heap[g]? = some o → w.heap[g]? = some o := by (intro q; (with_reducible repeat (first | refine blk_drewN ?_ _ | refine blk_drew ?_ | refine blk_alloc ?_ _)); exact q)) : w1.heap[g]? = some o := blk_below (h q) hb
theorem bq {w w0 : World} {g : Nat} {o : Obj} (q : w0.heap[g]? = some o) (h : w0.heap[g]? = some o → w.heap[g]? = some o := by (intro q; (with_reducible repeat (first | refine blk_drewN ?_ _ | refine blk_drew ?_ | refine blk_alloc ?_ _)); exact q)) : g < w.heap.size := blk_lt (h q)
theorem rn {P Q : Prop} (q : Q) (h : Q → P := by (intro q; (with_reducible repeat (first | apply Kd.R_alloc | apply Kd.R_drewN | apply Kd.R_drew)); exact q)) : P := h q
/-! ### laws_FnExactEmptyScene: function 8 -/
mutual
def laws_FnExactEmptyScene.j0 : Nat → Int → Int → Bool → Bool → Bool → Int → Int → List (S85) → Int → Int → List (S27) → Int → Int → ByteArray → Int → Int → Int → Int → Int → Int → List (S27) → Int → Int → List (S27) → Int → Int → ByteArray → Int → Int → Int → Int → Option (Bool)
 | 0, _, _, _, _, _, _, _, _, _, _, _, _, _, _, _, _, _, _, _, _, _, _, _, _, _, _, _, _, _, _, _ => none
 | k + 1, x1, x2, x9, x12, x48, x215000, x215001, x215002, x235000, x235001, x235002, x235003, x235004, x235005, x235006, x235007, x235008, x235009, x241000, x241001, x241002, x255000, x255001, x255002, x255003, x255004, x255005, x255006, x255007, x255008, x255009 => if x48 = true then (some false) else ((laws_toTable.f k x215000 x215001 x215002).bind fun bt256 => ((laws_eqTable.f k x241000 x241001 x241002 bt256.1 bt256.2.1 bt256.2.2).bind fun t261 => (if t261 = true then ((laws_markTable.f k x241000 x241001 x241002 1).bind fun bt262 => (if bt262.1 < 0 then (laws_FnExactEmptyScene.j1 k x1 x2 x9 true x215000 x215001 x215002 x235000 x235001 x235002 x235003 x235004 x235005 x235006 x235007 x235008 x235009 x255000 x255001 x255002 x255003 x255004 x255005 x255006 x255007 x255008 x255009) else ((laws_eqScene.f k x255000 x255001 x255002 x255003 x255004 x255005 x255006 x255007 x255008 x255009 x235000 x235001 x235002 x235003 x235004 x235005 x235006 x235007 x235008 x235009).bind fun t264 => (if t264 = true then (laws_FnExactEmptyScene.j1 k x1 x2 x9 (x12 != x9) x215000 x215001 x215002 x235000 x235001 x235002 x235003 x235004 x235005 x235006 x235007 x235008 x235009 x255000 x255001 x255002 x255003 x255004 x255005 x255006 x255007 x255008 x255009) else (laws_FnExactEmptyScene.j1 k x1 x2 x9 true x215000 x215001 x215002 x235000 x235001 x235002 x235003 x235004 x235005 x235006 x235007 x235008 x235009 x255000 x255001 x255002 x255003 x255004 x255005 x255006 x255007 x255008 x255009))))) else (some false))))
def laws_FnExactEmptyScene.j1 : Nat → Int → Int → Bool → Bool → Int → Int → List (S85) → Int → Int → List (S27) → Int → Int → ByteArray → Int → Int → Int → Int → Int → Int → List (S27) → Int → Int → ByteArray → Int → Int → Int → Int → Option (Bool)
 | 0, _, _, _, _, _, _, _, _, _, _, _, _, _, _, _, _, _, _, _, _, _, _, _, _, _, _, _ => none
 | k + 1, x1, x2, x9, x69, x215000, x215001, x215002, x235000, x235001, x235002, x235003, x235004, x235005, x235006, x235007, x235008, x235009, x255000, x255001, x255002, x255003, x255004, x255005, x255006, x255007, x255008, x255009 => if x69 = true then (some false) else ((laws_markScene.f k x255000 x255001 x255002 x255003 x255004 x255005 x255006 x255007 x255008 x255009 1).bind fun bt265 => ((laws_heldScene.f k x255000 x255001 bt265.2 x255003 x255004 x255005 x255006 x255007 x255008 x255009 1).bind fun t267 => (if t267 < 0 then (some false) else (if t267 = bt265.1 then ((laws_toTable.f k x215000 x215001 x215002).bind fun bt268 => ((impl_EmptyScene.f k bt268.1 bt268.2.1 bt268.2.2 x1 x2).bind fun bt273 => ((laws_eqScene.f k bt273.1 bt273.2.1 bt273.2.2.1 bt273.2.2.2.1 bt273.2.2.2.2.1 bt273.2.2.2.2.2.1 bt273.2.2.2.2.2.2.1 bt273.2.2.2.2.2.2.2.1 bt273.2.2.2.2.2.2.2.2.1 bt273.2.2.2.2.2.2.2.2.2.1 x235000 x235001 x235002 x235003 x235004 x235005 x235006 x235007 x235008 x235009).bind fun t287 => (if t287 = true then (laws_FnExactEmptyScene.j2 k bt265.1 (bt273.2.2.2.2.2.2.2.2.2.2 != x9) x255000 x255001 bt265.2 x255003 x255004 x255005 x255006 x255007 x255008 x255009) else (laws_FnExactEmptyScene.j2 k bt265.1 true x255000 x255001 bt265.2 x255003 x255004 x255005 x255006 x255007 x255008 x255009))))) else (some false)))))
def laws_FnExactEmptyScene.j2 : Nat → Int → Bool → Int → Int → List (S27) → Int → Int → ByteArray → Int → Int → Int → Int → Option (Bool)
 | 0, _, _, _, _, _, _, _, _, _, _, _, _ => none
 | k + 1, x14, x97, x255000, x255001, x255002, x255003, x255004, x255005, x255006, x255007, x255008, x255009 => if x97 = true then (some false) else ((laws_heldScene.f k x255000 x255001 x255002 x255003 x255004 x255005 x255006 x255007 x255008 x255009 1).bind fun t288 => (if t288 < 0 then (some false) else (if t288 = x14 then (some true) else (some false))))
end
def laws_FnExactEmptyScene.f (k : Nat) (a0_0 : Int) (a0_1 : Int) (l0_2 : List (S85)) (a1 : Int) (a2 : Int) : Option (Bool) := (laws_szTable.f k a0_0 a0_1 l0_2 1048576).bind fun t215 => (if t215 < 0 then (some true) else ((laws_toTable.f k a0_0 a0_1 l0_2).bind fun bt216 => ((spec_EmptyScene.f k bt216.1 bt216.2.1 bt216.2.2 a1 a2).bind fun bt221 => ((laws_toTable.f k a0_0 a0_1 l0_2).bind fun bt235 => ((impl_EmptyScene.f k bt235.1 bt235.2.1 bt235.2.2 a1 a2).bind fun bt241 => ((laws_eqScene.f k bt241.1 bt241.2.1 bt241.2.2.1 bt241.2.2.2.1 bt241.2.2.2.2.1 bt241.2.2.2.2.2.1 bt241.2.2.2.2.2.2.1 bt241.2.2.2.2.2.2.2.1 bt241.2.2.2.2.2.2.2.2.1 bt241.2.2.2.2.2.2.2.2.2.1 bt221.1 bt221.2.1 bt221.2.2.1 bt221.2.2.2.1 bt221.2.2.2.2.1 bt221.2.2.2.2.2.1 bt221.2.2.2.2.2.2.1 bt221.2.2.2.2.2.2.2.1 bt221.2.2.2.2.2.2.2.2.1 bt221.2.2.2.2.2.2.2.2.2.1).bind fun t255 => (if t255 = true then (laws_FnExactEmptyScene.j0 k a1 a2 bt221.2.2.2.2.2.2.2.2.2.2 bt241.2.2.2.2.2.2.2.2.2.2 (bt241.2.2.2.2.2.2.2.2.2.2 != bt221.2.2.2.2.2.2.2.2.2.2) a0_0 a0_1 l0_2 bt221.1 bt221.2.1 bt221.2.2.1 bt221.2.2.2.1 bt221.2.2.2.2.1 bt221.2.2.2.2.2.1 bt221.2.2.2.2.2.2.1 bt221.2.2.2.2.2.2.2.1 bt221.2.2.2.2.2.2.2.2.1 bt221.2.2.2.2.2.2.2.2.2.1 bt235.1 bt235.2.1 bt235.2.2 bt241.1 bt241.2.1 bt241.2.2.1 bt241.2.2.2.1 bt241.2.2.2.2.1 bt241.2.2.2.2.2.1 bt241.2.2.2.2.2.2.1 bt241.2.2.2.2.2.2.2.1 bt241.2.2.2.2.2.2.2.2.1 bt241.2.2.2.2.2.2.2.2.2.1) else (laws_FnExactEmptyScene.j0 k a1 a2 bt221.2.2.2.2.2.2.2.2.2.2 bt241.2.2.2.2.2.2.2.2.2.2 true a0_0 a0_1 l0_2 bt221.1 bt221.2.1 bt221.2.2.1 bt221.2.2.2.1 bt221.2.2.2.2.1 bt221.2.2.2.2.2.1 bt221.2.2.2.2.2.2.1 bt221.2.2.2.2.2.2.2.1 bt221.2.2.2.2.2.2.2.2.1 bt221.2.2.2.2.2.2.2.2.2.1 bt235.1 bt235.2.1 bt235.2.2 bt241.1 bt241.2.1 bt241.2.2.1 bt241.2.2.2.1 bt241.2.2.2.2.1 bt241.2.2.2.2.2.1 bt241.2.2.2.2.2.2.1 bt241.2.2.2.2.2.2.2.1 bt241.2.2.2.2.2.2.2.2.1 bt241.2.2.2.2.2.2.2.2.2.1))))))))
theorem laws_FnExactEmptyScene.mono_l : ∀ k, (∀ y0 y1 y2 y3 y4 y5 y6 y7 y8 y9 y10 y11 y12 y13 y14 y15 y16 y17 y18 y19 y20 y21 y22 y23 y24 y25 y26 y27 y28 y29 y30, LeO (laws_FnExactEmptyScene.j0 k y0 y1 y2 y3 y4 y5 y6 y7 y8 y9 y10 y11 y12 y13 y14 y15 y16 y17 y18 y19 y20 y21 y22 y23 y24 y25 y26 y27 y28 y29 y30) (laws_FnExactEmptyScene.j0 (k + 1) y0 y1 y2 y3 y4 y5 y6 y7 y8 y9 y10 y11 y12 y13 y14 y15 y16 y17 y18 y19 y20 y21 y22 y23 y24 y25 y26 y27 y28 y29 y30)) ∧ (∀ y0 y1 y2 y3 y4 y5 y6 y7 y8 y9 y10 y11 y12 y13 y14 y15 y16 y17 y18 y19 y20 y21 y22 y23 y24 y25 y26, LeO (laws_FnExactEmptyScene.j1 k y0 y1 y2 y3 y4 y5 y6 y7 y8 y9 y10 y11 y12 y13 y14 y15 y16 y17 y18 y19 y20 y21 y22 y23 y24 y25 y26) (laws_FnExactEmptyScene.j1 (k + 1) y0 y1 y2 y3 y4 y5 y6 y7 y8 y9 y10 y11 y12 y13 y14 y15 y16 y17 y18 y19 y20 y21 y22 y23 y24 y25 y26)) ∧ (∀ y0 y1 y2 y3 y4 y5 y6 y7 y8 y9 y10 y11, LeO (laws_FnExactEmptyScene.j2 k y0 y1 y2 y3 y4 y5 y6 y7 y8 y9 y10 y11) (laws_FnExactEmptyScene.j2 (k + 1) y0 y1 y2 y3 y4 y5 y6 y7 y8 y9 y10 y11))
 | 0 => ⟨fun _ _ _ _ _ _ _ _ _ _ _ _ _ _ _ _ _ _ _ _ _ _ _ _ _ _ _ _ _ _ _ r h => by simp [laws_FnExactEmptyScene.j0] at h, fun _ _ _ _ _ _ _ _ _ _ _ _ _ _ _ _ _ _ _ _ _ _ _ _ _ _ _ r h => by simp [laws_FnExactEmptyScene.j1] at h, fun _ _ _ _ _ _ _ _ _ _ _ _ r h => by simp [laws_FnExactEmptyScene.j2] at h⟩
 | k + 1 => by
  obtain ⟨ih0, ih1, ih2⟩ := laws_FnExactEmptyScene.mono_l k
  refine ⟨?_, ?_, ?_⟩
  ·intro y0 y1 y2 y3 y4 y5 y6 y7 y8 y9 y10 y11 y12 y13 y14 y15 y16 y17 y18 y19 y20 y21 y22 y23 y24 y25 y26 y27 y28 y29 y30
   unfold laws_FnExactEmptyScene.j0
   repeat' first
   | (with_reducible exact ih0 _ _ _ _ _ _ _ _ _ _ _ _ _ _ _ _ _ _ _ _ _ _ _ _ _ _ _ _ _ _ _)
   | (with_reducible exact ih1 _ _ _ _ _ _ _ _ _ _ _ _ _ _ _ _ _ _ _ _ _ _ _ _ _ _ _)
   | (with_reducible exact ih2 _ _ _ _ _ _ _ _ _ _ _ _)
   | (with_reducible exact impl_EmptyScene.mono _ _ _ _ _ _)
   | (with_reducible exact laws_eqScene.mono _ _ _ _ _ _ _ _ _ _ _ _ _ _ _ _ _ _ _ _ _)
   | (with_reducible exact laws_eqTable.mono _ _ _ _ _ _ _)
   | (with_reducible exact laws_heldScene.mono _ _ _ _ _ _ _ _ _ _ _ _)
   | (with_reducible exact laws_markScene.mono _ _ _ _ _ _ _ _ _ _ _ _)
   | (with_reducible exact laws_markTable.mono _ _ _ _ _)
   | (with_reducible exact laws_szTable.mono _ _ _ _ _)
   | (with_reducible exact laws_toTable.mono _ _ _ _)
   | (with_reducible exact spec_EmptyScene.mono _ _ _ _ _ _)
   | (with_reducible exact LeO.refl _)
   | (with_reducible exact LeO.none _)
   | (with_reducible refine LeO.ite ?_ ?_)
   | (with_reducible refine LeO.bind ?_ (fun _ => ?_))
   | exact ih0 _ _ _ _ _ _ _ _ _ _ _ _ _ _ _ _ _ _ _ _ _ _ _ _ _ _ _ _ _ _ _
   | exact ih1 _ _ _ _ _ _ _ _ _ _ _ _ _ _ _ _ _ _ _ _ _ _ _ _ _ _ _
   | exact ih2 _ _ _ _ _ _ _ _ _ _ _ _
   | exact impl_EmptyScene.mono _ _ _ _ _ _
   | exact laws_eqScene.mono _ _ _ _ _ _ _ _ _ _ _ _ _ _ _ _ _ _ _ _ _
   | exact laws_eqTable.mono _ _ _ _ _ _ _
   | exact laws_heldScene.mono _ _ _ _ _ _ _ _ _ _ _ _
   | exact laws_markScene.mono _ _ _ _ _ _ _ _ _ _ _ _
   | exact laws_markTable.mono _ _ _ _ _
   | exact laws_szTable.mono _ _ _ _ _
   | exact laws_toTable.mono _ _ _ _
   | exact spec_EmptyScene.mono _ _ _ _ _ _
   | exact LeO.none _
   | refine LeO.ite ?_ ?_
   | refine LeO.bind ?_ (fun _ => ?_)
  ·intro y0 y1 y2 y3 y4 y5 y6 y7 y8 y9 y10 y11 y12 y13 y14 y15 y16 y17 y18 y19 y20 y21 y22 y23 y24 y25 y26
   unfold laws_FnExactEmptyScene.j1
   repeat' first
   | (with_reducible exact ih0 _ _ _ _ _ _ _ _ _ _ _ _ _ _ _ _ _ _ _ _ _ _ _ _ _ _ _ _ _ _ _)
   | (with_reducible exact ih1 _ _ _ _ _ _ _ _ _ _ _ _ _ _ _ _ _ _ _ _ _ _ _ _ _ _ _)
   | (with_reducible exact ih2 _ _ _ _ _ _ _ _ _ _ _ _)
   | (with_reducible exact impl_EmptyScene.mono _ _ _ _ _ _)
   | (with_reducible exact laws_eqScene.mono _ _ _ _ _ _ _ _ _ _ _ _ _ _ _ _ _ _ _ _ _)
   | (with_reducible exact laws_eqTable.mono _ _ _ _ _ _ _)
   | (with_reducible exact laws_heldScene.mono _ _ _ _ _ _ _ _ _ _ _ _)
   | (with_reducible exact laws_markScene.mono _ _ _ _ _ _ _ _ _ _ _ _)
   | (with_reducible exact laws_markTable.mono _ _ _ _ _)
   | (with_reducible exact laws_szTable.mono _ _ _ _ _)
   | (with_reducible exact laws_toTable.mono _ _ _ _)
   | (with_reducible exact spec_EmptyScene.mono _ _ _ _ _ _)
   | (with_reducible exact LeO.refl _)
   | (with_reducible exact LeO.none _)
   | (with_reducible refine LeO.ite ?_ ?_)
   | (with_reducible refine LeO.bind ?_ (fun _ => ?_))
   | exact ih0 _ _ _ _ _ _ _ _ _ _ _ _ _ _ _ _ _ _ _ _ _ _ _ _ _ _ _ _ _ _ _
   | exact ih1 _ _ _ _ _ _ _ _ _ _ _ _ _ _ _ _ _ _ _ _ _ _ _ _ _ _ _
   | exact ih2 _ _ _ _ _ _ _ _ _ _ _ _
   | exact impl_EmptyScene.mono _ _ _ _ _ _
   | exact laws_eqScene.mono _ _ _ _ _ _ _ _ _ _ _ _ _ _ _ _ _ _ _ _ _
   | exact laws_eqTable.mono _ _ _ _ _ _ _
   | exact laws_heldScene.mono _ _ _ _ _ _ _ _ _ _ _ _
   | exact laws_markScene.mono _ _ _ _ _ _ _ _ _ _ _ _
   | exact laws_markTable.mono _ _ _ _ _
   | exact laws_szTable.mono _ _ _ _ _
   | exact laws_toTable.mono _ _ _ _
   | exact spec_EmptyScene.mono _ _ _ _ _ _
   | exact LeO.none _
   | refine LeO.ite ?_ ?_
   | refine LeO.bind ?_ (fun _ => ?_)
  ·intro y0 y1 y2 y3 y4 y5 y6 y7 y8 y9 y10 y11
   unfold laws_FnExactEmptyScene.j2
   repeat' first
   | (with_reducible exact ih0 _ _ _ _ _ _ _ _ _ _ _ _ _ _ _ _ _ _ _ _ _ _ _ _ _ _ _ _ _ _ _)
   | (with_reducible exact ih1 _ _ _ _ _ _ _ _ _ _ _ _ _ _ _ _ _ _ _ _ _ _ _ _ _ _ _)
   | (with_reducible exact ih2 _ _ _ _ _ _ _ _ _ _ _ _)
   | (with_reducible exact impl_EmptyScene.mono _ _ _ _ _ _)
   | (with_reducible exact laws_eqScene.mono _ _ _ _ _ _ _ _ _ _ _ _ _ _ _ _ _ _ _ _ _)
   | (with_reducible exact laws_eqTable.mono _ _ _ _ _ _ _)
   | (with_reducible exact laws_heldScene.mono _ _ _ _ _ _ _ _ _ _ _ _)
   | (with_reducible exact laws_markScene.mono _ _ _ _ _ _ _ _ _ _ _ _)
   | (with_reducible exact laws_markTable.mono _ _ _ _ _)
   | (with_reducible exact laws_szTable.mono _ _ _ _ _)
   | (with_reducible exact laws_toTable.mono _ _ _ _)
   | (with_reducible exact spec_EmptyScene.mono _ _ _ _ _ _)
   | (with_reducible exact LeO.refl _)
   | (with_reducible exact LeO.none _)
   | (with_reducible refine LeO.ite ?_ ?_)
   | (with_reducible refine LeO.bind ?_ (fun _ => ?_))
   | exact ih0 _ _ _ _ _ _ _ _ _ _ _ _ _ _ _ _ _ _ _ _ _ _ _ _ _ _ _ _ _ _ _
   | exact ih1 _ _ _ _ _ _ _ _ _ _ _ _ _ _ _ _ _ _ _ _ _ _ _ _ _ _ _
   | exact ih2 _ _ _ _ _ _ _ _ _ _ _ _
   | exact impl_EmptyScene.mono _ _ _ _ _ _
   | exact laws_eqScene.mono _ _ _ _ _ _ _ _ _ _ _ _ _ _ _ _ _ _ _ _ _
   | exact laws_eqTable.mono _ _ _ _ _ _ _
   | exact laws_heldScene.mono _ _ _ _ _ _ _ _ _ _ _ _
   | exact laws_markScene.mono _ _ _ _ _ _ _ _ _ _ _ _
   | exact laws_markTable.mono _ _ _ _ _
   | exact laws_szTable.mono _ _ _ _ _
   | exact laws_toTable.mono _ _ _ _
   | exact spec_EmptyScene.mono _ _ _ _ _ _
   | exact LeO.none _
   | refine LeO.ite ?_ ?_
   | refine LeO.bind ?_ (fun _ => ?_)
theorem laws_FnExactEmptyScene.mono : ∀ a0 a1 a2 a3 a4 k, LeO (laws_FnExactEmptyScene.f k a0 a1 a2 a3 a4) (laws_FnExactEmptyScene.f (k + 1) a0 a1 a2 a3 a4) := by
 intro a0 a1 a2 a3 a4 k
 obtain ⟨ih0, ih1, ih2⟩ := laws_FnExactEmptyScene.mono_l k
 unfold laws_FnExactEmptyScene.f
 repeat' first
   | (with_reducible exact ih0 _ _ _ _ _ _ _ _ _ _ _ _ _ _ _ _ _ _ _ _ _ _ _ _ _ _ _ _ _ _ _)
   | (with_reducible exact ih1 _ _ _ _ _ _ _ _ _ _ _ _ _ _ _ _ _ _ _ _ _ _ _ _ _ _ _)
   | (with_reducible exact ih2 _ _ _ _ _ _ _ _ _ _ _ _)
   | (with_reducible exact impl_EmptyScene.mono _ _ _ _ _ _)
   | (with_reducible exact laws_eqScene.mono _ _ _ _ _ _ _ _ _ _ _ _ _ _ _ _ _ _ _ _ _)
   | (with_reducible exact laws_eqTable.mono _ _ _ _ _ _ _)
   | (with_reducible exact laws_heldScene.mono _ _ _ _ _ _ _ _ _ _ _ _)
   | (with_reducible exact laws_markScene.mono _ _ _ _ _ _ _ _ _ _ _ _)
   | (with_reducible exact laws_markTable.mono _ _ _ _ _)
   | (with_reducible exact laws_szTable.mono _ _ _ _ _)
   | (with_reducible exact laws_toTable.mono _ _ _ _)
   | (with_reducible exact spec_EmptyScene.mono _ _ _ _ _ _)
   | (with_reducible exact LeO.refl _)
   | (with_reducible exact LeO.none _)
   | (with_reducible refine LeO.ite ?_ ?_)
   | (with_reducible refine LeO.bind ?_ (fun _ => ?_))
   | exact ih0 _ _ _ _ _ _ _ _ _ _ _ _ _ _ _ _ _ _ _ _ _ _ _ _ _ _ _ _ _ _ _
   | exact ih1 _ _ _ _ _ _ _ _ _ _ _ _ _ _ _ _ _ _ _ _ _ _ _ _ _ _ _
   | exact ih2 _ _ _ _ _ _ _ _ _ _ _ _
   | exact impl_EmptyScene.mono _ _ _ _ _ _
   | exact laws_eqScene.mono _ _ _ _ _ _ _ _ _ _ _ _ _ _ _ _ _ _ _ _ _
   | exact laws_eqTable.mono _ _ _ _ _ _ _
   | exact laws_heldScene.mono _ _ _ _ _ _ _ _ _ _ _ _
   | exact laws_markScene.mono _ _ _ _ _ _ _ _ _ _ _ _
   | exact laws_markTable.mono _ _ _ _ _
   | exact laws_szTable.mono _ _ _ _ _
   | exact laws_toTable.mono _ _ _ _
   | exact spec_EmptyScene.mono _ _ _ _ _ _
   | exact LeO.none _
   | refine LeO.ite ?_ ?_
   | refine LeO.bind ?_ (fun _ => ?_)
set_option maxHeartbeats 8000000 in
set_option maxRecDepth 100000 in
theorem laws_FnExactEmptyScene.calls (k : Nat) (a0_0 : Int) (a0_1 : Int) (A0_2 : Option Addr) (c0_2 : Nat) (l0_2 : List (S85)) (a1 : Int) (a2 : Int) (r : Bool) (w : World) (hr0_2 : Kd.C k85 w A0_2 l0_2.length l0_2) (hc0_2 : l0_2.length ≤ c0_2) (h : laws_FnExactEmptyScene.f k a0_0 a0_1 l0_2 a1 a2 = some r) :
  Calls Try.prog 8 #[.agg #[.int .i64 a0_0, .int .i64 a0_1, .slice A0_2 l0_2.length c0_2], .int .i64 a1, .int .i64 a2] w fun e w' => e = .returned (.bool r) ∧ Below w.heap.size w w' := by
 have hu24 := Try.underlying24
 have hu45 := Try.underlying45
 have hu32 := Try.underlying32
 have HR0_2 := Aside0.mk hr0_2
 have HC0_2 := Aside0.mk hc0_2
 clear hr0_2 hc0_2
 have HB := Aside0.mk (Below.refl w.heap.size w)
 have H : ((laws_szTable.f k a0_0 a0_1 l0_2 1048576).bind fun t215 => (if t215 < 0 then (some true) else ((laws_toTable.f k a0_0 a0_1 l0_2).bind fun bt216 => ((spec_EmptyScene.f k bt216.1 bt216.2.1 bt216.2.2 a1 a2).bind fun bt221 => ((laws_toTable.f k a0_0 a0_1 l0_2).bind fun bt235 => ((impl_EmptyScene.f k bt235.1 bt235.2.1 bt235.2.2 a1 a2).bind fun bt241 => ((laws_eqScene.f k bt241.1 bt241.2.1 bt241.2.2.1 bt241.2.2.2.1 bt241.2.2.2.2.1 bt241.2.2.2.2.2.1 bt241.2.2.2.2.2.2.1 bt241.2.2.2.2.2.2.2.1 bt241.2.2.2.2.2.2.2.2.1 bt241.2.2.2.2.2.2.2.2.2.1 bt221.1 bt221.2.1 bt221.2.2.1 bt221.2.2.2.1 bt221.2.2.2.2.1 bt221.2.2.2.2.2.1 bt221.2.2.2.2.2.2.1 bt221.2.2.2.2.2.2.2.1 bt221.2.2.2.2.2.2.2.2.1 bt221.2.2.2.2.2.2.2.2.2.1).bind fun t255 => (if t255 = true then (laws_FnExactEmptyScene.j0 k a1 a2 bt221.2.2.2.2.2.2.2.2.2.2 bt241.2.2.2.2.2.2.2.2.2.2 (bt241.2.2.2.2.2.2.2.2.2.2 != bt221.2.2.2.2.2.2.2.2.2.2) a0_0 a0_1 l0_2 bt221.1 bt221.2.1 bt221.2.2.1 bt221.2.2.2.1 bt221.2.2.2.2.1 bt221.2.2.2.2.2.1 bt221.2.2.2.2.2.2.1 bt221.2.2.2.2.2.2.2.1 bt221.2.2.2.2.2.2.2.2.1 bt221.2.2.2.2.2.2.2.2.2.1 bt235.1 bt235.2.1 bt235.2.2 bt241.1 bt241.2.1 bt241.2.2.1 bt241.2.2.2.1 bt241.2.2.2.2.1 bt241.2.2.2.2.2.1 bt241.2.2.2.2.2.2.1 bt241.2.2.2.2.2.2.2.1 bt241.2.2.2.2.2.2.2.2.1 bt241.2.2.2.2.2.2.2.2.2.1) else (laws_FnExactEmptyScene.j0 k a1 a2 bt221.2.2.2.2.2.2.2.2.2.2 bt241.2.2.2.2.2.2.2.2.2.2 true a0_0 a0_1 l0_2 bt221.1 bt221.2.1 bt221.2.2.1 bt221.2.2.2.1 bt221.2.2.2.2.1 bt221.2.2.2.2.2.1 bt221.2.2.2.2.2.2.1 bt221.2.2.2.2.2.2.2.1 bt221.2.2.2.2.2.2.2.2.1 bt221.2.2.2.2.2.2.2.2.2.1 bt235.1 bt235.2.1 bt235.2.2 bt241.1 bt241.2.1 bt241.2.2.1 bt241.2.2.2.1 bt241.2.2.2.2.1 bt241.2.2.2.2.2.1 bt241.2.2.2.2.2.2.1 bt241.2.2.2.2.2.2.2.1 bt241.2.2.2.2.2.2.2.2.1 bt241.2.2.2.2.2.2.2.2.2.1))))))))) = some r := h
 clear h
 replace H := Option.bind_eq_some_iff.mp H
 obtain ⟨t215, A40, H⟩ := H
 replace H : (if t215 < 0 then (some true) else ((laws_toTable.f k a0_0 a0_1 l0_2).bind fun bt216 => ((spec_EmptyScene.f k bt216.1 bt216.2.1 bt216.2.2 a1 a2).bind fun bt221 => ((laws_toTable.f k a0_0 a0_1 l0_2).bind fun bt235 => ((impl_EmptyScene.f k bt235.1 bt235.2.1 bt235.2.2 a1 a2).bind fun bt241 => ((laws_eqScene.f k bt241.1 bt241.2.1 bt241.2.2.1 bt241.2.2.2.1 bt241.2.2.2.2.1 bt241.2.2.2.2.2.1 bt241.2.2.2.2.2.2.1 bt241.2.2.2.2.2.2.2.1 bt241.2.2.2.2.2.2.2.2.1 bt241.2.2.2.2.2.2.2.2.2.1 bt221.1 bt221.2.1 bt221.2.2.1 bt221.2.2.2.1 bt221.2.2.2.2.1 bt221.2.2.2.2.2.1 bt221.2.2.2.2.2.2.1 bt221.2.2.2.2.2.2.2.1 bt221.2.2.2.2.2.2.2.2.1 bt221.2.2.2.2.2.2.2.2.2.1).bind fun t255 => (if t255 = true then (laws_FnExactEmptyScene.j0 k a1 a2 bt221.2.2.2.2.2.2.2.2.2.2 bt241.2.2.2.2.2.2.2.2.2.2 (bt241.2.2.2.2.2.2.2.2.2.2 != bt221.2.2.2.2.2.2.2.2.2.2) a0_0 a0_1 l0_2 bt221.1 bt221.2.1 bt221.2.2.1 bt221.2.2.2.1 bt221.2.2.2.2.1 bt221.2.2.2.2.2.1 bt221.2.2.2.2.2.2.1 bt221.2.2.2.2.2.2.2.1 bt221.2.2.2.2.2.2.2.2.1 bt221.2.2.2.2.2.2.2.2.2.1 bt235.1 bt235.2.1 bt235.2.2 bt241.1 bt241.2.1 bt241.2.2.1 bt241.2.2.2.1 bt241.2.2.2.2.1 bt241.2.2.2.2.2.1 bt241.2.2.2.2.2.2.1 bt241.2.2.2.2.2.2.2.1 bt241.2.2.2.2.2.2.2.2.1 bt241.2.2.2.2.2.2.2.2.2.1) else (laws_FnExactEmptyScene.j0 k a1 a2 bt221.2.2.2.2.2.2.2.2.2.2 bt241.2.2.2.2.2.2.2.2.2.2 true a0_0 a0_1 l0_2 bt221.1 bt221.2.1 bt221.2.2.1 bt221.2.2.2.1 bt221.2.2.2.2.1 bt221.2.2.2.2.2.1 bt221.2.2.2.2.2.2.1 bt221.2.2.2.2.2.2.2.1 bt221.2.2.2.2.2.2.2.2.1 bt221.2.2.2.2.2.2.2.2.2.1 bt235.1 bt235.2.1 bt235.2.2 bt241.1 bt241.2.1 bt241.2.2.1 bt241.2.2.2.1 bt241.2.2.2.2.1 bt241.2.2.2.2.2.1 bt241.2.2.2.2.2.2.1 bt241.2.2.2.2.2.2.2.1 bt241.2.2.2.2.2.2.2.2.1 bt241.2.2.2.2.2.2.2.2.2.1)))))))) = some r := H
 have A4 := Aside0.mk A40
 clear A40
 by_cases c5 : t215 < 0
 ·rw [if_pos c5] at H
  have c5b0 : decide (t215 < 0) = true := decide_eq_true c5
  clear c5
  obtain rfl := Option.some.inj H
  go_enter Try.func8, Try.ntmps8
  go_wp2_with (first | ((with_reducible refine gate_dst (N := 3) rfl ?_); refine box_event ?hg (N := 3) ?hd (cs := #[.int .i64 a0_0, .int .i64 a0_1, .slice A0_2 l0_2.length c0_2]) (t := 24) ?hr ?_; (case hd => rfl); (case hg => rfl); (case hr => first | (go_simp; done) | (go_simp; rfl)); intro gb214 hg w6 hbox hb; have n0_ := Aside0.mk (below_step (bl0 HB.out) hb); have n1_ := Aside0.mk (hbox); have n2_ := Aside0.mk ((by rw [hg]; exact (below_size (bl0 HB.out)) : w.heap.size ≤ gb214)); have n3_ := Aside0.mk ((by rw [hg]; exact (below_size (bl0 HB.out)) : w.heap.size ≤ gb214)); clear HB; have HB := n0_; have BK214 := n1_; have GW214 := n2_; have GE214 := n3_; clear n0_ n1_ n2_ n3_; clear hb hbox hg; have hcz7_0 : w6.cell? ⟨gb214, 0, none⟩ = some (.int .i64 a0_0) := (blk_cell BK214.out 0).trans rfl; have hcz7_1 : w6.cell? ⟨gb214, 1, none⟩ = some (.int .i64 a0_1) := (blk_cell BK214.out 1).trans rfl; have hcz7_2 : w6.cell? ⟨gb214, 2, none⟩ = some (.slice A0_2 l0_2.length c0_2) := (blk_cell BK214.out 2).trans rfl; have hfz7_0 := blk_frozen BK214.out 0; have hfz7_1 := blk_frozen BK214.out 1; have hfz7_2 := blk_frozen BK214.out 2) | ((with_reducible refine gate_callee (f := 10) rfl ?_); refine goesL_ (some 20) rfl rfl Try.func10 (by kernel_rfl) rfl #[.agg #[.int .i64 a0_0, .int .i64 a0_1, .slice A0_2 l0_2.length c0_2], .int .i64 1048576] rfl (by (try simp only [List.map_toArray, List.map_cons, List.map_nil]); first | done | rfl | (simp only [List.length_drop, List.length_take]; rfl)) ?_; (with_reducible refine (laws_szTable.calls k a0_0 a0_1 _ _ l0_2 1048576 t215 _ ?side1 ?side2 A4.out).mono ?_); (case side1 => repeat (first | exact (Kd.C_below HR0_2.out HB.out) | (with_reducible refine Kd.C_alloc ?_ _) | (with_reducible refine Kd.C_drewN ?_ _) | (with_reducible refine Kd.C_drew ?_))); (case side2 => exact HC0_2.out); rintro e w8 ⟨rfl, hb⟩; refine ⟨_, rfl, ?_⟩; have n0_ := Aside0.mk (bb BK214.out hb); have n1_ := Aside0.mk (below_step (bl1 HB.out GE214.out) hb); clear BK214; clear HB; have BK214 := n0_; have HB := n1_; clear n0_ n1_; (try clear hb); (try clear hb2); (try clear hk); (try clear hi)))
  go_ret
  exact ⟨by first | rfl | (simp [errW_none, errW_some] <;> rfl) | (simp [*, errW_none, errW_some] <;> rfl), by repeat (first | (with_reducible first | exact HB.out | apply below_alloc | apply pw_below_drewN | apply below_drew1 | refine below_set ?_ GE214.out) | exact HB.out)⟩
 ·rw [if_neg c5] at H
  have c5b0 : decide (t215 < 0) = false := decide_eq_false c5
  clear c5
  replace H := Option.bind_eq_some_iff.mp H
  obtain ⟨⟨t216, t217, t218⟩, A90, H⟩ := H
  replace H : ((spec_EmptyScene.f k t216 t217 t218 a1 a2).bind fun bt221 => ((laws_toTable.f k a0_0 a0_1 l0_2).bind fun bt235 => ((impl_EmptyScene.f k bt235.1 bt235.2.1 bt235.2.2 a1 a2).bind fun bt241 => ((laws_eqScene.f k bt241.1 bt241.2.1 bt241.2.2.1 bt241.2.2.2.1 bt241.2.2.2.2.1 bt241.2.2.2.2.2.1 bt241.2.2.2.2.2.2.1 bt241.2.2.2.2.2.2.2.1 bt241.2.2.2.2.2.2.2.2.1 bt241.2.2.2.2.2.2.2.2.2.1 bt221.1 bt221.2.1 bt221.2.2.1 bt221.2.2.2.1 bt221.2.2.2.2.1 bt221.2.2.2.2.2.1 bt221.2.2.2.2.2.2.1 bt221.2.2.2.2.2.2.2.1 bt221.2.2.2.2.2.2.2.2.1 bt221.2.2.2.2.2.2.2.2.2.1).bind fun t255 => (if t255 = true then (laws_FnExactEmptyScene.j0 k a1 a2 bt221.2.2.2.2.2.2.2.2.2.2 bt241.2.2.2.2.2.2.2.2.2.2 (bt241.2.2.2.2.2.2.2.2.2.2 != bt221.2.2.2.2.2.2.2.2.2.2) a0_0 a0_1 l0_2 bt221.1 bt221.2.1 bt221.2.2.1 bt221.2.2.2.1 bt221.2.2.2.2.1 bt221.2.2.2.2.2.1 bt221.2.2.2.2.2.2.1 bt221.2.2.2.2.2.2.2.1 bt221.2.2.2.2.2.2.2.2.1 bt221.2.2.2.2.2.2.2.2.2.1 bt235.1 bt235.2.1 bt235.2.2 bt241.1 bt241.2.1 bt241.2.2.1 bt241.2.2.2.1 bt241.2.2.2.2.1 bt241.2.2.2.2.2.1 bt241.2.2.2.2.2.2.1 bt241.2.2.2.2.2.2.2.1 bt241.2.2.2.2.2.2.2.2.1 bt241.2.2.2.2.2.2.2.2.2.1) else (laws_FnExactEmptyScene.j0 k a1 a2 bt221.2.2.2.2.2.2.2.2.2.2 bt241.2.2.2.2.2.2.2.2.2.2 true a0_0 a0_1 l0_2 bt221.1 bt221.2.1 bt221.2.2.1 bt221.2.2.2.1 bt221.2.2.2.2.1 bt221.2.2.2.2.2.1 bt221.2.2.2.2.2.2.1 bt221.2.2.2.2.2.2.2.1 bt221.2.2.2.2.2.2.2.2.1 bt221.2.2.2.2.2.2.2.2.2.1 bt235.1 bt235.2.1 bt235.2.2 bt241.1 bt241.2.1 bt241.2.2.1 bt241.2.2.2.1 bt241.2.2.2.2.1 bt241.2.2.2.2.2.1 bt241.2.2.2.2.2.2.1 bt241.2.2.2.2.2.2.2.1 bt241.2.2.2.2.2.2.2.2.1 bt241.2.2.2.2.2.2.2.2.2.1)))))) = some r := H
  have A9 := Aside0.mk A90
  clear A90
  replace H := Option.bind_eq_some_iff.mp H
  obtain ⟨⟨t221, t222, t223, t226, t227, t228, t229, t230, t231, t232, t233⟩, A100, H⟩ := H
  replace H : ((laws_toTable.f k a0_0 a0_1 l0_2).bind fun bt235 => ((impl_EmptyScene.f k bt235.1 bt235.2.1 bt235.2.2 a1 a2).bind fun bt241 => ((laws_eqScene.f k bt241.1 bt241.2.1 bt241.2.2.1 bt241.2.2.2.1 bt241.2.2.2.2.1 bt241.2.2.2.2.2.1 bt241.2.2.2.2.2.2.1 bt241.2.2.2.2.2.2.2.1 bt241.2.2.2.2.2.2.2.2.1 bt241.2.2.2.2.2.2.2.2.2.1 t221 t222 t223 t226 t227 t228 t229 t230 t231 t232).bind fun t255 => (if t255 = true then (laws_FnExactEmptyScene.j0 k a1 a2 t233 bt241.2.2.2.2.2.2.2.2.2.2 (bt241.2.2.2.2.2.2.2.2.2.2 != t233) a0_0 a0_1 l0_2 t221 t222 t223 t226 t227 t228 t229 t230 t231 t232 bt235.1 bt235.2.1 bt235.2.2 bt241.1 bt241.2.1 bt241.2.2.1 bt241.2.2.2.1 bt241.2.2.2.2.1 bt241.2.2.2.2.2.1 bt241.2.2.2.2.2.2.1 bt241.2.2.2.2.2.2.2.1 bt241.2.2.2.2.2.2.2.2.1 bt241.2.2.2.2.2.2.2.2.2.1) else (laws_FnExactEmptyScene.j0 k a1 a2 t233 bt241.2.2.2.2.2.2.2.2.2.2 true a0_0 a0_1 l0_2 t221 t222 t223 t226 t227 t228 t229 t230 t231 t232 bt235.1 bt235.2.1 bt235.2.2 bt241.1 bt241.2.1 bt241.2.2.1 bt241.2.2.2.1 bt241.2.2.2.2.1 bt241.2.2.2.2.2.1 bt241.2.2.2.2.2.2.1 bt241.2.2.2.2.2.2.2.1 bt241.2.2.2.2.2.2.2.2.1 bt241.2.2.2.2.2.2.2.2.2.1))))) = some r := H
  have A10 := Aside0.mk A100
  clear A100
  replace H := Option.bind_eq_some_iff.mp H
  obtain ⟨⟨t235, t236, t237⟩, A110, H⟩ := H
  replace H : ((impl_EmptyScene.f k t235 t236 t237 a1 a2).bind fun bt241 => ((laws_eqScene.f k bt241.1 bt241.2.1 bt241.2.2.1 bt241.2.2.2.1 bt241.2.2.2.2.1 bt241.2.2.2.2.2.1 bt241.2.2.2.2.2.2.1 bt241.2.2.2.2.2.2.2.1 bt241.2.2.2.2.2.2.2.2.1 bt241.2.2.2.2.2.2.2.2.2.1 t221 t222 t223 t226 t227 t228 t229 t230 t231 t232).bind fun t255 => (if t255 = true then (laws_FnExactEmptyScene.j0 k a1 a2 t233 bt241.2.2.2.2.2.2.2.2.2.2 (bt241.2.2.2.2.2.2.2.2.2.2 != t233) a0_0 a0_1 l0_2 t221 t222 t223 t226 t227 t228 t229 t230 t231 t232 t235 t236 t237 bt241.1 bt241.2.1 bt241.2.2.1 bt241.2.2.2.1 bt241.2.2.2.2.1 bt241.2.2.2.2.2.1 bt241.2.2.2.2.2.2.1 bt241.2.2.2.2.2.2.2.1 bt241.2.2.2.2.2.2.2.2.1 bt241.2.2.2.2.2.2.2.2.2.1) else (laws_FnExactEmptyScene.j0 k a1 a2 t233 bt241.2.2.2.2.2.2.2.2.2.2 true a0_0 a0_1 l0_2 t221 t222 t223 t226 t227 t228 t229 t230 t231 t232 t235 t236 t237 bt241.1 bt241.2.1 bt241.2.2.1 bt241.2.2.2.1 bt241.2.2.2.2.1 bt241.2.2.2.2.2.1 bt241.2.2.2.2.2.2.1 bt241.2.2.2.2.2.2.2.1 bt241.2.2.2.2.2.2.2.2.1 bt241.2.2.2.2.2.2.2.2.2.1)))) = some r := H
  have A11 := Aside0.mk A110
  clear A110
  replace H := Option.bind_eq_some_iff.mp H
  obtain ⟨⟨t241, t242, t243, t246, t247, t248, t249, t250, t251, t252, t253⟩, A120, H⟩ := H
  replace H : ((laws_eqScene.f k t241 t242 t243 t246 t247 t248 t249 t250 t251 t252 t221 t222 t223 t226 t227 t228 t229 t230 t231 t232).bind fun t255 => (if t255 = true then (laws_FnExactEmptyScene.j0 k a1 a2 t233 t253 (t253 != t233) a0_0 a0_1 l0_2 t221 t222 t223 t226 t227 t228 t229 t230 t231 t232 t235 t236 t237 t241 t242 t243 t246 t247 t248 t249 t250 t251 t252) else (laws_FnExactEmptyScene.j0 k a1 a2 t233 t253 true a0_0 a0_1 l0_2 t221 t222 t223 t226 t227 t228 t229 t230 t231 t232 t235 t236 t237 t241 t242 t243 t246 t247 t248 t249 t250 t251 t252))) = some r := H
  have A12 := Aside0.mk A120
  clear A120
  have HC13 := Aside0.mk H
  clear H
  go_enter Try.func8, Try.ntmps8
  go_upto_region 8 with (first | ((with_reducible refine gate_dst (N := 3) rfl ?_); refine box_event ?hg (N := 3) ?hd (cs := #[.int .i64 a0_0, .int .i64 a0_1, .slice A0_2 l0_2.length c0_2]) (t := 24) ?hr ?_; (case hd => rfl); (case hg => rfl); (case hr => first | (go_simp; done) | (go_simp; rfl)); intro gb214 hg w14 hbox hb; have n0_ := Aside0.mk (below_step (bl0 HB.out) hb); have n1_ := Aside0.mk (hbox); have n2_ := Aside0.mk ((by rw [hg]; exact (below_size (bl0 HB.out)) : w.heap.size ≤ gb214)); have n3_ := Aside0.mk ((by rw [hg]; exact (below_size (bl0 HB.out)) : w.heap.size ≤ gb214)); clear HB; have HB := n0_; have BK214 := n1_; have GW214 := n2_; have GE214 := n3_; clear n0_ n1_ n2_ n3_; clear hb hbox hg; have hcz15_0 : w14.cell? ⟨gb214, 0, none⟩ = some (.int .i64 a0_0) := (blk_cell BK214.out 0).trans rfl; have hcz15_1 : w14.cell? ⟨gb214, 1, none⟩ = some (.int .i64 a0_1) := (blk_cell BK214.out 1).trans rfl; have hcz15_2 : w14.cell? ⟨gb214, 2, none⟩ = some (.slice A0_2 l0_2.length c0_2) := (blk_cell BK214.out 2).trans rfl; have hfz15_0 := blk_frozen BK214.out 0; have hfz15_1 := blk_frozen BK214.out 1; have hfz15_2 := blk_frozen BK214.out 2) | ((with_reducible refine gate_callee (f := 10) rfl ?_); refine goesL_ (some 20) rfl rfl Try.func10 (by kernel_rfl) rfl #[.agg #[.int .i64 a0_0, .int .i64 a0_1, .slice A0_2 l0_2.length c0_2], .int .i64 1048576] rfl (by (try simp only [List.map_toArray, List.map_cons, List.map_nil]); first | done | rfl | (simp only [List.length_drop, List.length_take]; rfl)) ?_; (with_reducible refine (laws_szTable.calls k a0_0 a0_1 _ _ l0_2 1048576 t215 _ ?side1 ?side2 A4.out).mono ?_); (case side1 => repeat (first | exact (Kd.C_below HR0_2.out HB.out) | (with_reducible refine Kd.C_alloc ?_ _) | (with_reducible refine Kd.C_drewN ?_ _) | (with_reducible refine Kd.C_drew ?_))); (case side2 => exact HC0_2.out); rintro e w16 ⟨rfl, hb⟩; refine ⟨_, rfl, ?_⟩; have n0_ := Aside0.mk (bb BK214.out hb); have n1_ := Aside0.mk (below_step (bl1 HB.out GE214.out) hb); clear BK214; clear HB; have BK214 := n0_; have HB := n1_; clear n0_ n1_; (try clear hb); (try clear hb2); (try clear hk); (try clear hi); have hcz17_0 : w16.cell? ⟨gb214, 0, none⟩ = some (.int .i64 a0_0) := (blk_cell BK214.out 0).trans rfl; have hcz17_1 : w16.cell? ⟨gb214, 1, none⟩ = some (.int .i64 a0_1) := (blk_cell BK214.out 1).trans rfl; have hcz17_2 : w16.cell? ⟨gb214, 2, none⟩ = some (.slice A0_2 l0_2.length c0_2) := (blk_cell BK214.out 2).trans rfl; have hfz17_0 := blk_frozen BK214.out 0; have hfz17_1 := blk_frozen BK214.out 1; have hfz17_2 := blk_frozen BK214.out 2) | ((with_reducible refine gate_callee (f := 12) rfl ?_); refine goesL_ (some 25) rfl rfl Try.func12 (by kernel_rfl) rfl #[.agg #[.int .i64 a0_0, .int .i64 a0_1, .slice A0_2 l0_2.length c0_2]] rfl (by (try simp only [List.map_toArray, List.map_cons, List.map_nil]); first | done | rfl | (simp only [List.length_drop, List.length_take]; rfl)) ?_; (with_reducible refine (laws_toTable.calls k a0_0 a0_1 _ _ l0_2 t216 t217 t218 _ ?side1 ?side2 A9.out).mono ?_); (case side1 => repeat (first | exact (Kd.C_below HR0_2.out HB.out) | (with_reducible refine Kd.C_alloc ?_ _) | (with_reducible refine Kd.C_drewN ?_ _) | (with_reducible refine Kd.C_drew ?_))); (case side2 => exact HC0_2.out); rintro e w18 ⟨v219, rfl, ho0, hb⟩; refine ⟨_, rfl, ?_⟩; have n0_ := Aside0.mk (Kd.R_lower ho0 (below_size (bl1 HB.out GE214.out))); have n1_ := Aside0.mk (bb BK214.out hb); have n2_ := Aside0.mk (below_step (bl1 HB.out GE214.out) hb); clear BK214; clear HB; have HO220 := n0_; have BK214 := n1_; have HB := n2_; clear n0_ n1_ n2_; (try clear hb); (try clear hb2); (try clear hk); (try clear hi); (try clear ho0); obtain ⟨Ao19, co19, eo19⟩ := Kd.R_slice HO220.out; subst eo19) | ((with_reducible refine gate_callee (f := 32) rfl ?_); refine goesL_ (some 28) rfl rfl Try.func32 (by kernel_rfl) rfl #[.agg #[.int .i64 t216, .int .i64 t217, .slice Ao19 t218.length co19], .int .i64 a1, .int .i64 a2] rfl (by (try simp only [List.map_toArray, List.map_cons, List.map_nil]); first | done | rfl | (simp only [List.length_drop, List.length_take]; rfl)) ?_; (with_reducible refine (spec_EmptyScene.calls k t216 t217 _ _ t218 a1 a2 t221 t222 t223 t226 t227 t228 t229 t230 t231 t232 t233 _ ?side1 ?side2 A10.out).mono ?_); (case side1 => repeat (first | exact (Kd.R_reads' HO220.out).2.2 | (with_reducible refine Kd.C_alloc ?_ _) | (with_reducible refine Kd.C_drewN ?_ _) | (with_reducible refine Kd.C_drew ?_))); (case side2 => exact (Kd.R_reads' HO220.out).2.1); rintro e w20 ⟨v224, rfl, ho0, hb⟩; refine ⟨_, rfl, ?_⟩; have n0_ := Aside0.mk (Kd.R_elder' (rn HO220.out) (Kd.R_base ho0) hb); have n1_ := Aside0.mk (Kd.R_lower (Kd.R_new' ho0 (Kd.R_lt (rn HO220.out))) (below_size (bl1 HB.out GE214.out))); have n2_ := Aside0.mk (bb BK214.out hb); have n3_ := Aside0.mk (below_step (bl1 HB.out GE214.out) hb); clear HO220; clear BK214; clear HB; have HO220 := n0_; have HO225 := n1_; have BK214 := n2_; have HB := n3_; clear n0_ n1_ n2_ n3_; (try clear hb); (try clear hb2); (try clear hk); (try clear hi); (try clear ho0)) | ((with_reducible refine gate_dst (N := 8) rfl ?_); refine box_event ?hg (N := 8) ?hd (cs := #[.int .i64 0, .int .i64 0, .slice none 0 0, .int .i64 0, .int .i64 0, .string (⟨#[]⟩ : ByteArray), .int .i64 0, .int .i64 0, .int .i64 0, .int .i64 0]) (t := 45) ?hr ?_; (case hd => rfl); (case hg => rfl); (case hr => first | (go_simp; done) | (go_simp; rfl)); intro gb234 hg w21 hbox hb; have n0_ := Aside0.mk (Kd.R_below (rn HO220.out) hb); have n1_ := Aside0.mk (Kd.R_below (rn HO225.out) hb); have n2_ := Aside0.mk (bb BK214.out hb); have n3_ := Aside0.mk (below_step (bl1 HB.out GE214.out) hb); have n4_ := Aside0.mk (hbox); have n5_ := Aside0.mk ((by rw [hg]; exact (below_size (bl1 HB.out GE214.out)) : w.heap.size ≤ gb234)); have n6_ := Aside0.mk ((by rw [hg]; exact (below_size (bl1 HB.out GE214.out)) : w.heap.size ≤ gb234)); have n7_ := Aside0.mk ((by rw [hg]; exact Nat.ne_of_lt (bq BK214.out) : gb214 ≠ gb234)); have n8_ := Aside0.mk ((by rw [hg]; exact Nat.ne_of_gt (bq BK214.out) : gb234 ≠ gb214)); clear HO220; clear HO225; clear BK214; clear HB; have HO220 := n0_; have HO225 := n1_; have BK214 := n2_; have HB := n3_; have BK234 := n4_; have GW234 := n5_; have GE234 := n6_; have NB214_234 := n7_; have NB234_214 := n8_; clear n0_ n1_ n2_ n3_ n4_ n5_ n6_ n7_ n8_; clear hb hbox hg; have hnb22 := NB234_214.out; have hnc22 := NB214_234.out; have hcz23_0 : w21.cell? ⟨gb234, 0, none⟩ = some (.int .i64 0) := (blk_cell BK234.out 0).trans rfl; have hcz23_1 : w21.cell? ⟨gb234, 1, none⟩ = some (.int .i64 0) := (blk_cell BK234.out 1).trans rfl; have hcz23_2 : w21.cell? ⟨gb234, 2, none⟩ = some (.slice none 0 0) := (blk_cell BK234.out 2).trans rfl; have hcz23_3 : w21.cell? ⟨gb234, 3, none⟩ = some (.int .i64 0) := (blk_cell BK234.out 3).trans rfl; have hcz23_4 : w21.cell? ⟨gb234, 4, none⟩ = some (.int .i64 0) := (blk_cell BK234.out 4).trans rfl; have hcz23_5 : w21.cell? ⟨gb234, 5, none⟩ = some (.string (⟨#[]⟩ : ByteArray)) := (blk_cell BK234.out 5).trans rfl; have hcz23_6 : w21.cell? ⟨gb234, 6, none⟩ = some (.int .i64 0) := (blk_cell BK234.out 6).trans rfl; have hcz23_7 : w21.cell? ⟨gb234, 7, none⟩ = some (.int .i64 0) := (blk_cell BK234.out 7).trans rfl; have hcz23_8 : w21.cell? ⟨gb234, 8, none⟩ = some (.int .i64 0) := (blk_cell BK234.out 8).trans rfl; have hcz23_9 : w21.cell? ⟨gb234, 9, none⟩ = some (.int .i64 0) := (blk_cell BK234.out 9).trans rfl; have hfz23_0 := blk_frozen BK234.out 0; have hfz23_1 := blk_frozen BK234.out 1; have hfz23_2 := blk_frozen BK234.out 2; have hfz23_3 := blk_frozen BK234.out 3; have hfz23_4 := blk_frozen BK234.out 4; have hfz23_5 := blk_frozen BK234.out 5; have hfz23_6 := blk_frozen BK234.out 6; have hfz23_7 := blk_frozen BK234.out 7; have hfz23_8 := blk_frozen BK234.out 8; have hfz23_9 := blk_frozen BK234.out 9; obtain ⟨Ao24, co24, eo24⟩ := Kd.R_slice HO225.out; subst eo24; have hcz25_0 : w21.cell? ⟨gb214, 0, none⟩ = some (.int .i64 a0_0) := (blk_cell BK214.out 0).trans rfl; have hcz25_1 : w21.cell? ⟨gb214, 1, none⟩ = some (.int .i64 a0_1) := (blk_cell BK214.out 1).trans rfl; have hcz25_2 : w21.cell? ⟨gb214, 2, none⟩ = some (.slice A0_2 l0_2.length c0_2) := (blk_cell BK214.out 2).trans rfl; have hfz25_0 := blk_frozen BK214.out 0; have hfz25_1 := blk_frozen BK214.out 1; have hfz25_2 := blk_frozen BK214.out 2) | ((with_reducible refine gate_callee (f := 12) rfl ?_); refine goesL_ (some 32) rfl rfl Try.func12 (by kernel_rfl) rfl #[.agg #[.int .i64 a0_0, .int .i64 a0_1, .slice A0_2 l0_2.length c0_2]] rfl (by (try simp only [List.map_toArray, List.map_cons, List.map_nil]); first | done | rfl | (simp only [List.length_drop, List.length_take]; rfl)) ?_; (with_reducible refine (laws_toTable.calls k a0_0 a0_1 _ _ l0_2 t235 t236 t237 _ ?side1 ?side2 A11.out).mono ?_); (case side1 => exact Kd.C_below HR0_2.out (bl2 HB.out GE214.out GE234.out)); (case side2 => exact HC0_2.out); rintro e w26 ⟨v238, rfl, ho0, hb⟩; refine ⟨_, rfl, ?_⟩; have n0_ := Aside0.mk (Kd.R_elder' (by (with_reducible repeat (first | apply Kd.R_alloc | apply Kd.R_drewN | apply Kd.R_drew)); exact (Kd.R_mono (Kd.R_far (p := ⟨gb234, 9, none⟩) (Kd.R_far (p := ⟨gb234, 8, none⟩) (Kd.R_far (p := ⟨gb234, 7, none⟩) (Kd.R_far (p := ⟨gb234, 6, none⟩) (Kd.R_far (p := ⟨gb234, 5, none⟩) (Kd.R_far (p := ⟨gb234, 4, none⟩) (Kd.R_far (p := ⟨gb234, 3, none⟩) (Kd.R_far (p := ⟨gb234, 2, none⟩) (Kd.R_far (p := ⟨gb234, 1, none⟩) (Kd.R_far (p := ⟨gb234, 0, none⟩) (Kd.R_types HO220.out BK234.out (by decide)) (fun _ hk => hk.2) (.int .i64 t221)) (fun _ hk => hk.2) (.int .i64 t222)) (fun _ hk => hk.2) (.slice Ao24 t223.length co24)) (fun _ hk => hk.2) (.int .i64 t226)) (fun _ hk => hk.2) (.int .i64 t227)) (fun _ hk => hk.2) (.string t228)) (fun _ hk => hk.2) (.int .i64 t229)) (fun _ hk => hk.2) (.int .i64 t230)) (fun _ hk => hk.2) (.int .i64 t231)) (fun _ hk => hk.2) (.int .i64 t232)) (fun _ h_ => h_.1))) (Kd.R_base ho0) hb); have n1_ := Aside0.mk (Kd.R_elder' (by (with_reducible repeat (first | apply Kd.R_alloc | apply Kd.R_drewN | apply Kd.R_drew)); exact (Kd.R_mono (Kd.R_far (p := ⟨gb234, 9, none⟩) (Kd.R_far (p := ⟨gb234, 8, none⟩) (Kd.R_far (p := ⟨gb234, 7, none⟩) (Kd.R_far (p := ⟨gb234, 6, none⟩) (Kd.R_far (p := ⟨gb234, 5, none⟩) (Kd.R_far (p := ⟨gb234, 4, none⟩) (Kd.R_far (p := ⟨gb234, 3, none⟩) (Kd.R_far (p := ⟨gb234, 2, none⟩) (Kd.R_far (p := ⟨gb234, 1, none⟩) (Kd.R_far (p := ⟨gb234, 0, none⟩) (Kd.R_types HO225.out BK234.out (by decide)) (fun _ hk => hk.2) (.int .i64 t221)) (fun _ hk => hk.2) (.int .i64 t222)) (fun _ hk => hk.2) (.slice Ao24 t223.length co24)) (fun _ hk => hk.2) (.int .i64 t226)) (fun _ hk => hk.2) (.int .i64 t227)) (fun _ hk => hk.2) (.string t228)) (fun _ hk => hk.2) (.int .i64 t229)) (fun _ hk => hk.2) (.int .i64 t230)) (fun _ hk => hk.2) (.int .i64 t231)) (fun _ hk => hk.2) (.int .i64 t232)) (fun _ h_ => h_.1))) (Kd.R_base ho0) hb); have n2_ := Aside0.mk (Kd.R_lower (Kd.R_new' (Kd.R_new' ho0 (Kd.R_lt (by (with_reducible repeat (first | apply Kd.R_alloc | apply Kd.R_drewN | apply Kd.R_drew)); exact (Kd.R_mono (Kd.R_far (p := ⟨gb234, 9, none⟩) (Kd.R_far (p := ⟨gb234, 8, none⟩) (Kd.R_far (p := ⟨gb234, 7, none⟩) (Kd.R_far (p := ⟨gb234, 6, none⟩) (Kd.R_far (p := ⟨gb234, 5, none⟩) (Kd.R_far (p := ⟨gb234, 4, none⟩) (Kd.R_far (p := ⟨gb234, 3, none⟩) (Kd.R_far (p := ⟨gb234, 2, none⟩) (Kd.R_far (p := ⟨gb234, 1, none⟩) (Kd.R_far (p := ⟨gb234, 0, none⟩) (Kd.R_types HO220.out BK234.out (by decide)) (fun _ hk => hk.2) (.int .i64 t221)) (fun _ hk => hk.2) (.int .i64 t222)) (fun _ hk => hk.2) (.slice Ao24 t223.length co24)) (fun _ hk => hk.2) (.int .i64 t226)) (fun _ hk => hk.2) (.int .i64 t227)) (fun _ hk => hk.2) (.string t228)) (fun _ hk => hk.2) (.int .i64 t229)) (fun _ hk => hk.2) (.int .i64 t230)) (fun _ hk => hk.2) (.int .i64 t231)) (fun _ hk => hk.2) (.int .i64 t232)) (fun _ h_ => h_.1))))) (Kd.R_lt (by (with_reducible repeat (first | apply Kd.R_alloc | apply Kd.R_drewN | apply Kd.R_drew)); exact (Kd.R_mono (Kd.R_far (p := ⟨gb234, 9, none⟩) (Kd.R_far (p := ⟨gb234, 8, none⟩) (Kd.R_far (p := ⟨gb234, 7, none⟩) (Kd.R_far (p := ⟨gb234, 6, none⟩) (Kd.R_far (p := ⟨gb234, 5, none⟩) (Kd.R_far (p := ⟨gb234, 4, none⟩) (Kd.R_far (p := ⟨gb234, 3, none⟩) (Kd.R_far (p := ⟨gb234, 2, none⟩) (Kd.R_far (p := ⟨gb234, 1, none⟩) (Kd.R_far (p := ⟨gb234, 0, none⟩) (Kd.R_types HO225.out BK234.out (by decide)) (fun _ hk => hk.2) (.int .i64 t221)) (fun _ hk => hk.2) (.int .i64 t222)) (fun _ hk => hk.2) (.slice Ao24 t223.length co24)) (fun _ hk => hk.2) (.int .i64 t226)) (fun _ hk => hk.2) (.int .i64 t227)) (fun _ hk => hk.2) (.string t228)) (fun _ hk => hk.2) (.int .i64 t229)) (fun _ hk => hk.2) (.int .i64 t230)) (fun _ hk => hk.2) (.int .i64 t231)) (fun _ hk => hk.2) (.int .i64 t232)) (fun _ h_ => h_.1))))) (below_size (bl2 HB.out GE214.out GE234.out))); have n3_ := Aside0.mk (blk_below (g := gb214) (o := .cells #[.int .i64 a0_0, .int .i64 a0_1, .slice A0_2 l0_2.length c0_2] 24 (0, 0)) (by (with_reducible repeat (first | refine blk_drewN ?_ _ | refine blk_drew ?_ | refine blk_alloc ?_ _)); refine blk_far ?_ NB214_234.out _; (with_reducible repeat (first | refine blk_drewN ?_ _ | refine blk_drew ?_ | refine blk_alloc ?_ _)); refine blk_far ?_ NB214_234.out _; (with_reducible repeat (first | refine blk_drewN ?_ _ | refine blk_drew ?_ | refine blk_alloc ?_ _)); refine blk_far ?_ NB214_234.out _; (with_reducible repeat (first | refine blk_drewN ?_ _ | refine blk_drew ?_ | refine blk_alloc ?_ _)); refine blk_far ?_ NB214_234.out _; (with_reducible repeat (first | refine blk_drewN ?_ _ | refine blk_drew ?_ | refine blk_alloc ?_ _)); refine blk_far ?_ NB214_234.out _; (with_reducible repeat (first | refine blk_drewN ?_ _ | refine blk_drew ?_ | refine blk_alloc ?_ _)); refine blk_far ?_ NB214_234.out _; (with_reducible repeat (first | refine blk_drewN ?_ _ | refine blk_drew ?_ | refine blk_alloc ?_ _)); refine blk_far ?_ NB214_234.out _; (with_reducible repeat (first | refine blk_drewN ?_ _ | refine blk_drew ?_ | refine blk_alloc ?_ _)); refine blk_far ?_ NB214_234.out _; (with_reducible repeat (first | refine blk_drewN ?_ _ | refine blk_drew ?_ | refine blk_alloc ?_ _)); refine blk_far ?_ NB214_234.out _; (with_reducible repeat (first | refine blk_drewN ?_ _ | refine blk_drew ?_ | refine blk_alloc ?_ _)); refine blk_far ?_ NB214_234.out _; (with_reducible repeat (first | refine blk_drewN ?_ _ | refine blk_drew ?_ | refine blk_alloc ?_ _)); exact BK214.out) hb); have n4_ := Aside0.mk (blk_below (g := gb234) (o := .cells #[.int .i64 t221, .int .i64 t222, .slice Ao24 t223.length co24, .int .i64 t226, .int .i64 t227, .string t228, .int .i64 t229, .int .i64 t230, .int .i64 t231, .int .i64 t232] 45 (0, 0)) (by (with_reducible repeat (first | refine blk_drewN ?_ _ | refine blk_drew ?_ | refine blk_alloc ?_ _)); refine blk_put (cs := #[.int .i64 t221, .int .i64 t222, .slice Ao24 t223.length co24, .int .i64 t226, .int .i64 t227, .string t228, .int .i64 t229, .int .i64 t230, .int .i64 t231, .int .i64 0]) ?_ 9 _ rfl; (with_reducible repeat (first | refine blk_drewN ?_ _ | refine blk_drew ?_ | refine blk_alloc ?_ _)); refine blk_put (cs := #[.int .i64 t221, .int .i64 t222, .slice Ao24 t223.length co24, .int .i64 t226, .int .i64 t227, .string t228, .int .i64 t229, .int .i64 t230, .int .i64 0, .int .i64 0]) ?_ 8 _ rfl; (with_reducible repeat (first | refine blk_drewN ?_ _ | refine blk_drew ?_ | refine blk_alloc ?_ _)); refine blk_put (cs := #[.int .i64 t221, .int .i64 t222, .slice Ao24 t223.length co24, .int .i64 t226, .int .i64 t227, .string t228, .int .i64 t229, .int .i64 0, .int .i64 0, .int .i64 0]) ?_ 7 _ rfl; (with_reducible repeat (first | refine blk_drewN ?_ _ | refine blk_drew ?_ | refine blk_alloc ?_ _)); refine blk_put (cs := #[.int .i64 t221, .int .i64 t222, .slice Ao24 t223.length co24, .int .i64 t226, .int .i64 t227, .string t228, .int .i64 0, .int .i64 0, .int .i64 0, .int .i64 0]) ?_ 6 _ rfl; (with_reducible repeat (first | refine blk_drewN ?_ _ | refine blk_drew ?_ | refine blk_alloc ?_ _)); refine blk_put (cs := #[.int .i64 t221, .int .i64 t222, .slice Ao24 t223.length co24, .int .i64 t226, .int .i64 t227, .string (⟨#[]⟩ : ByteArray), .int .i64 0, .int .i64 0, .int .i64 0, .int .i64 0]) ?_ 5 _ rfl; (with_reducible repeat (first | refine blk_drewN ?_ _ | refine blk_drew ?_ | refine blk_alloc ?_ _)); refine blk_put (cs := #[.int .i64 t221, .int .i64 t222, .slice Ao24 t223.length co24, .int .i64 t226, .int .i64 0, .string (⟨#[]⟩ : ByteArray), .int .i64 0, .int .i64 0, .int .i64 0, .int .i64 0]) ?_ 4 _ rfl; (with_reducible repeat (first | refine blk_drewN ?_ _ | refine blk_drew ?_ | refine blk_alloc ?_ _)); refine blk_put (cs := #[.int .i64 t221, .int .i64 t222, .slice Ao24 t223.length co24, .int .i64 0, .int .i64 0, .string (⟨#[]⟩ : ByteArray), .int .i64 0, .int .i64 0, .int .i64 0, .int .i64 0]) ?_ 3 _ rfl; (with_reducible repeat (first | refine blk_drewN ?_ _ | refine blk_drew ?_ | refine blk_alloc ?_ _)); refine blk_put (cs := #[.int .i64 t221, .int .i64 t222, .slice none 0 0, .int .i64 0, .int .i64 0, .string (⟨#[]⟩ : ByteArray), .int .i64 0, .int .i64 0, .int .i64 0, .int .i64 0]) ?_ 2 _ rfl; (with_reducible repeat (first | refine blk_drewN ?_ _ | refine blk_drew ?_ | refine blk_alloc ?_ _)); refine blk_put (cs := #[.int .i64 t221, .int .i64 0, .slice none 0 0, .int .i64 0, .int .i64 0, .string (⟨#[]⟩ : ByteArray), .int .i64 0, .int .i64 0, .int .i64 0, .int .i64 0]) ?_ 1 _ rfl; (with_reducible repeat (first | refine blk_drewN ?_ _ | refine blk_drew ?_ | refine blk_alloc ?_ _)); refine blk_put (cs := #[.int .i64 0, .int .i64 0, .slice none 0 0, .int .i64 0, .int .i64 0, .string (⟨#[]⟩ : ByteArray), .int .i64 0, .int .i64 0, .int .i64 0, .int .i64 0]) ?_ 0 _ rfl; (with_reducible repeat (first | refine blk_drewN ?_ _ | refine blk_drew ?_ | refine blk_alloc ?_ _)); exact BK234.out) hb); have n5_ := Aside0.mk (below_step (bl2 HB.out GE214.out GE234.out) hb); clear HO220; clear HO225; clear BK214; clear BK234; clear HB; have HO220 := n0_; have HO225 := n1_; have HO239 := n2_; have BK214 := n3_; have BK234 := n4_; have HB := n5_; clear n0_ n1_ n2_ n3_ n4_ n5_; (try clear hb); (try clear hb2); (try clear hk); (try clear hi); (try clear ho0)) | ((with_reducible refine gate_dst (N := 10) rfl ?_); refine box_event ?hg (N := 10) ?hd (cs := #[.int .i64 0, .int .i64 0, .slice none 0 0]) (t := 32) ?hr ?_; (case hd => rfl); (case hg => rfl); (case hr => first | (go_simp; done) | (go_simp; rfl)); intro gb240 hg w27 hbox hb; have n0_ := Aside0.mk (Kd.R_below (rn HO220.out) hb); have n1_ := Aside0.mk (Kd.R_below (rn HO225.out) hb); have n2_ := Aside0.mk (Kd.R_below (rn HO239.out) hb); have n3_ := Aside0.mk (bb BK214.out hb); have n4_ := Aside0.mk (bb BK234.out hb); have n5_ := Aside0.mk (below_step (bl2 HB.out GE214.out GE234.out) hb); have n6_ := Aside0.mk (hbox); have n7_ := Aside0.mk ((by rw [hg]; exact (below_size (bl2 HB.out GE214.out GE234.out)) : w.heap.size ≤ gb240)); have n8_ := Aside0.mk ((by rw [hg]; exact (below_size (bl2 HB.out GE214.out GE234.out)) : w.heap.size ≤ gb240)); have n9_ := Aside0.mk ((by rw [hg]; exact Nat.ne_of_lt (bq BK214.out) : gb214 ≠ gb240)); have n10_ := Aside0.mk ((by rw [hg]; exact Nat.ne_of_gt (bq BK214.out) : gb240 ≠ gb214)); have n11_ := Aside0.mk ((by rw [hg]; exact Nat.ne_of_lt (bq BK234.out) : gb234 ≠ gb240)); have n12_ := Aside0.mk ((by rw [hg]; exact Nat.ne_of_gt (bq BK234.out) : gb240 ≠ gb234)); clear HO220; clear HO225; clear HO239; clear BK214; clear BK234; clear HB; have HO220 := n0_; have HO225 := n1_; have HO239 := n2_; have BK214 := n3_; have BK234 := n4_; have HB := n5_; have BK240 := n6_; have GW240 := n7_; have GE240 := n8_; have NB214_240 := n9_; have NB240_214 := n10_; have NB234_240 := n11_; have NB240_234 := n12_; clear n0_ n1_ n2_ n3_ n4_ n5_ n6_ n7_ n8_ n9_ n10_ n11_ n12_; clear hb hbox hg; have hnb28 := NB240_214.out; have hnc28 := NB214_240.out; have hnb29 := NB240_234.out; have hnc29 := NB234_240.out; have hcz30_0 : w27.cell? ⟨gb240, 0, none⟩ = some (.int .i64 0) := (blk_cell BK240.out 0).trans rfl; have hcz30_1 : w27.cell? ⟨gb240, 1, none⟩ = some (.int .i64 0) := (blk_cell BK240.out 1).trans rfl; have hcz30_2 : w27.cell? ⟨gb240, 2, none⟩ = some (.slice none 0 0) := (blk_cell BK240.out 2).trans rfl; have hfz30_0 := blk_frozen BK240.out 0; have hfz30_1 := blk_frozen BK240.out 1; have hfz30_2 := blk_frozen BK240.out 2; obtain ⟨Ao31, co31, eo31⟩ := Kd.R_slice HO239.out; subst eo31) | ((with_reducible refine gate_callee (f := 33) rfl ?_); refine goesL_ (some 37) rfl rfl Try.func33 (by kernel_rfl) rfl #[.agg #[.int .i64 t235, .int .i64 t236, .slice Ao31 t237.length co31], .int .i64 a1, .int .i64 a2] rfl (by (try simp only [List.map_toArray, List.map_cons, List.map_nil]); first | done | rfl | (simp only [List.length_drop, List.length_take]; rfl)) ?_; (with_reducible refine (impl_EmptyScene.calls k t235 t236 _ _ t237 a1 a2 t241 t242 t243 t246 t247 t248 t249 t250 t251 t252 t253 _ ?side1 ?side2 A12.out).mono ?_); (case side1 => refine (Kd.R_reads' (e := 27) (base := w.heap.size) (ok := fun k_ => ((True ∧ some k_ ≠ (.slice Ao19 t218.length co19 : Value).ownBlock) ∧ some k_ ≠ (.slice Ao24 t223.length co24 : Value).ownBlock)) (n := t237.length) (c := co31) ?_).2.2; exact (by (with_reducible repeat (first | apply Kd.R_alloc | apply Kd.R_drewN | apply Kd.R_drew)); exact (Kd.R_mono (Kd.R_far (p := ⟨gb240, 2, none⟩) (Kd.R_far (p := ⟨gb240, 1, none⟩) (Kd.R_far (p := ⟨gb240, 0, none⟩) (Kd.R_types HO239.out BK240.out (by decide)) (fun _ hk => hk.2) (.int .i64 t235)) (fun _ hk => hk.2) (.int .i64 t236)) (fun _ hk => hk.2) (.slice Ao31 t237.length co31)) (fun _ h_ => h_.1)))); (case side2 => exact (Kd.R_reads' HO239.out).2.1); rintro e w32 ⟨v244, rfl, ho0, hb⟩; refine ⟨_, rfl, ?_⟩; have n0_ := Aside0.mk (Kd.R_elder' (by (with_reducible repeat (first | apply Kd.R_alloc | apply Kd.R_drewN | apply Kd.R_drew)); exact (Kd.R_mono (Kd.R_far (p := ⟨gb240, 2, none⟩) (Kd.R_far (p := ⟨gb240, 1, none⟩) (Kd.R_far (p := ⟨gb240, 0, none⟩) (Kd.R_types HO220.out BK240.out (by decide)) (fun _ hk => hk.2) (.int .i64 t235)) (fun _ hk => hk.2) (.int .i64 t236)) (fun _ hk => hk.2) (.slice Ao31 t237.length co31)) (fun _ h_ => h_.1))) (Kd.R_base ho0) hb); have n1_ := Aside0.mk (Kd.R_elder' (by (with_reducible repeat (first | apply Kd.R_alloc | apply Kd.R_drewN | apply Kd.R_drew)); exact (Kd.R_mono (Kd.R_far (p := ⟨gb240, 2, none⟩) (Kd.R_far (p := ⟨gb240, 1, none⟩) (Kd.R_far (p := ⟨gb240, 0, none⟩) (Kd.R_types HO225.out BK240.out (by decide)) (fun _ hk => hk.2) (.int .i64 t235)) (fun _ hk => hk.2) (.int .i64 t236)) (fun _ hk => hk.2) (.slice Ao31 t237.length co31)) (fun _ h_ => h_.1))) (Kd.R_base ho0) hb); have n2_ := Aside0.mk (Kd.R_elder' (by (with_reducible repeat (first | apply Kd.R_alloc | apply Kd.R_drewN | apply Kd.R_drew)); exact (Kd.R_mono (Kd.R_far (p := ⟨gb240, 2, none⟩) (Kd.R_far (p := ⟨gb240, 1, none⟩) (Kd.R_far (p := ⟨gb240, 0, none⟩) (Kd.R_types HO239.out BK240.out (by decide)) (fun _ hk => hk.2) (.int .i64 t235)) (fun _ hk => hk.2) (.int .i64 t236)) (fun _ hk => hk.2) (.slice Ao31 t237.length co31)) (fun _ h_ => h_.1))) (Kd.R_base ho0) hb); have n3_ := Aside0.mk (Kd.R_lower (Kd.R_new' (Kd.R_new' (Kd.R_new' ho0 (Kd.R_lt (by (with_reducible repeat (first | apply Kd.R_alloc | apply Kd.R_drewN | apply Kd.R_drew)); exact (Kd.R_mono (Kd.R_far (p := ⟨gb240, 2, none⟩) (Kd.R_far (p := ⟨gb240, 1, none⟩) (Kd.R_far (p := ⟨gb240, 0, none⟩) (Kd.R_types HO220.out BK240.out (by decide)) (fun _ hk => hk.2) (.int .i64 t235)) (fun _ hk => hk.2) (.int .i64 t236)) (fun _ hk => hk.2) (.slice Ao31 t237.length co31)) (fun _ h_ => h_.1))))) (Kd.R_lt (by (with_reducible repeat (first | apply Kd.R_alloc | apply Kd.R_drewN | apply Kd.R_drew)); exact (Kd.R_mono (Kd.R_far (p := ⟨gb240, 2, none⟩) (Kd.R_far (p := ⟨gb240, 1, none⟩) (Kd.R_far (p := ⟨gb240, 0, none⟩) (Kd.R_types HO225.out BK240.out (by decide)) (fun _ hk => hk.2) (.int .i64 t235)) (fun _ hk => hk.2) (.int .i64 t236)) (fun _ hk => hk.2) (.slice Ao31 t237.length co31)) (fun _ h_ => h_.1))))) (Kd.R_lt (by (with_reducible repeat (first | apply Kd.R_alloc | apply Kd.R_drewN | apply Kd.R_drew)); exact (Kd.R_mono (Kd.R_far (p := ⟨gb240, 2, none⟩) (Kd.R_far (p := ⟨gb240, 1, none⟩) (Kd.R_far (p := ⟨gb240, 0, none⟩) (Kd.R_types HO239.out BK240.out (by decide)) (fun _ hk => hk.2) (.int .i64 t235)) (fun _ hk => hk.2) (.int .i64 t236)) (fun _ hk => hk.2) (.slice Ao31 t237.length co31)) (fun _ h_ => h_.1))))) (below_size (bl3 HB.out GE214.out GE234.out GE240.out))); have n4_ := Aside0.mk (blk_below (g := gb214) (o := .cells #[.int .i64 a0_0, .int .i64 a0_1, .slice A0_2 l0_2.length c0_2] 24 (0, 0)) (by (with_reducible repeat (first | refine blk_drewN ?_ _ | refine blk_drew ?_ | refine blk_alloc ?_ _)); refine blk_far ?_ NB214_240.out _; (with_reducible repeat (first | refine blk_drewN ?_ _ | refine blk_drew ?_ | refine blk_alloc ?_ _)); refine blk_far ?_ NB214_240.out _; (with_reducible repeat (first | refine blk_drewN ?_ _ | refine blk_drew ?_ | refine blk_alloc ?_ _)); refine blk_far ?_ NB214_240.out _; (with_reducible repeat (first | refine blk_drewN ?_ _ | refine blk_drew ?_ | refine blk_alloc ?_ _)); exact BK214.out) hb); have n5_ := Aside0.mk (blk_below (g := gb234) (o := .cells #[.int .i64 t221, .int .i64 t222, .slice Ao24 t223.length co24, .int .i64 t226, .int .i64 t227, .string t228, .int .i64 t229, .int .i64 t230, .int .i64 t231, .int .i64 t232] 45 (0, 0)) (by (with_reducible repeat (first | refine blk_drewN ?_ _ | refine blk_drew ?_ | refine blk_alloc ?_ _)); refine blk_far ?_ NB234_240.out _; (with_reducible repeat (first | refine blk_drewN ?_ _ | refine blk_drew ?_ | refine blk_alloc ?_ _)); refine blk_far ?_ NB234_240.out _; (with_reducible repeat (first | refine blk_drewN ?_ _ | refine blk_drew ?_ | refine blk_alloc ?_ _)); refine blk_far ?_ NB234_240.out _; (with_reducible repeat (first | refine blk_drewN ?_ _ | refine blk_drew ?_ | refine blk_alloc ?_ _)); exact BK234.out) hb); have n6_ := Aside0.mk (blk_below (g := gb240) (o := .cells #[.int .i64 t235, .int .i64 t236, .slice Ao31 t237.length co31] 32 (0, 0)) (by (with_reducible repeat (first | refine blk_drewN ?_ _ | refine blk_drew ?_ | refine blk_alloc ?_ _)); refine blk_put (cs := #[.int .i64 t235, .int .i64 t236, .slice none 0 0]) ?_ 2 _ rfl; (with_reducible repeat (first | refine blk_drewN ?_ _ | refine blk_drew ?_ | refine blk_alloc ?_ _)); refine blk_put (cs := #[.int .i64 t235, .int .i64 0, .slice none 0 0]) ?_ 1 _ rfl; (with_reducible repeat (first | refine blk_drewN ?_ _ | refine blk_drew ?_ | refine blk_alloc ?_ _)); refine blk_put (cs := #[.int .i64 0, .int .i64 0, .slice none 0 0]) ?_ 0 _ rfl; (with_reducible repeat (first | refine blk_drewN ?_ _ | refine blk_drew ?_ | refine blk_alloc ?_ _)); exact BK240.out) hb); have n7_ := Aside0.mk (below_step (bl3 HB.out GE214.out GE234.out GE240.out) hb); clear HO220; clear HO225; clear HO239; clear BK214; clear BK234; clear BK240; clear HB; have HO220 := n0_; have HO225 := n1_; have HO239 := n2_; have HO245 := n3_; have BK214 := n4_; have BK234 := n5_; have BK240 := n6_; have HB := n7_; clear n0_ n1_ n2_ n3_ n4_ n5_ n6_ n7_; (try clear hb); (try clear hb2); (try clear hk); (try clear hi); (try clear ho0)) | ((with_reducible refine gate_dst (N := 11) rfl ?_); refine box_event ?hg (N := 11) ?hd (cs := #[.int .i64 0, .int .i64 0, .slice none 0 0, .int .i64 0, .int .i64 0, .string (⟨#[]⟩ : ByteArray), .int .i64 0, .int .i64 0, .int .i64 0, .int .i64 0]) (t := 45) ?hr ?_; (case hd => rfl); (case hg => rfl); (case hr => first | (go_simp; done) | (go_simp; rfl)); intro gb254 hg w33 hbox hb; have n0_ := Aside0.mk (Kd.R_below (rn HO220.out) hb); have n1_ := Aside0.mk (Kd.R_below (rn HO225.out) hb); have n2_ := Aside0.mk (Kd.R_below (rn HO239.out) hb); have n3_ := Aside0.mk (Kd.R_below (rn HO245.out) hb); have n4_ := Aside0.mk (bb BK214.out hb); have n5_ := Aside0.mk (bb BK234.out hb); have n6_ := Aside0.mk (bb BK240.out hb); have n7_ := Aside0.mk (below_step (bl3 HB.out GE214.out GE234.out GE240.out) hb); have n8_ := Aside0.mk (hbox); have n9_ := Aside0.mk ((by rw [hg]; exact (below_size (bl3 HB.out GE214.out GE234.out GE240.out)) : w.heap.size ≤ gb254)); have n10_ := Aside0.mk ((by rw [hg]; exact (below_size (bl3 HB.out GE214.out GE234.out GE240.out)) : w.heap.size ≤ gb254)); have n11_ := Aside0.mk ((by rw [hg]; exact Nat.ne_of_lt (bq BK214.out) : gb214 ≠ gb254)); have n12_ := Aside0.mk ((by rw [hg]; exact Nat.ne_of_gt (bq BK214.out) : gb254 ≠ gb214)); have n13_ := Aside0.mk ((by rw [hg]; exact Nat.ne_of_lt (bq BK234.out) : gb234 ≠ gb254)); have n14_ := Aside0.mk ((by rw [hg]; exact Nat.ne_of_gt (bq BK234.out) : gb254 ≠ gb234)); have n15_ := Aside0.mk ((by rw [hg]; exact Nat.ne_of_lt (bq BK240.out) : gb240 ≠ gb254)); have n16_ := Aside0.mk ((by rw [hg]; exact Nat.ne_of_gt (bq BK240.out) : gb254 ≠ gb240)); clear HO220; clear HO225; clear HO239; clear HO245; clear BK214; clear BK234; clear BK240; clear HB; have HO220 := n0_; have HO225 := n1_; have HO239 := n2_; have HO245 := n3_; have BK214 := n4_; have BK234 := n5_; have BK240 := n6_; have HB := n7_; have BK254 := n8_; have GW254 := n9_; have GE254 := n10_; have NB214_254 := n11_; have NB254_214 := n12_; have NB234_254 := n13_; have NB254_234 := n14_; have NB240_254 := n15_; have NB254_240 := n16_; clear n0_ n1_ n2_ n3_ n4_ n5_ n6_ n7_ n8_ n9_ n10_ n11_ n12_ n13_ n14_ n15_ n16_; clear hb hbox hg; have hnb34 := NB254_214.out; have hnc34 := NB214_254.out; have hnb35 := NB254_234.out; have hnc35 := NB234_254.out; have hnb36 := NB254_240.out; have hnc36 := NB240_254.out; have hcz37_0 : w33.cell? ⟨gb254, 0, none⟩ = some (.int .i64 0) := (blk_cell BK254.out 0).trans rfl; have hcz37_1 : w33.cell? ⟨gb254, 1, none⟩ = some (.int .i64 0) := (blk_cell BK254.out 1).trans rfl; have hcz37_2 : w33.cell? ⟨gb254, 2, none⟩ = some (.slice none 0 0) := (blk_cell BK254.out 2).trans rfl; have hcz37_3 : w33.cell? ⟨gb254, 3, none⟩ = some (.int .i64 0) := (blk_cell BK254.out 3).trans rfl; have hcz37_4 : w33.cell? ⟨gb254, 4, none⟩ = some (.int .i64 0) := (blk_cell BK254.out 4).trans rfl; have hcz37_5 : w33.cell? ⟨gb254, 5, none⟩ = some (.string (⟨#[]⟩ : ByteArray)) := (blk_cell BK254.out 5).trans rfl; have hcz37_6 : w33.cell? ⟨gb254, 6, none⟩ = some (.int .i64 0) := (blk_cell BK254.out 6).trans rfl; have hcz37_7 : w33.cell? ⟨gb254, 7, none⟩ = some (.int .i64 0) := (blk_cell BK254.out 7).trans rfl; have hcz37_8 : w33.cell? ⟨gb254, 8, none⟩ = some (.int .i64 0) := (blk_cell BK254.out 8).trans rfl; have hcz37_9 : w33.cell? ⟨gb254, 9, none⟩ = some (.int .i64 0) := (blk_cell BK254.out 9).trans rfl; have hfz37_0 := blk_frozen BK254.out 0; have hfz37_1 := blk_frozen BK254.out 1; have hfz37_2 := blk_frozen BK254.out 2; have hfz37_3 := blk_frozen BK254.out 3; have hfz37_4 := blk_frozen BK254.out 4; have hfz37_5 := blk_frozen BK254.out 5; have hfz37_6 := blk_frozen BK254.out 6; have hfz37_7 := blk_frozen BK254.out 7; have hfz37_8 := blk_frozen BK254.out 8; have hfz37_9 := blk_frozen BK254.out 9; obtain ⟨Ao38, co38, eo38⟩ := Kd.R_slice HO245.out; subst eo38))
  (try simp only [Act.put, List.setIfInBounds_toArray, List.set_cons_zero, List.set_cons_succ])
  go_cut [48] (fun v48 wc => ∃ (kq : Nat) (x48_12 : Bool), v48 = .bool x48_12 ∧ Aside0 (laws_FnExactEmptyScene.j0 kq a1 a2 t233 t253 x48_12 a0_0 a0_1 l0_2 t221 t222 t223 t226 t227 t228 t229 t230 t231 t232 t235 t236 t237 t241 t242 t243 t246 t247 t248 t249 t250 t251 t252 = some r) ∧ Aside0 (kq ≤ k) ∧ Aside0 (Kd.R k27 27 wc w.heap.size (fun k_ => some k_ ≠ ((.slice Ao31 t237.length co31) : Value).ownBlock ∧ some k_ ≠ ((.slice Ao38 t243.length co38) : Value).ownBlock) (.slice Ao24 t223.length co24) t223) ∧ Aside0 (Kd.R k27 27 wc w.heap.size (fun k_ => some k_ ≠ ((.slice Ao24 t223.length co24) : Value).ownBlock ∧ some k_ ≠ ((.slice Ao38 t243.length co38) : Value).ownBlock) (.slice Ao31 t237.length co31) t237) ∧ Aside0 (Kd.R k27 27 wc w.heap.size (fun k_ => some k_ ≠ ((.slice Ao24 t223.length co24) : Value).ownBlock ∧ some k_ ≠ ((.slice Ao31 t237.length co31) : Value).ownBlock) (.slice Ao38 t243.length co38) t243) ∧ Aside0 (wc.heap[gb214]? = some (.cells #[.int .i64 a0_0, .int .i64 a0_1, (.slice A0_2 l0_2.length c0_2)] 24 (0, 0))) ∧ Aside0 (wc.heap[gb234]? = some (.cells #[.int .i64 t221, .int .i64 t222, (.slice Ao24 t223.length co24), .int .i64 t226, .int .i64 t227, .string t228, .int .i64 t229, .int .i64 t230, .int .i64 t231, .int .i64 t232] 45 (0, 0))) ∧ Aside0 (wc.heap[gb240]? = some (.cells #[.int .i64 t235, .int .i64 t236, (.slice Ao31 t237.length co31)] 32 (0, 0))) ∧ Aside0 (wc.heap[gb254]? = some (.cells #[.int .i64 t241, .int .i64 t242, (.slice Ao38 t243.length co38), .int .i64 t246, .int .i64 t247, .string t248, .int .i64 t249, .int .i64 t250, .int .i64 t251, .int .i64 t252] 45 (0, 0))) ∧ Aside0 (Below w.heap.size w wc))
  case first =>
   have H := HC13.out
   clear HC13
   replace H := Option.bind_eq_some_iff.mp H
   obtain ⟨t255, A390, H⟩ := H
   replace H : (if t255 = true then (laws_FnExactEmptyScene.j0 k a1 a2 t233 t253 (t253 != t233) a0_0 a0_1 l0_2 t221 t222 t223 t226 t227 t228 t229 t230 t231 t232 t235 t236 t237 t241 t242 t243 t246 t247 t248 t249 t250 t251 t252) else (laws_FnExactEmptyScene.j0 k a1 a2 t233 t253 true a0_0 a0_1 l0_2 t221 t222 t223 t226 t227 t228 t229 t230 t231 t232 t235 t236 t237 t241 t242 t243 t246 t247 t248 t249 t250 t251 t252)) = some r := H
   have A39 := Aside0.mk A390
   clear A390
   by_cases c40 : t255 = true
   ·subst c40
    have H1 : (laws_FnExactEmptyScene.j0 k a1 a2 t233 t253 (t253 != t233) a0_0 a0_1 l0_2 t221 t222 t223 t226 t227 t228 t229 t230 t231 t232 t235 t236 t237 t241 t242 t243 t246 t247 t248 t249 t250 t251 t252) = some r := by rw [if_pos rfl] at H; exact H
    clear H
    have H := H1
    clear H1
    have H' := Aside0.mk H
    clear H
    have hnb41 := NB254_214.out
    have hnc41 := NB214_254.out
    have hnb42 := NB254_234.out
    have hnc42 := NB234_254.out
    have hnb43 := NB254_240.out
    have hnc43 := NB240_254.out
    have hcz44_0 : w33.cell? ⟨gb254, 0, none⟩ = some (.int .i64 0) := (blk_cell BK254.out 0).trans rfl
    have hcz44_1 : w33.cell? ⟨gb254, 1, none⟩ = some (.int .i64 0) := (blk_cell BK254.out 1).trans rfl
    have hcz44_2 : w33.cell? ⟨gb254, 2, none⟩ = some (.slice none 0 0) := (blk_cell BK254.out 2).trans rfl
    have hcz44_3 : w33.cell? ⟨gb254, 3, none⟩ = some (.int .i64 0) := (blk_cell BK254.out 3).trans rfl
    have hcz44_4 : w33.cell? ⟨gb254, 4, none⟩ = some (.int .i64 0) := (blk_cell BK254.out 4).trans rfl
    have hcz44_5 : w33.cell? ⟨gb254, 5, none⟩ = some (.string (⟨#[]⟩ : ByteArray)) := (blk_cell BK254.out 5).trans rfl
    have hcz44_6 : w33.cell? ⟨gb254, 6, none⟩ = some (.int .i64 0) := (blk_cell BK254.out 6).trans rfl
    have hcz44_7 : w33.cell? ⟨gb254, 7, none⟩ = some (.int .i64 0) := (blk_cell BK254.out 7).trans rfl
    have hcz44_8 : w33.cell? ⟨gb254, 8, none⟩ = some (.int .i64 0) := (blk_cell BK254.out 8).trans rfl
    have hcz44_9 : w33.cell? ⟨gb254, 9, none⟩ = some (.int .i64 0) := (blk_cell BK254.out 9).trans rfl
    have hfz44_0 := blk_frozen BK254.out 0
    have hfz44_1 := blk_frozen BK254.out 1
    have hfz44_2 := blk_frozen BK254.out 2
    have hfz44_3 := blk_frozen BK254.out 3
    have hfz44_4 := blk_frozen BK254.out 4
    have hfz44_5 := blk_frozen BK254.out 5
    have hfz44_6 := blk_frozen BK254.out 6
    have hfz44_7 := blk_frozen BK254.out 7
    have hfz44_8 := blk_frozen BK254.out 8
    have hfz44_9 := blk_frozen BK254.out 9
    have hnb45 := NB234_214.out
    have hnc45 := NB214_234.out
    have hnb46 := NB234_240.out
    have hnc46 := NB240_234.out
    have hcz47_0 : w33.cell? ⟨gb234, 0, none⟩ = some (.int .i64 t221) := (blk_cell BK234.out 0).trans rfl
    have hcz47_1 : w33.cell? ⟨gb234, 1, none⟩ = some (.int .i64 t222) := (blk_cell BK234.out 1).trans rfl
    have hcz47_2 : w33.cell? ⟨gb234, 2, none⟩ = some (.slice Ao24 t223.length co24) := (blk_cell BK234.out 2).trans rfl
    have hcz47_3 : w33.cell? ⟨gb234, 3, none⟩ = some (.int .i64 t226) := (blk_cell BK234.out 3).trans rfl
    have hcz47_4 : w33.cell? ⟨gb234, 4, none⟩ = some (.int .i64 t227) := (blk_cell BK234.out 4).trans rfl
    have hcz47_5 : w33.cell? ⟨gb234, 5, none⟩ = some (.string t228) := (blk_cell BK234.out 5).trans rfl
    have hcz47_6 : w33.cell? ⟨gb234, 6, none⟩ = some (.int .i64 t229) := (blk_cell BK234.out 6).trans rfl
    have hcz47_7 : w33.cell? ⟨gb234, 7, none⟩ = some (.int .i64 t230) := (blk_cell BK234.out 7).trans rfl
    have hcz47_8 : w33.cell? ⟨gb234, 8, none⟩ = some (.int .i64 t231) := (blk_cell BK234.out 8).trans rfl
    have hcz47_9 : w33.cell? ⟨gb234, 9, none⟩ = some (.int .i64 t232) := (blk_cell BK234.out 9).trans rfl
    have hfz47_0 := blk_frozen BK234.out 0
    have hfz47_1 := blk_frozen BK234.out 1
    have hfz47_2 := blk_frozen BK234.out 2
    have hfz47_3 := blk_frozen BK234.out 3
    have hfz47_4 := blk_frozen BK234.out 4
    have hfz47_5 := blk_frozen BK234.out 5
    have hfz47_6 := blk_frozen BK234.out 6
    have hfz47_7 := blk_frozen BK234.out 7
    have hfz47_8 := blk_frozen BK234.out 8
    have hfz47_9 := blk_frozen BK234.out 9
    go_wp2_with (first | ((with_reducible refine gate_callee (f := 22) rfl ?_); refine goesL_ (some 42) rfl rfl Try.func22 (by kernel_rfl) rfl #[.agg #[.int .i64 t241, .int .i64 t242, .slice Ao38 t243.length co38, .int .i64 t246, .int .i64 t247, .string t248, .int .i64 t249, .int .i64 t250, .int .i64 t251, .int .i64 t252], .agg #[.int .i64 t221, .int .i64 t222, .slice Ao24 t223.length co24, .int .i64 t226, .int .i64 t227, .string t228, .int .i64 t229, .int .i64 t230, .int .i64 t231, .int .i64 t232]] rfl (by (try simp only [List.map_toArray, List.map_cons, List.map_nil]); first | done | rfl | (simp only [List.length_drop, List.length_take]; rfl)) ?_; (with_reducible refine (laws_eqScene.calls k t241 t242 _ _ t243 t246 t247 t248 t249 t250 t251 t252 t221 t222 _ _ t223 t226 t227 t228 t229 t230 t231 t232 true _ ?side1 ?side2 ?side3 ?side4 A39.out).mono ?_); (case side1 => refine (Kd.R_reads' (e := 27) (base := w.heap.size) (ok := fun k_ => (((True ∧ some k_ ≠ (.slice Ao19 t218.length co19 : Value).ownBlock) ∧ some k_ ≠ (.slice Ao24 t223.length co24 : Value).ownBlock) ∧ some k_ ≠ (.slice Ao31 t237.length co31 : Value).ownBlock)) (n := t243.length) (c := co38) ?_).2.2; exact (by (with_reducible repeat (first | apply Kd.R_alloc | apply Kd.R_drewN | apply Kd.R_drew)); exact (Kd.R_mono (Kd.R_far (p := ⟨gb254, 9, none⟩) (Kd.R_far (p := ⟨gb254, 8, none⟩) (Kd.R_far (p := ⟨gb254, 7, none⟩) (Kd.R_far (p := ⟨gb254, 6, none⟩) (Kd.R_far (p := ⟨gb254, 5, none⟩) (Kd.R_far (p := ⟨gb254, 4, none⟩) (Kd.R_far (p := ⟨gb254, 3, none⟩) (Kd.R_far (p := ⟨gb254, 2, none⟩) (Kd.R_far (p := ⟨gb254, 1, none⟩) (Kd.R_far (p := ⟨gb254, 0, none⟩) (Kd.R_types HO245.out BK254.out (by decide)) (fun _ hk => hk.2) (.int .i64 t241)) (fun _ hk => hk.2) (.int .i64 t242)) (fun _ hk => hk.2) (.slice Ao38 t243.length co38)) (fun _ hk => hk.2) (.int .i64 t246)) (fun _ hk => hk.2) (.int .i64 t247)) (fun _ hk => hk.2) (.string t248)) (fun _ hk => hk.2) (.int .i64 t249)) (fun _ hk => hk.2) (.int .i64 t250)) (fun _ hk => hk.2) (.int .i64 t251)) (fun _ hk => hk.2) (.int .i64 t252)) (fun _ h_ => h_.1)))); (case side2 => exact (Kd.R_reads' HO245.out).2.1); (case side3 => refine (Kd.R_reads' (e := 27) (base := w.heap.size) (ok := fun k_ => (((True ∧ some k_ ≠ (.slice Ao19 t218.length co19 : Value).ownBlock) ∧ some k_ ≠ (.slice Ao31 t237.length co31 : Value).ownBlock) ∧ some k_ ≠ (.slice Ao38 t243.length co38 : Value).ownBlock)) (n := t223.length) (c := co24) ?_).2.2; exact (by (with_reducible repeat (first | apply Kd.R_alloc | apply Kd.R_drewN | apply Kd.R_drew)); exact (Kd.R_mono (Kd.R_far (p := ⟨gb254, 9, none⟩) (Kd.R_far (p := ⟨gb254, 8, none⟩) (Kd.R_far (p := ⟨gb254, 7, none⟩) (Kd.R_far (p := ⟨gb254, 6, none⟩) (Kd.R_far (p := ⟨gb254, 5, none⟩) (Kd.R_far (p := ⟨gb254, 4, none⟩) (Kd.R_far (p := ⟨gb254, 3, none⟩) (Kd.R_far (p := ⟨gb254, 2, none⟩) (Kd.R_far (p := ⟨gb254, 1, none⟩) (Kd.R_far (p := ⟨gb254, 0, none⟩) (Kd.R_types HO225.out BK254.out (by decide)) (fun _ hk => hk.2) (.int .i64 t241)) (fun _ hk => hk.2) (.int .i64 t242)) (fun _ hk => hk.2) (.slice Ao38 t243.length co38)) (fun _ hk => hk.2) (.int .i64 t246)) (fun _ hk => hk.2) (.int .i64 t247)) (fun _ hk => hk.2) (.string t248)) (fun _ hk => hk.2) (.int .i64 t249)) (fun _ hk => hk.2) (.int .i64 t250)) (fun _ hk => hk.2) (.int .i64 t251)) (fun _ hk => hk.2) (.int .i64 t252)) (fun _ h_ => h_.1)))); (case side4 => exact (Kd.R_reads' HO225.out).2.1); rintro e w48 ⟨rfl, hb⟩; refine ⟨_, rfl, ?_⟩; have n0_ := Aside0.mk (Kd.R_below (by (with_reducible repeat (first | apply Kd.R_alloc | apply Kd.R_drewN | apply Kd.R_drew)); exact (Kd.R_mono (Kd.R_far (p := ⟨gb254, 9, none⟩) (Kd.R_far (p := ⟨gb254, 8, none⟩) (Kd.R_far (p := ⟨gb254, 7, none⟩) (Kd.R_far (p := ⟨gb254, 6, none⟩) (Kd.R_far (p := ⟨gb254, 5, none⟩) (Kd.R_far (p := ⟨gb254, 4, none⟩) (Kd.R_far (p := ⟨gb254, 3, none⟩) (Kd.R_far (p := ⟨gb254, 2, none⟩) (Kd.R_far (p := ⟨gb254, 1, none⟩) (Kd.R_far (p := ⟨gb254, 0, none⟩) (Kd.R_types HO220.out BK254.out (by decide)) (fun _ hk => hk.2) (.int .i64 t241)) (fun _ hk => hk.2) (.int .i64 t242)) (fun _ hk => hk.2) (.slice Ao38 t243.length co38)) (fun _ hk => hk.2) (.int .i64 t246)) (fun _ hk => hk.2) (.int .i64 t247)) (fun _ hk => hk.2) (.string t248)) (fun _ hk => hk.2) (.int .i64 t249)) (fun _ hk => hk.2) (.int .i64 t250)) (fun _ hk => hk.2) (.int .i64 t251)) (fun _ hk => hk.2) (.int .i64 t252)) (fun _ h_ => h_.1))) hb); have n1_ := Aside0.mk (Kd.R_below (by (with_reducible repeat (first | apply Kd.R_alloc | apply Kd.R_drewN | apply Kd.R_drew)); exact (Kd.R_mono (Kd.R_far (p := ⟨gb254, 9, none⟩) (Kd.R_far (p := ⟨gb254, 8, none⟩) (Kd.R_far (p := ⟨gb254, 7, none⟩) (Kd.R_far (p := ⟨gb254, 6, none⟩) (Kd.R_far (p := ⟨gb254, 5, none⟩) (Kd.R_far (p := ⟨gb254, 4, none⟩) (Kd.R_far (p := ⟨gb254, 3, none⟩) (Kd.R_far (p := ⟨gb254, 2, none⟩) (Kd.R_far (p := ⟨gb254, 1, none⟩) (Kd.R_far (p := ⟨gb254, 0, none⟩) (Kd.R_types HO225.out BK254.out (by decide)) (fun _ hk => hk.2) (.int .i64 t241)) (fun _ hk => hk.2) (.int .i64 t242)) (fun _ hk => hk.2) (.slice Ao38 t243.length co38)) (fun _ hk => hk.2) (.int .i64 t246)) (fun _ hk => hk.2) (.int .i64 t247)) (fun _ hk => hk.2) (.string t248)) (fun _ hk => hk.2) (.int .i64 t249)) (fun _ hk => hk.2) (.int .i64 t250)) (fun _ hk => hk.2) (.int .i64 t251)) (fun _ hk => hk.2) (.int .i64 t252)) (fun _ h_ => h_.1))) hb); have n2_ := Aside0.mk (Kd.R_below (by (with_reducible repeat (first | apply Kd.R_alloc | apply Kd.R_drewN | apply Kd.R_drew)); exact (Kd.R_mono (Kd.R_far (p := ⟨gb254, 9, none⟩) (Kd.R_far (p := ⟨gb254, 8, none⟩) (Kd.R_far (p := ⟨gb254, 7, none⟩) (Kd.R_far (p := ⟨gb254, 6, none⟩) (Kd.R_far (p := ⟨gb254, 5, none⟩) (Kd.R_far (p := ⟨gb254, 4, none⟩) (Kd.R_far (p := ⟨gb254, 3, none⟩) (Kd.R_far (p := ⟨gb254, 2, none⟩) (Kd.R_far (p := ⟨gb254, 1, none⟩) (Kd.R_far (p := ⟨gb254, 0, none⟩) (Kd.R_types HO239.out BK254.out (by decide)) (fun _ hk => hk.2) (.int .i64 t241)) (fun _ hk => hk.2) (.int .i64 t242)) (fun _ hk => hk.2) (.slice Ao38 t243.length co38)) (fun _ hk => hk.2) (.int .i64 t246)) (fun _ hk => hk.2) (.int .i64 t247)) (fun _ hk => hk.2) (.string t248)) (fun _ hk => hk.2) (.int .i64 t249)) (fun _ hk => hk.2) (.int .i64 t250)) (fun _ hk => hk.2) (.int .i64 t251)) (fun _ hk => hk.2) (.int .i64 t252)) (fun _ h_ => h_.1))) hb); have n3_ := Aside0.mk (Kd.R_below (by (with_reducible repeat (first | apply Kd.R_alloc | apply Kd.R_drewN | apply Kd.R_drew)); exact (Kd.R_mono (Kd.R_far (p := ⟨gb254, 9, none⟩) (Kd.R_far (p := ⟨gb254, 8, none⟩) (Kd.R_far (p := ⟨gb254, 7, none⟩) (Kd.R_far (p := ⟨gb254, 6, none⟩) (Kd.R_far (p := ⟨gb254, 5, none⟩) (Kd.R_far (p := ⟨gb254, 4, none⟩) (Kd.R_far (p := ⟨gb254, 3, none⟩) (Kd.R_far (p := ⟨gb254, 2, none⟩) (Kd.R_far (p := ⟨gb254, 1, none⟩) (Kd.R_far (p := ⟨gb254, 0, none⟩) (Kd.R_types HO245.out BK254.out (by decide)) (fun _ hk => hk.2) (.int .i64 t241)) (fun _ hk => hk.2) (.int .i64 t242)) (fun _ hk => hk.2) (.slice Ao38 t243.length co38)) (fun _ hk => hk.2) (.int .i64 t246)) (fun _ hk => hk.2) (.int .i64 t247)) (fun _ hk => hk.2) (.string t248)) (fun _ hk => hk.2) (.int .i64 t249)) (fun _ hk => hk.2) (.int .i64 t250)) (fun _ hk => hk.2) (.int .i64 t251)) (fun _ hk => hk.2) (.int .i64 t252)) (fun _ h_ => h_.1))) hb); have n4_ := Aside0.mk (blk_below (g := gb214) (o := .cells #[.int .i64 a0_0, .int .i64 a0_1, .slice A0_2 l0_2.length c0_2] 24 (0, 0)) (by (with_reducible repeat (first | refine blk_drewN ?_ _ | refine blk_drew ?_ | refine blk_alloc ?_ _)); refine blk_far ?_ NB214_254.out _; (with_reducible repeat (first | refine blk_drewN ?_ _ | refine blk_drew ?_ | refine blk_alloc ?_ _)); refine blk_far ?_ NB214_254.out _; (with_reducible repeat (first | refine blk_drewN ?_ _ | refine blk_drew ?_ | refine blk_alloc ?_ _)); refine blk_far ?_ NB214_254.out _; (with_reducible repeat (first | refine blk_drewN ?_ _ | refine blk_drew ?_ | refine blk_alloc ?_ _)); refine blk_far ?_ NB214_254.out _; (with_reducible repeat (first | refine blk_drewN ?_ _ | refine blk_drew ?_ | refine blk_alloc ?_ _)); refine blk_far ?_ NB214_254.out _; (with_reducible repeat (first | refine blk_drewN ?_ _ | refine blk_drew ?_ | refine blk_alloc ?_ _)); refine blk_far ?_ NB214_254.out _; (with_reducible repeat (first | refine blk_drewN ?_ _ | refine blk_drew ?_ | refine blk_alloc ?_ _)); refine blk_far ?_ NB214_254.out _; (with_reducible repeat (first | refine blk_drewN ?_ _ | refine blk_drew ?_ | refine blk_alloc ?_ _)); refine blk_far ?_ NB214_254.out _; (with_reducible repeat (first | refine blk_drewN ?_ _ | refine blk_drew ?_ | refine blk_alloc ?_ _)); refine blk_far ?_ NB214_254.out _; (with_reducible repeat (first | refine blk_drewN ?_ _ | refine blk_drew ?_ | refine blk_alloc ?_ _)); refine blk_far ?_ NB214_254.out _; (with_reducible repeat (first | refine blk_drewN ?_ _ | refine blk_drew ?_ | refine blk_alloc ?_ _)); exact BK214.out) hb); have n5_ := Aside0.mk (blk_below (g := gb234) (o := .cells #[.int .i64 t221, .int .i64 t222, .slice Ao24 t223.length co24, .int .i64 t226, .int .i64 t227, .string t228, .int .i64 t229, .int .i64 t230, .int .i64 t231, .int .i64 t232] 45 (0, 0)) (by (with_reducible repeat (first | refine blk_drewN ?_ _ | refine blk_drew ?_ | refine blk_alloc ?_ _)); refine blk_far ?_ NB234_254.out _; (with_reducible repeat (first | refine blk_drewN ?_ _ | refine blk_drew ?_ | refine blk_alloc ?_ _)); refine blk_far ?_ NB234_254.out _; (with_reducible repeat (first | refine blk_drewN ?_ _ | refine blk_drew ?_ | refine blk_alloc ?_ _)); refine blk_far ?_ NB234_254.out _; (with_reducible repeat (first | refine blk_drewN ?_ _ | refine blk_drew ?_ | refine blk_alloc ?_ _)); refine blk_far ?_ NB234_254.out _; (with_reducible repeat (first | refine blk_drewN ?_ _ | refine blk_drew ?_ | refine blk_alloc ?_ _)); refine blk_far ?_ NB234_254.out _; (with_reducible repeat (first | refine blk_drewN ?_ _ | refine blk_drew ?_ | refine blk_alloc ?_ _)); refine blk_far ?_ NB234_254.out _; (with_reducible repeat (first | refine blk_drewN ?_ _ | refine blk_drew ?_ | refine blk_alloc ?_ _)); refine blk_far ?_ NB234_254.out _; (with_reducible repeat (first | refine blk_drewN ?_ _ | refine blk_drew ?_ | refine blk_alloc ?_ _)); refine blk_far ?_ NB234_254.out _; (with_reducible repeat (first | refine blk_drewN ?_ _ | refine blk_drew ?_ | refine blk_alloc ?_ _)); refine blk_far ?_ NB234_254.out _; (with_reducible repeat (first | refine blk_drewN ?_ _ | refine blk_drew ?_ | refine blk_alloc ?_ _)); refine blk_far ?_ NB234_254.out _; (with_reducible repeat (first | refine blk_drewN ?_ _ | refine blk_drew ?_ | refine blk_alloc ?_ _)); exact BK234.out) hb); have n6_ := Aside0.mk (blk_below (g := gb240) (o := .cells #[.int .i64 t235, .int .i64 t236, .slice Ao31 t237.length co31] 32 (0, 0)) (by (with_reducible repeat (first | refine blk_drewN ?_ _ | refine blk_drew ?_ | refine blk_alloc ?_ _)); refine blk_far ?_ NB240_254.out _; (with_reducible repeat (first | refine blk_drewN ?_ _ | refine blk_drew ?_ | refine blk_alloc ?_ _)); refine blk_far ?_ NB240_254.out _; (with_reducible repeat (first | refine blk_drewN ?_ _ | refine blk_drew ?_ | refine blk_alloc ?_ _)); refine blk_far ?_ NB240_254.out _; (with_reducible repeat (first | refine blk_drewN ?_ _ | refine blk_drew ?_ | refine blk_alloc ?_ _)); refine blk_far ?_ NB240_254.out _; (with_reducible repeat (first | refine blk_drewN ?_ _ | refine blk_drew ?_ | refine blk_alloc ?_ _)); refine blk_far ?_ NB240_254.out _; (with_reducible repeat (first | refine blk_drewN ?_ _ | refine blk_drew ?_ | refine blk_alloc ?_ _)); refine blk_far ?_ NB240_254.out _; (with_reducible repeat (first | refine blk_drewN ?_ _ | refine blk_drew ?_ | refine blk_alloc ?_ _)); refine blk_far ?_ NB240_254.out _; (with_reducible repeat (first | refine blk_drewN ?_ _ | refine blk_drew ?_ | refine blk_alloc ?_ _)); refine blk_far ?_ NB240_254.out _; (with_reducible repeat (first | refine blk_drewN ?_ _ | refine blk_drew ?_ | refine blk_alloc ?_ _)); refine blk_far ?_ NB240_254.out _; (with_reducible repeat (first | refine blk_drewN ?_ _ | refine blk_drew ?_ | refine blk_alloc ?_ _)); refine blk_far ?_ NB240_254.out _; (with_reducible repeat (first | refine blk_drewN ?_ _ | refine blk_drew ?_ | refine blk_alloc ?_ _)); exact BK240.out) hb); have n7_ := Aside0.mk (blk_below (g := gb254) (o := .cells #[.int .i64 t241, .int .i64 t242, .slice Ao38 t243.length co38, .int .i64 t246, .int .i64 t247, .string t248, .int .i64 t249, .int .i64 t250, .int .i64 t251, .int .i64 t252] 45 (0, 0)) (by (with_reducible repeat (first | refine blk_drewN ?_ _ | refine blk_drew ?_ | refine blk_alloc ?_ _)); refine blk_put (cs := #[.int .i64 t241, .int .i64 t242, .slice Ao38 t243.length co38, .int .i64 t246, .int .i64 t247, .string t248, .int .i64 t249, .int .i64 t250, .int .i64 t251, .int .i64 0]) ?_ 9 _ rfl; (with_reducible repeat (first | refine blk_drewN ?_ _ | refine blk_drew ?_ | refine blk_alloc ?_ _)); refine blk_put (cs := #[.int .i64 t241, .int .i64 t242, .slice Ao38 t243.length co38, .int .i64 t246, .int .i64 t247, .string t248, .int .i64 t249, .int .i64 t250, .int .i64 0, .int .i64 0]) ?_ 8 _ rfl; (with_reducible repeat (first | refine blk_drewN ?_ _ | refine blk_drew ?_ | refine blk_alloc ?_ _)); refine blk_put (cs := #[.int .i64 t241, .int .i64 t242, .slice Ao38 t243.length co38, .int .i64 t246, .int .i64 t247, .string t248, .int .i64 t249, .int .i64 0, .int .i64 0, .int .i64 0]) ?_ 7 _ rfl; (with_reducible repeat (first | refine blk_drewN ?_ _ | refine blk_drew ?_ | refine blk_alloc ?_ _)); refine blk_put (cs := #[.int .i64 t241, .int .i64 t242, .slice Ao38 t243.length co38, .int .i64 t246, .int .i64 t247, .string t248, .int .i64 0, .int .i64 0, .int .i64 0, .int .i64 0]) ?_ 6 _ rfl; (with_reducible repeat (first | refine blk_drewN ?_ _ | refine blk_drew ?_ | refine blk_alloc ?_ _)); refine blk_put (cs := #[.int .i64 t241, .int .i64 t242, .slice Ao38 t243.length co38, .int .i64 t246, .int .i64 t247, .string (⟨#[]⟩ : ByteArray), .int .i64 0, .int .i64 0, .int .i64 0, .int .i64 0]) ?_ 5 _ rfl; (with_reducible repeat (first | refine blk_drewN ?_ _ | refine blk_drew ?_ | refine blk_alloc ?_ _)); refine blk_put (cs := #[.int .i64 t241, .int .i64 t242, .slice Ao38 t243.length co38, .int .i64 t246, .int .i64 0, .string (⟨#[]⟩ : ByteArray), .int .i64 0, .int .i64 0, .int .i64 0, .int .i64 0]) ?_ 4 _ rfl; (with_reducible repeat (first | refine blk_drewN ?_ _ | refine blk_drew ?_ | refine blk_alloc ?_ _)); refine blk_put (cs := #[.int .i64 t241, .int .i64 t242, .slice Ao38 t243.length co38, .int .i64 0, .int .i64 0, .string (⟨#[]⟩ : ByteArray), .int .i64 0, .int .i64 0, .int .i64 0, .int .i64 0]) ?_ 3 _ rfl; (with_reducible repeat (first | refine blk_drewN ?_ _ | refine blk_drew ?_ | refine blk_alloc ?_ _)); refine blk_put (cs := #[.int .i64 t241, .int .i64 t242, .slice none 0 0, .int .i64 0, .int .i64 0, .string (⟨#[]⟩ : ByteArray), .int .i64 0, .int .i64 0, .int .i64 0, .int .i64 0]) ?_ 2 _ rfl; (with_reducible repeat (first | refine blk_drewN ?_ _ | refine blk_drew ?_ | refine blk_alloc ?_ _)); refine blk_put (cs := #[.int .i64 t241, .int .i64 0, .slice none 0 0, .int .i64 0, .int .i64 0, .string (⟨#[]⟩ : ByteArray), .int .i64 0, .int .i64 0, .int .i64 0, .int .i64 0]) ?_ 1 _ rfl; (with_reducible repeat (first | refine blk_drewN ?_ _ | refine blk_drew ?_ | refine blk_alloc ?_ _)); refine blk_put (cs := #[.int .i64 0, .int .i64 0, .slice none 0 0, .int .i64 0, .int .i64 0, .string (⟨#[]⟩ : ByteArray), .int .i64 0, .int .i64 0, .int .i64 0, .int .i64 0]) ?_ 0 _ rfl; (with_reducible repeat (first | refine blk_drewN ?_ _ | refine blk_drew ?_ | refine blk_alloc ?_ _)); exact BK254.out) hb); have n8_ := Aside0.mk (below_step (bl4 HB.out GE214.out GE234.out GE240.out GE254.out) hb); clear HO220; clear HO225; clear HO239; clear HO245; clear BK214; clear BK234; clear BK240; clear BK254; clear HB; have HO220 := n0_; have HO225 := n1_; have HO239 := n2_; have HO245 := n3_; have BK214 := n4_; have BK234 := n5_; have BK240 := n6_; have BK254 := n7_; have HB := n8_; clear n0_ n1_ n2_ n3_ n4_ n5_ n6_ n7_ n8_; (try clear hb); (try clear hb2); (try clear hk); (try clear hi)))
    go_meet
    case rel => exact ⟨_, ((t253 != t233)), (by first | rfl | (simp; done) | (simp [*]; done)), H', ⟨by first | omega | exact Nat.le_refl _⟩, ⟨by (with_reducible repeat (first | apply Kd.R_alloc | apply Kd.R_drewN | apply Kd.R_drew)); exact Kd.R_mono HO225.out (fun _ hk => ⟨hk.1.2, hk.2⟩)⟩, ⟨by (with_reducible repeat (first | apply Kd.R_alloc | apply Kd.R_drewN | apply Kd.R_drew)); exact Kd.R_mono HO239.out (fun _ hk => ⟨hk.1.2, hk.2⟩)⟩, ⟨by (with_reducible repeat (first | apply Kd.R_alloc | apply Kd.R_drewN | apply Kd.R_drew)); exact Kd.R_mono HO245.out (fun _ hk => ⟨hk.1.2, hk.2⟩)⟩, ⟨by (with_reducible repeat (first | refine blk_drewN ?_ _ | refine blk_drew ?_ | refine blk_alloc ?_ _)); exact BK214.out⟩, ⟨by (with_reducible repeat (first | refine blk_drewN ?_ _ | refine blk_drew ?_ | refine blk_alloc ?_ _)); exact BK234.out⟩, ⟨by (with_reducible repeat (first | refine blk_drewN ?_ _ | refine blk_drew ?_ | refine blk_alloc ?_ _)); exact BK240.out⟩, ⟨by (with_reducible repeat (first | refine blk_drewN ?_ _ | refine blk_drew ?_ | refine blk_alloc ?_ _)); exact BK254.out⟩, ⟨by repeat (first | (with_reducible first | exact HB.out | apply below_alloc | apply pw_below_drewN | apply below_drew1 | refine below_set ?_ GE214.out | refine below_set ?_ GE234.out | refine below_set ?_ GE240.out | refine below_set ?_ GE254.out) | exact HB.out)⟩⟩
   ·replace c40 := Bool.eq_false_iff.mpr c40
    subst c40
    have H1 : (laws_FnExactEmptyScene.j0 k a1 a2 t233 t253 true a0_0 a0_1 l0_2 t221 t222 t223 t226 t227 t228 t229 t230 t231 t232 t235 t236 t237 t241 t242 t243 t246 t247 t248 t249 t250 t251 t252) = some r := by rw [if_neg (show ¬ (false = true) by decide)] at H; exact H
    clear H
    have H := H1
    clear H1
    have H' := Aside0.mk H
    clear H
    have hnb49 := NB254_214.out
    have hnc49 := NB214_254.out
    have hnb50 := NB254_234.out
    have hnc50 := NB234_254.out
    have hnb51 := NB254_240.out
    have hnc51 := NB240_254.out
    have hcz52_0 : w33.cell? ⟨gb254, 0, none⟩ = some (.int .i64 0) := (blk_cell BK254.out 0).trans rfl
    have hcz52_1 : w33.cell? ⟨gb254, 1, none⟩ = some (.int .i64 0) := (blk_cell BK254.out 1).trans rfl
    have hcz52_2 : w33.cell? ⟨gb254, 2, none⟩ = some (.slice none 0 0) := (blk_cell BK254.out 2).trans rfl
    have hcz52_3 : w33.cell? ⟨gb254, 3, none⟩ = some (.int .i64 0) := (blk_cell BK254.out 3).trans rfl
    have hcz52_4 : w33.cell? ⟨gb254, 4, none⟩ = some (.int .i64 0) := (blk_cell BK254.out 4).trans rfl
    have hcz52_5 : w33.cell? ⟨gb254, 5, none⟩ = some (.string (⟨#[]⟩ : ByteArray)) := (blk_cell BK254.out 5).trans rfl
    have hcz52_6 : w33.cell? ⟨gb254, 6, none⟩ = some (.int .i64 0) := (blk_cell BK254.out 6).trans rfl
    have hcz52_7 : w33.cell? ⟨gb254, 7, none⟩ = some (.int .i64 0) := (blk_cell BK254.out 7).trans rfl
    have hcz52_8 : w33.cell? ⟨gb254, 8, none⟩ = some (.int .i64 0) := (blk_cell BK254.out 8).trans rfl
    have hcz52_9 : w33.cell? ⟨gb254, 9, none⟩ = some (.int .i64 0) := (blk_cell BK254.out 9).trans rfl
    have hfz52_0 := blk_frozen BK254.out 0
    have hfz52_1 := blk_frozen BK254.out 1
    have hfz52_2 := blk_frozen BK254.out 2
    have hfz52_3 := blk_frozen BK254.out 3
    have hfz52_4 := blk_frozen BK254.out 4
    have hfz52_5 := blk_frozen BK254.out 5
    have hfz52_6 := blk_frozen BK254.out 6
    have hfz52_7 := blk_frozen BK254.out 7
    have hfz52_8 := blk_frozen BK254.out 8
    have hfz52_9 := blk_frozen BK254.out 9
    have hnb53 := NB234_214.out
    have hnc53 := NB214_234.out
    have hnb54 := NB234_240.out
    have hnc54 := NB240_234.out
    have hcz55_0 : w33.cell? ⟨gb234, 0, none⟩ = some (.int .i64 t221) := (blk_cell BK234.out 0).trans rfl
    have hcz55_1 : w33.cell? ⟨gb234, 1, none⟩ = some (.int .i64 t222) := (blk_cell BK234.out 1).trans rfl
    have hcz55_2 : w33.cell? ⟨gb234, 2, none⟩ = some (.slice Ao24 t223.length co24) := (blk_cell BK234.out 2).trans rfl
    have hcz55_3 : w33.cell? ⟨gb234, 3, none⟩ = some (.int .i64 t226) := (blk_cell BK234.out 3).trans rfl
    have hcz55_4 : w33.cell? ⟨gb234, 4, none⟩ = some (.int .i64 t227) := (blk_cell BK234.out 4).trans rfl
    have hcz55_5 : w33.cell? ⟨gb234, 5, none⟩ = some (.string t228) := (blk_cell BK234.out 5).trans rfl
    have hcz55_6 : w33.cell? ⟨gb234, 6, none⟩ = some (.int .i64 t229) := (blk_cell BK234.out 6).trans rfl
    have hcz55_7 : w33.cell? ⟨gb234, 7, none⟩ = some (.int .i64 t230) := (blk_cell BK234.out 7).trans rfl
    have hcz55_8 : w33.cell? ⟨gb234, 8, none⟩ = some (.int .i64 t231) := (blk_cell BK234.out 8).trans rfl
    have hcz55_9 : w33.cell? ⟨gb234, 9, none⟩ = some (.int .i64 t232) := (blk_cell BK234.out 9).trans rfl
    have hfz55_0 := blk_frozen BK234.out 0
    have hfz55_1 := blk_frozen BK234.out 1
    have hfz55_2 := blk_frozen BK234.out 2
    have hfz55_3 := blk_frozen BK234.out 3
    have hfz55_4 := blk_frozen BK234.out 4
    have hfz55_5 := blk_frozen BK234.out 5
    have hfz55_6 := blk_frozen BK234.out 6
    have hfz55_7 := blk_frozen BK234.out 7
    have hfz55_8 := blk_frozen BK234.out 8
    have hfz55_9 := blk_frozen BK234.out 9
    go_wp2_with (first | ((with_reducible refine gate_callee (f := 22) rfl ?_); refine goesL_ (some 42) rfl rfl Try.func22 (by kernel_rfl) rfl #[.agg #[.int .i64 t241, .int .i64 t242, .slice Ao38 t243.length co38, .int .i64 t246, .int .i64 t247, .string t248, .int .i64 t249, .int .i64 t250, .int .i64 t251, .int .i64 t252], .agg #[.int .i64 t221, .int .i64 t222, .slice Ao24 t223.length co24, .int .i64 t226, .int .i64 t227, .string t228, .int .i64 t229, .int .i64 t230, .int .i64 t231, .int .i64 t232]] rfl (by (try simp only [List.map_toArray, List.map_cons, List.map_nil]); first | done | rfl | (simp only [List.length_drop, List.length_take]; rfl)) ?_; (with_reducible refine (laws_eqScene.calls k t241 t242 _ _ t243 t246 t247 t248 t249 t250 t251 t252 t221 t222 _ _ t223 t226 t227 t228 t229 t230 t231 t232 false _ ?side1 ?side2 ?side3 ?side4 A39.out).mono ?_); (case side1 => refine (Kd.R_reads' (e := 27) (base := w.heap.size) (ok := fun k_ => (((True ∧ some k_ ≠ (.slice Ao19 t218.length co19 : Value).ownBlock) ∧ some k_ ≠ (.slice Ao24 t223.length co24 : Value).ownBlock) ∧ some k_ ≠ (.slice Ao31 t237.length co31 : Value).ownBlock)) (n := t243.length) (c := co38) ?_).2.2; exact (by (with_reducible repeat (first | apply Kd.R_alloc | apply Kd.R_drewN | apply Kd.R_drew)); exact (Kd.R_mono (Kd.R_far (p := ⟨gb254, 9, none⟩) (Kd.R_far (p := ⟨gb254, 8, none⟩) (Kd.R_far (p := ⟨gb254, 7, none⟩) (Kd.R_far (p := ⟨gb254, 6, none⟩) (Kd.R_far (p := ⟨gb254, 5, none⟩) (Kd.R_far (p := ⟨gb254, 4, none⟩) (Kd.R_far (p := ⟨gb254, 3, none⟩) (Kd.R_far (p := ⟨gb254, 2, none⟩) (Kd.R_far (p := ⟨gb254, 1, none⟩) (Kd.R_far (p := ⟨gb254, 0, none⟩) (Kd.R_types HO245.out BK254.out (by decide)) (fun _ hk => hk.2) (.int .i64 t241)) (fun _ hk => hk.2) (.int .i64 t242)) (fun _ hk => hk.2) (.slice Ao38 t243.length co38)) (fun _ hk => hk.2) (.int .i64 t246)) (fun _ hk => hk.2) (.int .i64 t247)) (fun _ hk => hk.2) (.string t248)) (fun _ hk => hk.2) (.int .i64 t249)) (fun _ hk => hk.2) (.int .i64 t250)) (fun _ hk => hk.2) (.int .i64 t251)) (fun _ hk => hk.2) (.int .i64 t252)) (fun _ h_ => h_.1)))); (case side2 => exact (Kd.R_reads' HO245.out).2.1); (case side3 => refine (Kd.R_reads' (e := 27) (base := w.heap.size) (ok := fun k_ => (((True ∧ some k_ ≠ (.slice Ao19 t218.length co19 : Value).ownBlock) ∧ some k_ ≠ (.slice Ao31 t237.length co31 : Value).ownBlock) ∧ some k_ ≠ (.slice Ao38 t243.length co38 : Value).ownBlock)) (n := t223.length) (c := co24) ?_).2.2; exact (by (with_reducible repeat (first | apply Kd.R_alloc | apply Kd.R_drewN | apply Kd.R_drew)); exact (Kd.R_mono (Kd.R_far (p := ⟨gb254, 9, none⟩) (Kd.R_far (p := ⟨gb254, 8, none⟩) (Kd.R_far (p := ⟨gb254, 7, none⟩) (Kd.R_far (p := ⟨gb254, 6, none⟩) (Kd.R_far (p := ⟨gb254, 5, none⟩) (Kd.R_far (p := ⟨gb254, 4, none⟩) (Kd.R_far (p := ⟨gb254, 3, none⟩) (Kd.R_far (p := ⟨gb254, 2, none⟩) (Kd.R_far (p := ⟨gb254, 1, none⟩) (Kd.R_far (p := ⟨gb254, 0, none⟩) (Kd.R_types HO225.out BK254.out (by decide)) (fun _ hk => hk.2) (.int .i64 t241)) (fun _ hk => hk.2) (.int .i64 t242)) (fun _ hk => hk.2) (.slice Ao38 t243.length co38)) (fun _ hk => hk.2) (.int .i64 t246)) (fun _ hk => hk.2) (.int .i64 t247)) (fun _ hk => hk.2) (.string t248)) (fun _ hk => hk.2) (.int .i64 t249)) (fun _ hk => hk.2) (.int .i64 t250)) (fun _ hk => hk.2) (.int .i64 t251)) (fun _ hk => hk.2) (.int .i64 t252)) (fun _ h_ => h_.1)))); (case side4 => exact (Kd.R_reads' HO225.out).2.1); rintro e w56 ⟨rfl, hb⟩; refine ⟨_, rfl, ?_⟩; have n0_ := Aside0.mk (Kd.R_below (by (with_reducible repeat (first | apply Kd.R_alloc | apply Kd.R_drewN | apply Kd.R_drew)); exact (Kd.R_mono (Kd.R_far (p := ⟨gb254, 9, none⟩) (Kd.R_far (p := ⟨gb254, 8, none⟩) (Kd.R_far (p := ⟨gb254, 7, none⟩) (Kd.R_far (p := ⟨gb254, 6, none⟩) (Kd.R_far (p := ⟨gb254, 5, none⟩) (Kd.R_far (p := ⟨gb254, 4, none⟩) (Kd.R_far (p := ⟨gb254, 3, none⟩) (Kd.R_far (p := ⟨gb254, 2, none⟩) (Kd.R_far (p := ⟨gb254, 1, none⟩) (Kd.R_far (p := ⟨gb254, 0, none⟩) (Kd.R_types HO220.out BK254.out (by decide)) (fun _ hk => hk.2) (.int .i64 t241)) (fun _ hk => hk.2) (.int .i64 t242)) (fun _ hk => hk.2) (.slice Ao38 t243.length co38)) (fun _ hk => hk.2) (.int .i64 t246)) (fun _ hk => hk.2) (.int .i64 t247)) (fun _ hk => hk.2) (.string t248)) (fun _ hk => hk.2) (.int .i64 t249)) (fun _ hk => hk.2) (.int .i64 t250)) (fun _ hk => hk.2) (.int .i64 t251)) (fun _ hk => hk.2) (.int .i64 t252)) (fun _ h_ => h_.1))) hb); have n1_ := Aside0.mk (Kd.R_below (by (with_reducible repeat (first | apply Kd.R_alloc | apply Kd.R_drewN | apply Kd.R_drew)); exact (Kd.R_mono (Kd.R_far (p := ⟨gb254, 9, none⟩) (Kd.R_far (p := ⟨gb254, 8, none⟩) (Kd.R_far (p := ⟨gb254, 7, none⟩) (Kd.R_far (p := ⟨gb254, 6, none⟩) (Kd.R_far (p := ⟨gb254, 5, none⟩) (Kd.R_far (p := ⟨gb254, 4, none⟩) (Kd.R_far (p := ⟨gb254, 3, none⟩) (Kd.R_far (p := ⟨gb254, 2, none⟩) (Kd.R_far (p := ⟨gb254, 1, none⟩) (Kd.R_far (p := ⟨gb254, 0, none⟩) (Kd.R_types HO225.out BK254.out (by decide)) (fun _ hk => hk.2) (.int .i64 t241)) (fun _ hk => hk.2) (.int .i64 t242)) (fun _ hk => hk.2) (.slice Ao38 t243.length co38)) (fun _ hk => hk.2) (.int .i64 t246)) (fun _ hk => hk.2) (.int .i64 t247)) (fun _ hk => hk.2) (.string t248)) (fun _ hk => hk.2) (.int .i64 t249)) (fun _ hk => hk.2) (.int .i64 t250)) (fun _ hk => hk.2) (.int .i64 t251)) (fun _ hk => hk.2) (.int .i64 t252)) (fun _ h_ => h_.1))) hb); have n2_ := Aside0.mk (Kd.R_below (by (with_reducible repeat (first | apply Kd.R_alloc | apply Kd.R_drewN | apply Kd.R_drew)); exact (Kd.R_mono (Kd.R_far (p := ⟨gb254, 9, none⟩) (Kd.R_far (p := ⟨gb254, 8, none⟩) (Kd.R_far (p := ⟨gb254, 7, none⟩) (Kd.R_far (p := ⟨gb254, 6, none⟩) (Kd.R_far (p := ⟨gb254, 5, none⟩) (Kd.R_far (p := ⟨gb254, 4, none⟩) (Kd.R_far (p := ⟨gb254, 3, none⟩) (Kd.R_far (p := ⟨gb254, 2, none⟩) (Kd.R_far (p := ⟨gb254, 1, none⟩) (Kd.R_far (p := ⟨gb254, 0, none⟩) (Kd.R_types HO239.out BK254.out (by decide)) (fun _ hk => hk.2) (.int .i64 t241)) (fun _ hk => hk.2) (.int .i64 t242)) (fun _ hk => hk.2) (.slice Ao38 t243.length co38)) (fun _ hk => hk.2) (.int .i64 t246)) (fun _ hk => hk.2) (.int .i64 t247)) (fun _ hk => hk.2) (.string t248)) (fun _ hk => hk.2) (.int .i64 t249)) (fun _ hk => hk.2) (.int .i64 t250)) (fun _ hk => hk.2) (.int .i64 t251)) (fun _ hk => hk.2) (.int .i64 t252)) (fun _ h_ => h_.1))) hb); have n3_ := Aside0.mk (Kd.R_below (by (with_reducible repeat (first | apply Kd.R_alloc | apply Kd.R_drewN | apply Kd.R_drew)); exact (Kd.R_mono (Kd.R_far (p := ⟨gb254, 9, none⟩) (Kd.R_far (p := ⟨gb254, 8, none⟩) (Kd.R_far (p := ⟨gb254, 7, none⟩) (Kd.R_far (p := ⟨gb254, 6, none⟩) (Kd.R_far (p := ⟨gb254, 5, none⟩) (Kd.R_far (p := ⟨gb254, 4, none⟩) (Kd.R_far (p := ⟨gb254, 3, none⟩) (Kd.R_far (p := ⟨gb254, 2, none⟩) (Kd.R_far (p := ⟨gb254, 1, none⟩) (Kd.R_far (p := ⟨gb254, 0, none⟩) (Kd.R_types HO245.out BK254.out (by decide)) (fun _ hk => hk.2) (.int .i64 t241)) (fun _ hk => hk.2) (.int .i64 t242)) (fun _ hk => hk.2) (.slice Ao38 t243.length co38)) (fun _ hk => hk.2) (.int .i64 t246)) (fun _ hk => hk.2) (.int .i64 t247)) (fun _ hk => hk.2) (.string t248)) (fun _ hk => hk.2) (.int .i64 t249)) (fun _ hk => hk.2) (.int .i64 t250)) (fun _ hk => hk.2) (.int .i64 t251)) (fun _ hk => hk.2) (.int .i64 t252)) (fun _ h_ => h_.1))) hb); have n4_ := Aside0.mk (blk_below (g := gb214) (o := .cells #[.int .i64 a0_0, .int .i64 a0_1, .slice A0_2 l0_2.length c0_2] 24 (0, 0)) (by (with_reducible repeat (first | refine blk_drewN ?_ _ | refine blk_drew ?_ | refine blk_alloc ?_ _)); refine blk_far ?_ NB214_254.out _; (with_reducible repeat (first | refine blk_drewN ?_ _ | refine blk_drew ?_ | refine blk_alloc ?_ _)); refine blk_far ?_ NB214_254.out _; (with_reducible repeat (first | refine blk_drewN ?_ _ | refine blk_drew ?_ | refine blk_alloc ?_ _)); refine blk_far ?_ NB214_254.out _; (with_reducible repeat (first | refine blk_drewN ?_ _ | refine blk_drew ?_ | refine blk_alloc ?_ _)); refine blk_far ?_ NB214_254.out _; (with_reducible repeat (first | refine blk_drewN ?_ _ | refine blk_drew ?_ | refine blk_alloc ?_ _)); refine blk_far ?_ NB214_254.out _; (with_reducible repeat (first | refine blk_drewN ?_ _ | refine blk_drew ?_ | refine blk_alloc ?_ _)); refine blk_far ?_ NB214_254.out _; (with_reducible repeat (first | refine blk_drewN ?_ _ | refine blk_drew ?_ | refine blk_alloc ?_ _)); refine blk_far ?_ NB214_254.out _; (with_reducible repeat (first | refine blk_drewN ?_ _ | refine blk_drew ?_ | refine blk_alloc ?_ _)); refine blk_far ?_ NB214_254.out _; (with_reducible repeat (first | refine blk_drewN ?_ _ | refine blk_drew ?_ | refine blk_alloc ?_ _)); refine blk_far ?_ NB214_254.out _; (with_reducible repeat (first | refine blk_drewN ?_ _ | refine blk_drew ?_ | refine blk_alloc ?_ _)); refine blk_far ?_ NB214_254.out _; (with_reducible repeat (first | refine blk_drewN ?_ _ | refine blk_drew ?_ | refine blk_alloc ?_ _)); exact BK214.out) hb); have n5_ := Aside0.mk (blk_below (g := gb234) (o := .cells #[.int .i64 t221, .int .i64 t222, .slice Ao24 t223.length co24, .int .i64 t226, .int .i64 t227, .string t228, .int .i64 t229, .int .i64 t230, .int .i64 t231, .int .i64 t232] 45 (0, 0)) (by (with_reducible repeat (first | refine blk_drewN ?_ _ | refine blk_drew ?_ | refine blk_alloc ?_ _)); refine blk_far ?_ NB234_254.out _; (with_reducible repeat (first | refine blk_drewN ?_ _ | refine blk_drew ?_ | refine blk_alloc ?_ _)); refine blk_far ?_ NB234_254.out _; (with_reducible repeat (first | refine blk_drewN ?_ _ | refine blk_drew ?_ | refine blk_alloc ?_ _)); refine blk_far ?_ NB234_254.out _; (with_reducible repeat (first | refine blk_drewN ?_ _ | refine blk_drew ?_ | refine blk_alloc ?_ _)); refine blk_far ?_ NB234_254.out _; (with_reducible repeat (first | refine blk_drewN ?_ _ | refine blk_drew ?_ | refine blk_alloc ?_ _)); refine blk_far ?_ NB234_254.out _; (with_reducible repeat (first | refine blk_drewN ?_ _ | refine blk_drew ?_ | refine blk_alloc ?_ _)); refine blk_far ?_ NB234_254.out _; (with_reducible repeat (first | refine blk_drewN ?_ _ | refine blk_drew ?_ | refine blk_alloc ?_ _)); refine blk_far ?_ NB234_254.out _; (with_reducible repeat (first | refine blk_drewN ?_ _ | refine blk_drew ?_ | refine blk_alloc ?_ _)); refine blk_far ?_ NB234_254.out _; (with_reducible repeat (first | refine blk_drewN ?_ _ | refine blk_drew ?_ | refine blk_alloc ?_ _)); refine blk_far ?_ NB234_254.out _; (with_reducible repeat (first | refine blk_drewN ?_ _ | refine blk_drew ?_ | refine blk_alloc ?_ _)); refine blk_far ?_ NB234_254.out _; (with_reducible repeat (first | refine blk_drewN ?_ _ | refine blk_drew ?_ | refine blk_alloc ?_ _)); exact BK234.out) hb); have n6_ := Aside0.mk (blk_below (g := gb240) (o := .cells #[.int .i64 t235, .int .i64 t236, .slice Ao31 t237.length co31] 32 (0, 0)) (by (with_reducible repeat (first | refine blk_drewN ?_ _ | refine blk_drew ?_ | refine blk_alloc ?_ _)); refine blk_far ?_ NB240_254.out _; (with_reducible repeat (first | refine blk_drewN ?_ _ | refine blk_drew ?_ | refine blk_alloc ?_ _)); refine blk_far ?_ NB240_254.out _; (with_reducible repeat (first | refine blk_drewN ?_ _ | refine blk_drew ?_ | refine blk_alloc ?_ _)); refine blk_far ?_ NB240_254.out _; (with_reducible repeat (first | refine blk_drewN ?_ _ | refine blk_drew ?_ | refine blk_alloc ?_ _)); refine blk_far ?_ NB240_254.out _; (with_reducible repeat (first | refine blk_drewN ?_ _ | refine blk_drew ?_ | refine blk_alloc ?_ _)); refine blk_far ?_ NB240_254.out _; (with_reducible repeat (first | refine blk_drewN ?_ _ | refine blk_drew ?_ | refine blk_alloc ?_ _)); refine blk_far ?_ NB240_254.out _; (with_reducible repeat (first | refine blk_drewN ?_ _ | refine blk_drew ?_ | refine blk_alloc ?_ _)); refine blk_far ?_ NB240_254.out _; (with_reducible repeat (first | refine blk_drewN ?_ _ | refine blk_drew ?_ | refine blk_alloc ?_ _)); refine blk_far ?_ NB240_254.out _; (with_reducible repeat (first | refine blk_drewN ?_ _ | refine blk_drew ?_ | refine blk_alloc ?_ _)); refine blk_far ?_ NB240_254.out _; (with_reducible repeat (first | refine blk_drewN ?_ _ | refine blk_drew ?_ | refine blk_alloc ?_ _)); refine blk_far ?_ NB240_254.out _; (with_reducible repeat (first | refine blk_drewN ?_ _ | refine blk_drew ?_ | refine blk_alloc ?_ _)); exact BK240.out) hb); have n7_ := Aside0.mk (blk_below (g := gb254) (o := .cells #[.int .i64 t241, .int .i64 t242, .slice Ao38 t243.length co38, .int .i64 t246, .int .i64 t247, .string t248, .int .i64 t249, .int .i64 t250, .int .i64 t251, .int .i64 t252] 45 (0, 0)) (by (with_reducible repeat (first | refine blk_drewN ?_ _ | refine blk_drew ?_ | refine blk_alloc ?_ _)); refine blk_put (cs := #[.int .i64 t241, .int .i64 t242, .slice Ao38 t243.length co38, .int .i64 t246, .int .i64 t247, .string t248, .int .i64 t249, .int .i64 t250, .int .i64 t251, .int .i64 0]) ?_ 9 _ rfl; (with_reducible repeat (first | refine blk_drewN ?_ _ | refine blk_drew ?_ | refine blk_alloc ?_ _)); refine blk_put (cs := #[.int .i64 t241, .int .i64 t242, .slice Ao38 t243.length co38, .int .i64 t246, .int .i64 t247, .string t248, .int .i64 t249, .int .i64 t250, .int .i64 0, .int .i64 0]) ?_ 8 _ rfl; (with_reducible repeat (first | refine blk_drewN ?_ _ | refine blk_drew ?_ | refine blk_alloc ?_ _)); refine blk_put (cs := #[.int .i64 t241, .int .i64 t242, .slice Ao38 t243.length co38, .int .i64 t246, .int .i64 t247, .string t248, .int .i64 t249, .int .i64 0, .int .i64 0, .int .i64 0]) ?_ 7 _ rfl; (with_reducible repeat (first | refine blk_drewN ?_ _ | refine blk_drew ?_ | refine blk_alloc ?_ _)); refine blk_put (cs := #[.int .i64 t241, .int .i64 t242, .slice Ao38 t243.length co38, .int .i64 t246, .int .i64 t247, .string t248, .int .i64 0, .int .i64 0, .int .i64 0, .int .i64 0]) ?_ 6 _ rfl; (with_reducible repeat (first | refine blk_drewN ?_ _ | refine blk_drew ?_ | refine blk_alloc ?_ _)); refine blk_put (cs := #[.int .i64 t241, .int .i64 t242, .slice Ao38 t243.length co38, .int .i64 t246, .int .i64 t247, .string (⟨#[]⟩ : ByteArray), .int .i64 0, .int .i64 0, .int .i64 0, .int .i64 0]) ?_ 5 _ rfl; (with_reducible repeat (first | refine blk_drewN ?_ _ | refine blk_drew ?_ | refine blk_alloc ?_ _)); refine blk_put (cs := #[.int .i64 t241, .int .i64 t242, .slice Ao38 t243.length co38, .int .i64 t246, .int .i64 0, .string (⟨#[]⟩ : ByteArray), .int .i64 0, .int .i64 0, .int .i64 0, .int .i64 0]) ?_ 4 _ rfl; (with_reducible repeat (first | refine blk_drewN ?_ _ | refine blk_drew ?_ | refine blk_alloc ?_ _)); refine blk_put (cs := #[.int .i64 t241, .int .i64 t242, .slice Ao38 t243.length co38, .int .i64 0, .int .i64 0, .string (⟨#[]⟩ : ByteArray), .int .i64 0, .int .i64 0, .int .i64 0, .int .i64 0]) ?_ 3 _ rfl; (with_reducible repeat (first | refine blk_drewN ?_ _ | refine blk_drew ?_ | refine blk_alloc ?_ _)); refine blk_put (cs := #[.int .i64 t241, .int .i64 t242, .slice none 0 0, .int .i64 0, .int .i64 0, .string (⟨#[]⟩ : ByteArray), .int .i64 0, .int .i64 0, .int .i64 0, .int .i64 0]) ?_ 2 _ rfl; (with_reducible repeat (first | refine blk_drewN ?_ _ | refine blk_drew ?_ | refine blk_alloc ?_ _)); refine blk_put (cs := #[.int .i64 t241, .int .i64 0, .slice none 0 0, .int .i64 0, .int .i64 0, .string (⟨#[]⟩ : ByteArray), .int .i64 0, .int .i64 0, .int .i64 0, .int .i64 0]) ?_ 1 _ rfl; (with_reducible repeat (first | refine blk_drewN ?_ _ | refine blk_drew ?_ | refine blk_alloc ?_ _)); refine blk_put (cs := #[.int .i64 0, .int .i64 0, .slice none 0 0, .int .i64 0, .int .i64 0, .string (⟨#[]⟩ : ByteArray), .int .i64 0, .int .i64 0, .int .i64 0, .int .i64 0]) ?_ 0 _ rfl; (with_reducible repeat (first | refine blk_drewN ?_ _ | refine blk_drew ?_ | refine blk_alloc ?_ _)); exact BK254.out) hb); have n8_ := Aside0.mk (below_step (bl4 HB.out GE214.out GE234.out GE240.out GE254.out) hb); clear HO220; clear HO225; clear HO239; clear HO245; clear BK214; clear BK234; clear BK240; clear BK254; clear HB; have HO220 := n0_; have HO225 := n1_; have HO239 := n2_; have HO245 := n3_; have BK214 := n4_; have BK234 := n5_; have BK240 := n6_; have BK254 := n7_; have HB := n8_; clear n0_ n1_ n2_ n3_ n4_ n5_ n6_ n7_ n8_; (try clear hb); (try clear hb2); (try clear hk); (try clear hi)))
    go_meet
    case rel => exact ⟨_, (true), (by first | rfl | (simp; done) | (simp [*]; done)), H', ⟨by first | omega | exact Nat.le_refl _⟩, ⟨by (with_reducible repeat (first | apply Kd.R_alloc | apply Kd.R_drewN | apply Kd.R_drew)); exact Kd.R_mono HO225.out (fun _ hk => ⟨hk.1.2, hk.2⟩)⟩, ⟨by (with_reducible repeat (first | apply Kd.R_alloc | apply Kd.R_drewN | apply Kd.R_drew)); exact Kd.R_mono HO239.out (fun _ hk => ⟨hk.1.2, hk.2⟩)⟩, ⟨by (with_reducible repeat (first | apply Kd.R_alloc | apply Kd.R_drewN | apply Kd.R_drew)); exact Kd.R_mono HO245.out (fun _ hk => ⟨hk.1.2, hk.2⟩)⟩, ⟨by (with_reducible repeat (first | refine blk_drewN ?_ _ | refine blk_drew ?_ | refine blk_alloc ?_ _)); exact BK214.out⟩, ⟨by (with_reducible repeat (first | refine blk_drewN ?_ _ | refine blk_drew ?_ | refine blk_alloc ?_ _)); exact BK234.out⟩, ⟨by (with_reducible repeat (first | refine blk_drewN ?_ _ | refine blk_drew ?_ | refine blk_alloc ?_ _)); exact BK240.out⟩, ⟨by (with_reducible repeat (first | refine blk_drewN ?_ _ | refine blk_drew ?_ | refine blk_alloc ?_ _)); exact BK254.out⟩, ⟨by repeat (first | (with_reducible first | exact HB.out | apply below_alloc | apply pw_below_drewN | apply below_drew1 | refine below_set ?_ GE214.out | refine below_set ?_ GE234.out | refine below_set ?_ GE240.out | refine below_set ?_ GE254.out) | exact HB.out)⟩⟩
  case rest =>
   clear HC13
   try clear c1
   try clear c2
   try clear p2
   try clear c3
   try clear c4
   try clear c5
   try clear c5b0
   try clear c8
   try clear c10
   try clear c12
   try clear c22
   try clear c28
   try clear c29
   try clear c32
   try clear c33
   try clear c34
   try clear c35
   try clear c36
   try clear c40
   try clear c41
   try clear c42
   try clear c43
   try clear c45
   try clear c46
   try clear c49
   try clear c50
   try clear c51
   try clear c53
   try clear c54
   try clear hcz15_0
   try clear hcz15_1
   try clear hcz15_2
   try clear hcz17_0
   try clear hcz17_1
   try clear hcz17_2
   try clear hcz23_0
   try clear hcz23_1
   try clear hcz23_2
   try clear hcz23_3
   try clear hcz23_4
   try clear hcz23_5
   try clear hcz23_6
   try clear hcz23_7
   try clear hcz23_8
   try clear hcz23_9
   try clear hcz25_0
   try clear hcz25_1
   try clear hcz25_2
   try clear hcz30_0
   try clear hcz30_1
   try clear hcz30_2
   try clear hcz37_0
   try clear hcz37_1
   try clear hcz37_2
   try clear hcz37_3
   try clear hcz37_4
   try clear hcz37_5
   try clear hcz37_6
   try clear hcz37_7
   try clear hcz37_8
   try clear hcz37_9
   try clear hcz44_0
   try clear hcz44_1
   try clear hcz44_2
   try clear hcz44_3
   try clear hcz44_4
   try clear hcz44_5
   try clear hcz44_6
   try clear hcz44_7
   try clear hcz44_8
   try clear hcz44_9
   try clear hcz47_0
   try clear hcz47_1
   try clear hcz47_2
   try clear hcz47_3
   try clear hcz47_4
   try clear hcz47_5
   try clear hcz47_6
   try clear hcz47_7
   try clear hcz47_8
   try clear hcz47_9
   try clear hcz52_0
   try clear hcz52_1
   try clear hcz52_2
   try clear hcz52_3
   try clear hcz52_4
   try clear hcz52_5
   try clear hcz52_6
   try clear hcz52_7
   try clear hcz52_8
   try clear hcz52_9
   try clear hcz55_0
   try clear hcz55_1
   try clear hcz55_2
   try clear hcz55_3
   try clear hcz55_4
   try clear hcz55_5
   try clear hcz55_6
   try clear hcz55_7
   try clear hcz55_8
   try clear hcz55_9
   try clear hcz7_0
   try clear hcz7_1
   try clear hcz7_2
   try clear hfz15_0
   try clear hfz15_1
   try clear hfz15_2
   try clear hfz17_0
   try clear hfz17_1
   try clear hfz17_2
   try clear hfz23_0
   try clear hfz23_1
   try clear hfz23_2
   try clear hfz23_3
   try clear hfz23_4
   try clear hfz23_5
   try clear hfz23_6
   try clear hfz23_7
   try clear hfz23_8
   try clear hfz23_9
   try clear hfz25_0
   try clear hfz25_1
   try clear hfz25_2
   try clear hfz30_0
   try clear hfz30_1
   try clear hfz30_2
   try clear hfz37_0
   try clear hfz37_1
   try clear hfz37_2
   try clear hfz37_3
   try clear hfz37_4
   try clear hfz37_5
   try clear hfz37_6
   try clear hfz37_7
   try clear hfz37_8
   try clear hfz37_9
   try clear hfz44_0
   try clear hfz44_1
   try clear hfz44_2
   try clear hfz44_3
   try clear hfz44_4
   try clear hfz44_5
   try clear hfz44_6
   try clear hfz44_7
   try clear hfz44_8
   try clear hfz44_9
   try clear hfz47_0
   try clear hfz47_1
   try clear hfz47_2
   try clear hfz47_3
   try clear hfz47_4
   try clear hfz47_5
   try clear hfz47_6
   try clear hfz47_7
   try clear hfz47_8
   try clear hfz47_9
   try clear hfz52_0
   try clear hfz52_1
   try clear hfz52_2
   try clear hfz52_3
   try clear hfz52_4
   try clear hfz52_5
   try clear hfz52_6
   try clear hfz52_7
   try clear hfz52_8
   try clear hfz52_9
   try clear hfz55_0
   try clear hfz55_1
   try clear hfz55_2
   try clear hfz55_3
   try clear hfz55_4
   try clear hfz55_5
   try clear hfz55_6
   try clear hfz55_7
   try clear hfz55_8
   try clear hfz55_9
   try clear hfz7_0
   try clear hfz7_1
   try clear hfz7_2
   obtain ⟨kq, x48_12, rfl, HA, HJ12, HO_235002, HO_241002, HO_255002, BK214, BK234, BK240, BK254, HB⟩ := hcut
   cases kq with
   | zero => exact absurd HA.out (by simp [laws_FnExactEmptyScene.j0])
   | succ kj12 =>
    have H := HA.out
    clear HA
    simp only [laws_FnExactEmptyScene.j0] at H
    by_cases c57 : x48_12 = true
    ·subst c57
     have H1 : (some false) = some r := by rw [if_pos rfl] at H; exact H
     clear H
     have H := H1
     clear H1
     obtain rfl := Option.some.inj H
     go_wp2
     go_ret
     exact ⟨by first | rfl | (simp [errW_none, errW_some] <;> rfl) | (simp [*, errW_none, errW_some] <;> rfl), by repeat (first | (with_reducible first | exact HB.out | apply below_alloc | apply pw_below_drewN | apply below_drew1 | refine below_set ?_ GE214.out | refine below_set ?_ GE234.out | refine below_set ?_ GE240.out | refine below_set ?_ GE254.out) | exact HB.out)⟩
    ·replace c57 := Bool.eq_false_iff.mpr c57
     subst c57
     have H1 : ((laws_toTable.f kj12 a0_0 a0_1 l0_2).bind fun bt256 => ((laws_eqTable.f kj12 t235 t236 t237 bt256.1 bt256.2.1 bt256.2.2).bind fun t261 => (if t261 = true then ((laws_markTable.f kj12 t235 t236 t237 1).bind fun bt262 => (if bt262.1 < 0 then (laws_FnExactEmptyScene.j1 kj12 a1 a2 t233 true a0_0 a0_1 l0_2 t221 t222 t223 t226 t227 t228 t229 t230 t231 t232 t241 t242 t243 t246 t247 t248 t249 t250 t251 t252) else ((laws_eqScene.f kj12 t241 t242 t243 t246 t247 t248 t249 t250 t251 t252 t221 t222 t223 t226 t227 t228 t229 t230 t231 t232).bind fun t264 => (if t264 = true then (laws_FnExactEmptyScene.j1 kj12 a1 a2 t233 (t253 != t233) a0_0 a0_1 l0_2 t221 t222 t223 t226 t227 t228 t229 t230 t231 t232 t241 t242 t243 t246 t247 t248 t249 t250 t251 t252) else (laws_FnExactEmptyScene.j1 kj12 a1 a2 t233 true a0_0 a0_1 l0_2 t221 t222 t223 t226 t227 t228 t229 t230 t231 t232 t241 t242 t243 t246 t247 t248 t249 t250 t251 t252))))) else (some false)))) = some r := by rw [if_neg (show ¬ (false = true) by decide)] at H; exact H
     clear H
     have H := H1
     clear H1
     replace H := Option.bind_eq_some_iff.mp H
     obtain ⟨⟨t256, t257, t258⟩, A580, H⟩ := H
     replace H : ((laws_eqTable.f kj12 t235 t236 t237 t256 t257 t258).bind fun t261 => (if t261 = true then ((laws_markTable.f kj12 t235 t236 t237 1).bind fun bt262 => (if bt262.1 < 0 then (laws_FnExactEmptyScene.j1 kj12 a1 a2 t233 true a0_0 a0_1 l0_2 t221 t222 t223 t226 t227 t228 t229 t230 t231 t232 t241 t242 t243 t246 t247 t248 t249 t250 t251 t252) else ((laws_eqScene.f kj12 t241 t242 t243 t246 t247 t248 t249 t250 t251 t252 t221 t222 t223 t226 t227 t228 t229 t230 t231 t232).bind fun t264 => (if t264 = true then (laws_FnExactEmptyScene.j1 kj12 a1 a2 t233 (t253 != t233) a0_0 a0_1 l0_2 t221 t222 t223 t226 t227 t228 t229 t230 t231 t232 t241 t242 t243 t246 t247 t248 t249 t250 t251 t252) else (laws_FnExactEmptyScene.j1 kj12 a1 a2 t233 true a0_0 a0_1 l0_2 t221 t222 t223 t226 t227 t228 t229 t230 t231 t232 t241 t242 t243 t246 t247 t248 t249 t250 t251 t252))))) else (some false))) = some r := H
     have A58 := Aside0.mk A580
     clear A580
     replace H := Option.bind_eq_some_iff.mp H
     obtain ⟨t261, A590, H⟩ := H
     replace H : (if t261 = true then ((laws_markTable.f kj12 t235 t236 t237 1).bind fun bt262 => (if bt262.1 < 0 then (laws_FnExactEmptyScene.j1 kj12 a1 a2 t233 true a0_0 a0_1 l0_2 t221 t222 t223 t226 t227 t228 t229 t230 t231 t232 t241 t242 t243 t246 t247 t248 t249 t250 t251 t252) else ((laws_eqScene.f kj12 t241 t242 t243 t246 t247 t248 t249 t250 t251 t252 t221 t222 t223 t226 t227 t228 t229 t230 t231 t232).bind fun t264 => (if t264 = true then (laws_FnExactEmptyScene.j1 kj12 a1 a2 t233 (t253 != t233) a0_0 a0_1 l0_2 t221 t222 t223 t226 t227 t228 t229 t230 t231 t232 t241 t242 t243 t246 t247 t248 t249 t250 t251 t252) else (laws_FnExactEmptyScene.j1 kj12 a1 a2 t233 true a0_0 a0_1 l0_2 t221 t222 t223 t226 t227 t228 t229 t230 t231 t232 t241 t242 t243 t246 t247 t248 t249 t250 t251 t252))))) else (some false)) = some r := H
     have A59 := Aside0.mk A590
     clear A590
     by_cases c60 : t261 = true
     ·subst c60
      have H1 : ((laws_markTable.f kj12 t235 t236 t237 1).bind fun bt262 => (if bt262.1 < 0 then (laws_FnExactEmptyScene.j1 kj12 a1 a2 t233 true a0_0 a0_1 l0_2 t221 t222 t223 t226 t227 t228 t229 t230 t231 t232 t241 t242 t243 t246 t247 t248 t249 t250 t251 t252) else ((laws_eqScene.f kj12 t241 t242 t243 t246 t247 t248 t249 t250 t251 t252 t221 t222 t223 t226 t227 t228 t229 t230 t231 t232).bind fun t264 => (if t264 = true then (laws_FnExactEmptyScene.j1 kj12 a1 a2 t233 (t253 != t233) a0_0 a0_1 l0_2 t221 t222 t223 t226 t227 t228 t229 t230 t231 t232 t241 t242 t243 t246 t247 t248 t249 t250 t251 t252) else (laws_FnExactEmptyScene.j1 kj12 a1 a2 t233 true a0_0 a0_1 l0_2 t221 t222 t223 t226 t227 t228 t229 t230 t231 t232 t241 t242 t243 t246 t247 t248 t249 t250 t251 t252))))) = some r := by rw [if_pos rfl] at H; exact H
      clear H
      have H := H1
      clear H1
      replace H := Option.bind_eq_some_iff.mp H
      obtain ⟨⟨t262, t263⟩, A610, H⟩ := H
      replace H : (if t262 < 0 then (laws_FnExactEmptyScene.j1 kj12 a1 a2 t233 true a0_0 a0_1 l0_2 t221 t222 t223 t226 t227 t228 t229 t230 t231 t232 t241 t242 t243 t246 t247 t248 t249 t250 t251 t252) else ((laws_eqScene.f kj12 t241 t242 t243 t246 t247 t248 t249 t250 t251 t252 t221 t222 t223 t226 t227 t228 t229 t230 t231 t232).bind fun t264 => (if t264 = true then (laws_FnExactEmptyScene.j1 kj12 a1 a2 t233 (t253 != t233) a0_0 a0_1 l0_2 t221 t222 t223 t226 t227 t228 t229 t230 t231 t232 t241 t242 t243 t246 t247 t248 t249 t250 t251 t252) else (laws_FnExactEmptyScene.j1 kj12 a1 a2 t233 true a0_0 a0_1 l0_2 t221 t222 t223 t226 t227 t228 t229 t230 t231 t232 t241 t242 t243 t246 t247 t248 t249 t250 t251 t252)))) = some r := H
      have A61 := Aside0.mk A610
      clear A610
      have HC62 := Aside0.mk H
      clear H
      try go_wp2
      have n0_ := Aside0.mk (Kd.R_drew HO_235002.out)
      have n1_ := Aside0.mk (Kd.R_drew HO_241002.out)
      have n2_ := Aside0.mk (Kd.R_drew HO_255002.out)
      have n3_ := Aside0.mk (blk_drew BK214.out)
      have n4_ := Aside0.mk (blk_drew BK234.out)
      have n5_ := Aside0.mk (blk_drew BK240.out)
      have n6_ := Aside0.mk (blk_drew BK254.out)
      have n7_ := Aside0.mk (below_drew1 HB.out)
      clear HO_235002
      clear HO_241002
      clear HO_255002
      clear BK214
      clear BK234
      clear BK240
      clear BK254
      clear HB
      have HO_235002 := n0_
      have HO_241002 := n1_
      have HO_255002 := n2_
      have BK214 := n3_
      have BK234 := n4_
      have BK240 := n5_
      have BK254 := n6_
      have HB := n7_
      clear n0_ n1_ n2_ n3_ n4_ n5_ n6_ n7_
      refine start_ (n := 5) (S := fun w' => w'.cell? ⟨gb240, 0, none⟩ = some (.int .i64 t235) ∧ w'.cell? ⟨gb240, 1, none⟩ = some (.int .i64 t236) ∧ w'.cell? ⟨gb240, 2, none⟩ = some (.slice Ao31 t237.length co31) ∧ w'.cell? ⟨gb214, 0, none⟩ = some (.int .i64 a0_0) ∧ w'.cell? ⟨gb214, 1, none⟩ = some (.int .i64 a0_1) ∧ w'.cell? ⟨gb214, 2, none⟩ = some (.slice A0_2 l0_2.length c0_2)) (ds := []) #[false, false, false, false, false] (by kernel_rfl) rfl rfl ⟨(blk_cell BK240.out 0).trans rfl, (blk_cell BK240.out 1).trans rfl, (blk_cell BK240.out 2).trans rfl, (blk_cell BK214.out 0).trans rfl, (blk_cell BK214.out 1).trans rfl, (blk_cell BK214.out 2).trans rfl⟩ (fun hHeld => ?_)
      generalize wc.drew = w63 at HO_235002 HO_241002 HO_255002 BK214 BK234 BK240 BK254 HB hHeld ⊢
      refine take_ (i := 0) (N := some 49) (v := ?_) (a' := ?_) #[true, false, false, false, false] rfl rfl (by kernel_rfl) (fun _ _ _ h => h) (Or.inl ⟨by rfl, ?_⟩) hHeld ?_ ?_
      rotate_left
      ·rintro w' ⟨s0, s1, s2, s3, s4, s5⟩
       go_simp
       with_reducible rfl
      rotate_left
      ·simp only [Act.put, List.setIfInBounds_toArray, List.set_cons_zero, List.set_cons_succ, i64_w, i32_w]
       rfl
      refine take_ (i := 1) (N := some 50) (v := ?_) (a' := ?_) #[true, true, false, false, false] rfl rfl (by kernel_rfl) (fun _ _ _ h => h) (Or.inl ⟨by rfl, ?_⟩) hHeld ?_ ?_
      rotate_left
      ·rintro w' ⟨s0, s1, s2, s3, s4, s5⟩
       go_simp
       with_reducible rfl
      rotate_left
      ·simp only [Act.put, List.setIfInBounds_toArray, List.set_cons_zero, List.set_cons_succ, i64_w, i32_w]
       rfl
      refine one_ (i := 2) (N := some 51) #[true, true, true, false, false] rfl rfl (by kernel_rfl) (by decide) (fun K hK => ?_)
      refine goes_ Try.func12 (by kernel_rfl) rfl #[.agg #[.int .i64 a0_0, .int .i64 a0_1, .slice A0_2 l0_2.length c0_2]] (by rfl) rfl rfl (by (try simp only [List.map_toArray, List.map_cons, List.map_nil]); first | done | rfl | (simp only [List.length_drop, List.length_take]; rfl)) ?_
      with_reducible refine (laws_toTable.calls kj12 a0_0 a0_1 _ _ l0_2 t256 t257 t258 _ ?side1 ?side2 A58.out).mono ?_
      (case side1 => repeat (first | exact (Kd.C_below HR0_2.out HB.out) | (with_reducible refine Kd.C_alloc ?_ _) | (with_reducible refine Kd.C_drewN ?_ _) | (with_reducible refine Kd.C_drew ?_)))
      (case side2 => exact HC0_2.out)
      rintro e w64 ⟨v259, rfl, ho0, hb⟩
      refine ⟨_, rfl, ?_⟩
      have n0_ := Aside0.mk (Kd.R_elder' (rn HO_235002.out) (Kd.R_base ho0) hb)
      have n1_ := Aside0.mk (Kd.R_elder' (rn HO_241002.out) (Kd.R_base ho0) hb)
      have n2_ := Aside0.mk (Kd.R_elder' (rn HO_255002.out) (Kd.R_base ho0) hb)
      have n3_ := Aside0.mk (Kd.R_lower (Kd.R_new' (Kd.R_new' (Kd.R_new' ho0 (Kd.R_lt (rn HO_235002.out))) (Kd.R_lt (rn HO_241002.out))) (Kd.R_lt (rn HO_255002.out))) (below_size (bl4 HB.out GE214.out GE234.out GE240.out GE254.out)))
      have n4_ := Aside0.mk (bb BK214.out hb)
      have n5_ := Aside0.mk (bb BK234.out hb)
      have n6_ := Aside0.mk (bb BK240.out hb)
      have n7_ := Aside0.mk (bb BK254.out hb)
      have n8_ := Aside0.mk (below_step (bl4 HB.out GE214.out GE234.out GE240.out GE254.out) hb)
      clear HO_235002
      clear HO_241002
      clear HO_255002
      clear BK214
      clear BK234
      clear BK240
      clear BK254
      clear HB
      have HO_235002 := n0_
      have HO_241002 := n1_
      have HO_255002 := n2_
      have HO260 := n3_
      have BK214 := n4_
      have BK234 := n5_
      have BK240 := n6_
      have BK254 := n7_
      have HB := n8_
      clear n0_ n1_ n2_ n3_ n4_ n5_ n6_ n7_ n8_
      (try clear hb)
      (try clear hb2)
      (try clear hk)
      (try clear hi)
      (try clear ho0)
      obtain ⟨Ao65, co65, eo65⟩ := Kd.R_slice HO260.out
      (first | subst eo65 | (injection eo65 with f1_ f2_ f3_; have f4_ := f1_.symm; have f5_ := f3_.symm; clear f1_ f2_ f3_; subst f4_; subst f5_))
      refine hK.out _ _ ⟨(blk_cell BK240.out 0).trans rfl, (blk_cell BK240.out 1).trans rfl, (blk_cell BK240.out 2).trans rfl, (blk_cell BK214.out 0).trans rfl, (blk_cell BK214.out 1).trans rfl, (blk_cell BK214.out 2).trans rfl⟩ (fun hHeld => ?_)
      clear hK K
      refine norm_ (a' := ?_) ?_ ?_
      rotate_left
      ·show Act.put _ (some 51) _ = _
       simp only [Act.put, List.setIfInBounds_toArray, List.set_cons_zero, List.set_cons_succ, i64_w, i32_w]
       rfl
      refine one_ (i := 3) (N := some 52) #[true, true, true, true, false] rfl rfl (by kernel_rfl) (by decide) (fun K hK => ?_)
      refine goes_ Try.func15 (by kernel_rfl) rfl #[.agg #[.int .i64 t235, .int .i64 t236, .slice Ao31 t237.length co31], .agg #[.int .i64 t256, .int .i64 t257, .slice Ao65 t258.length co65]] (by rfl) rfl rfl (by (try simp only [List.map_toArray, List.map_cons, List.map_nil]); first | done | rfl | (simp only [List.length_drop, List.length_take]; rfl)) ?_
      with_reducible refine (laws_eqTable.calls kj12 t235 t236 _ _ t237 t256 t257 _ _ t258 true _ ?side1 ?side2 ?side3 ?side4 A59.out).mono ?_
      (case side1 => repeat (first | exact (Kd.R_reads' HO_241002.out).2.2 | (with_reducible refine Kd.C_alloc ?_ _) | (with_reducible refine Kd.C_drewN ?_ _) | (with_reducible refine Kd.C_drew ?_)))
      (case side2 => exact (Kd.R_reads' HO_241002.out).2.1)
      (case side3 => repeat (first | exact (Kd.R_reads' HO260.out).2.2 | (with_reducible refine Kd.C_alloc ?_ _) | (with_reducible refine Kd.C_drewN ?_ _) | (with_reducible refine Kd.C_drew ?_)))
      (case side4 => exact (Kd.R_reads' HO260.out).2.1)
      rintro e w66 ⟨rfl, hb⟩
      refine ⟨_, rfl, ?_⟩
      have n0_ := Aside0.mk (Kd.R_below (rn HO_235002.out) hb)
      have n1_ := Aside0.mk (Kd.R_below (rn HO_241002.out) hb)
      have n2_ := Aside0.mk (Kd.R_below (rn HO_255002.out) hb)
      have n3_ := Aside0.mk (Kd.R_below (rn HO260.out) hb)
      have n4_ := Aside0.mk (bb BK214.out hb)
      have n5_ := Aside0.mk (bb BK234.out hb)
      have n6_ := Aside0.mk (bb BK240.out hb)
      have n7_ := Aside0.mk (bb BK254.out hb)
      have n8_ := Aside0.mk (below_step (bl4 HB.out GE214.out GE234.out GE240.out GE254.out) hb)
      clear HO_235002
      clear HO_241002
      clear HO_255002
      clear HO260
      clear BK214
      clear BK234
      clear BK240
      clear BK254
      clear HB
      have HO_235002 := n0_
      have HO_241002 := n1_
      have HO_255002 := n2_
      have HO260 := n3_
      have BK214 := n4_
      have BK234 := n5_
      have BK240 := n6_
      have BK254 := n7_
      have HB := n8_
      clear n0_ n1_ n2_ n3_ n4_ n5_ n6_ n7_ n8_
      (try clear hb)
      (try clear hb2)
      (try clear hk)
      (try clear hi)
      refine hK.out _ _ ⟨(blk_cell BK240.out 0).trans rfl, (blk_cell BK240.out 1).trans rfl, (blk_cell BK240.out 2).trans rfl, (blk_cell BK214.out 0).trans rfl, (blk_cell BK214.out 1).trans rfl, (blk_cell BK214.out 2).trans rfl⟩ (fun hHeld => ?_)
      clear hK K
      refine norm_ (a' := ?_) ?_ ?_
      rotate_left
      ·show Act.put _ (some 52) _ = _
       simp only [Act.put, List.setIfInBounds_toArray, List.set_cons_zero, List.set_cons_succ, i64_w, i32_w]
       rfl
      refine pure_ (i := 4) (N := some 53) (v := ?_) (a' := ?_) #[true, true, true, true, true] rfl rfl (by kernel_rfl) (fun _ _ _ h => h) (Or.inl ⟨by rfl, ?_⟩) ?_ ?_
      rotate_left
      ·intro w'
       go_simp
       with_reducible rfl
      rotate_left
      ·simp only [Act.put, List.setIfInBounds_toArray, List.set_cons_zero, List.set_cons_succ, i64_w, i32_w]
       rfl
      refine done_ (by kernel_rfl) ?_
      have hnb67 := NB240_214.out
      have hnc67 := NB214_240.out
      have hnb68 := NB240_234.out
      have hnc68 := NB234_240.out
      have hnb69 := NB240_254.out
      have hnc69 := NB254_240.out
      have hcz70_0 : w66.cell? ⟨gb240, 0, none⟩ = some (.int .i64 t235) := (blk_cell BK240.out 0).trans rfl
      have hcz70_1 : w66.cell? ⟨gb240, 1, none⟩ = some (.int .i64 t236) := (blk_cell BK240.out 1).trans rfl
      have hcz70_2 : w66.cell? ⟨gb240, 2, none⟩ = some (.slice Ao31 t237.length co31) := (blk_cell BK240.out 2).trans rfl
      have hfz70_0 := blk_frozen BK240.out 0
      have hfz70_1 := blk_frozen BK240.out 1
      have hfz70_2 := blk_frozen BK240.out 2
      go_upto_region 14 with (first | ((with_reducible refine gate_callee (f := 27) rfl ?_); refine goesL_ (some 56) rfl rfl Try.func27 (by kernel_rfl) rfl #[.agg #[.int .i64 t235, .int .i64 t236, .slice Ao31 t237.length co31], .int .i64 1] rfl (by (try simp only [List.map_toArray, List.map_cons, List.map_nil]); first | done | rfl | (simp only [List.length_drop, List.length_take]; rfl)) ?_; (with_reducible refine (laws_markTable.calls kj12 t235 t236 (fun k_ => some k_ = (.slice Ao31 t237.length co31 : Value).ownBlock) (.slice Ao31 t237.length co31) t237 1 t262 t263 w _ ?side1 ?side2 A61.out).mono ?_); (case side1 => repeat (first | (with_reducible first | exact HB.out | apply below_alloc | apply pw_below_drewN | apply below_drew1 | refine below_set ?_ GE214.out | refine below_set ?_ GE234.out | refine below_set ?_ GE240.out | refine below_set ?_ GE254.out) | exact HB.out)); (case side2 => exact Kd.R_tight rfl HO_241002.out); rintro e w71 ⟨rfl, hy0, hb, hkp⟩; refine ⟨_, rfl, ?_⟩; have n0_ := Aside0.mk (Kd.R_mono (ok' := fun k_ => some k_ ≠ (.slice Ao31 t237.length co31 : Value).ownBlock ∧ some k_ ≠ (.slice Ao38 t243.length co38 : Value).ownBlock ∧ some k_ ≠ (.slice Ao65 t258.length co65 : Value).ownBlock) (Kd.R_keptB (HO_235002.out) hkp (fun k_ hk_ hs_ => (hk_.1.1) hs_)) (fun k_ hk_ => ⟨hk_.1.1.1, hk_.1.1.2, hk_.1.2⟩)); have n1_ := Aside0.mk (Kd.R_reok rfl hy0 (fun k_ e_ => HO_241002.out.1 k_ e_)); have n2_ := Aside0.mk (Kd.R_mono (ok' := fun k_ => some k_ ≠ (.slice Ao24 t223.length co24 : Value).ownBlock ∧ some k_ ≠ (.slice Ao31 t237.length co31 : Value).ownBlock ∧ some k_ ≠ (.slice Ao65 t258.length co65 : Value).ownBlock) (Kd.R_keptB (HO_255002.out) hkp (fun k_ hk_ hs_ => (hk_.1.2) hs_)) (fun k_ hk_ => ⟨hk_.1.1.1, hk_.1.1.2, hk_.1.2⟩)); have n3_ := Aside0.mk (blk_kept (dn BK214.out) hkp (fun hs_ => (fun e_ => (Kd.R_ne HO_241002.out BK214.out (by decide)) e_) hs_)); have n4_ := Aside0.mk (blk_kept (dn BK234.out) hkp (fun hs_ => (fun e_ => (Kd.R_ne HO_241002.out BK234.out (by decide)) e_) hs_)); have n5_ := Aside0.mk (blk_kept (dn BK240.out) hkp (fun hs_ => (fun e_ => (Kd.R_ne HO_241002.out BK240.out (by decide)) e_) hs_)); have n6_ := Aside0.mk (blk_kept (dn BK254.out) hkp (fun hs_ => (fun e_ => (Kd.R_ne HO_241002.out BK254.out (by decide)) e_) hs_)); have n7_ := Aside0.mk (Kd.R_mono (ok' := fun k_ => some k_ ≠ (.slice Ao24 t223.length co24 : Value).ownBlock ∧ some k_ ≠ (.slice Ao31 t237.length co31 : Value).ownBlock ∧ some k_ ≠ (.slice Ao38 t243.length co38 : Value).ownBlock) (Kd.R_keptB (HO260.out) hkp (fun k_ hk_ hs_ => (hk_.1.2) hs_)) (fun k_ hk_ => ⟨hk_.1.1.1.2, hk_.1.1.2, hk_.1.2⟩)); have n8_ := Aside0.mk (hb); clear HO_235002; clear HO_241002; clear HO_255002; clear BK214; clear BK234; clear BK240; clear BK254; clear HO260; clear HB; have HO_235002 := n0_; have HO_241002 := n1_; have HO_255002 := n2_; have BK214 := n3_; have BK234 := n4_; have BK240 := n5_; have BK254 := n6_; have HO260 := n7_; have HB := n8_; clear n0_ n1_ n2_ n3_ n4_ n5_ n6_ n7_ n8_; (try clear hb); (try clear hkp); (try clear hy0)))
      (try simp only [Act.put, List.setIfInBounds_toArray, List.set_cons_zero, List.set_cons_succ])
      go_cut [69] (fun v69 wc => ∃ (kq : Nat) (x69_61 : Bool), v69 = .bool x69_61 ∧ Aside0 (laws_FnExactEmptyScene.j1 kq a1 a2 t233 x69_61 a0_0 a0_1 l0_2 t221 t222 t223 t226 t227 t228 t229 t230 t231 t232 t241 t242 t243 t246 t247 t248 t249 t250 t251 t252 = some r) ∧ Aside0 (kq ≤ kj12) ∧ Aside0 (Kd.R k27 27 wc w.heap.size (fun k_ => some k_ ≠ ((.slice Ao31 t237.length co31) : Value).ownBlock ∧ some k_ ≠ ((.slice Ao38 t243.length co38) : Value).ownBlock) (.slice Ao24 t223.length co24) t223) ∧ Aside0 (Kd.R k27 27 wc w.heap.size (fun k_ => some k_ ≠ ((.slice Ao24 t223.length co24) : Value).ownBlock ∧ some k_ ≠ ((.slice Ao38 t243.length co38) : Value).ownBlock) (.slice Ao31 t237.length co31) t263) ∧ Aside0 (Kd.R k27 27 wc w.heap.size (fun k_ => some k_ ≠ ((.slice Ao24 t223.length co24) : Value).ownBlock ∧ some k_ ≠ ((.slice Ao31 t237.length co31) : Value).ownBlock) (.slice Ao38 t243.length co38) t243) ∧ Aside0 (wc.heap[gb214]? = some (.cells #[.int .i64 a0_0, .int .i64 a0_1, (.slice A0_2 l0_2.length c0_2)] 24 (0, 0))) ∧ Aside0 (wc.heap[gb234]? = some (.cells #[.int .i64 t221, .int .i64 t222, (.slice Ao24 t223.length co24), .int .i64 t226, .int .i64 t227, .string t228, .int .i64 t229, .int .i64 t230, .int .i64 t231, .int .i64 t232] 45 (0, 0))) ∧ Aside0 (wc.heap[gb240]? = some (.cells #[.int .i64 t235, .int .i64 t236, (.slice Ao31 t237.length co31)] 32 (0, 0))) ∧ Aside0 (wc.heap[gb254]? = some (.cells #[.int .i64 t241, .int .i64 t242, (.slice Ao38 t243.length co38), .int .i64 t246, .int .i64 t247, .string t248, .int .i64 t249, .int .i64 t250, .int .i64 t251, .int .i64 t252] 45 (0, 0))) ∧ Aside0 (Below w.heap.size w wc))
      case first =>
       have H := HC62.out
       clear HC62
       by_cases c72 : t262 < 0
       ·rw [if_pos c72] at H
        have c72b0 : decide (t262 < 0) = true := decide_eq_true c72
        clear c72
        (first | rw [c72b0] | (simp only [i64_w, i32_w]; rw [c72b0]) | skip)
        have H' := Aside0.mk H
        clear H
        go_wp2
        go_meet
        case rel => exact ⟨_, (true), (by first | rfl | (simp; done) | (simp [*]; done)), H', ⟨by have := HJ12.out; first | omega | exact Nat.le_refl _⟩, ⟨by (with_reducible repeat (first | apply Kd.R_alloc | apply Kd.R_drewN | apply Kd.R_drew)); exact Kd.R_mono HO_235002.out (fun _ hk => ⟨hk.1, hk.2.1⟩)⟩, ⟨by (with_reducible repeat (first | apply Kd.R_alloc | apply Kd.R_drewN | apply Kd.R_drew)); exact Kd.R_mono HO_241002.out (fun _ hk => ⟨hk.1.1, hk.1.2⟩)⟩, ⟨by (with_reducible repeat (first | apply Kd.R_alloc | apply Kd.R_drewN | apply Kd.R_drew)); exact Kd.R_mono HO_255002.out (fun _ hk => ⟨hk.1, hk.2.1⟩)⟩, ⟨by (with_reducible repeat (first | refine blk_drewN ?_ _ | refine blk_drew ?_ | refine blk_alloc ?_ _)); exact BK214.out⟩, ⟨by (with_reducible repeat (first | refine blk_drewN ?_ _ | refine blk_drew ?_ | refine blk_alloc ?_ _)); exact BK234.out⟩, ⟨by (with_reducible repeat (first | refine blk_drewN ?_ _ | refine blk_drew ?_ | refine blk_alloc ?_ _)); exact BK240.out⟩, ⟨by (with_reducible repeat (first | refine blk_drewN ?_ _ | refine blk_drew ?_ | refine blk_alloc ?_ _)); exact BK254.out⟩, ⟨by repeat (first | (with_reducible first | exact HB.out | apply below_alloc | apply pw_below_drewN | apply below_drew1 | refine below_set ?_ GE214.out | refine below_set ?_ GE234.out | refine below_set ?_ GE240.out | refine below_set ?_ GE254.out) | exact HB.out)⟩⟩
       ·rw [if_neg c72] at H
        have c72b0 : decide (t262 < 0) = false := decide_eq_false c72
        clear c72
        (first | rw [c72b0] | (simp only [i64_w, i32_w]; rw [c72b0]) | skip)
        replace H := Option.bind_eq_some_iff.mp H
        obtain ⟨t264, A730, H⟩ := H
        replace H : (if t264 = true then (laws_FnExactEmptyScene.j1 kj12 a1 a2 t233 (t253 != t233) a0_0 a0_1 l0_2 t221 t222 t223 t226 t227 t228 t229 t230 t231 t232 t241 t242 t243 t246 t247 t248 t249 t250 t251 t252) else (laws_FnExactEmptyScene.j1 kj12 a1 a2 t233 true a0_0 a0_1 l0_2 t221 t222 t223 t226 t227 t228 t229 t230 t231 t232 t241 t242 t243 t246 t247 t248 t249 t250 t251 t252)) = some r := H
        have A73 := Aside0.mk A730
        clear A730
        by_cases c74 : t264 = true
        ·subst c74
         have H1 : (laws_FnExactEmptyScene.j1 kj12 a1 a2 t233 (t253 != t233) a0_0 a0_1 l0_2 t221 t222 t223 t226 t227 t228 t229 t230 t231 t232 t241 t242 t243 t246 t247 t248 t249 t250 t251 t252) = some r := by rw [if_pos rfl] at H; exact H
         clear H
         have H := H1
         clear H1
         have H' := Aside0.mk H
         clear H
         have hnb75 := NB254_214.out
         have hnc75 := NB214_254.out
         have hnb76 := NB254_234.out
         have hnc76 := NB234_254.out
         have hnb77 := NB254_240.out
         have hnc77 := NB240_254.out
         have hcz78_0 : w71.cell? ⟨gb254, 0, none⟩ = some (.int .i64 t241) := (blk_cell BK254.out 0).trans rfl
         have hcz78_1 : w71.cell? ⟨gb254, 1, none⟩ = some (.int .i64 t242) := (blk_cell BK254.out 1).trans rfl
         have hcz78_2 : w71.cell? ⟨gb254, 2, none⟩ = some (.slice Ao38 t243.length co38) := (blk_cell BK254.out 2).trans rfl
         have hcz78_3 : w71.cell? ⟨gb254, 3, none⟩ = some (.int .i64 t246) := (blk_cell BK254.out 3).trans rfl
         have hcz78_4 : w71.cell? ⟨gb254, 4, none⟩ = some (.int .i64 t247) := (blk_cell BK254.out 4).trans rfl
         have hcz78_5 : w71.cell? ⟨gb254, 5, none⟩ = some (.string t248) := (blk_cell BK254.out 5).trans rfl
         have hcz78_6 : w71.cell? ⟨gb254, 6, none⟩ = some (.int .i64 t249) := (blk_cell BK254.out 6).trans rfl
         have hcz78_7 : w71.cell? ⟨gb254, 7, none⟩ = some (.int .i64 t250) := (blk_cell BK254.out 7).trans rfl
         have hcz78_8 : w71.cell? ⟨gb254, 8, none⟩ = some (.int .i64 t251) := (blk_cell BK254.out 8).trans rfl
         have hcz78_9 : w71.cell? ⟨gb254, 9, none⟩ = some (.int .i64 t252) := (blk_cell BK254.out 9).trans rfl
         have hfz78_0 := blk_frozen BK254.out 0
         have hfz78_1 := blk_frozen BK254.out 1
         have hfz78_2 := blk_frozen BK254.out 2
         have hfz78_3 := blk_frozen BK254.out 3
         have hfz78_4 := blk_frozen BK254.out 4
         have hfz78_5 := blk_frozen BK254.out 5
         have hfz78_6 := blk_frozen BK254.out 6
         have hfz78_7 := blk_frozen BK254.out 7
         have hfz78_8 := blk_frozen BK254.out 8
         have hfz78_9 := blk_frozen BK254.out 9
         have hnb79 := NB234_214.out
         have hnc79 := NB214_234.out
         have hnb80 := NB234_240.out
         have hnc80 := NB240_234.out
         have hcz81_0 : w71.cell? ⟨gb234, 0, none⟩ = some (.int .i64 t221) := (blk_cell BK234.out 0).trans rfl
         have hcz81_1 : w71.cell? ⟨gb234, 1, none⟩ = some (.int .i64 t222) := (blk_cell BK234.out 1).trans rfl
         have hcz81_2 : w71.cell? ⟨gb234, 2, none⟩ = some (.slice Ao24 t223.length co24) := (blk_cell BK234.out 2).trans rfl
         have hcz81_3 : w71.cell? ⟨gb234, 3, none⟩ = some (.int .i64 t226) := (blk_cell BK234.out 3).trans rfl
         have hcz81_4 : w71.cell? ⟨gb234, 4, none⟩ = some (.int .i64 t227) := (blk_cell BK234.out 4).trans rfl
         have hcz81_5 : w71.cell? ⟨gb234, 5, none⟩ = some (.string t228) := (blk_cell BK234.out 5).trans rfl
         have hcz81_6 : w71.cell? ⟨gb234, 6, none⟩ = some (.int .i64 t229) := (blk_cell BK234.out 6).trans rfl
         have hcz81_7 : w71.cell? ⟨gb234, 7, none⟩ = some (.int .i64 t230) := (blk_cell BK234.out 7).trans rfl
         have hcz81_8 : w71.cell? ⟨gb234, 8, none⟩ = some (.int .i64 t231) := (blk_cell BK234.out 8).trans rfl
         have hcz81_9 : w71.cell? ⟨gb234, 9, none⟩ = some (.int .i64 t232) := (blk_cell BK234.out 9).trans rfl
         have hfz81_0 := blk_frozen BK234.out 0
         have hfz81_1 := blk_frozen BK234.out 1
         have hfz81_2 := blk_frozen BK234.out 2
         have hfz81_3 := blk_frozen BK234.out 3
         have hfz81_4 := blk_frozen BK234.out 4
         have hfz81_5 := blk_frozen BK234.out 5
         have hfz81_6 := blk_frozen BK234.out 6
         have hfz81_7 := blk_frozen BK234.out 7
         have hfz81_8 := blk_frozen BK234.out 8
         have hfz81_9 := blk_frozen BK234.out 9
         go_wp2_with (first | (go_at_call 22; (with_reducible refine (laws_eqScene.calls kj12 t241 t242 _ _ t243 t246 t247 t248 t249 t250 t251 t252 t221 t222 _ _ t223 t226 t227 t228 t229 t230 t231 t232 true _ ?side1 ?side2 ?side3 ?side4 A73.out).mono ?_); (case side1 => repeat (first | exact (Kd.R_reads' HO_255002.out).2.2 | (with_reducible refine Kd.C_alloc ?_ _) | (with_reducible refine Kd.C_drewN ?_ _) | (with_reducible refine Kd.C_drew ?_))); (case side2 => exact (Kd.R_reads' HO_255002.out).2.1); (case side3 => repeat (first | exact (Kd.R_reads' HO_235002.out).2.2 | (with_reducible refine Kd.C_alloc ?_ _) | (with_reducible refine Kd.C_drewN ?_ _) | (with_reducible refine Kd.C_drew ?_))); (case side4 => exact (Kd.R_reads' HO_235002.out).2.1); rintro e w82 ⟨rfl, hb⟩; have n0_ := Aside0.mk (Kd.R_below (rn HO_235002.out) hb); have n1_ := Aside0.mk (Kd.R_below (rn HO_241002.out) hb); have n2_ := Aside0.mk (Kd.R_below (rn HO_255002.out) hb); have n3_ := Aside0.mk (Kd.R_below (rn HO260.out) hb); have n4_ := Aside0.mk (bb BK214.out hb); have n5_ := Aside0.mk (bb BK234.out hb); have n6_ := Aside0.mk (bb BK240.out hb); have n7_ := Aside0.mk (bb BK254.out hb); have n8_ := Aside0.mk (below_step (bl4 HB.out GE214.out GE234.out GE240.out GE254.out) hb); clear HO_235002; clear HO_241002; clear HO_255002; clear HO260; clear BK214; clear BK234; clear BK240; clear BK254; clear HB; have HO_235002 := n0_; have HO_241002 := n1_; have HO_255002 := n2_; have HO260 := n3_; have BK214 := n4_; have BK234 := n5_; have BK240 := n6_; have BK254 := n7_; have HB := n8_; clear n0_ n1_ n2_ n3_ n4_ n5_ n6_ n7_ n8_; (try clear hb); (try clear hb2); (try clear hk); (try clear hi)))
         go_meet
         case rel => exact ⟨_, ((t253 != t233)), (by first | rfl | (simp; done) | (simp [*]; done)), H', ⟨by have := HJ12.out; first | omega | exact Nat.le_refl _⟩, ⟨by (with_reducible repeat (first | apply Kd.R_alloc | apply Kd.R_drewN | apply Kd.R_drew)); exact Kd.R_mono HO_235002.out (fun _ hk => ⟨hk.1, hk.2.1⟩)⟩, ⟨by (with_reducible repeat (first | apply Kd.R_alloc | apply Kd.R_drewN | apply Kd.R_drew)); exact Kd.R_mono HO_241002.out (fun _ hk => ⟨hk.1.1, hk.1.2⟩)⟩, ⟨by (with_reducible repeat (first | apply Kd.R_alloc | apply Kd.R_drewN | apply Kd.R_drew)); exact Kd.R_mono HO_255002.out (fun _ hk => ⟨hk.1, hk.2.1⟩)⟩, ⟨by (with_reducible repeat (first | refine blk_drewN ?_ _ | refine blk_drew ?_ | refine blk_alloc ?_ _)); exact BK214.out⟩, ⟨by (with_reducible repeat (first | refine blk_drewN ?_ _ | refine blk_drew ?_ | refine blk_alloc ?_ _)); exact BK234.out⟩, ⟨by (with_reducible repeat (first | refine blk_drewN ?_ _ | refine blk_drew ?_ | refine blk_alloc ?_ _)); exact BK240.out⟩, ⟨by (with_reducible repeat (first | refine blk_drewN ?_ _ | refine blk_drew ?_ | refine blk_alloc ?_ _)); exact BK254.out⟩, ⟨by repeat (first | (with_reducible first | exact HB.out | apply below_alloc | apply pw_below_drewN | apply below_drew1 | refine below_set ?_ GE214.out | refine below_set ?_ GE234.out | refine below_set ?_ GE240.out | refine below_set ?_ GE254.out) | exact HB.out)⟩⟩
        ·replace c74 := Bool.eq_false_iff.mpr c74
         subst c74
         have H1 : (laws_FnExactEmptyScene.j1 kj12 a1 a2 t233 true a0_0 a0_1 l0_2 t221 t222 t223 t226 t227 t228 t229 t230 t231 t232 t241 t242 t243 t246 t247 t248 t249 t250 t251 t252) = some r := by rw [if_neg (show ¬ (false = true) by decide)] at H; exact H
         clear H
         have H := H1
         clear H1
         have H' := Aside0.mk H
         clear H
         have hnb83 := NB254_214.out
         have hnc83 := NB214_254.out
         have hnb84 := NB254_234.out
         have hnc84 := NB234_254.out
         have hnb85 := NB254_240.out
         have hnc85 := NB240_254.out
         have hcz86_0 : w71.cell? ⟨gb254, 0, none⟩ = some (.int .i64 t241) := (blk_cell BK254.out 0).trans rfl
         have hcz86_1 : w71.cell? ⟨gb254, 1, none⟩ = some (.int .i64 t242) := (blk_cell BK254.out 1).trans rfl
         have hcz86_2 : w71.cell? ⟨gb254, 2, none⟩ = some (.slice Ao38 t243.length co38) := (blk_cell BK254.out 2).trans rfl
         have hcz86_3 : w71.cell? ⟨gb254, 3, none⟩ = some (.int .i64 t246) := (blk_cell BK254.out 3).trans rfl
         have hcz86_4 : w71.cell? ⟨gb254, 4, none⟩ = some (.int .i64 t247) := (blk_cell BK254.out 4).trans rfl
         have hcz86_5 : w71.cell? ⟨gb254, 5, none⟩ = some (.string t248) := (blk_cell BK254.out 5).trans rfl
         have hcz86_6 : w71.cell? ⟨gb254, 6, none⟩ = some (.int .i64 t249) := (blk_cell BK254.out 6).trans rfl
         have hcz86_7 : w71.cell? ⟨gb254, 7, none⟩ = some (.int .i64 t250) := (blk_cell BK254.out 7).trans rfl
         have hcz86_8 : w71.cell? ⟨gb254, 8, none⟩ = some (.int .i64 t251) := (blk_cell BK254.out 8).trans rfl
         have hcz86_9 : w71.cell? ⟨gb254, 9, none⟩ = some (.int .i64 t252) := (blk_cell BK254.out 9).trans rfl
         have hfz86_0 := blk_frozen BK254.out 0
         have hfz86_1 := blk_frozen BK254.out 1
         have hfz86_2 := blk_frozen BK254.out 2
         have hfz86_3 := blk_frozen BK254.out 3
         have hfz86_4 := blk_frozen BK254.out 4
         have hfz86_5 := blk_frozen BK254.out 5
         have hfz86_6 := blk_frozen BK254.out 6
         have hfz86_7 := blk_frozen BK254.out 7
         have hfz86_8 := blk_frozen BK254.out 8
         have hfz86_9 := blk_frozen BK254.out 9
         have hnb87 := NB234_214.out
         have hnc87 := NB214_234.out
         have hnb88 := NB234_240.out
         have hnc88 := NB240_234.out
         have hcz89_0 : w71.cell? ⟨gb234, 0, none⟩ = some (.int .i64 t221) := (blk_cell BK234.out 0).trans rfl
         have hcz89_1 : w71.cell? ⟨gb234, 1, none⟩ = some (.int .i64 t222) := (blk_cell BK234.out 1).trans rfl
         have hcz89_2 : w71.cell? ⟨gb234, 2, none⟩ = some (.slice Ao24 t223.length co24) := (blk_cell BK234.out 2).trans rfl
         have hcz89_3 : w71.cell? ⟨gb234, 3, none⟩ = some (.int .i64 t226) := (blk_cell BK234.out 3).trans rfl
         have hcz89_4 : w71.cell? ⟨gb234, 4, none⟩ = some (.int .i64 t227) := (blk_cell BK234.out 4).trans rfl
         have hcz89_5 : w71.cell? ⟨gb234, 5, none⟩ = some (.string t228) := (blk_cell BK234.out 5).trans rfl
         have hcz89_6 : w71.cell? ⟨gb234, 6, none⟩ = some (.int .i64 t229) := (blk_cell BK234.out 6).trans rfl
         have hcz89_7 : w71.cell? ⟨gb234, 7, none⟩ = some (.int .i64 t230) := (blk_cell BK234.out 7).trans rfl
         have hcz89_8 : w71.cell? ⟨gb234, 8, none⟩ = some (.int .i64 t231) := (blk_cell BK234.out 8).trans rfl
         have hcz89_9 : w71.cell? ⟨gb234, 9, none⟩ = some (.int .i64 t232) := (blk_cell BK234.out 9).trans rfl
         have hfz89_0 := blk_frozen BK234.out 0
         have hfz89_1 := blk_frozen BK234.out 1
         have hfz89_2 := blk_frozen BK234.out 2
         have hfz89_3 := blk_frozen BK234.out 3
         have hfz89_4 := blk_frozen BK234.out 4
         have hfz89_5 := blk_frozen BK234.out 5
         have hfz89_6 := blk_frozen BK234.out 6
         have hfz89_7 := blk_frozen BK234.out 7
         have hfz89_8 := blk_frozen BK234.out 8
         have hfz89_9 := blk_frozen BK234.out 9
         go_wp2_with (first | (go_at_call 22; (with_reducible refine (laws_eqScene.calls kj12 t241 t242 _ _ t243 t246 t247 t248 t249 t250 t251 t252 t221 t222 _ _ t223 t226 t227 t228 t229 t230 t231 t232 false _ ?side1 ?side2 ?side3 ?side4 A73.out).mono ?_); (case side1 => repeat (first | exact (Kd.R_reads' HO_255002.out).2.2 | (with_reducible refine Kd.C_alloc ?_ _) | (with_reducible refine Kd.C_drewN ?_ _) | (with_reducible refine Kd.C_drew ?_))); (case side2 => exact (Kd.R_reads' HO_255002.out).2.1); (case side3 => repeat (first | exact (Kd.R_reads' HO_235002.out).2.2 | (with_reducible refine Kd.C_alloc ?_ _) | (with_reducible refine Kd.C_drewN ?_ _) | (with_reducible refine Kd.C_drew ?_))); (case side4 => exact (Kd.R_reads' HO_235002.out).2.1); rintro e w90 ⟨rfl, hb⟩; have n0_ := Aside0.mk (Kd.R_below (rn HO_235002.out) hb); have n1_ := Aside0.mk (Kd.R_below (rn HO_241002.out) hb); have n2_ := Aside0.mk (Kd.R_below (rn HO_255002.out) hb); have n3_ := Aside0.mk (Kd.R_below (rn HO260.out) hb); have n4_ := Aside0.mk (bb BK214.out hb); have n5_ := Aside0.mk (bb BK234.out hb); have n6_ := Aside0.mk (bb BK240.out hb); have n7_ := Aside0.mk (bb BK254.out hb); have n8_ := Aside0.mk (below_step (bl4 HB.out GE214.out GE234.out GE240.out GE254.out) hb); clear HO_235002; clear HO_241002; clear HO_255002; clear HO260; clear BK214; clear BK234; clear BK240; clear BK254; clear HB; have HO_235002 := n0_; have HO_241002 := n1_; have HO_255002 := n2_; have HO260 := n3_; have BK214 := n4_; have BK234 := n5_; have BK240 := n6_; have BK254 := n7_; have HB := n8_; clear n0_ n1_ n2_ n3_ n4_ n5_ n6_ n7_ n8_; (try clear hb); (try clear hb2); (try clear hk); (try clear hi)))
         go_meet
         case rel => exact ⟨_, (true), (by first | rfl | (simp; done) | (simp [*]; done)), H', ⟨by have := HJ12.out; first | omega | exact Nat.le_refl _⟩, ⟨by (with_reducible repeat (first | apply Kd.R_alloc | apply Kd.R_drewN | apply Kd.R_drew)); exact Kd.R_mono HO_235002.out (fun _ hk => ⟨hk.1, hk.2.1⟩)⟩, ⟨by (with_reducible repeat (first | apply Kd.R_alloc | apply Kd.R_drewN | apply Kd.R_drew)); exact Kd.R_mono HO_241002.out (fun _ hk => ⟨hk.1.1, hk.1.2⟩)⟩, ⟨by (with_reducible repeat (first | apply Kd.R_alloc | apply Kd.R_drewN | apply Kd.R_drew)); exact Kd.R_mono HO_255002.out (fun _ hk => ⟨hk.1, hk.2.1⟩)⟩, ⟨by (with_reducible repeat (first | refine blk_drewN ?_ _ | refine blk_drew ?_ | refine blk_alloc ?_ _)); exact BK214.out⟩, ⟨by (with_reducible repeat (first | refine blk_drewN ?_ _ | refine blk_drew ?_ | refine blk_alloc ?_ _)); exact BK234.out⟩, ⟨by (with_reducible repeat (first | refine blk_drewN ?_ _ | refine blk_drew ?_ | refine blk_alloc ?_ _)); exact BK240.out⟩, ⟨by (with_reducible repeat (first | refine blk_drewN ?_ _ | refine blk_drew ?_ | refine blk_alloc ?_ _)); exact BK254.out⟩, ⟨by repeat (first | (with_reducible first | exact HB.out | apply below_alloc | apply pw_below_drewN | apply below_drew1 | refine below_set ?_ GE214.out | refine below_set ?_ GE234.out | refine below_set ?_ GE240.out | refine below_set ?_ GE254.out) | exact HB.out)⟩⟩
      case rest =>
       clear HC62
       try clear c1
       try clear c2
       try clear p2
       try clear c3
       try clear c4
       try clear c5
       try clear c5b0
       try clear c6
       try clear c7
       try clear c8
       try clear c10
       try clear c12
       try clear c15
       try clear c22
       try clear c27
       try clear c28
       try clear c29
       try clear c32
       try clear c33
       try clear c34
       try clear c35
       try clear c36
       try clear c40
       try clear c41
       try clear c42
       try clear c43
       try clear c45
       try clear c46
       try clear c49
       try clear c50
       try clear c51
       try clear c53
       try clear c54
       try clear c57
       try clear c60
       try clear c67
       try clear c68
       try clear c69
       try clear c72
       try clear c72b0
       try clear c74
       try clear c75
       try clear c76
       try clear c77
       try clear c79
       try clear c80
       try clear c83
       try clear c84
       try clear c85
       try clear c87
       try clear c88
       try clear hcz15_0
       try clear hcz15_1
       try clear hcz15_2
       try clear hcz17_0
       try clear hcz17_1
       try clear hcz17_2
       try clear hcz23_0
       try clear hcz23_1
       try clear hcz23_2
       try clear hcz23_3
       try clear hcz23_4
       try clear hcz23_5
       try clear hcz23_6
       try clear hcz23_7
       try clear hcz23_8
       try clear hcz23_9
       try clear hcz25_0
       try clear hcz25_1
       try clear hcz25_2
       try clear hcz30_0
       try clear hcz30_1
       try clear hcz30_2
       try clear hcz37_0
       try clear hcz37_1
       try clear hcz37_2
       try clear hcz37_3
       try clear hcz37_4
       try clear hcz37_5
       try clear hcz37_6
       try clear hcz37_7
       try clear hcz37_8
       try clear hcz37_9
       try clear hcz44_0
       try clear hcz44_1
       try clear hcz44_2
       try clear hcz44_3
       try clear hcz44_4
       try clear hcz44_5
       try clear hcz44_6
       try clear hcz44_7
       try clear hcz44_8
       try clear hcz44_9
       try clear hcz47_0
       try clear hcz47_1
       try clear hcz47_2
       try clear hcz47_3
       try clear hcz47_4
       try clear hcz47_5
       try clear hcz47_6
       try clear hcz47_7
       try clear hcz47_8
       try clear hcz47_9
       try clear hcz52_0
       try clear hcz52_1
       try clear hcz52_2
       try clear hcz52_3
       try clear hcz52_4
       try clear hcz52_5
       try clear hcz52_6
       try clear hcz52_7
       try clear hcz52_8
       try clear hcz52_9
       try clear hcz55_0
       try clear hcz55_1
       try clear hcz55_2
       try clear hcz55_3
       try clear hcz55_4
       try clear hcz55_5
       try clear hcz55_6
       try clear hcz55_7
       try clear hcz55_8
       try clear hcz55_9
       try clear hcz70_0
       try clear hcz70_1
       try clear hcz70_2
       try clear hcz78_0
       try clear hcz78_1
       try clear hcz78_2
       try clear hcz78_3
       try clear hcz78_4
       try clear hcz78_5
       try clear hcz78_6
       try clear hcz78_7
       try clear hcz78_8
       try clear hcz78_9
       try clear hcz7_0
       try clear hcz7_1
       try clear hcz7_2
       try clear hcz81_0
       try clear hcz81_1
       try clear hcz81_2
       try clear hcz81_3
       try clear hcz81_4
       try clear hcz81_5
       try clear hcz81_6
       try clear hcz81_7
       try clear hcz81_8
       try clear hcz81_9
       try clear hcz86_0
       try clear hcz86_1
       try clear hcz86_2
       try clear hcz86_3
       try clear hcz86_4
       try clear hcz86_5
       try clear hcz86_6
       try clear hcz86_7
       try clear hcz86_8
       try clear hcz86_9
       try clear hcz89_0
       try clear hcz89_1
       try clear hcz89_2
       try clear hcz89_3
       try clear hcz89_4
       try clear hcz89_5
       try clear hcz89_6
       try clear hcz89_7
       try clear hcz89_8
       try clear hcz89_9
       try clear hfz15_0
       try clear hfz15_1
       try clear hfz15_2
       try clear hfz17_0
       try clear hfz17_1
       try clear hfz17_2
       try clear hfz23_0
       try clear hfz23_1
       try clear hfz23_2
       try clear hfz23_3
       try clear hfz23_4
       try clear hfz23_5
       try clear hfz23_6
       try clear hfz23_7
       try clear hfz23_8
       try clear hfz23_9
       try clear hfz25_0
       try clear hfz25_1
       try clear hfz25_2
       try clear hfz30_0
       try clear hfz30_1
       try clear hfz30_2
       try clear hfz37_0
       try clear hfz37_1
       try clear hfz37_2
       try clear hfz37_3
       try clear hfz37_4
       try clear hfz37_5
       try clear hfz37_6
       try clear hfz37_7
       try clear hfz37_8
       try clear hfz37_9
       try clear hfz44_0
       try clear hfz44_1
       try clear hfz44_2
       try clear hfz44_3
       try clear hfz44_4
       try clear hfz44_5
       try clear hfz44_6
       try clear hfz44_7
       try clear hfz44_8
       try clear hfz44_9
       try clear hfz47_0
       try clear hfz47_1
       try clear hfz47_2
       try clear hfz47_3
       try clear hfz47_4
       try clear hfz47_5
       try clear hfz47_6
       try clear hfz47_7
       try clear hfz47_8
       try clear hfz47_9
       try clear hfz52_0
       try clear hfz52_1
       try clear hfz52_2
       try clear hfz52_3
       try clear hfz52_4
       try clear hfz52_5
       try clear hfz52_6
       try clear hfz52_7
       try clear hfz52_8
       try clear hfz52_9
       try clear hfz55_0
       try clear hfz55_1
       try clear hfz55_2
       try clear hfz55_3
       try clear hfz55_4
       try clear hfz55_5
       try clear hfz55_6
       try clear hfz55_7
       try clear hfz55_8
       try clear hfz55_9
       try clear hfz70_0
       try clear hfz70_1
       try clear hfz70_2
       try clear hfz78_0
       try clear hfz78_1
       try clear hfz78_2
       try clear hfz78_3
       try clear hfz78_4
       try clear hfz78_5
       try clear hfz78_6
       try clear hfz78_7
       try clear hfz78_8
       try clear hfz78_9
       try clear hfz7_0
       try clear hfz7_1
       try clear hfz7_2
       try clear hfz81_0
       try clear hfz81_1
       try clear hfz81_2
       try clear hfz81_3
       try clear hfz81_4
       try clear hfz81_5
       try clear hfz81_6
       try clear hfz81_7
       try clear hfz81_8
       try clear hfz81_9
       try clear hfz86_0
       try clear hfz86_1
       try clear hfz86_2
       try clear hfz86_3
       try clear hfz86_4
       try clear hfz86_5
       try clear hfz86_6
       try clear hfz86_7
       try clear hfz86_8
       try clear hfz86_9
       try clear hfz89_0
       try clear hfz89_1
       try clear hfz89_2
       try clear hfz89_3
       try clear hfz89_4
       try clear hfz89_5
       try clear hfz89_6
       try clear hfz89_7
       try clear hfz89_8
       try clear hfz89_9
       try clear p2
       obtain ⟨kq, x69_61, rfl, HA, HJ61, HO_235002, HO_241002, HO_255002, BK214, BK234, BK240, BK254, HB⟩ := hcut
       have hl241002_61 := (Kd.R_reads' HO_241002.out).1
       rw [hl241002_61] at HO_241002
       (try simp only [hl241002_61])
       (try simp only [hl241002_61] at BK214)
       (try simp only [hl241002_61] at BK234)
       (try simp only [hl241002_61] at BK240)
       (try simp only [hl241002_61] at BK254)
       (try simp only [hl241002_61] at HO_235002)
       (try simp only [hl241002_61] at HO_255002)
       cases kq with
       | zero => exact absurd HA.out (by simp [laws_FnExactEmptyScene.j1])
       | succ kj61 =>
        have H := HA.out
        clear HA
        simp only [laws_FnExactEmptyScene.j1] at H
        by_cases c91 : x69_61 = true
        ·subst c91
         have H1 : (some false) = some r := by rw [if_pos rfl] at H; exact H
         clear H
         have H := H1
         clear H1
         obtain rfl := Option.some.inj H
         go_wp2
         go_ret
         exact ⟨by first | rfl | (simp [errW_none, errW_some] <;> rfl) | (simp [*, errW_none, errW_some] <;> rfl), by repeat (first | (with_reducible first | exact HB.out | apply below_alloc | apply pw_below_drewN | apply below_drew1 | refine below_set ?_ GE214.out | refine below_set ?_ GE234.out | refine below_set ?_ GE240.out | refine below_set ?_ GE254.out) | exact HB.out)⟩
        ·replace c91 := Bool.eq_false_iff.mpr c91
         subst c91
         have H1 : ((laws_markScene.f kj61 t241 t242 t243 t246 t247 t248 t249 t250 t251 t252 1).bind fun bt265 => ((laws_heldScene.f kj61 t241 t242 bt265.2 t246 t247 t248 t249 t250 t251 t252 1).bind fun t267 => (if t267 < 0 then (some false) else (if t267 = bt265.1 then ((laws_toTable.f kj61 a0_0 a0_1 l0_2).bind fun bt268 => ((impl_EmptyScene.f kj61 bt268.1 bt268.2.1 bt268.2.2 a1 a2).bind fun bt273 => ((laws_eqScene.f kj61 bt273.1 bt273.2.1 bt273.2.2.1 bt273.2.2.2.1 bt273.2.2.2.2.1 bt273.2.2.2.2.2.1 bt273.2.2.2.2.2.2.1 bt273.2.2.2.2.2.2.2.1 bt273.2.2.2.2.2.2.2.2.1 bt273.2.2.2.2.2.2.2.2.2.1 t221 t222 t223 t226 t227 t228 t229 t230 t231 t232).bind fun t287 => (if t287 = true then (laws_FnExactEmptyScene.j2 kj61 bt265.1 (bt273.2.2.2.2.2.2.2.2.2.2 != t233) t241 t242 bt265.2 t246 t247 t248 t249 t250 t251 t252) else (laws_FnExactEmptyScene.j2 kj61 bt265.1 true t241 t242 bt265.2 t246 t247 t248 t249 t250 t251 t252))))) else (some false))))) = some r := by rw [if_neg (show ¬ (false = true) by decide)] at H; exact H
         clear H
         have H := H1
         clear H1
         replace H := Option.bind_eq_some_iff.mp H
         obtain ⟨⟨t265, t266⟩, A920, H⟩ := H
         replace H : ((laws_heldScene.f kj61 t241 t242 t266 t246 t247 t248 t249 t250 t251 t252 1).bind fun t267 => (if t267 < 0 then (some false) else (if t267 = t265 then ((laws_toTable.f kj61 a0_0 a0_1 l0_2).bind fun bt268 => ((impl_EmptyScene.f kj61 bt268.1 bt268.2.1 bt268.2.2 a1 a2).bind fun bt273 => ((laws_eqScene.f kj61 bt273.1 bt273.2.1 bt273.2.2.1 bt273.2.2.2.1 bt273.2.2.2.2.1 bt273.2.2.2.2.2.1 bt273.2.2.2.2.2.2.1 bt273.2.2.2.2.2.2.2.1 bt273.2.2.2.2.2.2.2.2.1 bt273.2.2.2.2.2.2.2.2.2.1 t221 t222 t223 t226 t227 t228 t229 t230 t231 t232).bind fun t287 => (if t287 = true then (laws_FnExactEmptyScene.j2 kj61 t265 (bt273.2.2.2.2.2.2.2.2.2.2 != t233) t241 t242 t266 t246 t247 t248 t249 t250 t251 t252) else (laws_FnExactEmptyScene.j2 kj61 t265 true t241 t242 t266 t246 t247 t248 t249 t250 t251 t252))))) else (some false)))) = some r := H
         have A92 := Aside0.mk A920
         clear A920
         replace H := Option.bind_eq_some_iff.mp H
         obtain ⟨t267, A930, H⟩ := H
         replace H : (if t267 < 0 then (some false) else (if t267 = t265 then ((laws_toTable.f kj61 a0_0 a0_1 l0_2).bind fun bt268 => ((impl_EmptyScene.f kj61 bt268.1 bt268.2.1 bt268.2.2 a1 a2).bind fun bt273 => ((laws_eqScene.f kj61 bt273.1 bt273.2.1 bt273.2.2.1 bt273.2.2.2.1 bt273.2.2.2.2.1 bt273.2.2.2.2.2.1 bt273.2.2.2.2.2.2.1 bt273.2.2.2.2.2.2.2.1 bt273.2.2.2.2.2.2.2.2.1 bt273.2.2.2.2.2.2.2.2.2.1 t221 t222 t223 t226 t227 t228 t229 t230 t231 t232).bind fun t287 => (if t287 = true then (laws_FnExactEmptyScene.j2 kj61 t265 (bt273.2.2.2.2.2.2.2.2.2.2 != t233) t241 t242 t266 t246 t247 t248 t249 t250 t251 t252) else (laws_FnExactEmptyScene.j2 kj61 t265 true t241 t242 t266 t246 t247 t248 t249 t250 t251 t252))))) else (some false))) = some r := H
         have A93 := Aside0.mk A930
         clear A930
         by_cases c94 : t267 < 0
         ·rw [if_pos c94] at H
          have c94b0 : decide (t267 < 0) = true := decide_eq_true c94
          clear c94
          obtain rfl := Option.some.inj H
          have hnb95 := NB254_214.out
          have hnc95 := NB214_254.out
          have hnb96 := NB254_234.out
          have hnc96 := NB234_254.out
          have hnb97 := NB254_240.out
          have hnc97 := NB240_254.out
          have hcz98_0 : wc.cell? ⟨gb254, 0, none⟩ = some (.int .i64 t241) := (blk_cell BK254.out 0).trans rfl
          have hcz98_1 : wc.cell? ⟨gb254, 1, none⟩ = some (.int .i64 t242) := (blk_cell BK254.out 1).trans rfl
          have hcz98_2 : wc.cell? ⟨gb254, 2, none⟩ = some (.slice Ao38 t243.length co38) := (blk_cell BK254.out 2).trans rfl
          have hcz98_3 : wc.cell? ⟨gb254, 3, none⟩ = some (.int .i64 t246) := (blk_cell BK254.out 3).trans rfl
          have hcz98_4 : wc.cell? ⟨gb254, 4, none⟩ = some (.int .i64 t247) := (blk_cell BK254.out 4).trans rfl
          have hcz98_5 : wc.cell? ⟨gb254, 5, none⟩ = some (.string t248) := (blk_cell BK254.out 5).trans rfl
          have hcz98_6 : wc.cell? ⟨gb254, 6, none⟩ = some (.int .i64 t249) := (blk_cell BK254.out 6).trans rfl
          have hcz98_7 : wc.cell? ⟨gb254, 7, none⟩ = some (.int .i64 t250) := (blk_cell BK254.out 7).trans rfl
          have hcz98_8 : wc.cell? ⟨gb254, 8, none⟩ = some (.int .i64 t251) := (blk_cell BK254.out 8).trans rfl
          have hcz98_9 : wc.cell? ⟨gb254, 9, none⟩ = some (.int .i64 t252) := (blk_cell BK254.out 9).trans rfl
          have hfz98_0 := blk_frozen BK254.out 0
          have hfz98_1 := blk_frozen BK254.out 1
          have hfz98_2 := blk_frozen BK254.out 2
          have hfz98_3 := blk_frozen BK254.out 3
          have hfz98_4 := blk_frozen BK254.out 4
          have hfz98_5 := blk_frozen BK254.out 5
          have hfz98_6 := blk_frozen BK254.out 6
          have hfz98_7 := blk_frozen BK254.out 7
          have hfz98_8 := blk_frozen BK254.out 8
          have hfz98_9 := blk_frozen BK254.out 9
          go_wp2_with (first | ((with_reducible refine gate_callee (f := 34) rfl ?_); refine goesL_ (some 72) rfl rfl Try.func34 (by kernel_rfl) rfl #[.agg #[.int .i64 t241, .int .i64 t242, .slice Ao38 t243.length co38, .int .i64 t246, .int .i64 t247, .string t248, .int .i64 t249, .int .i64 t250, .int .i64 t251, .int .i64 t252], .int .i64 1] rfl (by (try simp only [List.map_toArray, List.map_cons, List.map_nil]); first | done | rfl | (simp only [List.length_drop, List.length_take]; rfl)) ?_; (with_reducible refine (laws_markScene.calls kj61 t241 t242 (fun k_ => some k_ = (.slice Ao38 t243.length co38 : Value).ownBlock) (.slice Ao38 t243.length co38) t243 t246 t247 t248 t249 t250 t251 t252 1 t265 t266 w _ ?side1 ?side2 A92.out).mono ?_); (case side1 => repeat (first | (with_reducible first | exact HB.out | apply below_alloc | apply pw_below_drewN | apply below_drew1 | refine below_set ?_ GE214.out | refine below_set ?_ GE234.out | refine below_set ?_ GE240.out | refine below_set ?_ GE254.out) | exact HB.out)); (case side2 => exact Kd.R_tight rfl HO_255002.out); rintro e w99 ⟨rfl, hy0, hb, hkp⟩; refine ⟨_, rfl, ?_⟩; have n0_ := Aside0.mk (Kd.R_mono (ok' := fun k_ => some k_ ≠ (.slice Ao31 t263.length co31 : Value).ownBlock ∧ some k_ ≠ (.slice Ao38 t243.length co38 : Value).ownBlock) (Kd.R_keptB (HO_235002.out) hkp (fun k_ hk_ hs_ => (hk_.2) hs_)) (fun k_ hk_ => ⟨hk_.1.1, hk_.1.2⟩)); have n1_ := Aside0.mk (Kd.R_mono (ok' := fun k_ => some k_ ≠ (.slice Ao24 t223.length co24 : Value).ownBlock ∧ some k_ ≠ (.slice Ao38 t243.length co38 : Value).ownBlock) (Kd.R_keptB (HO_241002.out) hkp (fun k_ hk_ hs_ => (hk_.2) hs_)) (fun k_ hk_ => ⟨hk_.1.1, hk_.1.2⟩)); have n2_ := Aside0.mk (Kd.R_reok rfl hy0 (fun k_ e_ => HO_255002.out.1 k_ e_)); have n3_ := Aside0.mk (blk_kept (dn BK214.out) hkp (fun hs_ => (fun e_ => (Kd.R_ne HO_255002.out BK214.out (by decide)) e_) hs_)); have n4_ := Aside0.mk (blk_kept (dn BK234.out) hkp (fun hs_ => (fun e_ => (Kd.R_ne HO_255002.out BK234.out (by decide)) e_) hs_)); have n5_ := Aside0.mk (blk_kept (dn BK240.out) hkp (fun hs_ => (fun e_ => (Kd.R_ne HO_255002.out BK240.out (by decide)) e_) hs_)); have n6_ := Aside0.mk (blk_kept (dn BK254.out) hkp (fun hs_ => (fun e_ => (Kd.R_ne HO_255002.out BK254.out (by decide)) e_) hs_)); have n7_ := Aside0.mk (hb); clear HO_235002; clear HO_241002; clear HO_255002; clear BK214; clear BK234; clear BK240; clear BK254; clear HB; have HO_235002 := n0_; have HO_241002 := n1_; have HO_255002 := n2_; have BK214 := n3_; have BK234 := n4_; have BK240 := n5_; have BK254 := n6_; have HB := n7_; clear n0_ n1_ n2_ n3_ n4_ n5_ n6_ n7_; (try clear hb); (try clear hkp); (try clear hy0); have hcz100_0 : w99.cell? ⟨gb254, 0, none⟩ = some (.int .i64 t241) := (blk_cell BK254.out 0).trans rfl; have hcz100_1 : w99.cell? ⟨gb254, 1, none⟩ = some (.int .i64 t242) := (blk_cell BK254.out 1).trans rfl; have hcz100_2 : w99.cell? ⟨gb254, 2, none⟩ = some (.slice Ao38 t243.length co38) := (blk_cell BK254.out 2).trans rfl; have hcz100_3 : w99.cell? ⟨gb254, 3, none⟩ = some (.int .i64 t246) := (blk_cell BK254.out 3).trans rfl; have hcz100_4 : w99.cell? ⟨gb254, 4, none⟩ = some (.int .i64 t247) := (blk_cell BK254.out 4).trans rfl; have hcz100_5 : w99.cell? ⟨gb254, 5, none⟩ = some (.string t248) := (blk_cell BK254.out 5).trans rfl; have hcz100_6 : w99.cell? ⟨gb254, 6, none⟩ = some (.int .i64 t249) := (blk_cell BK254.out 6).trans rfl; have hcz100_7 : w99.cell? ⟨gb254, 7, none⟩ = some (.int .i64 t250) := (blk_cell BK254.out 7).trans rfl; have hcz100_8 : w99.cell? ⟨gb254, 8, none⟩ = some (.int .i64 t251) := (blk_cell BK254.out 8).trans rfl; have hcz100_9 : w99.cell? ⟨gb254, 9, none⟩ = some (.int .i64 t252) := (blk_cell BK254.out 9).trans rfl; have hfz100_0 := blk_frozen BK254.out 0; have hfz100_1 := blk_frozen BK254.out 1; have hfz100_2 := blk_frozen BK254.out 2; have hfz100_3 := blk_frozen BK254.out 3; have hfz100_4 := blk_frozen BK254.out 4; have hfz100_5 := blk_frozen BK254.out 5; have hfz100_6 := blk_frozen BK254.out 6; have hfz100_7 := blk_frozen BK254.out 7; have hfz100_8 := blk_frozen BK254.out 8; have hfz100_9 := blk_frozen BK254.out 9) | ((with_reducible refine gate_callee (f := 35) rfl ?_); refine goesL_ (some 75) rfl rfl Try.func35 (by kernel_rfl) rfl #[.agg #[.int .i64 t241, .int .i64 t242, .slice Ao38 t266.length co38, .int .i64 t246, .int .i64 t247, .string t248, .int .i64 t249, .int .i64 t250, .int .i64 t251, .int .i64 t252], .int .i64 1] rfl (by (try simp only [List.map_toArray, List.map_cons, List.map_nil]); first | done | (rw [show t266.length = t243.length from (Kd.R_reads' HO_255002.out).1.symm] <;> rfl) | rfl | (simp only [List.length_drop, List.length_take]; rfl)) ?_; (with_reducible refine (laws_heldScene.calls kj61 t241 t242 _ _ t266 t246 t247 t248 t249 t250 t251 t252 1 t267 _ ?side1 ?side2 A93.out).mono ?_); (case side1 => repeat (first | exact (Kd.R_reads' HO_255002.out).2.2 | (with_reducible refine Kd.C_alloc ?_ _) | (with_reducible refine Kd.C_drewN ?_ _) | (with_reducible refine Kd.C_drew ?_))); (case side2 => rw [show t266.length = t243.length from (Kd.R_reads' HO_255002.out).1.symm]; exact (Kd.R_reads' HO_255002.out).2.1); rintro e w101 ⟨rfl, hb⟩; refine ⟨_, rfl, ?_⟩; have n0_ := Aside0.mk (Kd.R_below (rn HO_235002.out) hb); have n1_ := Aside0.mk (Kd.R_below (rn HO_241002.out) hb); have n2_ := Aside0.mk (Kd.R_below (rn HO_255002.out) hb); have n3_ := Aside0.mk (bb BK214.out hb); have n4_ := Aside0.mk (bb BK234.out hb); have n5_ := Aside0.mk (bb BK240.out hb); have n6_ := Aside0.mk (bb BK254.out hb); have n7_ := Aside0.mk (below_step (bl4 HB.out GE214.out GE234.out GE240.out GE254.out) hb); clear HO_235002; clear HO_241002; clear HO_255002; clear BK214; clear BK234; clear BK240; clear BK254; clear HB; have HO_235002 := n0_; have HO_241002 := n1_; have HO_255002 := n2_; have BK214 := n3_; have BK234 := n4_; have BK240 := n5_; have BK254 := n6_; have HB := n7_; clear n0_ n1_ n2_ n3_ n4_ n5_ n6_ n7_; (try clear hb); (try clear hb2); (try clear hk); (try clear hi)))
          go_ret
          exact ⟨by first | rfl | (simp [errW_none, errW_some] <;> rfl) | (simp [*, errW_none, errW_some] <;> rfl), by repeat (first | (with_reducible first | exact HB.out | apply below_alloc | apply pw_below_drewN | apply below_drew1 | refine below_set ?_ GE214.out | refine below_set ?_ GE234.out | refine below_set ?_ GE240.out | refine below_set ?_ GE254.out) | exact HB.out)⟩
         ·rw [if_neg c94] at H
          have c94b0 : decide (t267 < 0) = false := decide_eq_false c94
          clear c94
          by_cases c102 : t267 = t265
          ·rw [if_pos c102] at H
           have c102b0 : (t267 == t265) = true := beq_iff_eq.mpr c102
           have c102b1 : (t267 != t265) = false := bne_eq_false_iff_eq.mpr c102
           clear c102
           replace H := Option.bind_eq_some_iff.mp H
           obtain ⟨⟨t268, t269, t270⟩, A1030, H⟩ := H
           replace H : ((impl_EmptyScene.f kj61 t268 t269 t270 a1 a2).bind fun bt273 => ((laws_eqScene.f kj61 bt273.1 bt273.2.1 bt273.2.2.1 bt273.2.2.2.1 bt273.2.2.2.2.1 bt273.2.2.2.2.2.1 bt273.2.2.2.2.2.2.1 bt273.2.2.2.2.2.2.2.1 bt273.2.2.2.2.2.2.2.2.1 bt273.2.2.2.2.2.2.2.2.2.1 t221 t222 t223 t226 t227 t228 t229 t230 t231 t232).bind fun t287 => (if t287 = true then (laws_FnExactEmptyScene.j2 kj61 t265 (bt273.2.2.2.2.2.2.2.2.2.2 != t233) t241 t242 t266 t246 t247 t248 t249 t250 t251 t252) else (laws_FnExactEmptyScene.j2 kj61 t265 true t241 t242 t266 t246 t247 t248 t249 t250 t251 t252)))) = some r := H
           have A103 := Aside0.mk A1030
           clear A1030
           replace H := Option.bind_eq_some_iff.mp H
           obtain ⟨⟨t273, t274, t275, t278, t279, t280, t281, t282, t283, t284, t285⟩, A1040, H⟩ := H
           replace H : ((laws_eqScene.f kj61 t273 t274 t275 t278 t279 t280 t281 t282 t283 t284 t221 t222 t223 t226 t227 t228 t229 t230 t231 t232).bind fun t287 => (if t287 = true then (laws_FnExactEmptyScene.j2 kj61 t265 (t285 != t233) t241 t242 t266 t246 t247 t248 t249 t250 t251 t252) else (laws_FnExactEmptyScene.j2 kj61 t265 true t241 t242 t266 t246 t247 t248 t249 t250 t251 t252))) = some r := H
           have A104 := Aside0.mk A1040
           clear A1040
           have HC105 := Aside0.mk H
           clear H
           have hnb106 := NB254_214.out
           have hnc106 := NB214_254.out
           have hnb107 := NB254_234.out
           have hnc107 := NB234_254.out
           have hnb108 := NB254_240.out
           have hnc108 := NB240_254.out
           have hcz109_0 : wc.cell? ⟨gb254, 0, none⟩ = some (.int .i64 t241) := (blk_cell BK254.out 0).trans rfl
           have hcz109_1 : wc.cell? ⟨gb254, 1, none⟩ = some (.int .i64 t242) := (blk_cell BK254.out 1).trans rfl
           have hcz109_2 : wc.cell? ⟨gb254, 2, none⟩ = some (.slice Ao38 t243.length co38) := (blk_cell BK254.out 2).trans rfl
           have hcz109_3 : wc.cell? ⟨gb254, 3, none⟩ = some (.int .i64 t246) := (blk_cell BK254.out 3).trans rfl
           have hcz109_4 : wc.cell? ⟨gb254, 4, none⟩ = some (.int .i64 t247) := (blk_cell BK254.out 4).trans rfl
           have hcz109_5 : wc.cell? ⟨gb254, 5, none⟩ = some (.string t248) := (blk_cell BK254.out 5).trans rfl
           have hcz109_6 : wc.cell? ⟨gb254, 6, none⟩ = some (.int .i64 t249) := (blk_cell BK254.out 6).trans rfl
           have hcz109_7 : wc.cell? ⟨gb254, 7, none⟩ = some (.int .i64 t250) := (blk_cell BK254.out 7).trans rfl
           have hcz109_8 : wc.cell? ⟨gb254, 8, none⟩ = some (.int .i64 t251) := (blk_cell BK254.out 8).trans rfl
           have hcz109_9 : wc.cell? ⟨gb254, 9, none⟩ = some (.int .i64 t252) := (blk_cell BK254.out 9).trans rfl
           have hfz109_0 := blk_frozen BK254.out 0
           have hfz109_1 := blk_frozen BK254.out 1
           have hfz109_2 := blk_frozen BK254.out 2
           have hfz109_3 := blk_frozen BK254.out 3
           have hfz109_4 := blk_frozen BK254.out 4
           have hfz109_5 := blk_frozen BK254.out 5
           have hfz109_6 := blk_frozen BK254.out 6
           have hfz109_7 := blk_frozen BK254.out 7
           have hfz109_8 := blk_frozen BK254.out 8
           have hfz109_9 := blk_frozen BK254.out 9
           go_upto_region 25 with (first | ((with_reducible refine gate_callee (f := 34) rfl ?_); refine goesL_ (some 72) rfl rfl Try.func34 (by kernel_rfl) rfl #[.agg #[.int .i64 t241, .int .i64 t242, .slice Ao38 t243.length co38, .int .i64 t246, .int .i64 t247, .string t248, .int .i64 t249, .int .i64 t250, .int .i64 t251, .int .i64 t252], .int .i64 1] rfl (by (try simp only [List.map_toArray, List.map_cons, List.map_nil]); first | done | rfl | (simp only [List.length_drop, List.length_take]; rfl)) ?_; (with_reducible refine (laws_markScene.calls kj61 t241 t242 (fun k_ => some k_ = (.slice Ao38 t243.length co38 : Value).ownBlock) (.slice Ao38 t243.length co38) t243 t246 t247 t248 t249 t250 t251 t252 1 t265 t266 w _ ?side1 ?side2 A92.out).mono ?_); (case side1 => repeat (first | (with_reducible first | exact HB.out | apply below_alloc | apply pw_below_drewN | apply below_drew1 | refine below_set ?_ GE214.out | refine below_set ?_ GE234.out | refine below_set ?_ GE240.out | refine below_set ?_ GE254.out) | exact HB.out)); (case side2 => exact Kd.R_tight rfl HO_255002.out); rintro e w110 ⟨rfl, hy0, hb, hkp⟩; refine ⟨_, rfl, ?_⟩; have n0_ := Aside0.mk (Kd.R_mono (ok' := fun k_ => some k_ ≠ (.slice Ao31 t263.length co31 : Value).ownBlock ∧ some k_ ≠ (.slice Ao38 t243.length co38 : Value).ownBlock) (Kd.R_keptB (HO_235002.out) hkp (fun k_ hk_ hs_ => (hk_.2) hs_)) (fun k_ hk_ => ⟨hk_.1.1, hk_.1.2⟩)); have n1_ := Aside0.mk (Kd.R_mono (ok' := fun k_ => some k_ ≠ (.slice Ao24 t223.length co24 : Value).ownBlock ∧ some k_ ≠ (.slice Ao38 t243.length co38 : Value).ownBlock) (Kd.R_keptB (HO_241002.out) hkp (fun k_ hk_ hs_ => (hk_.2) hs_)) (fun k_ hk_ => ⟨hk_.1.1, hk_.1.2⟩)); have n2_ := Aside0.mk (Kd.R_reok rfl hy0 (fun k_ e_ => HO_255002.out.1 k_ e_)); have n3_ := Aside0.mk (blk_kept (dn BK214.out) hkp (fun hs_ => (fun e_ => (Kd.R_ne HO_255002.out BK214.out (by decide)) e_) hs_)); have n4_ := Aside0.mk (blk_kept (dn BK234.out) hkp (fun hs_ => (fun e_ => (Kd.R_ne HO_255002.out BK234.out (by decide)) e_) hs_)); have n5_ := Aside0.mk (blk_kept (dn BK240.out) hkp (fun hs_ => (fun e_ => (Kd.R_ne HO_255002.out BK240.out (by decide)) e_) hs_)); have n6_ := Aside0.mk (blk_kept (dn BK254.out) hkp (fun hs_ => (fun e_ => (Kd.R_ne HO_255002.out BK254.out (by decide)) e_) hs_)); have n7_ := Aside0.mk (hb); clear HO_235002; clear HO_241002; clear HO_255002; clear BK214; clear BK234; clear BK240; clear BK254; clear HB; have HO_235002 := n0_; have HO_241002 := n1_; have HO_255002 := n2_; have BK214 := n3_; have BK234 := n4_; have BK240 := n5_; have BK254 := n6_; have HB := n7_; clear n0_ n1_ n2_ n3_ n4_ n5_ n6_ n7_; (try clear hb); (try clear hkp); (try clear hy0); have hcz111_0 : w110.cell? ⟨gb254, 0, none⟩ = some (.int .i64 t241) := (blk_cell BK254.out 0).trans rfl; have hcz111_1 : w110.cell? ⟨gb254, 1, none⟩ = some (.int .i64 t242) := (blk_cell BK254.out 1).trans rfl; have hcz111_2 : w110.cell? ⟨gb254, 2, none⟩ = some (.slice Ao38 t243.length co38) := (blk_cell BK254.out 2).trans rfl; have hcz111_3 : w110.cell? ⟨gb254, 3, none⟩ = some (.int .i64 t246) := (blk_cell BK254.out 3).trans rfl; have hcz111_4 : w110.cell? ⟨gb254, 4, none⟩ = some (.int .i64 t247) := (blk_cell BK254.out 4).trans rfl; have hcz111_5 : w110.cell? ⟨gb254, 5, none⟩ = some (.string t248) := (blk_cell BK254.out 5).trans rfl; have hcz111_6 : w110.cell? ⟨gb254, 6, none⟩ = some (.int .i64 t249) := (blk_cell BK254.out 6).trans rfl; have hcz111_7 : w110.cell? ⟨gb254, 7, none⟩ = some (.int .i64 t250) := (blk_cell BK254.out 7).trans rfl; have hcz111_8 : w110.cell? ⟨gb254, 8, none⟩ = some (.int .i64 t251) := (blk_cell BK254.out 8).trans rfl; have hcz111_9 : w110.cell? ⟨gb254, 9, none⟩ = some (.int .i64 t252) := (blk_cell BK254.out 9).trans rfl; have hfz111_0 := blk_frozen BK254.out 0; have hfz111_1 := blk_frozen BK254.out 1; have hfz111_2 := blk_frozen BK254.out 2; have hfz111_3 := blk_frozen BK254.out 3; have hfz111_4 := blk_frozen BK254.out 4; have hfz111_5 := blk_frozen BK254.out 5; have hfz111_6 := blk_frozen BK254.out 6; have hfz111_7 := blk_frozen BK254.out 7; have hfz111_8 := blk_frozen BK254.out 8; have hfz111_9 := blk_frozen BK254.out 9) | ((with_reducible refine gate_callee (f := 35) rfl ?_); refine goesL_ (some 75) rfl rfl Try.func35 (by kernel_rfl) rfl #[.agg #[.int .i64 t241, .int .i64 t242, .slice Ao38 t266.length co38, .int .i64 t246, .int .i64 t247, .string t248, .int .i64 t249, .int .i64 t250, .int .i64 t251, .int .i64 t252], .int .i64 1] rfl (by (try simp only [List.map_toArray, List.map_cons, List.map_nil]); first | done | (rw [show t266.length = t243.length from (Kd.R_reads' HO_255002.out).1.symm] <;> rfl) | rfl | (simp only [List.length_drop, List.length_take]; rfl)) ?_; (with_reducible refine (laws_heldScene.calls kj61 t241 t242 _ _ t266 t246 t247 t248 t249 t250 t251 t252 1 t267 _ ?side1 ?side2 A93.out).mono ?_); (case side1 => repeat (first | exact (Kd.R_reads' HO_255002.out).2.2 | (with_reducible refine Kd.C_alloc ?_ _) | (with_reducible refine Kd.C_drewN ?_ _) | (with_reducible refine Kd.C_drew ?_))); (case side2 => rw [show t266.length = t243.length from (Kd.R_reads' HO_255002.out).1.symm]; exact (Kd.R_reads' HO_255002.out).2.1); rintro e w112 ⟨rfl, hb⟩; refine ⟨_, rfl, ?_⟩; have n0_ := Aside0.mk (Kd.R_below (rn HO_235002.out) hb); have n1_ := Aside0.mk (Kd.R_below (rn HO_241002.out) hb); have n2_ := Aside0.mk (Kd.R_below (rn HO_255002.out) hb); have n3_ := Aside0.mk (bb BK214.out hb); have n4_ := Aside0.mk (bb BK234.out hb); have n5_ := Aside0.mk (bb BK240.out hb); have n6_ := Aside0.mk (bb BK254.out hb); have n7_ := Aside0.mk (below_step (bl4 HB.out GE214.out GE234.out GE240.out GE254.out) hb); clear HO_235002; clear HO_241002; clear HO_255002; clear BK214; clear BK234; clear BK240; clear BK254; clear HB; have HO_235002 := n0_; have HO_241002 := n1_; have HO_255002 := n2_; have BK214 := n3_; have BK234 := n4_; have BK240 := n5_; have BK254 := n6_; have HB := n7_; clear n0_ n1_ n2_ n3_ n4_ n5_ n6_ n7_; (try clear hb); (try clear hb2); (try clear hk); (try clear hi); have hnb113 := NB214_234.out; have hnc113 := NB234_214.out; have hnb114 := NB214_240.out; have hnc114 := NB240_214.out; have hcz115_0 : w112.cell? ⟨gb214, 0, none⟩ = some (.int .i64 a0_0) := (blk_cell BK214.out 0).trans rfl; have hcz115_1 : w112.cell? ⟨gb214, 1, none⟩ = some (.int .i64 a0_1) := (blk_cell BK214.out 1).trans rfl; have hcz115_2 : w112.cell? ⟨gb214, 2, none⟩ = some (.slice A0_2 l0_2.length c0_2) := (blk_cell BK214.out 2).trans rfl; have hfz115_0 := blk_frozen BK214.out 0; have hfz115_1 := blk_frozen BK214.out 1; have hfz115_2 := blk_frozen BK214.out 2) | ((with_reducible refine gate_callee (f := 12) rfl ?_); refine goesL_ (some 83) rfl rfl Try.func12 (by kernel_rfl) rfl #[.agg #[.int .i64 a0_0, .int .i64 a0_1, .slice A0_2 l0_2.length c0_2]] rfl (by (try simp only [List.map_toArray, List.map_cons, List.map_nil]); first | done | rfl | (simp only [List.length_drop, List.length_take]; rfl)) ?_; (with_reducible refine (laws_toTable.calls kj61 a0_0 a0_1 _ _ l0_2 t268 t269 t270 _ ?side1 ?side2 A103.out).mono ?_); (case side1 => repeat (first | exact (Kd.C_below HR0_2.out HB.out) | (with_reducible refine Kd.C_alloc ?_ _) | (with_reducible refine Kd.C_drewN ?_ _) | (with_reducible refine Kd.C_drew ?_))); (case side2 => exact HC0_2.out); rintro e w116 ⟨v271, rfl, ho0, hb⟩; refine ⟨_, rfl, ?_⟩; have n0_ := Aside0.mk (Kd.R_elder' (rn HO_235002.out) (Kd.R_base ho0) hb); have n1_ := Aside0.mk (Kd.R_elder' (rn HO_241002.out) (Kd.R_base ho0) hb); have n2_ := Aside0.mk (Kd.R_elder' (rn HO_255002.out) (Kd.R_base ho0) hb); have n3_ := Aside0.mk (Kd.R_lower (Kd.R_new' (Kd.R_new' (Kd.R_new' ho0 (Kd.R_lt (rn HO_235002.out))) (Kd.R_lt (rn HO_241002.out))) (Kd.R_lt (rn HO_255002.out))) (below_size (bl4 HB.out GE214.out GE234.out GE240.out GE254.out))); have n4_ := Aside0.mk (bb BK214.out hb); have n5_ := Aside0.mk (bb BK234.out hb); have n6_ := Aside0.mk (bb BK240.out hb); have n7_ := Aside0.mk (bb BK254.out hb); have n8_ := Aside0.mk (below_step (bl4 HB.out GE214.out GE234.out GE240.out GE254.out) hb); clear HO_235002; clear HO_241002; clear HO_255002; clear BK214; clear BK234; clear BK240; clear BK254; clear HB; have HO_235002 := n0_; have HO_241002 := n1_; have HO_255002 := n2_; have HO272 := n3_; have BK214 := n4_; have BK234 := n5_; have BK240 := n6_; have BK254 := n7_; have HB := n8_; clear n0_ n1_ n2_ n3_ n4_ n5_ n6_ n7_ n8_; (try clear hb); (try clear hb2); (try clear hk); (try clear hi); (try clear ho0); obtain ⟨Ao117, co117, eo117⟩ := Kd.R_slice HO272.out; subst eo117) | ((with_reducible refine gate_callee (f := 33) rfl ?_); refine goesL_ (some 86) rfl rfl Try.func33 (by kernel_rfl) rfl #[.agg #[.int .i64 t268, .int .i64 t269, .slice Ao117 t270.length co117], .int .i64 a1, .int .i64 a2] rfl (by (try simp only [List.map_toArray, List.map_cons, List.map_nil]); first | done | rfl | (simp only [List.length_drop, List.length_take]; rfl)) ?_; (with_reducible refine (impl_EmptyScene.calls kj61 t268 t269 _ _ t270 a1 a2 t273 t274 t275 t278 t279 t280 t281 t282 t283 t284 t285 _ ?side1 ?side2 A104.out).mono ?_); (case side1 => repeat (first | exact (Kd.R_reads' HO272.out).2.2 | (with_reducible refine Kd.C_alloc ?_ _) | (with_reducible refine Kd.C_drewN ?_ _) | (with_reducible refine Kd.C_drew ?_))); (case side2 => exact (Kd.R_reads' HO272.out).2.1); rintro e w118 ⟨v276, rfl, ho0, hb⟩; refine ⟨_, rfl, ?_⟩; have n0_ := Aside0.mk (Kd.R_elder' (rn HO_235002.out) (Kd.R_base ho0) hb); have n1_ := Aside0.mk (Kd.R_elder' (rn HO_241002.out) (Kd.R_base ho0) hb); have n2_ := Aside0.mk (Kd.R_elder' (rn HO_255002.out) (Kd.R_base ho0) hb); have n3_ := Aside0.mk (Kd.R_elder' (rn HO272.out) (Kd.R_base ho0) hb); have n4_ := Aside0.mk (Kd.R_lower (Kd.R_new' (Kd.R_new' (Kd.R_new' (Kd.R_new' ho0 (Kd.R_lt (rn HO_235002.out))) (Kd.R_lt (rn HO_241002.out))) (Kd.R_lt (rn HO_255002.out))) (Kd.R_lt (rn HO272.out))) (below_size (bl4 HB.out GE214.out GE234.out GE240.out GE254.out))); have n5_ := Aside0.mk (bb BK214.out hb); have n6_ := Aside0.mk (bb BK234.out hb); have n7_ := Aside0.mk (bb BK240.out hb); have n8_ := Aside0.mk (bb BK254.out hb); have n9_ := Aside0.mk (below_step (bl4 HB.out GE214.out GE234.out GE240.out GE254.out) hb); clear HO_235002; clear HO_241002; clear HO_255002; clear HO272; clear BK214; clear BK234; clear BK240; clear BK254; clear HB; have HO_235002 := n0_; have HO_241002 := n1_; have HO_255002 := n2_; have HO272 := n3_; have HO277 := n4_; have BK214 := n5_; have BK234 := n6_; have BK240 := n7_; have BK254 := n8_; have HB := n9_; clear n0_ n1_ n2_ n3_ n4_ n5_ n6_ n7_ n8_ n9_; (try clear hb); (try clear hb2); (try clear hk); (try clear hi); (try clear ho0)) | ((with_reducible refine gate_dst (N := 16) rfl ?_); refine box_event ?hg (N := 16) ?hd (cs := #[.int .i64 0, .int .i64 0, .slice none 0 0, .int .i64 0, .int .i64 0, .string (⟨#[]⟩ : ByteArray), .int .i64 0, .int .i64 0, .int .i64 0, .int .i64 0]) (t := 45) ?hr ?_; (case hd => rfl); (case hg => rfl); (case hr => first | (go_simp; done) | (go_simp; rfl)); intro gb286 hg w119 hbox hb; have n0_ := Aside0.mk (Kd.R_below (rn HO_235002.out) hb); have n1_ := Aside0.mk (Kd.R_below (rn HO_241002.out) hb); have n2_ := Aside0.mk (Kd.R_below (rn HO_255002.out) hb); have n3_ := Aside0.mk (Kd.R_below (rn HO272.out) hb); have n4_ := Aside0.mk (Kd.R_below (rn HO277.out) hb); have n5_ := Aside0.mk (bb BK214.out hb); have n6_ := Aside0.mk (bb BK234.out hb); have n7_ := Aside0.mk (bb BK240.out hb); have n8_ := Aside0.mk (bb BK254.out hb); have n9_ := Aside0.mk (below_step (bl4 HB.out GE214.out GE234.out GE240.out GE254.out) hb); have n10_ := Aside0.mk (hbox); have n11_ := Aside0.mk ((by rw [hg]; exact (below_size (bl4 HB.out GE214.out GE234.out GE240.out GE254.out)) : w.heap.size ≤ gb286)); have n12_ := Aside0.mk ((by rw [hg]; exact (below_size (bl4 HB.out GE214.out GE234.out GE240.out GE254.out)) : w.heap.size ≤ gb286)); have n13_ := Aside0.mk ((by rw [hg]; exact Nat.ne_of_lt (bq BK214.out) : gb214 ≠ gb286)); have n14_ := Aside0.mk ((by rw [hg]; exact Nat.ne_of_gt (bq BK214.out) : gb286 ≠ gb214)); have n15_ := Aside0.mk ((by rw [hg]; exact Nat.ne_of_lt (bq BK234.out) : gb234 ≠ gb286)); have n16_ := Aside0.mk ((by rw [hg]; exact Nat.ne_of_gt (bq BK234.out) : gb286 ≠ gb234)); have n17_ := Aside0.mk ((by rw [hg]; exact Nat.ne_of_lt (bq BK240.out) : gb240 ≠ gb286)); have n18_ := Aside0.mk ((by rw [hg]; exact Nat.ne_of_gt (bq BK240.out) : gb286 ≠ gb240)); have n19_ := Aside0.mk ((by rw [hg]; exact Nat.ne_of_lt (bq BK254.out) : gb254 ≠ gb286)); have n20_ := Aside0.mk ((by rw [hg]; exact Nat.ne_of_gt (bq BK254.out) : gb286 ≠ gb254)); clear HO_235002; clear HO_241002; clear HO_255002; clear HO272; clear HO277; clear BK214; clear BK234; clear BK240; clear BK254; clear HB; have HO_235002 := n0_; have HO_241002 := n1_; have HO_255002 := n2_; have HO272 := n3_; have HO277 := n4_; have BK214 := n5_; have BK234 := n6_; have BK240 := n7_; have BK254 := n8_; have HB := n9_; have BK286 := n10_; have GW286 := n11_; have GE286 := n12_; have NB214_286 := n13_; have NB286_214 := n14_; have NB234_286 := n15_; have NB286_234 := n16_; have NB240_286 := n17_; have NB286_240 := n18_; have NB254_286 := n19_; have NB286_254 := n20_; clear n0_ n1_ n2_ n3_ n4_ n5_ n6_ n7_ n8_ n9_ n10_ n11_ n12_ n13_ n14_ n15_ n16_ n17_ n18_ n19_ n20_; clear hb hbox hg; have hnb120 := NB286_214.out; have hnc120 := NB214_286.out; have hnb121 := NB286_234.out; have hnc121 := NB234_286.out; have hnb122 := NB286_240.out; have hnc122 := NB240_286.out; have hnb123 := NB286_254.out; have hnc123 := NB254_286.out; have hcz124_0 : w119.cell? ⟨gb286, 0, none⟩ = some (.int .i64 0) := (blk_cell BK286.out 0).trans rfl; have hcz124_1 : w119.cell? ⟨gb286, 1, none⟩ = some (.int .i64 0) := (blk_cell BK286.out 1).trans rfl; have hcz124_2 : w119.cell? ⟨gb286, 2, none⟩ = some (.slice none 0 0) := (blk_cell BK286.out 2).trans rfl; have hcz124_3 : w119.cell? ⟨gb286, 3, none⟩ = some (.int .i64 0) := (blk_cell BK286.out 3).trans rfl; have hcz124_4 : w119.cell? ⟨gb286, 4, none⟩ = some (.int .i64 0) := (blk_cell BK286.out 4).trans rfl; have hcz124_5 : w119.cell? ⟨gb286, 5, none⟩ = some (.string (⟨#[]⟩ : ByteArray)) := (blk_cell BK286.out 5).trans rfl; have hcz124_6 : w119.cell? ⟨gb286, 6, none⟩ = some (.int .i64 0) := (blk_cell BK286.out 6).trans rfl; have hcz124_7 : w119.cell? ⟨gb286, 7, none⟩ = some (.int .i64 0) := (blk_cell BK286.out 7).trans rfl; have hcz124_8 : w119.cell? ⟨gb286, 8, none⟩ = some (.int .i64 0) := (blk_cell BK286.out 8).trans rfl; have hcz124_9 : w119.cell? ⟨gb286, 9, none⟩ = some (.int .i64 0) := (blk_cell BK286.out 9).trans rfl; have hfz124_0 := blk_frozen BK286.out 0; have hfz124_1 := blk_frozen BK286.out 1; have hfz124_2 := blk_frozen BK286.out 2; have hfz124_3 := blk_frozen BK286.out 3; have hfz124_4 := blk_frozen BK286.out 4; have hfz124_5 := blk_frozen BK286.out 5; have hfz124_6 := blk_frozen BK286.out 6; have hfz124_7 := blk_frozen BK286.out 7; have hfz124_8 := blk_frozen BK286.out 8; have hfz124_9 := blk_frozen BK286.out 9; obtain ⟨Ao125, co125, eo125⟩ := Kd.R_slice HO277.out; subst eo125))
           (try simp only [Act.put, List.setIfInBounds_toArray, List.set_cons_zero, List.set_cons_succ])
           go_cut [97] (fun v97 wc => ∃ (kq : Nat) (x97_104 : Bool), v97 = .bool x97_104 ∧ Aside0 (laws_FnExactEmptyScene.j2 kq t265 x97_104 t241 t242 t266 t246 t247 t248 t249 t250 t251 t252 = some r) ∧ Aside0 (kq ≤ kj61) ∧ Aside0 (Kd.R k27 27 wc w.heap.size (fun k_ => some k_ ≠ ((.slice Ao31 t263.length co31) : Value).ownBlock ∧ some k_ ≠ ((.slice Ao38 t243.length co38) : Value).ownBlock ∧ some k_ ≠ ((.slice Ao125 t275.length co125) : Value).ownBlock) (.slice Ao24 t223.length co24) t223) ∧ Aside0 (Kd.R k27 27 wc w.heap.size (fun k_ => some k_ ≠ ((.slice Ao24 t223.length co24) : Value).ownBlock ∧ some k_ ≠ ((.slice Ao38 t243.length co38) : Value).ownBlock ∧ some k_ ≠ ((.slice Ao125 t275.length co125) : Value).ownBlock) (.slice Ao31 t263.length co31) t263) ∧ Aside0 (Kd.R k27 27 wc w.heap.size (fun k_ => some k_ ≠ ((.slice Ao24 t223.length co24) : Value).ownBlock ∧ some k_ ≠ ((.slice Ao31 t263.length co31) : Value).ownBlock ∧ some k_ ≠ ((.slice Ao125 t275.length co125) : Value).ownBlock) (.slice Ao38 t243.length co38) t266) ∧ Aside0 (Kd.R k27 27 wc w.heap.size (fun k_ => some k_ ≠ ((.slice Ao24 t223.length co24) : Value).ownBlock ∧ some k_ ≠ ((.slice Ao31 t263.length co31) : Value).ownBlock ∧ some k_ ≠ ((.slice Ao38 t243.length co38) : Value).ownBlock) (.slice Ao125 t275.length co125) t275) ∧ Aside0 (wc.heap[gb214]? = some (.cells #[.int .i64 a0_0, .int .i64 a0_1, (.slice A0_2 l0_2.length c0_2)] 24 (0, 0))) ∧ Aside0 (wc.heap[gb234]? = some (.cells #[.int .i64 t221, .int .i64 t222, (.slice Ao24 t223.length co24), .int .i64 t226, .int .i64 t227, .string t228, .int .i64 t229, .int .i64 t230, .int .i64 t231, .int .i64 t232] 45 (0, 0))) ∧ Aside0 (wc.heap[gb240]? = some (.cells #[.int .i64 t235, .int .i64 t236, (.slice Ao31 t263.length co31)] 32 (0, 0))) ∧ Aside0 (wc.heap[gb254]? = some (.cells #[.int .i64 t241, .int .i64 t242, (.slice Ao38 t243.length co38), .int .i64 t246, .int .i64 t247, .string t248, .int .i64 t249, .int .i64 t250, .int .i64 t251, .int .i64 t252] 45 (0, 0))) ∧ Aside0 (wc.heap[gb286]? = some (.cells #[.int .i64 t273, .int .i64 t274, (.slice Ao125 t275.length co125), .int .i64 t278, .int .i64 t279, .string t280, .int .i64 t281, .int .i64 t282, .int .i64 t283, .int .i64 t284] 45 (0, 0))) ∧ Aside0 (Below w.heap.size w wc))
           case first =>
            have H := HC105.out
            clear HC105
            replace H := Option.bind_eq_some_iff.mp H
            obtain ⟨t287, A1260, H⟩ := H
            replace H : (if t287 = true then (laws_FnExactEmptyScene.j2 kj61 t265 (t285 != t233) t241 t242 t266 t246 t247 t248 t249 t250 t251 t252) else (laws_FnExactEmptyScene.j2 kj61 t265 true t241 t242 t266 t246 t247 t248 t249 t250 t251 t252)) = some r := H
            have A126 := Aside0.mk A1260
            clear A1260
            by_cases c127 : t287 = true
            ·subst c127
             have H1 : (laws_FnExactEmptyScene.j2 kj61 t265 (t285 != t233) t241 t242 t266 t246 t247 t248 t249 t250 t251 t252) = some r := by rw [if_pos rfl] at H; exact H
             clear H
             have H := H1
             clear H1
             have H' := Aside0.mk H
             clear H
             have hnb128 := NB286_214.out
             have hnc128 := NB214_286.out
             have hnb129 := NB286_234.out
             have hnc129 := NB234_286.out
             have hnb130 := NB286_240.out
             have hnc130 := NB240_286.out
             have hnb131 := NB286_254.out
             have hnc131 := NB254_286.out
             have hcz132_0 : w119.cell? ⟨gb286, 0, none⟩ = some (.int .i64 0) := (blk_cell BK286.out 0).trans rfl
             have hcz132_1 : w119.cell? ⟨gb286, 1, none⟩ = some (.int .i64 0) := (blk_cell BK286.out 1).trans rfl
             have hcz132_2 : w119.cell? ⟨gb286, 2, none⟩ = some (.slice none 0 0) := (blk_cell BK286.out 2).trans rfl
             have hcz132_3 : w119.cell? ⟨gb286, 3, none⟩ = some (.int .i64 0) := (blk_cell BK286.out 3).trans rfl
             have hcz132_4 : w119.cell? ⟨gb286, 4, none⟩ = some (.int .i64 0) := (blk_cell BK286.out 4).trans rfl
             have hcz132_5 : w119.cell? ⟨gb286, 5, none⟩ = some (.string (⟨#[]⟩ : ByteArray)) := (blk_cell BK286.out 5).trans rfl
             have hcz132_6 : w119.cell? ⟨gb286, 6, none⟩ = some (.int .i64 0) := (blk_cell BK286.out 6).trans rfl
             have hcz132_7 : w119.cell? ⟨gb286, 7, none⟩ = some (.int .i64 0) := (blk_cell BK286.out 7).trans rfl
             have hcz132_8 : w119.cell? ⟨gb286, 8, none⟩ = some (.int .i64 0) := (blk_cell BK286.out 8).trans rfl
             have hcz132_9 : w119.cell? ⟨gb286, 9, none⟩ = some (.int .i64 0) := (blk_cell BK286.out 9).trans rfl
             have hfz132_0 := blk_frozen BK286.out 0
             have hfz132_1 := blk_frozen BK286.out 1
             have hfz132_2 := blk_frozen BK286.out 2
             have hfz132_3 := blk_frozen BK286.out 3
             have hfz132_4 := blk_frozen BK286.out 4
             have hfz132_5 := blk_frozen BK286.out 5
             have hfz132_6 := blk_frozen BK286.out 6
             have hfz132_7 := blk_frozen BK286.out 7
             have hfz132_8 := blk_frozen BK286.out 8
             have hfz132_9 := blk_frozen BK286.out 9
             have hnb133 := NB234_214.out
             have hnc133 := NB214_234.out
             have hnb134 := NB234_240.out
             have hnc134 := NB240_234.out
             have hnb135 := NB234_254.out
             have hnc135 := NB254_234.out
             have hcz136_0 : w119.cell? ⟨gb234, 0, none⟩ = some (.int .i64 t221) := (blk_cell BK234.out 0).trans rfl
             have hcz136_1 : w119.cell? ⟨gb234, 1, none⟩ = some (.int .i64 t222) := (blk_cell BK234.out 1).trans rfl
             have hcz136_2 : w119.cell? ⟨gb234, 2, none⟩ = some (.slice Ao24 t223.length co24) := (blk_cell BK234.out 2).trans rfl
             have hcz136_3 : w119.cell? ⟨gb234, 3, none⟩ = some (.int .i64 t226) := (blk_cell BK234.out 3).trans rfl
             have hcz136_4 : w119.cell? ⟨gb234, 4, none⟩ = some (.int .i64 t227) := (blk_cell BK234.out 4).trans rfl
             have hcz136_5 : w119.cell? ⟨gb234, 5, none⟩ = some (.string t228) := (blk_cell BK234.out 5).trans rfl
             have hcz136_6 : w119.cell? ⟨gb234, 6, none⟩ = some (.int .i64 t229) := (blk_cell BK234.out 6).trans rfl
             have hcz136_7 : w119.cell? ⟨gb234, 7, none⟩ = some (.int .i64 t230) := (blk_cell BK234.out 7).trans rfl
             have hcz136_8 : w119.cell? ⟨gb234, 8, none⟩ = some (.int .i64 t231) := (blk_cell BK234.out 8).trans rfl
             have hcz136_9 : w119.cell? ⟨gb234, 9, none⟩ = some (.int .i64 t232) := (blk_cell BK234.out 9).trans rfl
             have hfz136_0 := blk_frozen BK234.out 0
             have hfz136_1 := blk_frozen BK234.out 1
             have hfz136_2 := blk_frozen BK234.out 2
             have hfz136_3 := blk_frozen BK234.out 3
             have hfz136_4 := blk_frozen BK234.out 4
             have hfz136_5 := blk_frozen BK234.out 5
             have hfz136_6 := blk_frozen BK234.out 6
             have hfz136_7 := blk_frozen BK234.out 7
             have hfz136_8 := blk_frozen BK234.out 8
             have hfz136_9 := blk_frozen BK234.out 9
             go_wp2_with (first | ((with_reducible refine gate_callee (f := 22) rfl ?_); refine goesL_ (some 91) rfl rfl Try.func22 (by kernel_rfl) rfl #[.agg #[.int .i64 t273, .int .i64 t274, .slice Ao125 t275.length co125, .int .i64 t278, .int .i64 t279, .string t280, .int .i64 t281, .int .i64 t282, .int .i64 t283, .int .i64 t284], .agg #[.int .i64 t221, .int .i64 t222, .slice Ao24 t223.length co24, .int .i64 t226, .int .i64 t227, .string t228, .int .i64 t229, .int .i64 t230, .int .i64 t231, .int .i64 t232]] rfl (by (try simp only [List.map_toArray, List.map_cons, List.map_nil]); first | done | rfl | (simp only [List.length_drop, List.length_take]; rfl)) ?_; (with_reducible refine (laws_eqScene.calls kj61 t273 t274 _ _ t275 t278 t279 t280 t281 t282 t283 t284 t221 t222 _ _ t223 t226 t227 t228 t229 t230 t231 t232 true _ ?side1 ?side2 ?side3 ?side4 A126.out).mono ?_); (case side1 => refine (Kd.R_reads' (e := 27) (base := w.heap.size) (ok := fun k_ => ((((True ∧ some k_ ≠ (.slice Ao24 t223.length co24 : Value).ownBlock) ∧ some k_ ≠ (.slice Ao31 t263.length co31 : Value).ownBlock) ∧ some k_ ≠ (.slice Ao38 t243.length co38 : Value).ownBlock) ∧ some k_ ≠ (.slice Ao117 t270.length co117 : Value).ownBlock)) (n := t275.length) (c := co125) ?_).2.2; exact (by (with_reducible repeat (first | apply Kd.R_alloc | apply Kd.R_drewN | apply Kd.R_drew)); exact (Kd.R_mono (Kd.R_far (p := ⟨gb286, 9, none⟩) (Kd.R_far (p := ⟨gb286, 8, none⟩) (Kd.R_far (p := ⟨gb286, 7, none⟩) (Kd.R_far (p := ⟨gb286, 6, none⟩) (Kd.R_far (p := ⟨gb286, 5, none⟩) (Kd.R_far (p := ⟨gb286, 4, none⟩) (Kd.R_far (p := ⟨gb286, 3, none⟩) (Kd.R_far (p := ⟨gb286, 2, none⟩) (Kd.R_far (p := ⟨gb286, 1, none⟩) (Kd.R_far (p := ⟨gb286, 0, none⟩) (Kd.R_types HO277.out BK286.out (by decide)) (fun _ hk => hk.2) (.int .i64 t273)) (fun _ hk => hk.2) (.int .i64 t274)) (fun _ hk => hk.2) (.slice Ao125 t275.length co125)) (fun _ hk => hk.2) (.int .i64 t278)) (fun _ hk => hk.2) (.int .i64 t279)) (fun _ hk => hk.2) (.string t280)) (fun _ hk => hk.2) (.int .i64 t281)) (fun _ hk => hk.2) (.int .i64 t282)) (fun _ hk => hk.2) (.int .i64 t283)) (fun _ hk => hk.2) (.int .i64 t284)) (fun _ h_ => h_.1)))); (case side2 => exact (Kd.R_reads' HO277.out).2.1); (case side3 => refine (Kd.R_reads' (e := 27) (base := w.heap.size) (ok := fun k_ => (((some k_ ≠ (.slice Ao31 t263.length co31 : Value).ownBlock ∧ some k_ ≠ (.slice Ao38 t243.length co38 : Value).ownBlock) ∧ some k_ ≠ (.slice Ao117 t270.length co117 : Value).ownBlock) ∧ some k_ ≠ (.slice Ao125 t275.length co125 : Value).ownBlock)) (n := t223.length) (c := co24) ?_).2.2; exact (by (with_reducible repeat (first | apply Kd.R_alloc | apply Kd.R_drewN | apply Kd.R_drew)); exact (Kd.R_mono (Kd.R_far (p := ⟨gb286, 9, none⟩) (Kd.R_far (p := ⟨gb286, 8, none⟩) (Kd.R_far (p := ⟨gb286, 7, none⟩) (Kd.R_far (p := ⟨gb286, 6, none⟩) (Kd.R_far (p := ⟨gb286, 5, none⟩) (Kd.R_far (p := ⟨gb286, 4, none⟩) (Kd.R_far (p := ⟨gb286, 3, none⟩) (Kd.R_far (p := ⟨gb286, 2, none⟩) (Kd.R_far (p := ⟨gb286, 1, none⟩) (Kd.R_far (p := ⟨gb286, 0, none⟩) (Kd.R_types HO_235002.out BK286.out (by decide)) (fun _ hk => hk.2) (.int .i64 t273)) (fun _ hk => hk.2) (.int .i64 t274)) (fun _ hk => hk.2) (.slice Ao125 t275.length co125)) (fun _ hk => hk.2) (.int .i64 t278)) (fun _ hk => hk.2) (.int .i64 t279)) (fun _ hk => hk.2) (.string t280)) (fun _ hk => hk.2) (.int .i64 t281)) (fun _ hk => hk.2) (.int .i64 t282)) (fun _ hk => hk.2) (.int .i64 t283)) (fun _ hk => hk.2) (.int .i64 t284)) (fun _ h_ => h_.1)))); (case side4 => exact (Kd.R_reads' HO_235002.out).2.1); rintro e w137 ⟨rfl, hb⟩; refine ⟨_, rfl, ?_⟩; have n0_ := Aside0.mk (Kd.R_below (by (with_reducible repeat (first | apply Kd.R_alloc | apply Kd.R_drewN | apply Kd.R_drew)); exact (Kd.R_mono (Kd.R_far (p := ⟨gb286, 9, none⟩) (Kd.R_far (p := ⟨gb286, 8, none⟩) (Kd.R_far (p := ⟨gb286, 7, none⟩) (Kd.R_far (p := ⟨gb286, 6, none⟩) (Kd.R_far (p := ⟨gb286, 5, none⟩) (Kd.R_far (p := ⟨gb286, 4, none⟩) (Kd.R_far (p := ⟨gb286, 3, none⟩) (Kd.R_far (p := ⟨gb286, 2, none⟩) (Kd.R_far (p := ⟨gb286, 1, none⟩) (Kd.R_far (p := ⟨gb286, 0, none⟩) (Kd.R_types HO_235002.out BK286.out (by decide)) (fun _ hk => hk.2) (.int .i64 t273)) (fun _ hk => hk.2) (.int .i64 t274)) (fun _ hk => hk.2) (.slice Ao125 t275.length co125)) (fun _ hk => hk.2) (.int .i64 t278)) (fun _ hk => hk.2) (.int .i64 t279)) (fun _ hk => hk.2) (.string t280)) (fun _ hk => hk.2) (.int .i64 t281)) (fun _ hk => hk.2) (.int .i64 t282)) (fun _ hk => hk.2) (.int .i64 t283)) (fun _ hk => hk.2) (.int .i64 t284)) (fun _ h_ => h_.1))) hb); have n1_ := Aside0.mk (Kd.R_below (by (with_reducible repeat (first | apply Kd.R_alloc | apply Kd.R_drewN | apply Kd.R_drew)); exact (Kd.R_mono (Kd.R_far (p := ⟨gb286, 9, none⟩) (Kd.R_far (p := ⟨gb286, 8, none⟩) (Kd.R_far (p := ⟨gb286, 7, none⟩) (Kd.R_far (p := ⟨gb286, 6, none⟩) (Kd.R_far (p := ⟨gb286, 5, none⟩) (Kd.R_far (p := ⟨gb286, 4, none⟩) (Kd.R_far (p := ⟨gb286, 3, none⟩) (Kd.R_far (p := ⟨gb286, 2, none⟩) (Kd.R_far (p := ⟨gb286, 1, none⟩) (Kd.R_far (p := ⟨gb286, 0, none⟩) (Kd.R_types HO_241002.out BK286.out (by decide)) (fun _ hk => hk.2) (.int .i64 t273)) (fun _ hk => hk.2) (.int .i64 t274)) (fun _ hk => hk.2) (.slice Ao125 t275.length co125)) (fun _ hk => hk.2) (.int .i64 t278)) (fun _ hk => hk.2) (.int .i64 t279)) (fun _ hk => hk.2) (.string t280)) (fun _ hk => hk.2) (.int .i64 t281)) (fun _ hk => hk.2) (.int .i64 t282)) (fun _ hk => hk.2) (.int .i64 t283)) (fun _ hk => hk.2) (.int .i64 t284)) (fun _ h_ => h_.1))) hb); have n2_ := Aside0.mk (Kd.R_below (by (with_reducible repeat (first | apply Kd.R_alloc | apply Kd.R_drewN | apply Kd.R_drew)); exact (Kd.R_mono (Kd.R_far (p := ⟨gb286, 9, none⟩) (Kd.R_far (p := ⟨gb286, 8, none⟩) (Kd.R_far (p := ⟨gb286, 7, none⟩) (Kd.R_far (p := ⟨gb286, 6, none⟩) (Kd.R_far (p := ⟨gb286, 5, none⟩) (Kd.R_far (p := ⟨gb286, 4, none⟩) (Kd.R_far (p := ⟨gb286, 3, none⟩) (Kd.R_far (p := ⟨gb286, 2, none⟩) (Kd.R_far (p := ⟨gb286, 1, none⟩) (Kd.R_far (p := ⟨gb286, 0, none⟩) (Kd.R_types HO_255002.out BK286.out (by decide)) (fun _ hk => hk.2) (.int .i64 t273)) (fun _ hk => hk.2) (.int .i64 t274)) (fun _ hk => hk.2) (.slice Ao125 t275.length co125)) (fun _ hk => hk.2) (.int .i64 t278)) (fun _ hk => hk.2) (.int .i64 t279)) (fun _ hk => hk.2) (.string t280)) (fun _ hk => hk.2) (.int .i64 t281)) (fun _ hk => hk.2) (.int .i64 t282)) (fun _ hk => hk.2) (.int .i64 t283)) (fun _ hk => hk.2) (.int .i64 t284)) (fun _ h_ => h_.1))) hb); have n3_ := Aside0.mk (Kd.R_below (by (with_reducible repeat (first | apply Kd.R_alloc | apply Kd.R_drewN | apply Kd.R_drew)); exact (Kd.R_mono (Kd.R_far (p := ⟨gb286, 9, none⟩) (Kd.R_far (p := ⟨gb286, 8, none⟩) (Kd.R_far (p := ⟨gb286, 7, none⟩) (Kd.R_far (p := ⟨gb286, 6, none⟩) (Kd.R_far (p := ⟨gb286, 5, none⟩) (Kd.R_far (p := ⟨gb286, 4, none⟩) (Kd.R_far (p := ⟨gb286, 3, none⟩) (Kd.R_far (p := ⟨gb286, 2, none⟩) (Kd.R_far (p := ⟨gb286, 1, none⟩) (Kd.R_far (p := ⟨gb286, 0, none⟩) (Kd.R_types HO272.out BK286.out (by decide)) (fun _ hk => hk.2) (.int .i64 t273)) (fun _ hk => hk.2) (.int .i64 t274)) (fun _ hk => hk.2) (.slice Ao125 t275.length co125)) (fun _ hk => hk.2) (.int .i64 t278)) (fun _ hk => hk.2) (.int .i64 t279)) (fun _ hk => hk.2) (.string t280)) (fun _ hk => hk.2) (.int .i64 t281)) (fun _ hk => hk.2) (.int .i64 t282)) (fun _ hk => hk.2) (.int .i64 t283)) (fun _ hk => hk.2) (.int .i64 t284)) (fun _ h_ => h_.1))) hb); have n4_ := Aside0.mk (Kd.R_below (by (with_reducible repeat (first | apply Kd.R_alloc | apply Kd.R_drewN | apply Kd.R_drew)); exact (Kd.R_mono (Kd.R_far (p := ⟨gb286, 9, none⟩) (Kd.R_far (p := ⟨gb286, 8, none⟩) (Kd.R_far (p := ⟨gb286, 7, none⟩) (Kd.R_far (p := ⟨gb286, 6, none⟩) (Kd.R_far (p := ⟨gb286, 5, none⟩) (Kd.R_far (p := ⟨gb286, 4, none⟩) (Kd.R_far (p := ⟨gb286, 3, none⟩) (Kd.R_far (p := ⟨gb286, 2, none⟩) (Kd.R_far (p := ⟨gb286, 1, none⟩) (Kd.R_far (p := ⟨gb286, 0, none⟩) (Kd.R_types HO277.out BK286.out (by decide)) (fun _ hk => hk.2) (.int .i64 t273)) (fun _ hk => hk.2) (.int .i64 t274)) (fun _ hk => hk.2) (.slice Ao125 t275.length co125)) (fun _ hk => hk.2) (.int .i64 t278)) (fun _ hk => hk.2) (.int .i64 t279)) (fun _ hk => hk.2) (.string t280)) (fun _ hk => hk.2) (.int .i64 t281)) (fun _ hk => hk.2) (.int .i64 t282)) (fun _ hk => hk.2) (.int .i64 t283)) (fun _ hk => hk.2) (.int .i64 t284)) (fun _ h_ => h_.1))) hb); have n5_ := Aside0.mk (blk_below (g := gb214) (o := .cells #[.int .i64 a0_0, .int .i64 a0_1, .slice A0_2 l0_2.length c0_2] 24 (0, 0)) (by (with_reducible repeat (first | refine blk_drewN ?_ _ | refine blk_drew ?_ | refine blk_alloc ?_ _)); refine blk_far ?_ NB214_286.out _; (with_reducible repeat (first | refine blk_drewN ?_ _ | refine blk_drew ?_ | refine blk_alloc ?_ _)); refine blk_far ?_ NB214_286.out _; (with_reducible repeat (first | refine blk_drewN ?_ _ | refine blk_drew ?_ | refine blk_alloc ?_ _)); refine blk_far ?_ NB214_286.out _; (with_reducible repeat (first | refine blk_drewN ?_ _ | refine blk_drew ?_ | refine blk_alloc ?_ _)); refine blk_far ?_ NB214_286.out _; (with_reducible repeat (first | refine blk_drewN ?_ _ | refine blk_drew ?_ | refine blk_alloc ?_ _)); refine blk_far ?_ NB214_286.out _; (with_reducible repeat (first | refine blk_drewN ?_ _ | refine blk_drew ?_ | refine blk_alloc ?_ _)); refine blk_far ?_ NB214_286.out _; (with_reducible repeat (first | refine blk_drewN ?_ _ | refine blk_drew ?_ | refine blk_alloc ?_ _)); refine blk_far ?_ NB214_286.out _; (with_reducible repeat (first | refine blk_drewN ?_ _ | refine blk_drew ?_ | refine blk_alloc ?_ _)); refine blk_far ?_ NB214_286.out _; (with_reducible repeat (first | refine blk_drewN ?_ _ | refine blk_drew ?_ | refine blk_alloc ?_ _)); refine blk_far ?_ NB214_286.out _; (with_reducible repeat (first | refine blk_drewN ?_ _ | refine blk_drew ?_ | refine blk_alloc ?_ _)); refine blk_far ?_ NB214_286.out _; (with_reducible repeat (first | refine blk_drewN ?_ _ | refine blk_drew ?_ | refine blk_alloc ?_ _)); exact BK214.out) hb); have n6_ := Aside0.mk (blk_below (g := gb234) (o := .cells #[.int .i64 t221, .int .i64 t222, .slice Ao24 t223.length co24, .int .i64 t226, .int .i64 t227, .string t228, .int .i64 t229, .int .i64 t230, .int .i64 t231, .int .i64 t232] 45 (0, 0)) (by (with_reducible repeat (first | refine blk_drewN ?_ _ | refine blk_drew ?_ | refine blk_alloc ?_ _)); refine blk_far ?_ NB234_286.out _; (with_reducible repeat (first | refine blk_drewN ?_ _ | refine blk_drew ?_ | refine blk_alloc ?_ _)); refine blk_far ?_ NB234_286.out _; (with_reducible repeat (first | refine blk_drewN ?_ _ | refine blk_drew ?_ | refine blk_alloc ?_ _)); refine blk_far ?_ NB234_286.out _; (with_reducible repeat (first | refine blk_drewN ?_ _ | refine blk_drew ?_ | refine blk_alloc ?_ _)); refine blk_far ?_ NB234_286.out _; (with_reducible repeat (first | refine blk_drewN ?_ _ | refine blk_drew ?_ | refine blk_alloc ?_ _)); refine blk_far ?_ NB234_286.out _; (with_reducible repeat (first | refine blk_drewN ?_ _ | refine blk_drew ?_ | refine blk_alloc ?_ _)); refine blk_far ?_ NB234_286.out _; (with_reducible repeat (first | refine blk_drewN ?_ _ | refine blk_drew ?_ | refine blk_alloc ?_ _)); refine blk_far ?_ NB234_286.out _; (with_reducible repeat (first | refine blk_drewN ?_ _ | refine blk_drew ?_ | refine blk_alloc ?_ _)); refine blk_far ?_ NB234_286.out _; (with_reducible repeat (first | refine blk_drewN ?_ _ | refine blk_drew ?_ | refine blk_alloc ?_ _)); refine blk_far ?_ NB234_286.out _; (with_reducible repeat (first | refine blk_drewN ?_ _ | refine blk_drew ?_ | refine blk_alloc ?_ _)); refine blk_far ?_ NB234_286.out _; (with_reducible repeat (first | refine blk_drewN ?_ _ | refine blk_drew ?_ | refine blk_alloc ?_ _)); exact BK234.out) hb); have n7_ := Aside0.mk (blk_below (g := gb240) (o := .cells #[.int .i64 t235, .int .i64 t236, .slice Ao31 t263.length co31] 32 (0, 0)) (by (with_reducible repeat (first | refine blk_drewN ?_ _ | refine blk_drew ?_ | refine blk_alloc ?_ _)); refine blk_far ?_ NB240_286.out _; (with_reducible repeat (first | refine blk_drewN ?_ _ | refine blk_drew ?_ | refine blk_alloc ?_ _)); refine blk_far ?_ NB240_286.out _; (with_reducible repeat (first | refine blk_drewN ?_ _ | refine blk_drew ?_ | refine blk_alloc ?_ _)); refine blk_far ?_ NB240_286.out _; (with_reducible repeat (first | refine blk_drewN ?_ _ | refine blk_drew ?_ | refine blk_alloc ?_ _)); refine blk_far ?_ NB240_286.out _; (with_reducible repeat (first | refine blk_drewN ?_ _ | refine blk_drew ?_ | refine blk_alloc ?_ _)); refine blk_far ?_ NB240_286.out _; (with_reducible repeat (first | refine blk_drewN ?_ _ | refine blk_drew ?_ | refine blk_alloc ?_ _)); refine blk_far ?_ NB240_286.out _; (with_reducible repeat (first | refine blk_drewN ?_ _ | refine blk_drew ?_ | refine blk_alloc ?_ _)); refine blk_far ?_ NB240_286.out _; (with_reducible repeat (first | refine blk_drewN ?_ _ | refine blk_drew ?_ | refine blk_alloc ?_ _)); refine blk_far ?_ NB240_286.out _; (with_reducible repeat (first | refine blk_drewN ?_ _ | refine blk_drew ?_ | refine blk_alloc ?_ _)); refine blk_far ?_ NB240_286.out _; (with_reducible repeat (first | refine blk_drewN ?_ _ | refine blk_drew ?_ | refine blk_alloc ?_ _)); refine blk_far ?_ NB240_286.out _; (with_reducible repeat (first | refine blk_drewN ?_ _ | refine blk_drew ?_ | refine blk_alloc ?_ _)); exact BK240.out) hb); have n8_ := Aside0.mk (blk_below (g := gb254) (o := .cells #[.int .i64 t241, .int .i64 t242, .slice Ao38 t243.length co38, .int .i64 t246, .int .i64 t247, .string t248, .int .i64 t249, .int .i64 t250, .int .i64 t251, .int .i64 t252] 45 (0, 0)) (by (with_reducible repeat (first | refine blk_drewN ?_ _ | refine blk_drew ?_ | refine blk_alloc ?_ _)); refine blk_far ?_ NB254_286.out _; (with_reducible repeat (first | refine blk_drewN ?_ _ | refine blk_drew ?_ | refine blk_alloc ?_ _)); refine blk_far ?_ NB254_286.out _; (with_reducible repeat (first | refine blk_drewN ?_ _ | refine blk_drew ?_ | refine blk_alloc ?_ _)); refine blk_far ?_ NB254_286.out _; (with_reducible repeat (first | refine blk_drewN ?_ _ | refine blk_drew ?_ | refine blk_alloc ?_ _)); refine blk_far ?_ NB254_286.out _; (with_reducible repeat (first | refine blk_drewN ?_ _ | refine blk_drew ?_ | refine blk_alloc ?_ _)); refine blk_far ?_ NB254_286.out _; (with_reducible repeat (first | refine blk_drewN ?_ _ | refine blk_drew ?_ | refine blk_alloc ?_ _)); refine blk_far ?_ NB254_286.out _; (with_reducible repeat (first | refine blk_drewN ?_ _ | refine blk_drew ?_ | refine blk_alloc ?_ _)); refine blk_far ?_ NB254_286.out _; (with_reducible repeat (first | refine blk_drewN ?_ _ | refine blk_drew ?_ | refine blk_alloc ?_ _)); refine blk_far ?_ NB254_286.out _; (with_reducible repeat (first | refine blk_drewN ?_ _ | refine blk_drew ?_ | refine blk_alloc ?_ _)); refine blk_far ?_ NB254_286.out _; (with_reducible repeat (first | refine blk_drewN ?_ _ | refine blk_drew ?_ | refine blk_alloc ?_ _)); refine blk_far ?_ NB254_286.out _; (with_reducible repeat (first | refine blk_drewN ?_ _ | refine blk_drew ?_ | refine blk_alloc ?_ _)); exact BK254.out) hb); have n9_ := Aside0.mk (blk_below (g := gb286) (o := .cells #[.int .i64 t273, .int .i64 t274, .slice Ao125 t275.length co125, .int .i64 t278, .int .i64 t279, .string t280, .int .i64 t281, .int .i64 t282, .int .i64 t283, .int .i64 t284] 45 (0, 0)) (by (with_reducible repeat (first | refine blk_drewN ?_ _ | refine blk_drew ?_ | refine blk_alloc ?_ _)); refine blk_put (cs := #[.int .i64 t273, .int .i64 t274, .slice Ao125 t275.length co125, .int .i64 t278, .int .i64 t279, .string t280, .int .i64 t281, .int .i64 t282, .int .i64 t283, .int .i64 0]) ?_ 9 _ rfl; (with_reducible repeat (first | refine blk_drewN ?_ _ | refine blk_drew ?_ | refine blk_alloc ?_ _)); refine blk_put (cs := #[.int .i64 t273, .int .i64 t274, .slice Ao125 t275.length co125, .int .i64 t278, .int .i64 t279, .string t280, .int .i64 t281, .int .i64 t282, .int .i64 0, .int .i64 0]) ?_ 8 _ rfl; (with_reducible repeat (first | refine blk_drewN ?_ _ | refine blk_drew ?_ | refine blk_alloc ?_ _)); refine blk_put (cs := #[.int .i64 t273, .int .i64 t274, .slice Ao125 t275.length co125, .int .i64 t278, .int .i64 t279, .string t280, .int .i64 t281, .int .i64 0, .int .i64 0, .int .i64 0]) ?_ 7 _ rfl; (with_reducible repeat (first | refine blk_drewN ?_ _ | refine blk_drew ?_ | refine blk_alloc ?_ _)); refine blk_put (cs := #[.int .i64 t273, .int .i64 t274, .slice Ao125 t275.length co125, .int .i64 t278, .int .i64 t279, .string t280, .int .i64 0, .int .i64 0, .int .i64 0, .int .i64 0]) ?_ 6 _ rfl; (with_reducible repeat (first | refine blk_drewN ?_ _ | refine blk_drew ?_ | refine blk_alloc ?_ _)); refine blk_put (cs := #[.int .i64 t273, .int .i64 t274, .slice Ao125 t275.length co125, .int .i64 t278, .int .i64 t279, .string (⟨#[]⟩ : ByteArray), .int .i64 0, .int .i64 0, .int .i64 0, .int .i64 0]) ?_ 5 _ rfl; (with_reducible repeat (first | refine blk_drewN ?_ _ | refine blk_drew ?_ | refine blk_alloc ?_ _)); refine blk_put (cs := #[.int .i64 t273, .int .i64 t274, .slice Ao125 t275.length co125, .int .i64 t278, .int .i64 0, .string (⟨#[]⟩ : ByteArray), .int .i64 0, .int .i64 0, .int .i64 0, .int .i64 0]) ?_ 4 _ rfl; (with_reducible repeat (first | refine blk_drewN ?_ _ | refine blk_drew ?_ | refine blk_alloc ?_ _)); refine blk_put (cs := #[.int .i64 t273, .int .i64 t274, .slice Ao125 t275.length co125, .int .i64 0, .int .i64 0, .string (⟨#[]⟩ : ByteArray), .int .i64 0, .int .i64 0, .int .i64 0, .int .i64 0]) ?_ 3 _ rfl; (with_reducible repeat (first | refine blk_drewN ?_ _ | refine blk_drew ?_ | refine blk_alloc ?_ _)); refine blk_put (cs := #[.int .i64 t273, .int .i64 t274, .slice none 0 0, .int .i64 0, .int .i64 0, .string (⟨#[]⟩ : ByteArray), .int .i64 0, .int .i64 0, .int .i64 0, .int .i64 0]) ?_ 2 _ rfl; (with_reducible repeat (first | refine blk_drewN ?_ _ | refine blk_drew ?_ | refine blk_alloc ?_ _)); refine blk_put (cs := #[.int .i64 t273, .int .i64 0, .slice none 0 0, .int .i64 0, .int .i64 0, .string (⟨#[]⟩ : ByteArray), .int .i64 0, .int .i64 0, .int .i64 0, .int .i64 0]) ?_ 1 _ rfl; (with_reducible repeat (first | refine blk_drewN ?_ _ | refine blk_drew ?_ | refine blk_alloc ?_ _)); refine blk_put (cs := #[.int .i64 0, .int .i64 0, .slice none 0 0, .int .i64 0, .int .i64 0, .string (⟨#[]⟩ : ByteArray), .int .i64 0, .int .i64 0, .int .i64 0, .int .i64 0]) ?_ 0 _ rfl; (with_reducible repeat (first | refine blk_drewN ?_ _ | refine blk_drew ?_ | refine blk_alloc ?_ _)); exact BK286.out) hb); have n10_ := Aside0.mk (below_step (bl5 HB.out GE214.out GE234.out GE240.out GE254.out GE286.out) hb); clear HO_235002; clear HO_241002; clear HO_255002; clear HO272; clear HO277; clear BK214; clear BK234; clear BK240; clear BK254; clear BK286; clear HB; have HO_235002 := n0_; have HO_241002 := n1_; have HO_255002 := n2_; have HO272 := n3_; have HO277 := n4_; have BK214 := n5_; have BK234 := n6_; have BK240 := n7_; have BK254 := n8_; have BK286 := n9_; have HB := n10_; clear n0_ n1_ n2_ n3_ n4_ n5_ n6_ n7_ n8_ n9_ n10_; (try clear hb); (try clear hb2); (try clear hk); (try clear hi)))
             go_meet
             case rel => exact ⟨_, ((t285 != t233)), (by first | rfl | (simp; done) | (simp [*]; done)), H', ⟨by have := HJ12.out; have := HJ61.out; first | omega | exact Nat.le_refl _⟩, ⟨by (try simp only [hl241002_61]); (with_reducible repeat (first | apply Kd.R_alloc | apply Kd.R_drewN | apply Kd.R_drew)); exact Kd.R_mono HO_235002.out (fun _ hk => ⟨hk.1.1.1, ⟨hk.1.1.2, hk.2⟩⟩)⟩, ⟨by (try simp only [hl241002_61]); (with_reducible repeat (first | apply Kd.R_alloc | apply Kd.R_drewN | apply Kd.R_drew)); exact Kd.R_mono HO_241002.out (fun _ hk => ⟨hk.1.1.1, ⟨hk.1.1.2, hk.2⟩⟩)⟩, ⟨by (try simp only [hl241002_61]); (with_reducible repeat (first | apply Kd.R_alloc | apply Kd.R_drewN | apply Kd.R_drew)); exact Kd.R_mono HO_255002.out (fun _ hk => ⟨hk.1.1.1, ⟨hk.1.1.2, hk.2⟩⟩)⟩, ⟨by (try simp only [hl241002_61]); (with_reducible repeat (first | apply Kd.R_alloc | apply Kd.R_drewN | apply Kd.R_drew)); exact Kd.R_mono HO277.out (fun _ hk => ⟨hk.1.1.1.2, ⟨hk.1.1.2, hk.1.2⟩⟩)⟩, ⟨by (try simp only [hl241002_61]); (with_reducible repeat (first | refine blk_drewN ?_ _ | refine blk_drew ?_ | refine blk_alloc ?_ _)); exact BK214.out⟩, ⟨by (try simp only [hl241002_61]); (with_reducible repeat (first | refine blk_drewN ?_ _ | refine blk_drew ?_ | refine blk_alloc ?_ _)); exact BK234.out⟩, ⟨by (try simp only [hl241002_61]); (with_reducible repeat (first | refine blk_drewN ?_ _ | refine blk_drew ?_ | refine blk_alloc ?_ _)); exact BK240.out⟩, ⟨by (try simp only [hl241002_61]); (with_reducible repeat (first | refine blk_drewN ?_ _ | refine blk_drew ?_ | refine blk_alloc ?_ _)); exact BK254.out⟩, ⟨by (try simp only [hl241002_61]); (with_reducible repeat (first | refine blk_drewN ?_ _ | refine blk_drew ?_ | refine blk_alloc ?_ _)); exact BK286.out⟩, ⟨by repeat (first | (with_reducible first | exact HB.out | apply below_alloc | apply pw_below_drewN | apply below_drew1 | refine below_set ?_ GE214.out | refine below_set ?_ GE234.out | refine below_set ?_ GE240.out | refine below_set ?_ GE254.out | refine below_set ?_ GE286.out) | exact HB.out)⟩⟩
            ·replace c127 := Bool.eq_false_iff.mpr c127
             subst c127
             have H1 : (laws_FnExactEmptyScene.j2 kj61 t265 true t241 t242 t266 t246 t247 t248 t249 t250 t251 t252) = some r := by rw [if_neg (show ¬ (false = true) by decide)] at H; exact H
             clear H
             have H := H1
             clear H1
             have H' := Aside0.mk H
             clear H
             have hnb138 := NB286_214.out
             have hnc138 := NB214_286.out
             have hnb139 := NB286_234.out
             have hnc139 := NB234_286.out
             have hnb140 := NB286_240.out
             have hnc140 := NB240_286.out
             have hnb141 := NB286_254.out
             have hnc141 := NB254_286.out
             have hcz142_0 : w119.cell? ⟨gb286, 0, none⟩ = some (.int .i64 0) := (blk_cell BK286.out 0).trans rfl
             have hcz142_1 : w119.cell? ⟨gb286, 1, none⟩ = some (.int .i64 0) := (blk_cell BK286.out 1).trans rfl
             have hcz142_2 : w119.cell? ⟨gb286, 2, none⟩ = some (.slice none 0 0) := (blk_cell BK286.out 2).trans rfl
             have hcz142_3 : w119.cell? ⟨gb286, 3, none⟩ = some (.int .i64 0) := (blk_cell BK286.out 3).trans rfl
             have hcz142_4 : w119.cell? ⟨gb286, 4, none⟩ = some (.int .i64 0) := (blk_cell BK286.out 4).trans rfl
             have hcz142_5 : w119.cell? ⟨gb286, 5, none⟩ = some (.string (⟨#[]⟩ : ByteArray)) := (blk_cell BK286.out 5).trans rfl
             have hcz142_6 : w119.cell? ⟨gb286, 6, none⟩ = some (.int .i64 0) := (blk_cell BK286.out 6).trans rfl
             have hcz142_7 : w119.cell? ⟨gb286, 7, none⟩ = some (.int .i64 0) := (blk_cell BK286.out 7).trans rfl
             have hcz142_8 : w119.cell? ⟨gb286, 8, none⟩ = some (.int .i64 0) := (blk_cell BK286.out 8).trans rfl
             have hcz142_9 : w119.cell? ⟨gb286, 9, none⟩ = some (.int .i64 0) := (blk_cell BK286.out 9).trans rfl
             have hfz142_0 := blk_frozen BK286.out 0
             have hfz142_1 := blk_frozen BK286.out 1
             have hfz142_2 := blk_frozen BK286.out 2
             have hfz142_3 := blk_frozen BK286.out 3
             have hfz142_4 := blk_frozen BK286.out 4
             have hfz142_5 := blk_frozen BK286.out 5
             have hfz142_6 := blk_frozen BK286.out 6
             have hfz142_7 := blk_frozen BK286.out 7
             have hfz142_8 := blk_frozen BK286.out 8
             have hfz142_9 := blk_frozen BK286.out 9
             have hnb143 := NB234_214.out
             have hnc143 := NB214_234.out
             have hnb144 := NB234_240.out
             have hnc144 := NB240_234.out
             have hnb145 := NB234_254.out
             have hnc145 := NB254_234.out
             have hcz146_0 : w119.cell? ⟨gb234, 0, none⟩ = some (.int .i64 t221) := (blk_cell BK234.out 0).trans rfl
             have hcz146_1 : w119.cell? ⟨gb234, 1, none⟩ = some (.int .i64 t222) := (blk_cell BK234.out 1).trans rfl
             have hcz146_2 : w119.cell? ⟨gb234, 2, none⟩ = some (.slice Ao24 t223.length co24) := (blk_cell BK234.out 2).trans rfl
             have hcz146_3 : w119.cell? ⟨gb234, 3, none⟩ = some (.int .i64 t226) := (blk_cell BK234.out 3).trans rfl
             have hcz146_4 : w119.cell? ⟨gb234, 4, none⟩ = some (.int .i64 t227) := (blk_cell BK234.out 4).trans rfl
             have hcz146_5 : w119.cell? ⟨gb234, 5, none⟩ = some (.string t228) := (blk_cell BK234.out 5).trans rfl
             have hcz146_6 : w119.cell? ⟨gb234, 6, none⟩ = some (.int .i64 t229) := (blk_cell BK234.out 6).trans rfl
             have hcz146_7 : w119.cell? ⟨gb234, 7, none⟩ = some (.int .i64 t230) := (blk_cell BK234.out 7).trans rfl
             have hcz146_8 : w119.cell? ⟨gb234, 8, none⟩ = some (.int .i64 t231) := (blk_cell BK234.out 8).trans rfl
             have hcz146_9 : w119.cell? ⟨gb234, 9, none⟩ = some (.int .i64 t232) := (blk_cell BK234.out 9).trans rfl
             have hfz146_0 := blk_frozen BK234.out 0
             have hfz146_1 := blk_frozen BK234.out 1
             have hfz146_2 := blk_frozen BK234.out 2
             have hfz146_3 := blk_frozen BK234.out 3
             have hfz146_4 := blk_frozen BK234.out 4
             have hfz146_5 := blk_frozen BK234.out 5
             have hfz146_6 := blk_frozen BK234.out 6
             have hfz146_7 := blk_frozen BK234.out 7
             have hfz146_8 := blk_frozen BK234.out 8
             have hfz146_9 := blk_frozen BK234.out 9
             go_wp2_with (first | ((with_reducible refine gate_callee (f := 22) rfl ?_); refine goesL_ (some 91) rfl rfl Try.func22 (by kernel_rfl) rfl #[.agg #[.int .i64 t273, .int .i64 t274, .slice Ao125 t275.length co125, .int .i64 t278, .int .i64 t279, .string t280, .int .i64 t281, .int .i64 t282, .int .i64 t283, .int .i64 t284], .agg #[.int .i64 t221, .int .i64 t222, .slice Ao24 t223.length co24, .int .i64 t226, .int .i64 t227, .string t228, .int .i64 t229, .int .i64 t230, .int .i64 t231, .int .i64 t232]] rfl (by (try simp only [List.map_toArray, List.map_cons, List.map_nil]); first | done | rfl | (simp only [List.length_drop, List.length_take]; rfl)) ?_; (with_reducible refine (laws_eqScene.calls kj61 t273 t274 _ _ t275 t278 t279 t280 t281 t282 t283 t284 t221 t222 _ _ t223 t226 t227 t228 t229 t230 t231 t232 false _ ?side1 ?side2 ?side3 ?side4 A126.out).mono ?_); (case side1 => refine (Kd.R_reads' (e := 27) (base := w.heap.size) (ok := fun k_ => ((((True ∧ some k_ ≠ (.slice Ao24 t223.length co24 : Value).ownBlock) ∧ some k_ ≠ (.slice Ao31 t263.length co31 : Value).ownBlock) ∧ some k_ ≠ (.slice Ao38 t243.length co38 : Value).ownBlock) ∧ some k_ ≠ (.slice Ao117 t270.length co117 : Value).ownBlock)) (n := t275.length) (c := co125) ?_).2.2; exact (by (with_reducible repeat (first | apply Kd.R_alloc | apply Kd.R_drewN | apply Kd.R_drew)); exact (Kd.R_mono (Kd.R_far (p := ⟨gb286, 9, none⟩) (Kd.R_far (p := ⟨gb286, 8, none⟩) (Kd.R_far (p := ⟨gb286, 7, none⟩) (Kd.R_far (p := ⟨gb286, 6, none⟩) (Kd.R_far (p := ⟨gb286, 5, none⟩) (Kd.R_far (p := ⟨gb286, 4, none⟩) (Kd.R_far (p := ⟨gb286, 3, none⟩) (Kd.R_far (p := ⟨gb286, 2, none⟩) (Kd.R_far (p := ⟨gb286, 1, none⟩) (Kd.R_far (p := ⟨gb286, 0, none⟩) (Kd.R_types HO277.out BK286.out (by decide)) (fun _ hk => hk.2) (.int .i64 t273)) (fun _ hk => hk.2) (.int .i64 t274)) (fun _ hk => hk.2) (.slice Ao125 t275.length co125)) (fun _ hk => hk.2) (.int .i64 t278)) (fun _ hk => hk.2) (.int .i64 t279)) (fun _ hk => hk.2) (.string t280)) (fun _ hk => hk.2) (.int .i64 t281)) (fun _ hk => hk.2) (.int .i64 t282)) (fun _ hk => hk.2) (.int .i64 t283)) (fun _ hk => hk.2) (.int .i64 t284)) (fun _ h_ => h_.1)))); (case side2 => exact (Kd.R_reads' HO277.out).2.1); (case side3 => refine (Kd.R_reads' (e := 27) (base := w.heap.size) (ok := fun k_ => (((some k_ ≠ (.slice Ao31 t263.length co31 : Value).ownBlock ∧ some k_ ≠ (.slice Ao38 t243.length co38 : Value).ownBlock) ∧ some k_ ≠ (.slice Ao117 t270.length co117 : Value).ownBlock) ∧ some k_ ≠ (.slice Ao125 t275.length co125 : Value).ownBlock)) (n := t223.length) (c := co24) ?_).2.2; exact (by (with_reducible repeat (first | apply Kd.R_alloc | apply Kd.R_drewN | apply Kd.R_drew)); exact (Kd.R_mono (Kd.R_far (p := ⟨gb286, 9, none⟩) (Kd.R_far (p := ⟨gb286, 8, none⟩) (Kd.R_far (p := ⟨gb286, 7, none⟩) (Kd.R_far (p := ⟨gb286, 6, none⟩) (Kd.R_far (p := ⟨gb286, 5, none⟩) (Kd.R_far (p := ⟨gb286, 4, none⟩) (Kd.R_far (p := ⟨gb286, 3, none⟩) (Kd.R_far (p := ⟨gb286, 2, none⟩) (Kd.R_far (p := ⟨gb286, 1, none⟩) (Kd.R_far (p := ⟨gb286, 0, none⟩) (Kd.R_types HO_235002.out BK286.out (by decide)) (fun _ hk => hk.2) (.int .i64 t273)) (fun _ hk => hk.2) (.int .i64 t274)) (fun _ hk => hk.2) (.slice Ao125 t275.length co125)) (fun _ hk => hk.2) (.int .i64 t278)) (fun _ hk => hk.2) (.int .i64 t279)) (fun _ hk => hk.2) (.string t280)) (fun _ hk => hk.2) (.int .i64 t281)) (fun _ hk => hk.2) (.int .i64 t282)) (fun _ hk => hk.2) (.int .i64 t283)) (fun _ hk => hk.2) (.int .i64 t284)) (fun _ h_ => h_.1)))); (case side4 => exact (Kd.R_reads' HO_235002.out).2.1); rintro e w147 ⟨rfl, hb⟩; refine ⟨_, rfl, ?_⟩; have n0_ := Aside0.mk (Kd.R_below (by (with_reducible repeat (first | apply Kd.R_alloc | apply Kd.R_drewN | apply Kd.R_drew)); exact (Kd.R_mono (Kd.R_far (p := ⟨gb286, 9, none⟩) (Kd.R_far (p := ⟨gb286, 8, none⟩) (Kd.R_far (p := ⟨gb286, 7, none⟩) (Kd.R_far (p := ⟨gb286, 6, none⟩) (Kd.R_far (p := ⟨gb286, 5, none⟩) (Kd.R_far (p := ⟨gb286, 4, none⟩) (Kd.R_far (p := ⟨gb286, 3, none⟩) (Kd.R_far (p := ⟨gb286, 2, none⟩) (Kd.R_far (p := ⟨gb286, 1, none⟩) (Kd.R_far (p := ⟨gb286, 0, none⟩) (Kd.R_types HO_235002.out BK286.out (by decide)) (fun _ hk => hk.2) (.int .i64 t273)) (fun _ hk => hk.2) (.int .i64 t274)) (fun _ hk => hk.2) (.slice Ao125 t275.length co125)) (fun _ hk => hk.2) (.int .i64 t278)) (fun _ hk => hk.2) (.int .i64 t279)) (fun _ hk => hk.2) (.string t280)) (fun _ hk => hk.2) (.int .i64 t281)) (fun _ hk => hk.2) (.int .i64 t282)) (fun _ hk => hk.2) (.int .i64 t283)) (fun _ hk => hk.2) (.int .i64 t284)) (fun _ h_ => h_.1))) hb); have n1_ := Aside0.mk (Kd.R_below (by (with_reducible repeat (first | apply Kd.R_alloc | apply Kd.R_drewN | apply Kd.R_drew)); exact (Kd.R_mono (Kd.R_far (p := ⟨gb286, 9, none⟩) (Kd.R_far (p := ⟨gb286, 8, none⟩) (Kd.R_far (p := ⟨gb286, 7, none⟩) (Kd.R_far (p := ⟨gb286, 6, none⟩) (Kd.R_far (p := ⟨gb286, 5, none⟩) (Kd.R_far (p := ⟨gb286, 4, none⟩) (Kd.R_far (p := ⟨gb286, 3, none⟩) (Kd.R_far (p := ⟨gb286, 2, none⟩) (Kd.R_far (p := ⟨gb286, 1, none⟩) (Kd.R_far (p := ⟨gb286, 0, none⟩) (Kd.R_types HO_241002.out BK286.out (by decide)) (fun _ hk => hk.2) (.int .i64 t273)) (fun _ hk => hk.2) (.int .i64 t274)) (fun _ hk => hk.2) (.slice Ao125 t275.length co125)) (fun _ hk => hk.2) (.int .i64 t278)) (fun _ hk => hk.2) (.int .i64 t279)) (fun _ hk => hk.2) (.string t280)) (fun _ hk => hk.2) (.int .i64 t281)) (fun _ hk => hk.2) (.int .i64 t282)) (fun _ hk => hk.2) (.int .i64 t283)) (fun _ hk => hk.2) (.int .i64 t284)) (fun _ h_ => h_.1))) hb); have n2_ := Aside0.mk (Kd.R_below (by (with_reducible repeat (first | apply Kd.R_alloc | apply Kd.R_drewN | apply Kd.R_drew)); exact (Kd.R_mono (Kd.R_far (p := ⟨gb286, 9, none⟩) (Kd.R_far (p := ⟨gb286, 8, none⟩) (Kd.R_far (p := ⟨gb286, 7, none⟩) (Kd.R_far (p := ⟨gb286, 6, none⟩) (Kd.R_far (p := ⟨gb286, 5, none⟩) (Kd.R_far (p := ⟨gb286, 4, none⟩) (Kd.R_far (p := ⟨gb286, 3, none⟩) (Kd.R_far (p := ⟨gb286, 2, none⟩) (Kd.R_far (p := ⟨gb286, 1, none⟩) (Kd.R_far (p := ⟨gb286, 0, none⟩) (Kd.R_types HO_255002.out BK286.out (by decide)) (fun _ hk => hk.2) (.int .i64 t273)) (fun _ hk => hk.2) (.int .i64 t274)) (fun _ hk => hk.2) (.slice Ao125 t275.length co125)) (fun _ hk => hk.2) (.int .i64 t278)) (fun _ hk => hk.2) (.int .i64 t279)) (fun _ hk => hk.2) (.string t280)) (fun _ hk => hk.2) (.int .i64 t281)) (fun _ hk => hk.2) (.int .i64 t282)) (fun _ hk => hk.2) (.int .i64 t283)) (fun _ hk => hk.2) (.int .i64 t284)) (fun _ h_ => h_.1))) hb); have n3_ := Aside0.mk (Kd.R_below (by (with_reducible repeat (first | apply Kd.R_alloc | apply Kd.R_drewN | apply Kd.R_drew)); exact (Kd.R_mono (Kd.R_far (p := ⟨gb286, 9, none⟩) (Kd.R_far (p := ⟨gb286, 8, none⟩) (Kd.R_far (p := ⟨gb286, 7, none⟩) (Kd.R_far (p := ⟨gb286, 6, none⟩) (Kd.R_far (p := ⟨gb286, 5, none⟩) (Kd.R_far (p := ⟨gb286, 4, none⟩) (Kd.R_far (p := ⟨gb286, 3, none⟩) (Kd.R_far (p := ⟨gb286, 2, none⟩) (Kd.R_far (p := ⟨gb286, 1, none⟩) (Kd.R_far (p := ⟨gb286, 0, none⟩) (Kd.R_types HO272.out BK286.out (by decide)) (fun _ hk => hk.2) (.int .i64 t273)) (fun _ hk => hk.2) (.int .i64 t274)) (fun _ hk => hk.2) (.slice Ao125 t275.length co125)) (fun _ hk => hk.2) (.int .i64 t278)) (fun _ hk => hk.2) (.int .i64 t279)) (fun _ hk => hk.2) (.string t280)) (fun _ hk => hk.2) (.int .i64 t281)) (fun _ hk => hk.2) (.int .i64 t282)) (fun _ hk => hk.2) (.int .i64 t283)) (fun _ hk => hk.2) (.int .i64 t284)) (fun _ h_ => h_.1))) hb); have n4_ := Aside0.mk (Kd.R_below (by (with_reducible repeat (first | apply Kd.R_alloc | apply Kd.R_drewN | apply Kd.R_drew)); exact (Kd.R_mono (Kd.R_far (p := ⟨gb286, 9, none⟩) (Kd.R_far (p := ⟨gb286, 8, none⟩) (Kd.R_far (p := ⟨gb286, 7, none⟩) (Kd.R_far (p := ⟨gb286, 6, none⟩) (Kd.R_far (p := ⟨gb286, 5, none⟩) (Kd.R_far (p := ⟨gb286, 4, none⟩) (Kd.R_far (p := ⟨gb286, 3, none⟩) (Kd.R_far (p := ⟨gb286, 2, none⟩) (Kd.R_far (p := ⟨gb286, 1, none⟩) (Kd.R_far (p := ⟨gb286, 0, none⟩) (Kd.R_types HO277.out BK286.out (by decide)) (fun _ hk => hk.2) (.int .i64 t273)) (fun _ hk => hk.2) (.int .i64 t274)) (fun _ hk => hk.2) (.slice Ao125 t275.length co125)) (fun _ hk => hk.2) (.int .i64 t278)) (fun _ hk => hk.2) (.int .i64 t279)) (fun _ hk => hk.2) (.string t280)) (fun _ hk => hk.2) (.int .i64 t281)) (fun _ hk => hk.2) (.int .i64 t282)) (fun _ hk => hk.2) (.int .i64 t283)) (fun _ hk => hk.2) (.int .i64 t284)) (fun _ h_ => h_.1))) hb); have n5_ := Aside0.mk (blk_below (g := gb214) (o := .cells #[.int .i64 a0_0, .int .i64 a0_1, .slice A0_2 l0_2.length c0_2] 24 (0, 0)) (by (with_reducible repeat (first | refine blk_drewN ?_ _ | refine blk_drew ?_ | refine blk_alloc ?_ _)); refine blk_far ?_ NB214_286.out _; (with_reducible repeat (first | refine blk_drewN ?_ _ | refine blk_drew ?_ | refine blk_alloc ?_ _)); refine blk_far ?_ NB214_286.out _; (with_reducible repeat (first | refine blk_drewN ?_ _ | refine blk_drew ?_ | refine blk_alloc ?_ _)); refine blk_far ?_ NB214_286.out _; (with_reducible repeat (first | refine blk_drewN ?_ _ | refine blk_drew ?_ | refine blk_alloc ?_ _)); refine blk_far ?_ NB214_286.out _; (with_reducible repeat (first | refine blk_drewN ?_ _ | refine blk_drew ?_ | refine blk_alloc ?_ _)); refine blk_far ?_ NB214_286.out _; (with_reducible repeat (first | refine blk_drewN ?_ _ | refine blk_drew ?_ | refine blk_alloc ?_ _)); refine blk_far ?_ NB214_286.out _; (with_reducible repeat (first | refine blk_drewN ?_ _ | refine blk_drew ?_ | refine blk_alloc ?_ _)); refine blk_far ?_ NB214_286.out _; (with_reducible repeat (first | refine blk_drewN ?_ _ | refine blk_drew ?_ | refine blk_alloc ?_ _)); refine blk_far ?_ NB214_286.out _; (with_reducible repeat (first | refine blk_drewN ?_ _ | refine blk_drew ?_ | refine blk_alloc ?_ _)); refine blk_far ?_ NB214_286.out _; (with_reducible repeat (first | refine blk_drewN ?_ _ | refine blk_drew ?_ | refine blk_alloc ?_ _)); refine blk_far ?_ NB214_286.out _; (with_reducible repeat (first | refine blk_drewN ?_ _ | refine blk_drew ?_ | refine blk_alloc ?_ _)); exact BK214.out) hb); have n6_ := Aside0.mk (blk_below (g := gb234) (o := .cells #[.int .i64 t221, .int .i64 t222, .slice Ao24 t223.length co24, .int .i64 t226, .int .i64 t227, .string t228, .int .i64 t229, .int .i64 t230, .int .i64 t231, .int .i64 t232] 45 (0, 0)) (by (with_reducible repeat (first | refine blk_drewN ?_ _ | refine blk_drew ?_ | refine blk_alloc ?_ _)); refine blk_far ?_ NB234_286.out _; (with_reducible repeat (first | refine blk_drewN ?_ _ | refine blk_drew ?_ | refine blk_alloc ?_ _)); refine blk_far ?_ NB234_286.out _; (with_reducible repeat (first | refine blk_drewN ?_ _ | refine blk_drew ?_ | refine blk_alloc ?_ _)); refine blk_far ?_ NB234_286.out _; (with_reducible repeat (first | refine blk_drewN ?_ _ | refine blk_drew ?_ | refine blk_alloc ?_ _)); refine blk_far ?_ NB234_286.out _; (with_reducible repeat (first | refine blk_drewN ?_ _ | refine blk_drew ?_ | refine blk_alloc ?_ _)); refine blk_far ?_ NB234_286.out _; (with_reducible repeat (first | refine blk_drewN ?_ _ | refine blk_drew ?_ | refine blk_alloc ?_ _)); refine blk_far ?_ NB234_286.out _; (with_reducible repeat (first | refine blk_drewN ?_ _ | refine blk_drew ?_ | refine blk_alloc ?_ _)); refine blk_far ?_ NB234_286.out _; (with_reducible repeat (first | refine blk_drewN ?_ _ | refine blk_drew ?_ | refine blk_alloc ?_ _)); refine blk_far ?_ NB234_286.out _; (with_reducible repeat (first | refine blk_drewN ?_ _ | refine blk_drew ?_ | refine blk_alloc ?_ _)); refine blk_far ?_ NB234_286.out _; (with_reducible repeat (first | refine blk_drewN ?_ _ | refine blk_drew ?_ | refine blk_alloc ?_ _)); refine blk_far ?_ NB234_286.out _; (with_reducible repeat (first | refine blk_drewN ?_ _ | refine blk_drew ?_ | refine blk_alloc ?_ _)); exact BK234.out) hb); have n7_ := Aside0.mk (blk_below (g := gb240) (o := .cells #[.int .i64 t235, .int .i64 t236, .slice Ao31 t263.length co31] 32 (0, 0)) (by (with_reducible repeat (first | refine blk_drewN ?_ _ | refine blk_drew ?_ | refine blk_alloc ?_ _)); refine blk_far ?_ NB240_286.out _; (with_reducible repeat (first | refine blk_drewN ?_ _ | refine blk_drew ?_ | refine blk_alloc ?_ _)); refine blk_far ?_ NB240_286.out _; (with_reducible repeat (first | refine blk_drewN ?_ _ | refine blk_drew ?_ | refine blk_alloc ?_ _)); refine blk_far ?_ NB240_286.out _; (with_reducible repeat (first | refine blk_drewN ?_ _ | refine blk_drew ?_ | refine blk_alloc ?_ _)); refine blk_far ?_ NB240_286.out _; (with_reducible repeat (first | refine blk_drewN ?_ _ | refine blk_drew ?_ | refine blk_alloc ?_ _)); refine blk_far ?_ NB240_286.out _; (with_reducible repeat (first | refine blk_drewN ?_ _ | refine blk_drew ?_ | refine blk_alloc ?_ _)); refine blk_far ?_ NB240_286.out _; (with_reducible repeat (first | refine blk_drewN ?_ _ | refine blk_drew ?_ | refine blk_alloc ?_ _)); refine blk_far ?_ NB240_286.out _; (with_reducible repeat (first | refine blk_drewN ?_ _ | refine blk_drew ?_ | refine blk_alloc ?_ _)); refine blk_far ?_ NB240_286.out _; (with_reducible repeat (first | refine blk_drewN ?_ _ | refine blk_drew ?_ | refine blk_alloc ?_ _)); refine blk_far ?_ NB240_286.out _; (with_reducible repeat (first | refine blk_drewN ?_ _ | refine blk_drew ?_ | refine blk_alloc ?_ _)); refine blk_far ?_ NB240_286.out _; (with_reducible repeat (first | refine blk_drewN ?_ _ | refine blk_drew ?_ | refine blk_alloc ?_ _)); exact BK240.out) hb); have n8_ := Aside0.mk (blk_below (g := gb254) (o := .cells #[.int .i64 t241, .int .i64 t242, .slice Ao38 t243.length co38, .int .i64 t246, .int .i64 t247, .string t248, .int .i64 t249, .int .i64 t250, .int .i64 t251, .int .i64 t252] 45 (0, 0)) (by (with_reducible repeat (first | refine blk_drewN ?_ _ | refine blk_drew ?_ | refine blk_alloc ?_ _)); refine blk_far ?_ NB254_286.out _; (with_reducible repeat (first | refine blk_drewN ?_ _ | refine blk_drew ?_ | refine blk_alloc ?_ _)); refine blk_far ?_ NB254_286.out _; (with_reducible repeat (first | refine blk_drewN ?_ _ | refine blk_drew ?_ | refine blk_alloc ?_ _)); refine blk_far ?_ NB254_286.out _; (with_reducible repeat (first | refine blk_drewN ?_ _ | refine blk_drew ?_ | refine blk_alloc ?_ _)); refine blk_far ?_ NB254_286.out _; (with_reducible repeat (first | refine blk_drewN ?_ _ | refine blk_drew ?_ | refine blk_alloc ?_ _)); refine blk_far ?_ NB254_286.out _; (with_reducible repeat (first | refine blk_drewN ?_ _ | refine blk_drew ?_ | refine blk_alloc ?_ _)); refine blk_far ?_ NB254_286.out _; (with_reducible repeat (first | refine blk_drewN ?_ _ | refine blk_drew ?_ | refine blk_alloc ?_ _)); refine blk_far ?_ NB254_286.out _; (with_reducible repeat (first | refine blk_drewN ?_ _ | refine blk_drew ?_ | refine blk_alloc ?_ _)); refine blk_far ?_ NB254_286.out _; (with_reducible repeat (first | refine blk_drewN ?_ _ | refine blk_drew ?_ | refine blk_alloc ?_ _)); refine blk_far ?_ NB254_286.out _; (with_reducible repeat (first | refine blk_drewN ?_ _ | refine blk_drew ?_ | refine blk_alloc ?_ _)); refine blk_far ?_ NB254_286.out _; (with_reducible repeat (first | refine blk_drewN ?_ _ | refine blk_drew ?_ | refine blk_alloc ?_ _)); exact BK254.out) hb); have n9_ := Aside0.mk (blk_below (g := gb286) (o := .cells #[.int .i64 t273, .int .i64 t274, .slice Ao125 t275.length co125, .int .i64 t278, .int .i64 t279, .string t280, .int .i64 t281, .int .i64 t282, .int .i64 t283, .int .i64 t284] 45 (0, 0)) (by (with_reducible repeat (first | refine blk_drewN ?_ _ | refine blk_drew ?_ | refine blk_alloc ?_ _)); refine blk_put (cs := #[.int .i64 t273, .int .i64 t274, .slice Ao125 t275.length co125, .int .i64 t278, .int .i64 t279, .string t280, .int .i64 t281, .int .i64 t282, .int .i64 t283, .int .i64 0]) ?_ 9 _ rfl; (with_reducible repeat (first | refine blk_drewN ?_ _ | refine blk_drew ?_ | refine blk_alloc ?_ _)); refine blk_put (cs := #[.int .i64 t273, .int .i64 t274, .slice Ao125 t275.length co125, .int .i64 t278, .int .i64 t279, .string t280, .int .i64 t281, .int .i64 t282, .int .i64 0, .int .i64 0]) ?_ 8 _ rfl; (with_reducible repeat (first | refine blk_drewN ?_ _ | refine blk_drew ?_ | refine blk_alloc ?_ _)); refine blk_put (cs := #[.int .i64 t273, .int .i64 t274, .slice Ao125 t275.length co125, .int .i64 t278, .int .i64 t279, .string t280, .int .i64 t281, .int .i64 0, .int .i64 0, .int .i64 0]) ?_ 7 _ rfl; (with_reducible repeat (first | refine blk_drewN ?_ _ | refine blk_drew ?_ | refine blk_alloc ?_ _)); refine blk_put (cs := #[.int .i64 t273, .int .i64 t274, .slice Ao125 t275.length co125, .int .i64 t278, .int .i64 t279, .string t280, .int .i64 0, .int .i64 0, .int .i64 0, .int .i64 0]) ?_ 6 _ rfl; (with_reducible repeat (first | refine blk_drewN ?_ _ | refine blk_drew ?_ | refine blk_alloc ?_ _)); refine blk_put (cs := #[.int .i64 t273, .int .i64 t274, .slice Ao125 t275.length co125, .int .i64 t278, .int .i64 t279, .string (⟨#[]⟩ : ByteArray), .int .i64 0, .int .i64 0, .int .i64 0, .int .i64 0]) ?_ 5 _ rfl; (with_reducible repeat (first | refine blk_drewN ?_ _ | refine blk_drew ?_ | refine blk_alloc ?_ _)); refine blk_put (cs := #[.int .i64 t273, .int .i64 t274, .slice Ao125 t275.length co125, .int .i64 t278, .int .i64 0, .string (⟨#[]⟩ : ByteArray), .int .i64 0, .int .i64 0, .int .i64 0, .int .i64 0]) ?_ 4 _ rfl; (with_reducible repeat (first | refine blk_drewN ?_ _ | refine blk_drew ?_ | refine blk_alloc ?_ _)); refine blk_put (cs := #[.int .i64 t273, .int .i64 t274, .slice Ao125 t275.length co125, .int .i64 0, .int .i64 0, .string (⟨#[]⟩ : ByteArray), .int .i64 0, .int .i64 0, .int .i64 0, .int .i64 0]) ?_ 3 _ rfl; (with_reducible repeat (first | refine blk_drewN ?_ _ | refine blk_drew ?_ | refine blk_alloc ?_ _)); refine blk_put (cs := #[.int .i64 t273, .int .i64 t274, .slice none 0 0, .int .i64 0, .int .i64 0, .string (⟨#[]⟩ : ByteArray), .int .i64 0, .int .i64 0, .int .i64 0, .int .i64 0]) ?_ 2 _ rfl; (with_reducible repeat (first | refine blk_drewN ?_ _ | refine blk_drew ?_ | refine blk_alloc ?_ _)); refine blk_put (cs := #[.int .i64 t273, .int .i64 0, .slice none 0 0, .int .i64 0, .int .i64 0, .string (⟨#[]⟩ : ByteArray), .int .i64 0, .int .i64 0, .int .i64 0, .int .i64 0]) ?_ 1 _ rfl; (with_reducible repeat (first | refine blk_drewN ?_ _ | refine blk_drew ?_ | refine blk_alloc ?_ _)); refine blk_put (cs := #[.int .i64 0, .int .i64 0, .slice none 0 0, .int .i64 0, .int .i64 0, .string (⟨#[]⟩ : ByteArray), .int .i64 0, .int .i64 0, .int .i64 0, .int .i64 0]) ?_ 0 _ rfl; (with_reducible repeat (first | refine blk_drewN ?_ _ | refine blk_drew ?_ | refine blk_alloc ?_ _)); exact BK286.out) hb); have n10_ := Aside0.mk (below_step (bl5 HB.out GE214.out GE234.out GE240.out GE254.out GE286.out) hb); clear HO_235002; clear HO_241002; clear HO_255002; clear HO272; clear HO277; clear BK214; clear BK234; clear BK240; clear BK254; clear BK286; clear HB; have HO_235002 := n0_; have HO_241002 := n1_; have HO_255002 := n2_; have HO272 := n3_; have HO277 := n4_; have BK214 := n5_; have BK234 := n6_; have BK240 := n7_; have BK254 := n8_; have BK286 := n9_; have HB := n10_; clear n0_ n1_ n2_ n3_ n4_ n5_ n6_ n7_ n8_ n9_ n10_; (try clear hb); (try clear hb2); (try clear hk); (try clear hi)))
             go_meet
             case rel => exact ⟨_, (true), (by first | rfl | (simp; done) | (simp [*]; done)), H', ⟨by have := HJ12.out; have := HJ61.out; first | omega | exact Nat.le_refl _⟩, ⟨by (try simp only [hl241002_61]); (with_reducible repeat (first | apply Kd.R_alloc | apply Kd.R_drewN | apply Kd.R_drew)); exact Kd.R_mono HO_235002.out (fun _ hk => ⟨hk.1.1.1, ⟨hk.1.1.2, hk.2⟩⟩)⟩, ⟨by (try simp only [hl241002_61]); (with_reducible repeat (first | apply Kd.R_alloc | apply Kd.R_drewN | apply Kd.R_drew)); exact Kd.R_mono HO_241002.out (fun _ hk => ⟨hk.1.1.1, ⟨hk.1.1.2, hk.2⟩⟩)⟩, ⟨by (try simp only [hl241002_61]); (with_reducible repeat (first | apply Kd.R_alloc | apply Kd.R_drewN | apply Kd.R_drew)); exact Kd.R_mono HO_255002.out (fun _ hk => ⟨hk.1.1.1, ⟨hk.1.1.2, hk.2⟩⟩)⟩, ⟨by (try simp only [hl241002_61]); (with_reducible repeat (first | apply Kd.R_alloc | apply Kd.R_drewN | apply Kd.R_drew)); exact Kd.R_mono HO277.out (fun _ hk => ⟨hk.1.1.1.2, ⟨hk.1.1.2, hk.1.2⟩⟩)⟩, ⟨by (try simp only [hl241002_61]); (with_reducible repeat (first | refine blk_drewN ?_ _ | refine blk_drew ?_ | refine blk_alloc ?_ _)); exact BK214.out⟩, ⟨by (try simp only [hl241002_61]); (with_reducible repeat (first | refine blk_drewN ?_ _ | refine blk_drew ?_ | refine blk_alloc ?_ _)); exact BK234.out⟩, ⟨by (try simp only [hl241002_61]); (with_reducible repeat (first | refine blk_drewN ?_ _ | refine blk_drew ?_ | refine blk_alloc ?_ _)); exact BK240.out⟩, ⟨by (try simp only [hl241002_61]); (with_reducible repeat (first | refine blk_drewN ?_ _ | refine blk_drew ?_ | refine blk_alloc ?_ _)); exact BK254.out⟩, ⟨by (try simp only [hl241002_61]); (with_reducible repeat (first | refine blk_drewN ?_ _ | refine blk_drew ?_ | refine blk_alloc ?_ _)); exact BK286.out⟩, ⟨by repeat (first | (with_reducible first | exact HB.out | apply below_alloc | apply pw_below_drewN | apply below_drew1 | refine below_set ?_ GE214.out | refine below_set ?_ GE234.out | refine below_set ?_ GE240.out | refine below_set ?_ GE254.out | refine below_set ?_ GE286.out) | exact HB.out)⟩⟩
           case rest =>
            clear HC105
            try clear c1
            try clear c2
            try clear p2
            try clear c3
            try clear c4
            try clear c5
            try clear c5b0
            try clear c6
            try clear c7
            try clear c8
            try clear c9
            try clear c10
            try clear c11
            try clear c12
            try clear c13
            try clear c14
            try clear c15
            try clear c22
            try clear c27
            try clear c28
            try clear c29
            try clear c32
            try clear c33
            try clear c34
            try clear c35
            try clear c36
            try clear c40
            try clear c41
            try clear c42
            try clear c43
            try clear c45
            try clear c46
            try clear c49
            try clear c50
            try clear c51
            try clear c53
            try clear c54
            try clear c57
            try clear c60
            try clear c67
            try clear c68
            try clear c69
            try clear c72
            try clear c72b0
            try clear c74
            try clear c75
            try clear c76
            try clear c77
            try clear c79
            try clear c80
            try clear c83
            try clear c84
            try clear c85
            try clear c87
            try clear c88
            try clear c91
            try clear c94
            try clear c94b0
            try clear c95
            try clear c96
            try clear c97
            try clear c102
            try clear c102b0
            try clear c102b1
            try clear c106
            try clear c107
            try clear c108
            try clear c113
            try clear c114
            try clear c120
            try clear c121
            try clear c122
            try clear c123
            try clear c127
            try clear c128
            try clear c129
            try clear c130
            try clear c131
            try clear c133
            try clear c134
            try clear c135
            try clear c138
            try clear c139
            try clear c140
            try clear c141
            try clear c143
            try clear c144
            try clear c145
            try clear hcz100_0
            try clear hcz100_1
            try clear hcz100_2
            try clear hcz100_3
            try clear hcz100_4
            try clear hcz100_5
            try clear hcz100_6
            try clear hcz100_7
            try clear hcz100_8
            try clear hcz100_9
            try clear hcz109_0
            try clear hcz109_1
            try clear hcz109_2
            try clear hcz109_3
            try clear hcz109_4
            try clear hcz109_5
            try clear hcz109_6
            try clear hcz109_7
            try clear hcz109_8
            try clear hcz109_9
            try clear hcz111_0
            try clear hcz111_1
            try clear hcz111_2
            try clear hcz111_3
            try clear hcz111_4
            try clear hcz111_5
            try clear hcz111_6
            try clear hcz111_7
            try clear hcz111_8
            try clear hcz111_9
            try clear hcz115_0
            try clear hcz115_1
            try clear hcz115_2
            try clear hcz124_0
            try clear hcz124_1
            try clear hcz124_2
            try clear hcz124_3
            try clear hcz124_4
            try clear hcz124_5
            try clear hcz124_6
            try clear hcz124_7
            try clear hcz124_8
            try clear hcz124_9
            try clear hcz132_0
            try clear hcz132_1
            try clear hcz132_2
            try clear hcz132_3
            try clear hcz132_4
            try clear hcz132_5
            try clear hcz132_6
            try clear hcz132_7
            try clear hcz132_8
            try clear hcz132_9
            try clear hcz136_0
            try clear hcz136_1
            try clear hcz136_2
            try clear hcz136_3
            try clear hcz136_4
            try clear hcz136_5
            try clear hcz136_6
            try clear hcz136_7
            try clear hcz136_8
            try clear hcz136_9
            try clear hcz142_0
            try clear hcz142_1
            try clear hcz142_2
            try clear hcz142_3
            try clear hcz142_4
            try clear hcz142_5
            try clear hcz142_6
            try clear hcz142_7
            try clear hcz142_8
            try clear hcz142_9
            try clear hcz146_0
            try clear hcz146_1
            try clear hcz146_2
            try clear hcz146_3
            try clear hcz146_4
            try clear hcz146_5
            try clear hcz146_6
            try clear hcz146_7
            try clear hcz146_8
            try clear hcz146_9
            try clear hcz15_0
            try clear hcz15_1
            try clear hcz15_2
            try clear hcz17_0
            try clear hcz17_1
            try clear hcz17_2
            try clear hcz23_0
            try clear hcz23_1
            try clear hcz23_2
            try clear hcz23_3
            try clear hcz23_4
            try clear hcz23_5
            try clear hcz23_6
            try clear hcz23_7
            try clear hcz23_8
            try clear hcz23_9
            try clear hcz25_0
            try clear hcz25_1
            try clear hcz25_2
            try clear hcz30_0
            try clear hcz30_1
            try clear hcz30_2
            try clear hcz37_0
            try clear hcz37_1
            try clear hcz37_2
            try clear hcz37_3
            try clear hcz37_4
            try clear hcz37_5
            try clear hcz37_6
            try clear hcz37_7
            try clear hcz37_8
            try clear hcz37_9
            try clear hcz44_0
            try clear hcz44_1
            try clear hcz44_2
            try clear hcz44_3
            try clear hcz44_4
            try clear hcz44_5
            try clear hcz44_6
            try clear hcz44_7
            try clear hcz44_8
            try clear hcz44_9
            try clear hcz47_0
            try clear hcz47_1
            try clear hcz47_2
            try clear hcz47_3
            try clear hcz47_4
            try clear hcz47_5
            try clear hcz47_6
            try clear hcz47_7
            try clear hcz47_8
            try clear hcz47_9
            try clear hcz52_0
            try clear hcz52_1
            try clear hcz52_2
            try clear hcz52_3
            try clear hcz52_4
            try clear hcz52_5
            try clear hcz52_6
            try clear hcz52_7
            try clear hcz52_8
            try clear hcz52_9
            try clear hcz55_0
            try clear hcz55_1
            try clear hcz55_2
            try clear hcz55_3
            try clear hcz55_4
            try clear hcz55_5
            try clear hcz55_6
            try clear hcz55_7
            try clear hcz55_8
            try clear hcz55_9
            try clear hcz70_0
            try clear hcz70_1
            try clear hcz70_2
            try clear hcz78_0
            try clear hcz78_1
            try clear hcz78_2
            try clear hcz78_3
            try clear hcz78_4
            try clear hcz78_5
            try clear hcz78_6
            try clear hcz78_7
            try clear hcz78_8
            try clear hcz78_9
            try clear hcz7_0
            try clear hcz7_1
            try clear hcz7_2
            try clear hcz81_0
            try clear hcz81_1
            try clear hcz81_2
            try clear hcz81_3
            try clear hcz81_4
            try clear hcz81_5
            try clear hcz81_6
            try clear hcz81_7
            try clear hcz81_8
            try clear hcz81_9
            try clear hcz86_0
            try clear hcz86_1
            try clear hcz86_2
            try clear hcz86_3
            try clear hcz86_4
            try clear hcz86_5
            try clear hcz86_6
            try clear hcz86_7
            try clear hcz86_8
            try clear hcz86_9
            try clear hcz89_0
            try clear hcz89_1
            try clear hcz89_2
            try clear hcz89_3
            try clear hcz89_4
            try clear hcz89_5
            try clear hcz89_6
            try clear hcz89_7
            try clear hcz89_8
            try clear hcz89_9
            try clear hcz98_0
            try clear hcz98_1
            try clear hcz98_2
            try clear hcz98_3
            try clear hcz98_4
            try clear hcz98_5
            try clear hcz98_6
            try clear hcz98_7
            try clear hcz98_8
            try clear hcz98_9
            try clear hfz100_0
            try clear hfz100_1
            try clear hfz100_2
            try clear hfz100_3
            try clear hfz100_4
            try clear hfz100_5
            try clear hfz100_6
            try clear hfz100_7
            try clear hfz100_8
            try clear hfz100_9
            try clear hfz109_0
            try clear hfz109_1
            try clear hfz109_2
            try clear hfz109_3
            try clear hfz109_4
            try clear hfz109_5
            try clear hfz109_6
            try clear hfz109_7
            try clear hfz109_8
            try clear hfz109_9
            try clear hfz111_0
            try clear hfz111_1
            try clear hfz111_2
            try clear hfz111_3
            try clear hfz111_4
            try clear hfz111_5
            try clear hfz111_6
            try clear hfz111_7
            try clear hfz111_8
            try clear hfz111_9
            try clear hfz115_0
            try clear hfz115_1
            try clear hfz115_2
            try clear hfz124_0
            try clear hfz124_1
            try clear hfz124_2
            try clear hfz124_3
            try clear hfz124_4
            try clear hfz124_5
            try clear hfz124_6
            try clear hfz124_7
            try clear hfz124_8
            try clear hfz124_9
            try clear hfz132_0
            try clear hfz132_1
            try clear hfz132_2
            try clear hfz132_3
            try clear hfz132_4
            try clear hfz132_5
            try clear hfz132_6
            try clear hfz132_7
            try clear hfz132_8
            try clear hfz132_9
            try clear hfz136_0
            try clear hfz136_1
            try clear hfz136_2
            try clear hfz136_3
            try clear hfz136_4
            try clear hfz136_5
            try clear hfz136_6
            try clear hfz136_7
            try clear hfz136_8
            try clear hfz136_9
            try clear hfz142_0
            try clear hfz142_1
            try clear hfz142_2
            try clear hfz142_3
            try clear hfz142_4
            try clear hfz142_5
            try clear hfz142_6
            try clear hfz142_7
            try clear hfz142_8
            try clear hfz142_9
            try clear hfz146_0
            try clear hfz146_1
            try clear hfz146_2
            try clear hfz146_3
            try clear hfz146_4
            try clear hfz146_5
            try clear hfz146_6
            try clear hfz146_7
            try clear hfz146_8
            try clear hfz146_9
            try clear hfz15_0
            try clear hfz15_1
            try clear hfz15_2
            try clear hfz17_0
            try clear hfz17_1
            try clear hfz17_2
            try clear hfz23_0
            try clear hfz23_1
            try clear hfz23_2
            try clear hfz23_3
            try clear hfz23_4
            try clear hfz23_5
            try clear hfz23_6
            try clear hfz23_7
            try clear hfz23_8
            try clear hfz23_9
            try clear hfz25_0
            try clear hfz25_1
            try clear hfz25_2
            try clear hfz30_0
            try clear hfz30_1
            try clear hfz30_2
            try clear hfz37_0
            try clear hfz37_1
            try clear hfz37_2
            try clear hfz37_3
            try clear hfz37_4
            try clear hfz37_5
            try clear hfz37_6
            try clear hfz37_7
            try clear hfz37_8
            try clear hfz37_9
            try clear hfz44_0
            try clear hfz44_1
            try clear hfz44_2
            try clear hfz44_3
            try clear hfz44_4
            try clear hfz44_5
            try clear hfz44_6
            try clear hfz44_7
            try clear hfz44_8
            try clear hfz44_9
            try clear hfz47_0
            try clear hfz47_1
            try clear hfz47_2
            try clear hfz47_3
            try clear hfz47_4
            try clear hfz47_5
            try clear hfz47_6
            try clear hfz47_7
            try clear hfz47_8
            try clear hfz47_9
            try clear hfz52_0
            try clear hfz52_1
            try clear hfz52_2
            try clear hfz52_3
            try clear hfz52_4
            try clear hfz52_5
            try clear hfz52_6
            try clear hfz52_7
            try clear hfz52_8
            try clear hfz52_9
            try clear hfz55_0
            try clear hfz55_1
            try clear hfz55_2
            try clear hfz55_3
            try clear hfz55_4
            try clear hfz55_5
            try clear hfz55_6
            try clear hfz55_7
            try clear hfz55_8
            try clear hfz55_9
            try clear hfz70_0
            try clear hfz70_1
            try clear hfz70_2
            try clear hfz78_0
            try clear hfz78_1
            try clear hfz78_2
            try clear hfz78_3
            try clear hfz78_4
            try clear hfz78_5
            try clear hfz78_6
            try clear hfz78_7
            try clear hfz78_8
            try clear hfz78_9
            try clear hfz7_0
            try clear hfz7_1
            try clear hfz7_2
            try clear hfz81_0
            try clear hfz81_1
            try clear hfz81_2
            try clear hfz81_3
            try clear hfz81_4
            try clear hfz81_5
            try clear hfz81_6
            try clear hfz81_7
            try clear hfz81_8
            try clear hfz81_9
            try clear hfz86_0
            try clear hfz86_1
            try clear hfz86_2
            try clear hfz86_3
            try clear hfz86_4
            try clear hfz86_5
            try clear hfz86_6
            try clear hfz86_7
            try clear hfz86_8
            try clear hfz86_9
            try clear hfz89_0
            try clear hfz89_1
            try clear hfz89_2
            try clear hfz89_3
            try clear hfz89_4
            try clear hfz89_5
            try clear hfz89_6
            try clear hfz89_7
            try clear hfz89_8
            try clear hfz89_9
            try clear hfz98_0
            try clear hfz98_1
            try clear hfz98_2
            try clear hfz98_3
            try clear hfz98_4
            try clear hfz98_5
            try clear hfz98_6
            try clear hfz98_7
            try clear hfz98_8
            try clear hfz98_9
            try clear p2
            obtain ⟨kq, x97_104, rfl, HA, HJ104, HO_235002, HO_241002, HO_255002, HO_287002, BK214, BK234, BK240, BK254, BK286, HB⟩ := hcut
            have hl255002_104 := (Kd.R_reads' HO_255002.out).1
            rw [hl255002_104] at HO_255002
            (try simp only [hl255002_104])
            (try simp only [hl255002_104] at BK214)
            (try simp only [hl255002_104] at BK234)
            (try simp only [hl255002_104] at BK240)
            (try simp only [hl255002_104] at BK254)
            (try simp only [hl255002_104] at BK286)
            (try simp only [hl255002_104] at HO_235002)
            (try simp only [hl255002_104] at HO_241002)
            (try simp only [hl255002_104] at HO_287002)
            cases kq with
            | zero => exact absurd HA.out (by simp [laws_FnExactEmptyScene.j2])
            | succ kj104 =>
             have H := HA.out
             clear HA
             simp only [laws_FnExactEmptyScene.j2] at H
             by_cases c148 : x97_104 = true
             ·subst c148
              have H1 : (some false) = some r := by rw [if_pos rfl] at H; exact H
              clear H
              have H := H1
              clear H1
              obtain rfl := Option.some.inj H
              go_wp2
              go_ret
              exact ⟨by first | rfl | (simp [errW_none, errW_some] <;> rfl) | (simp [*, errW_none, errW_some] <;> rfl), by repeat (first | (with_reducible first | exact HB.out | apply below_alloc | apply pw_below_drewN | apply below_drew1 | refine below_set ?_ GE214.out | refine below_set ?_ GE234.out | refine below_set ?_ GE240.out | refine below_set ?_ GE254.out | refine below_set ?_ GE286.out) | exact HB.out)⟩
             ·replace c148 := Bool.eq_false_iff.mpr c148
              subst c148
              have H1 : ((laws_heldScene.f kj104 t241 t242 t266 t246 t247 t248 t249 t250 t251 t252 1).bind fun t288 => (if t288 < 0 then (some false) else (if t288 = t265 then (some true) else (some false)))) = some r := by rw [if_neg (show ¬ (false = true) by decide)] at H; exact H
              clear H
              have H := H1
              clear H1
              replace H := Option.bind_eq_some_iff.mp H
              obtain ⟨t288, A1490, H⟩ := H
              replace H : (if t288 < 0 then (some false) else (if t288 = t265 then (some true) else (some false))) = some r := H
              have A149 := Aside0.mk A1490
              clear A1490
              by_cases c150 : t288 < 0
              ·rw [if_pos c150] at H
               have c150b0 : decide (t288 < 0) = true := decide_eq_true c150
               clear c150
               obtain rfl := Option.some.inj H
               have hnb151 := NB254_214.out
               have hnc151 := NB214_254.out
               have hnb152 := NB254_234.out
               have hnc152 := NB234_254.out
               have hnb153 := NB254_240.out
               have hnc153 := NB240_254.out
               have hnb154 := NB254_286.out
               have hnc154 := NB286_254.out
               have hcz155_0 : wc.cell? ⟨gb254, 0, none⟩ = some (.int .i64 t241) := (blk_cell BK254.out 0).trans rfl
               have hcz155_1 : wc.cell? ⟨gb254, 1, none⟩ = some (.int .i64 t242) := (blk_cell BK254.out 1).trans rfl
               have hcz155_2 : wc.cell? ⟨gb254, 2, none⟩ = some (.slice Ao38 t266.length co38) := (blk_cell BK254.out 2).trans rfl
               have hcz155_3 : wc.cell? ⟨gb254, 3, none⟩ = some (.int .i64 t246) := (blk_cell BK254.out 3).trans rfl
               have hcz155_4 : wc.cell? ⟨gb254, 4, none⟩ = some (.int .i64 t247) := (blk_cell BK254.out 4).trans rfl
               have hcz155_5 : wc.cell? ⟨gb254, 5, none⟩ = some (.string t248) := (blk_cell BK254.out 5).trans rfl
               have hcz155_6 : wc.cell? ⟨gb254, 6, none⟩ = some (.int .i64 t249) := (blk_cell BK254.out 6).trans rfl
               have hcz155_7 : wc.cell? ⟨gb254, 7, none⟩ = some (.int .i64 t250) := (blk_cell BK254.out 7).trans rfl
               have hcz155_8 : wc.cell? ⟨gb254, 8, none⟩ = some (.int .i64 t251) := (blk_cell BK254.out 8).trans rfl
               have hcz155_9 : wc.cell? ⟨gb254, 9, none⟩ = some (.int .i64 t252) := (blk_cell BK254.out 9).trans rfl
               have hfz155_0 := blk_frozen BK254.out 0
               have hfz155_1 := blk_frozen BK254.out 1
               have hfz155_2 := blk_frozen BK254.out 2
               have hfz155_3 := blk_frozen BK254.out 3
               have hfz155_4 := blk_frozen BK254.out 4
               have hfz155_5 := blk_frozen BK254.out 5
               have hfz155_6 := blk_frozen BK254.out 6
               have hfz155_7 := blk_frozen BK254.out 7
               have hfz155_8 := blk_frozen BK254.out 8
               have hfz155_9 := blk_frozen BK254.out 9
               go_wp2_with (first | ((with_reducible refine gate_callee (f := 35) rfl ?_); refine goesL_ (some 100) rfl rfl Try.func35 (by kernel_rfl) rfl #[.agg #[.int .i64 t241, .int .i64 t242, .slice Ao38 t266.length co38, .int .i64 t246, .int .i64 t247, .string t248, .int .i64 t249, .int .i64 t250, .int .i64 t251, .int .i64 t252], .int .i64 1] rfl (by (try simp only [List.map_toArray, List.map_cons, List.map_nil]); first | done | rfl | (simp only [List.length_drop, List.length_take]; rfl)) ?_; (with_reducible refine (laws_heldScene.calls kj104 t241 t242 _ _ t266 t246 t247 t248 t249 t250 t251 t252 1 t288 _ ?side1 ?side2 A149.out).mono ?_); (case side1 => repeat (first | exact (Kd.R_reads' HO_255002.out).2.2 | (with_reducible refine Kd.C_alloc ?_ _) | (with_reducible refine Kd.C_drewN ?_ _) | (with_reducible refine Kd.C_drew ?_))); (case side2 => exact (Kd.R_reads' HO_255002.out).2.1); rintro e w156 ⟨rfl, hb⟩; refine ⟨_, rfl, ?_⟩; have n0_ := Aside0.mk (Kd.R_below (rn HO_235002.out) hb); have n1_ := Aside0.mk (Kd.R_below (rn HO_241002.out) hb); have n2_ := Aside0.mk (Kd.R_below (rn HO_255002.out) hb); have n3_ := Aside0.mk (Kd.R_below (rn HO_287002.out) hb); have n4_ := Aside0.mk (bb BK214.out hb); have n5_ := Aside0.mk (bb BK234.out hb); have n6_ := Aside0.mk (bb BK240.out hb); have n7_ := Aside0.mk (bb BK254.out hb); have n8_ := Aside0.mk (bb BK286.out hb); have n9_ := Aside0.mk (below_step (bl5 HB.out GE214.out GE234.out GE240.out GE254.out GE286.out) hb); clear HO_235002; clear HO_241002; clear HO_255002; clear HO_287002; clear BK214; clear BK234; clear BK240; clear BK254; clear BK286; clear HB; have HO_235002 := n0_; have HO_241002 := n1_; have HO_255002 := n2_; have HO_287002 := n3_; have BK214 := n4_; have BK234 := n5_; have BK240 := n6_; have BK254 := n7_; have BK286 := n8_; have HB := n9_; clear n0_ n1_ n2_ n3_ n4_ n5_ n6_ n7_ n8_ n9_; (try clear hb); (try clear hb2); (try clear hk); (try clear hi)))
               go_ret
               exact ⟨by first | rfl | (simp [errW_none, errW_some] <;> rfl) | (simp [*, errW_none, errW_some] <;> rfl), by repeat (first | (with_reducible first | exact HB.out | apply below_alloc | apply pw_below_drewN | apply below_drew1 | refine below_set ?_ GE214.out | refine below_set ?_ GE234.out | refine below_set ?_ GE240.out | refine below_set ?_ GE254.out | refine below_set ?_ GE286.out) | exact HB.out)⟩
              ·rw [if_neg c150] at H
               have c150b0 : decide (t288 < 0) = false := decide_eq_false c150
               clear c150
               by_cases c157 : t288 = t265
               ·rw [if_pos c157] at H
                have c157b0 : (t288 == t265) = true := beq_iff_eq.mpr c157
                have c157b1 : (t288 != t265) = false := bne_eq_false_iff_eq.mpr c157
                clear c157
                obtain rfl := Option.some.inj H
                have hnb158 := NB254_214.out
                have hnc158 := NB214_254.out
                have hnb159 := NB254_234.out
                have hnc159 := NB234_254.out
                have hnb160 := NB254_240.out
                have hnc160 := NB240_254.out
                have hnb161 := NB254_286.out
                have hnc161 := NB286_254.out
                have hcz162_0 : wc.cell? ⟨gb254, 0, none⟩ = some (.int .i64 t241) := (blk_cell BK254.out 0).trans rfl
                have hcz162_1 : wc.cell? ⟨gb254, 1, none⟩ = some (.int .i64 t242) := (blk_cell BK254.out 1).trans rfl
                have hcz162_2 : wc.cell? ⟨gb254, 2, none⟩ = some (.slice Ao38 t266.length co38) := (blk_cell BK254.out 2).trans rfl
                have hcz162_3 : wc.cell? ⟨gb254, 3, none⟩ = some (.int .i64 t246) := (blk_cell BK254.out 3).trans rfl
                have hcz162_4 : wc.cell? ⟨gb254, 4, none⟩ = some (.int .i64 t247) := (blk_cell BK254.out 4).trans rfl
                have hcz162_5 : wc.cell? ⟨gb254, 5, none⟩ = some (.string t248) := (blk_cell BK254.out 5).trans rfl
                have hcz162_6 : wc.cell? ⟨gb254, 6, none⟩ = some (.int .i64 t249) := (blk_cell BK254.out 6).trans rfl
                have hcz162_7 : wc.cell? ⟨gb254, 7, none⟩ = some (.int .i64 t250) := (blk_cell BK254.out 7).trans rfl
                have hcz162_8 : wc.cell? ⟨gb254, 8, none⟩ = some (.int .i64 t251) := (blk_cell BK254.out 8).trans rfl
                have hcz162_9 : wc.cell? ⟨gb254, 9, none⟩ = some (.int .i64 t252) := (blk_cell BK254.out 9).trans rfl
                have hfz162_0 := blk_frozen BK254.out 0
                have hfz162_1 := blk_frozen BK254.out 1
                have hfz162_2 := blk_frozen BK254.out 2
                have hfz162_3 := blk_frozen BK254.out 3
                have hfz162_4 := blk_frozen BK254.out 4
                have hfz162_5 := blk_frozen BK254.out 5
                have hfz162_6 := blk_frozen BK254.out 6
                have hfz162_7 := blk_frozen BK254.out 7
                have hfz162_8 := blk_frozen BK254.out 8
                have hfz162_9 := blk_frozen BK254.out 9
                go_wp2_with (first | ((with_reducible refine gate_callee (f := 35) rfl ?_); refine goesL_ (some 100) rfl rfl Try.func35 (by kernel_rfl) rfl #[.agg #[.int .i64 t241, .int .i64 t242, .slice Ao38 t266.length co38, .int .i64 t246, .int .i64 t247, .string t248, .int .i64 t249, .int .i64 t250, .int .i64 t251, .int .i64 t252], .int .i64 1] rfl (by (try simp only [List.map_toArray, List.map_cons, List.map_nil]); first | done | rfl | (simp only [List.length_drop, List.length_take]; rfl)) ?_; (with_reducible refine (laws_heldScene.calls kj104 t241 t242 _ _ t266 t246 t247 t248 t249 t250 t251 t252 1 t288 _ ?side1 ?side2 A149.out).mono ?_); (case side1 => repeat (first | exact (Kd.R_reads' HO_255002.out).2.2 | (with_reducible refine Kd.C_alloc ?_ _) | (with_reducible refine Kd.C_drewN ?_ _) | (with_reducible refine Kd.C_drew ?_))); (case side2 => exact (Kd.R_reads' HO_255002.out).2.1); rintro e w163 ⟨rfl, hb⟩; refine ⟨_, rfl, ?_⟩; have n0_ := Aside0.mk (Kd.R_below (rn HO_235002.out) hb); have n1_ := Aside0.mk (Kd.R_below (rn HO_241002.out) hb); have n2_ := Aside0.mk (Kd.R_below (rn HO_255002.out) hb); have n3_ := Aside0.mk (Kd.R_below (rn HO_287002.out) hb); have n4_ := Aside0.mk (bb BK214.out hb); have n5_ := Aside0.mk (bb BK234.out hb); have n6_ := Aside0.mk (bb BK240.out hb); have n7_ := Aside0.mk (bb BK254.out hb); have n8_ := Aside0.mk (bb BK286.out hb); have n9_ := Aside0.mk (below_step (bl5 HB.out GE214.out GE234.out GE240.out GE254.out GE286.out) hb); clear HO_235002; clear HO_241002; clear HO_255002; clear HO_287002; clear BK214; clear BK234; clear BK240; clear BK254; clear BK286; clear HB; have HO_235002 := n0_; have HO_241002 := n1_; have HO_255002 := n2_; have HO_287002 := n3_; have BK214 := n4_; have BK234 := n5_; have BK240 := n6_; have BK254 := n7_; have BK286 := n8_; have HB := n9_; clear n0_ n1_ n2_ n3_ n4_ n5_ n6_ n7_ n8_ n9_; (try clear hb); (try clear hb2); (try clear hk); (try clear hi)))
                go_ret
                exact ⟨by first | rfl | (simp [errW_none, errW_some] <;> rfl) | (simp [*, errW_none, errW_some] <;> rfl), by repeat (first | (with_reducible first | exact HB.out | apply below_alloc | apply pw_below_drewN | apply below_drew1 | refine below_set ?_ GE214.out | refine below_set ?_ GE234.out | refine below_set ?_ GE240.out | refine below_set ?_ GE254.out | refine below_set ?_ GE286.out) | exact HB.out)⟩
               ·rw [if_neg c157] at H
                have c157b0 : (t288 == t265) = false := beq_eq_false_iff_ne.mpr c157
                have c157b1 : (t288 != t265) = true := bne_iff_ne.mpr c157
                obtain rfl := Option.some.inj H
                have hnb164 := NB254_214.out
                have hnc164 := NB214_254.out
                have hnb165 := NB254_234.out
                have hnc165 := NB234_254.out
                have hnb166 := NB254_240.out
                have hnc166 := NB240_254.out
                have hnb167 := NB254_286.out
                have hnc167 := NB286_254.out
                have hcz168_0 : wc.cell? ⟨gb254, 0, none⟩ = some (.int .i64 t241) := (blk_cell BK254.out 0).trans rfl
                have hcz168_1 : wc.cell? ⟨gb254, 1, none⟩ = some (.int .i64 t242) := (blk_cell BK254.out 1).trans rfl
                have hcz168_2 : wc.cell? ⟨gb254, 2, none⟩ = some (.slice Ao38 t266.length co38) := (blk_cell BK254.out 2).trans rfl
                have hcz168_3 : wc.cell? ⟨gb254, 3, none⟩ = some (.int .i64 t246) := (blk_cell BK254.out 3).trans rfl
                have hcz168_4 : wc.cell? ⟨gb254, 4, none⟩ = some (.int .i64 t247) := (blk_cell BK254.out 4).trans rfl
                have hcz168_5 : wc.cell? ⟨gb254, 5, none⟩ = some (.string t248) := (blk_cell BK254.out 5).trans rfl
                have hcz168_6 : wc.cell? ⟨gb254, 6, none⟩ = some (.int .i64 t249) := (blk_cell BK254.out 6).trans rfl
                have hcz168_7 : wc.cell? ⟨gb254, 7, none⟩ = some (.int .i64 t250) := (blk_cell BK254.out 7).trans rfl
                have hcz168_8 : wc.cell? ⟨gb254, 8, none⟩ = some (.int .i64 t251) := (blk_cell BK254.out 8).trans rfl
                have hcz168_9 : wc.cell? ⟨gb254, 9, none⟩ = some (.int .i64 t252) := (blk_cell BK254.out 9).trans rfl
                have hfz168_0 := blk_frozen BK254.out 0
                have hfz168_1 := blk_frozen BK254.out 1
                have hfz168_2 := blk_frozen BK254.out 2
                have hfz168_3 := blk_frozen BK254.out 3
                have hfz168_4 := blk_frozen BK254.out 4
                have hfz168_5 := blk_frozen BK254.out 5
                have hfz168_6 := blk_frozen BK254.out 6
                have hfz168_7 := blk_frozen BK254.out 7
                have hfz168_8 := blk_frozen BK254.out 8
                have hfz168_9 := blk_frozen BK254.out 9
                go_wp2_with (first | ((with_reducible refine gate_callee (f := 35) rfl ?_); refine goesL_ (some 100) rfl rfl Try.func35 (by kernel_rfl) rfl #[.agg #[.int .i64 t241, .int .i64 t242, .slice Ao38 t266.length co38, .int .i64 t246, .int .i64 t247, .string t248, .int .i64 t249, .int .i64 t250, .int .i64 t251, .int .i64 t252], .int .i64 1] rfl (by (try simp only [List.map_toArray, List.map_cons, List.map_nil]); first | done | rfl | (simp only [List.length_drop, List.length_take]; rfl)) ?_; (with_reducible refine (laws_heldScene.calls kj104 t241 t242 _ _ t266 t246 t247 t248 t249 t250 t251 t252 1 t288 _ ?side1 ?side2 A149.out).mono ?_); (case side1 => repeat (first | exact (Kd.R_reads' HO_255002.out).2.2 | (with_reducible refine Kd.C_alloc ?_ _) | (with_reducible refine Kd.C_drewN ?_ _) | (with_reducible refine Kd.C_drew ?_))); (case side2 => exact (Kd.R_reads' HO_255002.out).2.1); rintro e w169 ⟨rfl, hb⟩; refine ⟨_, rfl, ?_⟩; have n0_ := Aside0.mk (Kd.R_below (rn HO_235002.out) hb); have n1_ := Aside0.mk (Kd.R_below (rn HO_241002.out) hb); have n2_ := Aside0.mk (Kd.R_below (rn HO_255002.out) hb); have n3_ := Aside0.mk (Kd.R_below (rn HO_287002.out) hb); have n4_ := Aside0.mk (bb BK214.out hb); have n5_ := Aside0.mk (bb BK234.out hb); have n6_ := Aside0.mk (bb BK240.out hb); have n7_ := Aside0.mk (bb BK254.out hb); have n8_ := Aside0.mk (bb BK286.out hb); have n9_ := Aside0.mk (below_step (bl5 HB.out GE214.out GE234.out GE240.out GE254.out GE286.out) hb); clear HO_235002; clear HO_241002; clear HO_255002; clear HO_287002; clear BK214; clear BK234; clear BK240; clear BK254; clear BK286; clear HB; have HO_235002 := n0_; have HO_241002 := n1_; have HO_255002 := n2_; have HO_287002 := n3_; have BK214 := n4_; have BK234 := n5_; have BK240 := n6_; have BK254 := n7_; have BK286 := n8_; have HB := n9_; clear n0_ n1_ n2_ n3_ n4_ n5_ n6_ n7_ n8_ n9_; (try clear hb); (try clear hb2); (try clear hk); (try clear hi)))
                go_ret
                exact ⟨by first | rfl | (simp [errW_none, errW_some] <;> rfl) | (simp [*, errW_none, errW_some] <;> rfl), by repeat (first | (with_reducible first | exact HB.out | apply below_alloc | apply pw_below_drewN | apply below_drew1 | refine below_set ?_ GE214.out | refine below_set ?_ GE234.out | refine below_set ?_ GE240.out | refine below_set ?_ GE254.out | refine below_set ?_ GE286.out) | exact HB.out)⟩
          ·rw [if_neg c102] at H
           have c102b0 : (t267 == t265) = false := beq_eq_false_iff_ne.mpr c102
           have c102b1 : (t267 != t265) = true := bne_iff_ne.mpr c102
           obtain rfl := Option.some.inj H
           have hnb170 := NB254_214.out
           have hnc170 := NB214_254.out
           have hnb171 := NB254_234.out
           have hnc171 := NB234_254.out
           have hnb172 := NB254_240.out
           have hnc172 := NB240_254.out
           have hcz173_0 : wc.cell? ⟨gb254, 0, none⟩ = some (.int .i64 t241) := (blk_cell BK254.out 0).trans rfl
           have hcz173_1 : wc.cell? ⟨gb254, 1, none⟩ = some (.int .i64 t242) := (blk_cell BK254.out 1).trans rfl
           have hcz173_2 : wc.cell? ⟨gb254, 2, none⟩ = some (.slice Ao38 t243.length co38) := (blk_cell BK254.out 2).trans rfl
           have hcz173_3 : wc.cell? ⟨gb254, 3, none⟩ = some (.int .i64 t246) := (blk_cell BK254.out 3).trans rfl
           have hcz173_4 : wc.cell? ⟨gb254, 4, none⟩ = some (.int .i64 t247) := (blk_cell BK254.out 4).trans rfl
           have hcz173_5 : wc.cell? ⟨gb254, 5, none⟩ = some (.string t248) := (blk_cell BK254.out 5).trans rfl
           have hcz173_6 : wc.cell? ⟨gb254, 6, none⟩ = some (.int .i64 t249) := (blk_cell BK254.out 6).trans rfl
           have hcz173_7 : wc.cell? ⟨gb254, 7, none⟩ = some (.int .i64 t250) := (blk_cell BK254.out 7).trans rfl
           have hcz173_8 : wc.cell? ⟨gb254, 8, none⟩ = some (.int .i64 t251) := (blk_cell BK254.out 8).trans rfl
           have hcz173_9 : wc.cell? ⟨gb254, 9, none⟩ = some (.int .i64 t252) := (blk_cell BK254.out 9).trans rfl
           have hfz173_0 := blk_frozen BK254.out 0
           have hfz173_1 := blk_frozen BK254.out 1
           have hfz173_2 := blk_frozen BK254.out 2
           have hfz173_3 := blk_frozen BK254.out 3
           have hfz173_4 := blk_frozen BK254.out 4
           have hfz173_5 := blk_frozen BK254.out 5
           have hfz173_6 := blk_frozen BK254.out 6
           have hfz173_7 := blk_frozen BK254.out 7
           have hfz173_8 := blk_frozen BK254.out 8
           have hfz173_9 := blk_frozen BK254.out 9
           go_wp2_with (first | ((with_reducible refine gate_callee (f := 34) rfl ?_); refine goesL_ (some 72) rfl rfl Try.func34 (by kernel_rfl) rfl #[.agg #[.int .i64 t241, .int .i64 t242, .slice Ao38 t243.length co38, .int .i64 t246, .int .i64 t247, .string t248, .int .i64 t249, .int .i64 t250, .int .i64 t251, .int .i64 t252], .int .i64 1] rfl (by (try simp only [List.map_toArray, List.map_cons, List.map_nil]); first | done | rfl | (simp only [List.length_drop, List.length_take]; rfl)) ?_; (with_reducible refine (laws_markScene.calls kj61 t241 t242 (fun k_ => some k_ = (.slice Ao38 t243.length co38 : Value).ownBlock) (.slice Ao38 t243.length co38) t243 t246 t247 t248 t249 t250 t251 t252 1 t265 t266 w _ ?side1 ?side2 A92.out).mono ?_); (case side1 => repeat (first | (with_reducible first | exact HB.out | apply below_alloc | apply pw_below_drewN | apply below_drew1 | refine below_set ?_ GE214.out | refine below_set ?_ GE234.out | refine below_set ?_ GE240.out | refine below_set ?_ GE254.out) | exact HB.out)); (case side2 => exact Kd.R_tight rfl HO_255002.out); rintro e w174 ⟨rfl, hy0, hb, hkp⟩; refine ⟨_, rfl, ?_⟩; have n0_ := Aside0.mk (Kd.R_mono (ok' := fun k_ => some k_ ≠ (.slice Ao31 t263.length co31 : Value).ownBlock ∧ some k_ ≠ (.slice Ao38 t243.length co38 : Value).ownBlock) (Kd.R_keptB (HO_235002.out) hkp (fun k_ hk_ hs_ => (hk_.2) hs_)) (fun k_ hk_ => ⟨hk_.1.1, hk_.1.2⟩)); have n1_ := Aside0.mk (Kd.R_mono (ok' := fun k_ => some k_ ≠ (.slice Ao24 t223.length co24 : Value).ownBlock ∧ some k_ ≠ (.slice Ao38 t243.length co38 : Value).ownBlock) (Kd.R_keptB (HO_241002.out) hkp (fun k_ hk_ hs_ => (hk_.2) hs_)) (fun k_ hk_ => ⟨hk_.1.1, hk_.1.2⟩)); have n2_ := Aside0.mk (Kd.R_reok rfl hy0 (fun k_ e_ => HO_255002.out.1 k_ e_)); have n3_ := Aside0.mk (blk_kept (dn BK214.out) hkp (fun hs_ => (fun e_ => (Kd.R_ne HO_255002.out BK214.out (by decide)) e_) hs_)); have n4_ := Aside0.mk (blk_kept (dn BK234.out) hkp (fun hs_ => (fun e_ => (Kd.R_ne HO_255002.out BK234.out (by decide)) e_) hs_)); have n5_ := Aside0.mk (blk_kept (dn BK240.out) hkp (fun hs_ => (fun e_ => (Kd.R_ne HO_255002.out BK240.out (by decide)) e_) hs_)); have n6_ := Aside0.mk (blk_kept (dn BK254.out) hkp (fun hs_ => (fun e_ => (Kd.R_ne HO_255002.out BK254.out (by decide)) e_) hs_)); have n7_ := Aside0.mk (hb); clear HO_235002; clear HO_241002; clear HO_255002; clear BK214; clear BK234; clear BK240; clear BK254; clear HB; have HO_235002 := n0_; have HO_241002 := n1_; have HO_255002 := n2_; have BK214 := n3_; have BK234 := n4_; have BK240 := n5_; have BK254 := n6_; have HB := n7_; clear n0_ n1_ n2_ n3_ n4_ n5_ n6_ n7_; (try clear hb); (try clear hkp); (try clear hy0); have hcz175_0 : w174.cell? ⟨gb254, 0, none⟩ = some (.int .i64 t241) := (blk_cell BK254.out 0).trans rfl; have hcz175_1 : w174.cell? ⟨gb254, 1, none⟩ = some (.int .i64 t242) := (blk_cell BK254.out 1).trans rfl; have hcz175_2 : w174.cell? ⟨gb254, 2, none⟩ = some (.slice Ao38 t243.length co38) := (blk_cell BK254.out 2).trans rfl; have hcz175_3 : w174.cell? ⟨gb254, 3, none⟩ = some (.int .i64 t246) := (blk_cell BK254.out 3).trans rfl; have hcz175_4 : w174.cell? ⟨gb254, 4, none⟩ = some (.int .i64 t247) := (blk_cell BK254.out 4).trans rfl; have hcz175_5 : w174.cell? ⟨gb254, 5, none⟩ = some (.string t248) := (blk_cell BK254.out 5).trans rfl; have hcz175_6 : w174.cell? ⟨gb254, 6, none⟩ = some (.int .i64 t249) := (blk_cell BK254.out 6).trans rfl; have hcz175_7 : w174.cell? ⟨gb254, 7, none⟩ = some (.int .i64 t250) := (blk_cell BK254.out 7).trans rfl; have hcz175_8 : w174.cell? ⟨gb254, 8, none⟩ = some (.int .i64 t251) := (blk_cell BK254.out 8).trans rfl; have hcz175_9 : w174.cell? ⟨gb254, 9, none⟩ = some (.int .i64 t252) := (blk_cell BK254.out 9).trans rfl; have hfz175_0 := blk_frozen BK254.out 0; have hfz175_1 := blk_frozen BK254.out 1; have hfz175_2 := blk_frozen BK254.out 2; have hfz175_3 := blk_frozen BK254.out 3; have hfz175_4 := blk_frozen BK254.out 4; have hfz175_5 := blk_frozen BK254.out 5; have hfz175_6 := blk_frozen BK254.out 6; have hfz175_7 := blk_frozen BK254.out 7; have hfz175_8 := blk_frozen BK254.out 8; have hfz175_9 := blk_frozen BK254.out 9) | ((with_reducible refine gate_callee (f := 35) rfl ?_); refine goesL_ (some 75) rfl rfl Try.func35 (by kernel_rfl) rfl #[.agg #[.int .i64 t241, .int .i64 t242, .slice Ao38 t266.length co38, .int .i64 t246, .int .i64 t247, .string t248, .int .i64 t249, .int .i64 t250, .int .i64 t251, .int .i64 t252], .int .i64 1] rfl (by (try simp only [List.map_toArray, List.map_cons, List.map_nil]); first | done | (rw [show t266.length = t243.length from (Kd.R_reads' HO_255002.out).1.symm] <;> rfl) | rfl | (simp only [List.length_drop, List.length_take]; rfl)) ?_; (with_reducible refine (laws_heldScene.calls kj61 t241 t242 _ _ t266 t246 t247 t248 t249 t250 t251 t252 1 t267 _ ?side1 ?side2 A93.out).mono ?_); (case side1 => repeat (first | exact (Kd.R_reads' HO_255002.out).2.2 | (with_reducible refine Kd.C_alloc ?_ _) | (with_reducible refine Kd.C_drewN ?_ _) | (with_reducible refine Kd.C_drew ?_))); (case side2 => rw [show t266.length = t243.length from (Kd.R_reads' HO_255002.out).1.symm]; exact (Kd.R_reads' HO_255002.out).2.1); rintro e w176 ⟨rfl, hb⟩; refine ⟨_, rfl, ?_⟩; have n0_ := Aside0.mk (Kd.R_below (rn HO_235002.out) hb); have n1_ := Aside0.mk (Kd.R_below (rn HO_241002.out) hb); have n2_ := Aside0.mk (Kd.R_below (rn HO_255002.out) hb); have n3_ := Aside0.mk (bb BK214.out hb); have n4_ := Aside0.mk (bb BK234.out hb); have n5_ := Aside0.mk (bb BK240.out hb); have n6_ := Aside0.mk (bb BK254.out hb); have n7_ := Aside0.mk (below_step (bl4 HB.out GE214.out GE234.out GE240.out GE254.out) hb); clear HO_235002; clear HO_241002; clear HO_255002; clear BK214; clear BK234; clear BK240; clear BK254; clear HB; have HO_235002 := n0_; have HO_241002 := n1_; have HO_255002 := n2_; have BK214 := n3_; have BK234 := n4_; have BK240 := n5_; have BK254 := n6_; have HB := n7_; clear n0_ n1_ n2_ n3_ n4_ n5_ n6_ n7_; (try clear hb); (try clear hb2); (try clear hk); (try clear hi)))
           go_ret
           exact ⟨by first | rfl | (simp [errW_none, errW_some] <;> rfl) | (simp [*, errW_none, errW_some] <;> rfl), by repeat (first | (with_reducible first | exact HB.out | apply below_alloc | apply pw_below_drewN | apply below_drew1 | refine below_set ?_ GE214.out | refine below_set ?_ GE234.out | refine below_set ?_ GE240.out | refine below_set ?_ GE254.out) | exact HB.out)⟩
     ·replace c60 := Bool.eq_false_iff.mpr c60
      subst c60
      have H1 : (some false) = some r := by rw [if_neg (show ¬ (false = true) by decide)] at H; exact H
      clear H
      have H := H1
      clear H1
      obtain rfl := Option.some.inj H
      try go_wp2
      have n0_ := Aside0.mk (Kd.R_drew HO_235002.out)
      have n1_ := Aside0.mk (Kd.R_drew HO_241002.out)
      have n2_ := Aside0.mk (Kd.R_drew HO_255002.out)
      have n3_ := Aside0.mk (blk_drew BK214.out)
      have n4_ := Aside0.mk (blk_drew BK234.out)
      have n5_ := Aside0.mk (blk_drew BK240.out)
      have n6_ := Aside0.mk (blk_drew BK254.out)
      have n7_ := Aside0.mk (below_drew1 HB.out)
      clear HO_235002
      clear HO_241002
      clear HO_255002
      clear BK214
      clear BK234
      clear BK240
      clear BK254
      clear HB
      have HO_235002 := n0_
      have HO_241002 := n1_
      have HO_255002 := n2_
      have BK214 := n3_
      have BK234 := n4_
      have BK240 := n5_
      have BK254 := n6_
      have HB := n7_
      clear n0_ n1_ n2_ n3_ n4_ n5_ n6_ n7_
      refine start_ (n := 5) (S := fun w' => w'.cell? ⟨gb240, 0, none⟩ = some (.int .i64 t235) ∧ w'.cell? ⟨gb240, 1, none⟩ = some (.int .i64 t236) ∧ w'.cell? ⟨gb240, 2, none⟩ = some (.slice Ao31 t237.length co31) ∧ w'.cell? ⟨gb214, 0, none⟩ = some (.int .i64 a0_0) ∧ w'.cell? ⟨gb214, 1, none⟩ = some (.int .i64 a0_1) ∧ w'.cell? ⟨gb214, 2, none⟩ = some (.slice A0_2 l0_2.length c0_2)) (ds := []) #[false, false, false, false, false] (by kernel_rfl) rfl rfl ⟨(blk_cell BK240.out 0).trans rfl, (blk_cell BK240.out 1).trans rfl, (blk_cell BK240.out 2).trans rfl, (blk_cell BK214.out 0).trans rfl, (blk_cell BK214.out 1).trans rfl, (blk_cell BK214.out 2).trans rfl⟩ (fun hHeld => ?_)
      generalize wc.drew = w177 at HO_235002 HO_241002 HO_255002 BK214 BK234 BK240 BK254 HB hHeld ⊢
      refine take_ (i := 0) (N := some 49) (v := ?_) (a' := ?_) #[true, false, false, false, false] rfl rfl (by kernel_rfl) (fun _ _ _ h => h) (Or.inl ⟨by rfl, ?_⟩) hHeld ?_ ?_
      rotate_left
      ·rintro w' ⟨s0, s1, s2, s3, s4, s5⟩
       go_simp
       with_reducible rfl
      rotate_left
      ·simp only [Act.put, List.setIfInBounds_toArray, List.set_cons_zero, List.set_cons_succ, i64_w, i32_w]
       rfl
      refine take_ (i := 1) (N := some 50) (v := ?_) (a' := ?_) #[true, true, false, false, false] rfl rfl (by kernel_rfl) (fun _ _ _ h => h) (Or.inl ⟨by rfl, ?_⟩) hHeld ?_ ?_
      rotate_left
      ·rintro w' ⟨s0, s1, s2, s3, s4, s5⟩
       go_simp
       with_reducible rfl
      rotate_left
      ·simp only [Act.put, List.setIfInBounds_toArray, List.set_cons_zero, List.set_cons_succ, i64_w, i32_w]
       rfl
      refine one_ (i := 2) (N := some 51) #[true, true, true, false, false] rfl rfl (by kernel_rfl) (by decide) (fun K hK => ?_)
      refine goes_ Try.func12 (by kernel_rfl) rfl #[.agg #[.int .i64 a0_0, .int .i64 a0_1, .slice A0_2 l0_2.length c0_2]] (by rfl) rfl rfl (by (try simp only [List.map_toArray, List.map_cons, List.map_nil]); first | done | rfl | (simp only [List.length_drop, List.length_take]; rfl)) ?_
      with_reducible refine (laws_toTable.calls kj12 a0_0 a0_1 _ _ l0_2 t256 t257 t258 _ ?side1 ?side2 A58.out).mono ?_
      (case side1 => repeat (first | exact (Kd.C_below HR0_2.out HB.out) | (with_reducible refine Kd.C_alloc ?_ _) | (with_reducible refine Kd.C_drewN ?_ _) | (with_reducible refine Kd.C_drew ?_)))
      (case side2 => exact HC0_2.out)
      rintro e w178 ⟨v259, rfl, ho0, hb⟩
      refine ⟨_, rfl, ?_⟩
      have n0_ := Aside0.mk (Kd.R_elder' (rn HO_235002.out) (Kd.R_base ho0) hb)
      have n1_ := Aside0.mk (Kd.R_elder' (rn HO_241002.out) (Kd.R_base ho0) hb)
      have n2_ := Aside0.mk (Kd.R_elder' (rn HO_255002.out) (Kd.R_base ho0) hb)
      have n3_ := Aside0.mk (Kd.R_lower (Kd.R_new' (Kd.R_new' (Kd.R_new' ho0 (Kd.R_lt (rn HO_235002.out))) (Kd.R_lt (rn HO_241002.out))) (Kd.R_lt (rn HO_255002.out))) (below_size (bl4 HB.out GE214.out GE234.out GE240.out GE254.out)))
      have n4_ := Aside0.mk (bb BK214.out hb)
      have n5_ := Aside0.mk (bb BK234.out hb)
      have n6_ := Aside0.mk (bb BK240.out hb)
      have n7_ := Aside0.mk (bb BK254.out hb)
      have n8_ := Aside0.mk (below_step (bl4 HB.out GE214.out GE234.out GE240.out GE254.out) hb)
      clear HO_235002
      clear HO_241002
      clear HO_255002
      clear BK214
      clear BK234
      clear BK240
      clear BK254
      clear HB
      have HO_235002 := n0_
      have HO_241002 := n1_
      have HO_255002 := n2_
      have HO260 := n3_
      have BK214 := n4_
      have BK234 := n5_
      have BK240 := n6_
      have BK254 := n7_
      have HB := n8_
      clear n0_ n1_ n2_ n3_ n4_ n5_ n6_ n7_ n8_
      (try clear hb)
      (try clear hb2)
      (try clear hk)
      (try clear hi)
      (try clear ho0)
      obtain ⟨Ao179, co179, eo179⟩ := Kd.R_slice HO260.out
      (first | subst eo179 | (injection eo179 with f1_ f2_ f3_; have f4_ := f1_.symm; have f5_ := f3_.symm; clear f1_ f2_ f3_; subst f4_; subst f5_))
      refine hK.out _ _ ⟨(blk_cell BK240.out 0).trans rfl, (blk_cell BK240.out 1).trans rfl, (blk_cell BK240.out 2).trans rfl, (blk_cell BK214.out 0).trans rfl, (blk_cell BK214.out 1).trans rfl, (blk_cell BK214.out 2).trans rfl⟩ (fun hHeld => ?_)
      clear hK K
      refine norm_ (a' := ?_) ?_ ?_
      rotate_left
      ·show Act.put _ (some 51) _ = _
       simp only [Act.put, List.setIfInBounds_toArray, List.set_cons_zero, List.set_cons_succ, i64_w, i32_w]
       rfl
      refine one_ (i := 3) (N := some 52) #[true, true, true, true, false] rfl rfl (by kernel_rfl) (by decide) (fun K hK => ?_)
      refine goes_ Try.func15 (by kernel_rfl) rfl #[.agg #[.int .i64 t235, .int .i64 t236, .slice Ao31 t237.length co31], .agg #[.int .i64 t256, .int .i64 t257, .slice Ao179 t258.length co179]] (by rfl) rfl rfl (by (try simp only [List.map_toArray, List.map_cons, List.map_nil]); first | done | rfl | (simp only [List.length_drop, List.length_take]; rfl)) ?_
      with_reducible refine (laws_eqTable.calls kj12 t235 t236 _ _ t237 t256 t257 _ _ t258 false _ ?side1 ?side2 ?side3 ?side4 A59.out).mono ?_
      (case side1 => repeat (first | exact (Kd.R_reads' HO_241002.out).2.2 | (with_reducible refine Kd.C_alloc ?_ _) | (with_reducible refine Kd.C_drewN ?_ _) | (with_reducible refine Kd.C_drew ?_)))
      (case side2 => exact (Kd.R_reads' HO_241002.out).2.1)
      (case side3 => repeat (first | exact (Kd.R_reads' HO260.out).2.2 | (with_reducible refine Kd.C_alloc ?_ _) | (with_reducible refine Kd.C_drewN ?_ _) | (with_reducible refine Kd.C_drew ?_)))
      (case side4 => exact (Kd.R_reads' HO260.out).2.1)
      rintro e w180 ⟨rfl, hb⟩
      refine ⟨_, rfl, ?_⟩
      have n0_ := Aside0.mk (Kd.R_below (rn HO_235002.out) hb)
      have n1_ := Aside0.mk (Kd.R_below (rn HO_241002.out) hb)
      have n2_ := Aside0.mk (Kd.R_below (rn HO_255002.out) hb)
      have n3_ := Aside0.mk (Kd.R_below (rn HO260.out) hb)
      have n4_ := Aside0.mk (bb BK214.out hb)
      have n5_ := Aside0.mk (bb BK234.out hb)
      have n6_ := Aside0.mk (bb BK240.out hb)
      have n7_ := Aside0.mk (bb BK254.out hb)
      have n8_ := Aside0.mk (below_step (bl4 HB.out GE214.out GE234.out GE240.out GE254.out) hb)
      clear HO_235002
      clear HO_241002
      clear HO_255002
      clear HO260
      clear BK214
      clear BK234
      clear BK240
      clear BK254
      clear HB
      have HO_235002 := n0_
      have HO_241002 := n1_
      have HO_255002 := n2_
      have HO260 := n3_
      have BK214 := n4_
      have BK234 := n5_
      have BK240 := n6_
      have BK254 := n7_
      have HB := n8_
      clear n0_ n1_ n2_ n3_ n4_ n5_ n6_ n7_ n8_
      (try clear hb)
      (try clear hb2)
      (try clear hk)
      (try clear hi)
      refine hK.out _ _ ⟨(blk_cell BK240.out 0).trans rfl, (blk_cell BK240.out 1).trans rfl, (blk_cell BK240.out 2).trans rfl, (blk_cell BK214.out 0).trans rfl, (blk_cell BK214.out 1).trans rfl, (blk_cell BK214.out 2).trans rfl⟩ (fun hHeld => ?_)
      clear hK K
      refine norm_ (a' := ?_) ?_ ?_
      rotate_left
      ·show Act.put _ (some 52) _ = _
       simp only [Act.put, List.setIfInBounds_toArray, List.set_cons_zero, List.set_cons_succ, i64_w, i32_w]
       rfl
      refine pure_ (i := 4) (N := some 53) (v := ?_) (a' := ?_) #[true, true, true, true, true] rfl rfl (by kernel_rfl) (fun _ _ _ h => h) (Or.inl ⟨by rfl, ?_⟩) ?_ ?_
      rotate_left
      ·intro w'
       go_simp
       with_reducible rfl
      rotate_left
      ·simp only [Act.put, List.setIfInBounds_toArray, List.set_cons_zero, List.set_cons_succ, i64_w, i32_w]
       rfl
      refine done_ (by kernel_rfl) ?_
      try go_wp2
      go_ret
      exact ⟨by first | rfl | (simp [errW_none, errW_some] <;> rfl) | (simp [*, errW_none, errW_some] <;> rfl), by repeat (first | (with_reducible first | exact HB.out | apply below_alloc | apply pw_below_drewN | apply below_drew1 | refine below_set ?_ GE214.out | refine below_set ?_ GE234.out | refine below_set ?_ GE240.out | refine below_set ?_ GE254.out) | exact HB.out)⟩

end Go.Proofs.Ytanecddhfdlnlaa.PD
