-- Written for this claim by a program of ours (wip/tools), out of the translation: plain functions, and the proofs that the machine's calls come to their answers. Lean checks it.
import Derived.Test.YticfidlclofbbaaDoorKeep
import Derived.Test.YticfidlclofbbaaDoorLt0
import Derived.Test.YticfidlclofbbaaDoorLt1
import Derived.Test.YticfidlclofbbaaDoorGa
import Derived.Test.YticfidlclofbbaaDoorInterp
import Derived.Test.YticfidlclofbbaaDoorPadd
import Derived.Test.YticfidlclofbbaaDoorTab
namespace Go.Proofs.YticfidlclofbbaaDoor.Lt
open Go.Proofs.YticfidlclofbbaaDoor.G
open Go.RowKit Go.Proofs.YticfidlclofbbaaDoorW.PrintWords Go.Proofs.YticfidlclofbbaaDoorW.PrintLast Go.Proofs.YticfidlclofbbaaDoorW.PrintMore
attribute [local go_sem] max2_int min2_int max_two min_two max_three min_three max_four min_four   -- for this text's walks alone
set_option linter.unusedVariables false
set_option linter.unusedSimpArgs false

/-! ### fareboxlaw32_GfThrough: function 6 -/
mutual
def fareboxlaw32_GfThrough.l0 : Nat → List Int → List Int → List Int → List Int → List Int → Int → Option (Bool)
  | 0, _, _, _, _, _, _ => none
  | k + 1, x0, x1, x2, x7, x8, x11 => if x11 < (x0.length : Int) then (if x11 < (x1.length : Int) then (fareboxlaw32_GfThrough.j1 k x0 x1 x2 x7 x8 ([] : List Int) ([] : List Int) x11 (decide (x11 < 600))) else (fareboxlaw32_GfThrough.j1 k x0 x1 x2 x7 x8 ([] : List Int) ([] : List Int) x11 false)) else (fareboxlaw32_GfThrough.j1 k x0 x1 x2 x7 x8 ([] : List Int) ([] : List Int) x11 false)
def fareboxlaw32_GfThrough.j1 : Nat → List Int → List Int → List Int → List Int → List Int → List Int → List Int → Int → Bool → Option (Bool)
  | 0, _, _, _, _, _, _, _, _, _ => none
  | k + 1, x0, x1, x2, x7, x8, x9, x10, x11, x38 => if x38 = true then (fareboxlaw32_GfThrough.l1 k x0 x1 x2 x7 x8 x11 true 0) else (fareboxlaw32_GfThrough.l2 k x2 x7 x8 x9 x10 0)
def fareboxlaw32_GfThrough.l1 : Nat → List Int → List Int → List Int → List Int → List Int → Int → Bool → Int → Option (Bool)
  | 0, _, _, _, _, _, _, _, _ => none
  | k + 1, x0, x1, x2, x7, x8, x11, x12, x13 => if x13 < (x7.length : Int) then (if x12 = true then (if 0 ≤ x13 then (if 0 ≤ x11 then (if x11 < (x0.length : Int) then (fareboxlaw32_GfThrough.l1 k x0 x1 x2 x7 x8 x11 ((rd x7 x13) != (rd x0 x11)) (wrap64 (x13 + 1))) else (none)) else (none)) else (none)) else (fareboxlaw32_GfThrough.l1 k x0 x1 x2 x7 x8 x11 false (wrap64 (x13 + 1)))) else (if x12 = true then (if 0 ≤ x11 then (if x11 < (x0.length : Int) then ((some (([rd x0 x11] : List Int) : List Int)).bind fun y115 => (if x7.length + y115.length < 140737488355328 then (if x11 < (x1.length : Int) then ((some (([rd x1 x11] : List Int) : List Int)).bind fun y122 => (if x8.length + y122.length < 140737488355328 then (fareboxlaw32_GfThrough.l0 k x0 x1 x2 (x7 ++ y115) (x8 ++ y122) (wrap64 (x11 + 1))) else (none))) else (none)) else (none))) else (none)) else (none)) else (fareboxlaw32_GfThrough.l0 k x0 x1 x2 x7 x8 (wrap64 (x11 + 1))))
def fareboxlaw32_GfThrough.j4 : Nat → List Int → List Int → List Int → List Int → Option (Bool)
  | 0, _, _, _, _ => none
  | k + 1, x7, x8, x9, x10 => fareboxlaw32_GfThrough.l3 k x7 x8 x9 x10 0
def fareboxlaw32_GfThrough.l3 : Nat → List Int → List Int → List Int → List Int → Int → Option (Bool)
  | 0, _, _, _, _, _ => none
  | k + 1, x7, x8, x9, x10, x15 => if x15 < (x7.length : Int) then (if 0 ≤ x15 then ((gf_PolyEval.f k x10 (rd x7 x15)).bind fun t136 => ((some (([t136] : List Int) : List Int)).bind fun y137 => (if x9.length + y137.length < 140737488355328 then (fareboxlaw32_GfThrough.l3 k x7 x8 (x9 ++ y137) x10 (wrap64 (x15 + 1))) else (none)))) else (none)) else ((gf_Interpolate.f k x7 x8).bind fun bt143 => ((gf_Interpolate.f k x7 x9).bind fun bt147 => (if bt143.2 = true then (if bt147.2 = true then (if (bt143.1.length : Int) > (x7.length : Int) then (fareboxlaw32_GfThrough.j6 k x7 x8 bt143.1 true) else ((fareboxlaw32_trim.f k x10).bind fun t151 => ((fareboxlaw32_same.f k bt147.1 t151).bind fun t154 => (fareboxlaw32_GfThrough.j6 k x7 x8 bt143.1 (!t154))))) else (fareboxlaw32_GfThrough.j6 k x7 x8 bt143.1 true)) else (fareboxlaw32_GfThrough.j6 k x7 x8 bt143.1 true))))
def fareboxlaw32_GfThrough.j6 : Nat → List Int → List Int → List Int → Bool → Option (Bool)
  | 0, _, _, _, _ => none
  | k + 1, x7, x8, x16, x139 => if x139 = true then (some false) else (fareboxlaw32_GfThrough.l4 k x7 x8 x16 0)
def fareboxlaw32_GfThrough.l4 : Nat → List Int → List Int → List Int → Int → Option (Bool)
  | 0, _, _, _, _ => none
  | k + 1, x7, x8, x16, x20 => if x20 < (x7.length : Int) then (if 0 ≤ x20 then ((gf_PolyEval.f k x16 (rd x7 x20)).bind fun t156 => (if x20 < (x8.length : Int) then (if t156 = (rd x8 x20) then (fareboxlaw32_GfThrough.l4 k x7 x8 x16 (wrap64 (x20 + 1))) else (some false)) else (none))) else (none)) else (if (x7.length : Int) = 0 then ((gf_Mul.f k 1 1).bind fun t158 => (some (t158 == 1))) else (if 0 < (x7.length : Int) then ((some (([rd x7 0] : List Int) : List Int)).bind fun y160 => (if x7.length + y160.length < 140737488355328 then (if 0 < (x8.length : Int) then ((some (([rd x8 0] : List Int) : List Int)).bind fun y167 => (if x8.length + y167.length < 140737488355328 then ((gf_Interpolate.f k (x7 ++ y160) (x8 ++ y167)).bind fun bt173 => ((some (([1] : List Int) : List Int)).bind fun y177 => (if x8.length + y177.length < 140737488355328 then ((gf_Interpolate.f k x7 (x8 ++ y177)).bind fun bt183 => (if bt173.2 = true then (some false) else (some (!bt183.2)))) else (none)))) else (none))) else (none)) else (none))) else (none)))
def fareboxlaw32_GfThrough.l2 : Nat → List Int → List Int → List Int → List Int → List Int → Int → Option (Bool)
  | 0, _, _, _, _, _, _ => none
  | k + 1, x2, x7, x8, x9, x10, x14 => if x14 < (x2.length : Int) then (if x14 < (x7.length : Int) then (if 0 ≤ x14 then ((some (([rd x2 x14] : List Int) : List Int)).bind fun y129 => (if x10.length + y129.length < 140737488355328 then (fareboxlaw32_GfThrough.l2 k x2 x7 x8 x9 (x10 ++ y129) (wrap64 (x14 + 1))) else (none))) else (none)) else (fareboxlaw32_GfThrough.j4 k x7 x8 x9 x10)) else (fareboxlaw32_GfThrough.j4 k x7 x8 x9 x10)
end
def fareboxlaw32_GfThrough.f (k : Nat) (l0 : List Int) (l1 : List Int) (l2 : List Int) : Option (Bool) := fareboxlaw32_GfThrough.l0 k l0 l1 l2 ([] : List Int) ([] : List Int) 0
theorem fareboxlaw32_GfThrough.mono_l : ∀ k, (∀ y0 y1 y2 y3 y4 y5, LeO (fareboxlaw32_GfThrough.l0 k y0 y1 y2 y3 y4 y5) (fareboxlaw32_GfThrough.l0 (k + 1) y0 y1 y2 y3 y4 y5)) ∧ (∀ y0 y1 y2 y3 y4 y5 y6 y7 y8, LeO (fareboxlaw32_GfThrough.j1 k y0 y1 y2 y3 y4 y5 y6 y7 y8) (fareboxlaw32_GfThrough.j1 (k + 1) y0 y1 y2 y3 y4 y5 y6 y7 y8)) ∧ (∀ y0 y1 y2 y3 y4 y5 y6 y7, LeO (fareboxlaw32_GfThrough.l1 k y0 y1 y2 y3 y4 y5 y6 y7) (fareboxlaw32_GfThrough.l1 (k + 1) y0 y1 y2 y3 y4 y5 y6 y7)) ∧ (∀ y0 y1 y2 y3, LeO (fareboxlaw32_GfThrough.j4 k y0 y1 y2 y3) (fareboxlaw32_GfThrough.j4 (k + 1) y0 y1 y2 y3)) ∧ (∀ y0 y1 y2 y3 y4, LeO (fareboxlaw32_GfThrough.l3 k y0 y1 y2 y3 y4) (fareboxlaw32_GfThrough.l3 (k + 1) y0 y1 y2 y3 y4)) ∧ (∀ y0 y1 y2 y3, LeO (fareboxlaw32_GfThrough.j6 k y0 y1 y2 y3) (fareboxlaw32_GfThrough.j6 (k + 1) y0 y1 y2 y3)) ∧ (∀ y0 y1 y2 y3, LeO (fareboxlaw32_GfThrough.l4 k y0 y1 y2 y3) (fareboxlaw32_GfThrough.l4 (k + 1) y0 y1 y2 y3)) ∧ (∀ y0 y1 y2 y3 y4 y5, LeO (fareboxlaw32_GfThrough.l2 k y0 y1 y2 y3 y4 y5) (fareboxlaw32_GfThrough.l2 (k + 1) y0 y1 y2 y3 y4 y5))
  | 0 => ⟨fun _ _ _ _ _ _ r h => by simp [fareboxlaw32_GfThrough.l0] at h, fun _ _ _ _ _ _ _ _ _ r h => by simp [fareboxlaw32_GfThrough.j1] at h, fun _ _ _ _ _ _ _ _ r h => by simp [fareboxlaw32_GfThrough.l1] at h, fun _ _ _ _ r h => by simp [fareboxlaw32_GfThrough.j4] at h, fun _ _ _ _ _ r h => by simp [fareboxlaw32_GfThrough.l3] at h, fun _ _ _ _ r h => by simp [fareboxlaw32_GfThrough.j6] at h, fun _ _ _ _ r h => by simp [fareboxlaw32_GfThrough.l4] at h, fun _ _ _ _ _ _ r h => by simp [fareboxlaw32_GfThrough.l2] at h⟩
  | k + 1 => by
    obtain ⟨ih0, ih1, ih2, ih3, ih4, ih5, ih6, ih7⟩ := fareboxlaw32_GfThrough.mono_l k
    refine ⟨?_, ?_, ?_, ?_, ?_, ?_, ?_, ?_⟩
    · intro y0 y1 y2 y3 y4 y5
      unfold fareboxlaw32_GfThrough.l0
      repeat' first
      | (with_reducible exact ih0 _ _ _ _ _ _)
      | (with_reducible exact ih1 _ _ _ _ _ _ _ _ _)
      | (with_reducible exact ih2 _ _ _ _ _ _ _ _)
      | (with_reducible exact ih3 _ _ _ _)
      | (with_reducible exact ih4 _ _ _ _ _)
      | (with_reducible exact ih5 _ _ _ _)
      | (with_reducible exact ih6 _ _ _ _)
      | (with_reducible exact ih7 _ _ _ _ _ _)
      | (with_reducible exact fareboxlaw32_same.mono _ _ _)
      | (with_reducible exact fareboxlaw32_trim.mono _ _)
      | (with_reducible exact gf_Interpolate.mono _ _ _)
      | (with_reducible exact gf_Mul.mono _ _ _)
      | (with_reducible exact gf_PolyEval.mono _ _ _)
      | (with_reducible exact LeO.refl _)
      | (with_reducible exact LeO.none _)
      | (with_reducible refine LeO.ite ?_ ?_)
      | (with_reducible refine LeO.bind ?_ (fun _ => ?_))
      | exact ih0 _ _ _ _ _ _
      | exact ih1 _ _ _ _ _ _ _ _ _
      | exact ih2 _ _ _ _ _ _ _ _
      | exact ih3 _ _ _ _
      | exact ih4 _ _ _ _ _
      | exact ih5 _ _ _ _
      | exact ih6 _ _ _ _
      | exact ih7 _ _ _ _ _ _
      | exact fareboxlaw32_same.mono _ _ _
      | exact fareboxlaw32_trim.mono _ _
      | exact gf_Interpolate.mono _ _ _
      | exact gf_Mul.mono _ _ _
      | exact gf_PolyEval.mono _ _ _
      | exact LeO.none _
      | refine LeO.ite ?_ ?_
      | refine LeO.bind ?_ (fun _ => ?_)
    · intro y0 y1 y2 y3 y4 y5 y6 y7 y8
      unfold fareboxlaw32_GfThrough.j1
      repeat' first
      | (with_reducible exact ih0 _ _ _ _ _ _)
      | (with_reducible exact ih1 _ _ _ _ _ _ _ _ _)
      | (with_reducible exact ih2 _ _ _ _ _ _ _ _)
      | (with_reducible exact ih3 _ _ _ _)
      | (with_reducible exact ih4 _ _ _ _ _)
      | (with_reducible exact ih5 _ _ _ _)
      | (with_reducible exact ih6 _ _ _ _)
      | (with_reducible exact ih7 _ _ _ _ _ _)
      | (with_reducible exact fareboxlaw32_same.mono _ _ _)
      | (with_reducible exact fareboxlaw32_trim.mono _ _)
      | (with_reducible exact gf_Interpolate.mono _ _ _)
      | (with_reducible exact gf_Mul.mono _ _ _)
      | (with_reducible exact gf_PolyEval.mono _ _ _)
      | (with_reducible exact LeO.refl _)
      | (with_reducible exact LeO.none _)
      | (with_reducible refine LeO.ite ?_ ?_)
      | (with_reducible refine LeO.bind ?_ (fun _ => ?_))
      | exact ih0 _ _ _ _ _ _
      | exact ih1 _ _ _ _ _ _ _ _ _
      | exact ih2 _ _ _ _ _ _ _ _
      | exact ih3 _ _ _ _
      | exact ih4 _ _ _ _ _
      | exact ih5 _ _ _ _
      | exact ih6 _ _ _ _
      | exact ih7 _ _ _ _ _ _
      | exact fareboxlaw32_same.mono _ _ _
      | exact fareboxlaw32_trim.mono _ _
      | exact gf_Interpolate.mono _ _ _
      | exact gf_Mul.mono _ _ _
      | exact gf_PolyEval.mono _ _ _
      | exact LeO.none _
      | refine LeO.ite ?_ ?_
      | refine LeO.bind ?_ (fun _ => ?_)
    · intro y0 y1 y2 y3 y4 y5 y6 y7
      unfold fareboxlaw32_GfThrough.l1
      repeat' first
      | (with_reducible exact ih0 _ _ _ _ _ _)
      | (with_reducible exact ih1 _ _ _ _ _ _ _ _ _)
      | (with_reducible exact ih2 _ _ _ _ _ _ _ _)
      | (with_reducible exact ih3 _ _ _ _)
      | (with_reducible exact ih4 _ _ _ _ _)
      | (with_reducible exact ih5 _ _ _ _)
      | (with_reducible exact ih6 _ _ _ _)
      | (with_reducible exact ih7 _ _ _ _ _ _)
      | (with_reducible exact fareboxlaw32_same.mono _ _ _)
      | (with_reducible exact fareboxlaw32_trim.mono _ _)
      | (with_reducible exact gf_Interpolate.mono _ _ _)
      | (with_reducible exact gf_Mul.mono _ _ _)
      | (with_reducible exact gf_PolyEval.mono _ _ _)
      | (with_reducible exact LeO.refl _)
      | (with_reducible exact LeO.none _)
      | (with_reducible refine LeO.ite ?_ ?_)
      | (with_reducible refine LeO.bind ?_ (fun _ => ?_))
      | exact ih0 _ _ _ _ _ _
      | exact ih1 _ _ _ _ _ _ _ _ _
      | exact ih2 _ _ _ _ _ _ _ _
      | exact ih3 _ _ _ _
      | exact ih4 _ _ _ _ _
      | exact ih5 _ _ _ _
      | exact ih6 _ _ _ _
      | exact ih7 _ _ _ _ _ _
      | exact fareboxlaw32_same.mono _ _ _
      | exact fareboxlaw32_trim.mono _ _
      | exact gf_Interpolate.mono _ _ _
      | exact gf_Mul.mono _ _ _
      | exact gf_PolyEval.mono _ _ _
      | exact LeO.none _
      | refine LeO.ite ?_ ?_
      | refine LeO.bind ?_ (fun _ => ?_)
    · intro y0 y1 y2 y3
      unfold fareboxlaw32_GfThrough.j4
      repeat' first
      | (with_reducible exact ih0 _ _ _ _ _ _)
      | (with_reducible exact ih1 _ _ _ _ _ _ _ _ _)
      | (with_reducible exact ih2 _ _ _ _ _ _ _ _)
      | (with_reducible exact ih3 _ _ _ _)
      | (with_reducible exact ih4 _ _ _ _ _)
      | (with_reducible exact ih5 _ _ _ _)
      | (with_reducible exact ih6 _ _ _ _)
      | (with_reducible exact ih7 _ _ _ _ _ _)
      | (with_reducible exact fareboxlaw32_same.mono _ _ _)
      | (with_reducible exact fareboxlaw32_trim.mono _ _)
      | (with_reducible exact gf_Interpolate.mono _ _ _)
      | (with_reducible exact gf_Mul.mono _ _ _)
      | (with_reducible exact gf_PolyEval.mono _ _ _)
      | (with_reducible exact LeO.refl _)
      | (with_reducible exact LeO.none _)
      | (with_reducible refine LeO.ite ?_ ?_)
      | (with_reducible refine LeO.bind ?_ (fun _ => ?_))
      | exact ih0 _ _ _ _ _ _
      | exact ih1 _ _ _ _ _ _ _ _ _
      | exact ih2 _ _ _ _ _ _ _ _
      | exact ih3 _ _ _ _
      | exact ih4 _ _ _ _ _
      | exact ih5 _ _ _ _
      | exact ih6 _ _ _ _
      | exact ih7 _ _ _ _ _ _
      | exact fareboxlaw32_same.mono _ _ _
      | exact fareboxlaw32_trim.mono _ _
      | exact gf_Interpolate.mono _ _ _
      | exact gf_Mul.mono _ _ _
      | exact gf_PolyEval.mono _ _ _
      | exact LeO.none _
      | refine LeO.ite ?_ ?_
      | refine LeO.bind ?_ (fun _ => ?_)
    · intro y0 y1 y2 y3 y4
      unfold fareboxlaw32_GfThrough.l3
      repeat' first
      | (with_reducible exact ih0 _ _ _ _ _ _)
      | (with_reducible exact ih1 _ _ _ _ _ _ _ _ _)
      | (with_reducible exact ih2 _ _ _ _ _ _ _ _)
      | (with_reducible exact ih3 _ _ _ _)
      | (with_reducible exact ih4 _ _ _ _ _)
      | (with_reducible exact ih5 _ _ _ _)
      | (with_reducible exact ih6 _ _ _ _)
      | (with_reducible exact ih7 _ _ _ _ _ _)
      | (with_reducible exact fareboxlaw32_same.mono _ _ _)
      | (with_reducible exact fareboxlaw32_trim.mono _ _)
      | (with_reducible exact gf_Interpolate.mono _ _ _)
      | (with_reducible exact gf_Mul.mono _ _ _)
      | (with_reducible exact gf_PolyEval.mono _ _ _)
      | (with_reducible exact LeO.refl _)
      | (with_reducible exact LeO.none _)
      | (with_reducible refine LeO.ite ?_ ?_)
      | (with_reducible refine LeO.bind ?_ (fun _ => ?_))
      | exact ih0 _ _ _ _ _ _
      | exact ih1 _ _ _ _ _ _ _ _ _
      | exact ih2 _ _ _ _ _ _ _ _
      | exact ih3 _ _ _ _
      | exact ih4 _ _ _ _ _
      | exact ih5 _ _ _ _
      | exact ih6 _ _ _ _
      | exact ih7 _ _ _ _ _ _
      | exact fareboxlaw32_same.mono _ _ _
      | exact fareboxlaw32_trim.mono _ _
      | exact gf_Interpolate.mono _ _ _
      | exact gf_Mul.mono _ _ _
      | exact gf_PolyEval.mono _ _ _
      | exact LeO.none _
      | refine LeO.ite ?_ ?_
      | refine LeO.bind ?_ (fun _ => ?_)
    · intro y0 y1 y2 y3
      unfold fareboxlaw32_GfThrough.j6
      repeat' first
      | (with_reducible exact ih0 _ _ _ _ _ _)
      | (with_reducible exact ih1 _ _ _ _ _ _ _ _ _)
      | (with_reducible exact ih2 _ _ _ _ _ _ _ _)
      | (with_reducible exact ih3 _ _ _ _)
      | (with_reducible exact ih4 _ _ _ _ _)
      | (with_reducible exact ih5 _ _ _ _)
      | (with_reducible exact ih6 _ _ _ _)
      | (with_reducible exact ih7 _ _ _ _ _ _)
      | (with_reducible exact fareboxlaw32_same.mono _ _ _)
      | (with_reducible exact fareboxlaw32_trim.mono _ _)
      | (with_reducible exact gf_Interpolate.mono _ _ _)
      | (with_reducible exact gf_Mul.mono _ _ _)
      | (with_reducible exact gf_PolyEval.mono _ _ _)
      | (with_reducible exact LeO.refl _)
      | (with_reducible exact LeO.none _)
      | (with_reducible refine LeO.ite ?_ ?_)
      | (with_reducible refine LeO.bind ?_ (fun _ => ?_))
      | exact ih0 _ _ _ _ _ _
      | exact ih1 _ _ _ _ _ _ _ _ _
      | exact ih2 _ _ _ _ _ _ _ _
      | exact ih3 _ _ _ _
      | exact ih4 _ _ _ _ _
      | exact ih5 _ _ _ _
      | exact ih6 _ _ _ _
      | exact ih7 _ _ _ _ _ _
      | exact fareboxlaw32_same.mono _ _ _
      | exact fareboxlaw32_trim.mono _ _
      | exact gf_Interpolate.mono _ _ _
      | exact gf_Mul.mono _ _ _
      | exact gf_PolyEval.mono _ _ _
      | exact LeO.none _
      | refine LeO.ite ?_ ?_
      | refine LeO.bind ?_ (fun _ => ?_)
    · intro y0 y1 y2 y3
      unfold fareboxlaw32_GfThrough.l4
      repeat' first
      | (with_reducible exact ih0 _ _ _ _ _ _)
      | (with_reducible exact ih1 _ _ _ _ _ _ _ _ _)
      | (with_reducible exact ih2 _ _ _ _ _ _ _ _)
      | (with_reducible exact ih3 _ _ _ _)
      | (with_reducible exact ih4 _ _ _ _ _)
      | (with_reducible exact ih5 _ _ _ _)
      | (with_reducible exact ih6 _ _ _ _)
      | (with_reducible exact ih7 _ _ _ _ _ _)
      | (with_reducible exact fareboxlaw32_same.mono _ _ _)
      | (with_reducible exact fareboxlaw32_trim.mono _ _)
      | (with_reducible exact gf_Interpolate.mono _ _ _)
      | (with_reducible exact gf_Mul.mono _ _ _)
      | (with_reducible exact gf_PolyEval.mono _ _ _)
      | (with_reducible exact LeO.refl _)
      | (with_reducible exact LeO.none _)
      | (with_reducible refine LeO.ite ?_ ?_)
      | (with_reducible refine LeO.bind ?_ (fun _ => ?_))
      | exact ih0 _ _ _ _ _ _
      | exact ih1 _ _ _ _ _ _ _ _ _
      | exact ih2 _ _ _ _ _ _ _ _
      | exact ih3 _ _ _ _
      | exact ih4 _ _ _ _ _
      | exact ih5 _ _ _ _
      | exact ih6 _ _ _ _
      | exact ih7 _ _ _ _ _ _
      | exact fareboxlaw32_same.mono _ _ _
      | exact fareboxlaw32_trim.mono _ _
      | exact gf_Interpolate.mono _ _ _
      | exact gf_Mul.mono _ _ _
      | exact gf_PolyEval.mono _ _ _
      | exact LeO.none _
      | refine LeO.ite ?_ ?_
      | refine LeO.bind ?_ (fun _ => ?_)
    · intro y0 y1 y2 y3 y4 y5
      unfold fareboxlaw32_GfThrough.l2
      repeat' first
      | (with_reducible exact ih0 _ _ _ _ _ _)
      | (with_reducible exact ih1 _ _ _ _ _ _ _ _ _)
      | (with_reducible exact ih2 _ _ _ _ _ _ _ _)
      | (with_reducible exact ih3 _ _ _ _)
      | (with_reducible exact ih4 _ _ _ _ _)
      | (with_reducible exact ih5 _ _ _ _)
      | (with_reducible exact ih6 _ _ _ _)
      | (with_reducible exact ih7 _ _ _ _ _ _)
      | (with_reducible exact fareboxlaw32_same.mono _ _ _)
      | (with_reducible exact fareboxlaw32_trim.mono _ _)
      | (with_reducible exact gf_Interpolate.mono _ _ _)
      | (with_reducible exact gf_Mul.mono _ _ _)
      | (with_reducible exact gf_PolyEval.mono _ _ _)
      | (with_reducible exact LeO.refl _)
      | (with_reducible exact LeO.none _)
      | (with_reducible refine LeO.ite ?_ ?_)
      | (with_reducible refine LeO.bind ?_ (fun _ => ?_))
      | exact ih0 _ _ _ _ _ _
      | exact ih1 _ _ _ _ _ _ _ _ _
      | exact ih2 _ _ _ _ _ _ _ _
      | exact ih3 _ _ _ _
      | exact ih4 _ _ _ _ _
      | exact ih5 _ _ _ _
      | exact ih6 _ _ _ _
      | exact ih7 _ _ _ _ _ _
      | exact fareboxlaw32_same.mono _ _ _
      | exact fareboxlaw32_trim.mono _ _
      | exact gf_Interpolate.mono _ _ _
      | exact gf_Mul.mono _ _ _
      | exact gf_PolyEval.mono _ _ _
      | exact LeO.none _
      | refine LeO.ite ?_ ?_
      | refine LeO.bind ?_ (fun _ => ?_)
theorem fareboxlaw32_GfThrough.mono : ∀ a0 a1 a2 k, LeO (fareboxlaw32_GfThrough.f k a0 a1 a2) (fareboxlaw32_GfThrough.f (k + 1) a0 a1 a2) := by
  intro a0 a1 a2 k
  obtain ⟨ih0, ih1, ih2, ih3, ih4, ih5, ih6, ih7⟩ := fareboxlaw32_GfThrough.mono_l k
  unfold fareboxlaw32_GfThrough.f
  repeat' first
      | (with_reducible exact ih0 _ _ _ _ _ _)
      | (with_reducible exact ih1 _ _ _ _ _ _ _ _ _)
      | (with_reducible exact ih2 _ _ _ _ _ _ _ _)
      | (with_reducible exact ih3 _ _ _ _)
      | (with_reducible exact ih4 _ _ _ _ _)
      | (with_reducible exact ih5 _ _ _ _)
      | (with_reducible exact ih6 _ _ _ _)
      | (with_reducible exact ih7 _ _ _ _ _ _)
      | (with_reducible exact fareboxlaw32_same.mono _ _ _)
      | (with_reducible exact fareboxlaw32_trim.mono _ _)
      | (with_reducible exact gf_Interpolate.mono _ _ _)
      | (with_reducible exact gf_Mul.mono _ _ _)
      | (with_reducible exact gf_PolyEval.mono _ _ _)
      | (with_reducible exact LeO.refl _)
      | (with_reducible exact LeO.none _)
      | (with_reducible refine LeO.ite ?_ ?_)
      | (with_reducible refine LeO.bind ?_ (fun _ => ?_))
      | exact ih0 _ _ _ _ _ _
      | exact ih1 _ _ _ _ _ _ _ _ _
      | exact ih2 _ _ _ _ _ _ _ _
      | exact ih3 _ _ _ _
      | exact ih4 _ _ _ _ _
      | exact ih5 _ _ _ _
      | exact ih6 _ _ _ _
      | exact ih7 _ _ _ _ _ _
      | exact fareboxlaw32_same.mono _ _ _
      | exact fareboxlaw32_trim.mono _ _
      | exact gf_Interpolate.mono _ _ _
      | exact gf_Mul.mono _ _ _
      | exact gf_PolyEval.mono _ _ _
      | exact LeO.none _
      | refine LeO.ite ?_ ?_
      | refine LeO.bind ?_ (fun _ => ?_)
end Go.Proofs.YticfidlclofbbaaDoor.Lt
