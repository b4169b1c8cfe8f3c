import Derived.Below
import Derived.Deep.Draws
import Derived.Deep.AppendLies
import Derived.Maps.AppendAt
import Derived.OwnWalk
import Derived.Laws.BytesArg
import Derived.Laws.MakeOwn
import Derived.Laws.OwnMore
import Derived.Deep.OwnRows
import Derived.Tactics
import Derived.Lib.ConvBytes
import Derived.Laws.Slices
import Derived.WalkKit
import Derived.KernelRfl
import Derived.RowKit3
import Derived.Deep.LoopGhost
import Derived.Deep.QuietTactic
import Derived.BigQuiet
import Derived.WideLaws
import Derived.Deep.DeepCutAuto
import Derived.Deep.CutBlock
import Derived.Deep.RegionHeld3
import Derived.Laws.Rows
import Derived.Lib.AppendStr
import Derived.ArgAppend
import Derived.Laws.IdiomCopy
import Derived.OrdersHeld
import Derived.Laws.BitsLemmas
import Derived.RowKit
import Derived.Test.YtgcibhbhbgoacaaDoorLqe
import Derived.Test.YtgcibhbhbgoacaaDoorH
import Derived.Test.YtgcibhbhbgoacaaDoorDc
import Derived.Test.YtgcibhbhbgoacaaDoorProg
import Derived.Test.YtgcibhbhbgoacaaDoorWWords
import Derived.Test.YtgcibhbhbgoacaaDoorWLast
import Derived.Test.YtgcibhbhbgoacaaDoorWTab
import Derived.Test.YtgcibhbhbgoacaaDoorWApart
import Derived.Test.YtgcibhbhbgoacaaDoorWKept
import Derived.Test.YtgcibhbhbgoacaaDoorWShare
import Derived.Test.YtgcibhbhbgoacaaDoorWRepsOne
import Derived.Test.YtgcibhbhbgoacaaDoorWMore
import Derived.Test.YtgcibhbhbgoacaaDoorG0
import Derived.Test.YtgcibhbhbgoacaaDoorG1
import Derived.Test.YtgcibhbhbgoacaaDoorG2
import Derived.Test.YtgcibhbhbgoacaaDoorTab
namespace Go.Proofs.YtgcibhbhbgoacaaDoor
open Go.Proofs.YtgcibhbhbgoacaaDoor.G Go.Proofs.YtgcibhbhbgoacaaDoor.H FB
open Go.RowKit Go.Proofs.YtgcibhbhbgoacaaDoorW.PrintWords
set_option linter.unusedVariables false
set_option linter.unusedSimpArgs false

end Go.Proofs.YtgcibhbhbgoacaaDoor

namespace Go.Proofs.YtgcibhbhbgoacaaDoor
open Go.Proofs.YtgcibhbhbgoacaaDoor.G Go.Proofs.YtgcibhbhbgoacaaDoor.H FB
open Go.RowKit Go.Proofs.YtgcibhbhbgoacaaDoorW.PrintWords
set_option linter.unusedVariables false
set_option linter.unusedSimpArgs false

theorem sameInts_loop (l m : List Int) (hl : l.length = m.length) (hb : l.length ≤ 140737488355328) (d : Nat) : ∀ i : Nat, l.length - i = d → i ≤ l.length → l.take i = m.take i → Ev (fun k => fareboxlaw34_sameInts.l0 k l m (i : Int)) (decide (l = m)) := by
  induction d with
  | zero =>
    intro i h1 h2 h3
    have e : l = m := by rw [List.take_of_length_le (by omega), List.take_of_length_le (by omega)] at h3; exact h3
    rw [decide_eq_true e]
    exact Ev.step (f := fun _ => some true) (fun k => by simp only [fareboxlaw34_sameInts.l0]; rw [if_neg (by omega)]) (Ev.now _)
  | succ d ih =>
    intro i h1 h2 h3
    have hi : i < l.length := by omega
    have him : i < m.length := by omega
    by_cases he : l[i] = m[i]
    · refine Ev.step (fun k => ?_) (ih (i + 1) (by omega) (by omega) (by rw [List.take_succ_eq_append_getElem hi, List.take_succ_eq_append_getElem him, h3, he]))
      simp only [fareboxlaw34_sameInts.l0]
      rw [if_pos (by omega), if_pos (by omega), if_pos (by omega), rd_list l i hi, rd_list m i him, if_pos he, show wrap64 ((i : Int) + 1) = ((i + 1 : Nat) : Int) by unfold wrap64; omega]
    · have e : l ≠ m := fun e => he (by subst e; rfl)
      rw [decide_eq_false e]
      refine Ev.step (f := fun _ => some false) (fun k => ?_) (Ev.now _)
      simp only [fareboxlaw34_sameInts.l0]
      rw [if_pos (by omega), if_pos (by omega), if_pos (by omega), rd_list l i hi, rd_list m i him, if_neg he]
theorem sameInts_ev (l m : List Int) (hb : l.length ≤ 140737488355328) : Ev (fun k => fareboxlaw34_sameInts.f k l m) (decide (l = m)) := by
  by_cases hl : l.length = m.length
  · exact Ev.congr (fun k => by unfold fareboxlaw34_sameInts.f; rw [if_pos (by omega)]; rfl) (sameInts_loop l m hl hb l.length 0 (by omega) (by omega) (by simp))
  · rw [decide_eq_false (fun e => hl (by rw [e]))]
    exact Ev.congr (f := fun _ => some false) (fun k => by unfold fareboxlaw34_sameInts.f; rw [if_neg (by omega)]) (Ev.now _)
theorem decR_some {W r : List F} {check : Int} {hs : List Int} (h1 : chk W.length check = 0) (h2 : holesOk W.length hs [] = true) (h3 : ¬ check < hs.length) (h : decL W check.toNat (hs.map Int.toNat) = some r) :
    decR W check hs = (r.take (W.length - check.toNat), diffU W r W.length, 0) := by
  unfold decR
  rw [if_neg (by rw [h1]; simp), if_neg (by rw [h2]; simp), if_neg h3, h]
end Go.Proofs.YtgcibhbhbgoacaaDoor
