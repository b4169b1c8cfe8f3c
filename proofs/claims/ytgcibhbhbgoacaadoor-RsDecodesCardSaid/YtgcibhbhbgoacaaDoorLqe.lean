import Derived.Test.YtgcibhbhbgoacaaDoorVa
import Derived.Test.YtgcibhbhbgoacaaDoorHe
namespace Go.Proofs.YtgcibhbhbgoacaaDoor
open Go.Proofs.YtgcibhbhbgoacaaDoor.G Go.Proofs.YtgcibhbhbgoacaaDoor.H FB
open Go.RowKit Go.Proofs.YtgcibhbhbgoacaaDoorW.PrintWords
set_option linter.unusedVariables false
set_option linter.unusedSimpArgs false

def diffU (a b : List F) (n : Nat) : List Nat := (List.range n).filter fun i => decide (a.getD i 0 ≠ b.getD i 0)
theorem diffU_yes {a b : List F} {i : Nat} (h : a.getD i 0 ≠ b.getD i 0) : diffU a b (i + 1) = diffU a b i ++ [i] := by
  unfold diffU
  rw [List.range_succ, List.filter_append]
  simp only [List.filter_cons, h, ne_eq, not_false_eq_true, decide_true, if_true, List.filter_nil]
theorem diffU_no {a b : List F} {i : Nat} (h : a.getD i 0 = b.getD i 0) : diffU a b (i + 1) = diffU a b i := by
  unfold diffU
  rw [List.range_succ, List.filter_append]
  have : decide (a.getD i 0 ≠ b.getD i 0) = false := by rw [decide_eq_false_iff_not]; exact fun h2 => h2 h
  simp only [List.filter_cons, this, List.filter_nil]
  simp
theorem diffU_length (a b : List F) (i : Nat) : (diffU a b i).length ≤ i := by
  have := List.length_filter_le (fun i => decide (a.getD i 0 ≠ b.getD i 0)) (List.range i)
  rwa [List.length_range] at this
theorem getD_set (l : List F) (i q : Nat) (x : F) (h : i < l.length) : (l.set i x).getD q 0 = if q = i then x else l.getD q 0 := by
  simp only [List.getD_eq_getElem?_getD]
  by_cases e : q = i
  · subst e; rw [if_pos rfl, List.getElem?_set_self h]; rfl
  · rw [if_neg e, List.getElem?_set_ne (fun e2 => e e2.symm)]
end Go.Proofs.YtgcibhbhbgoacaaDoor

namespace Go.Proofs.YtgcibhbhbgoacaaDoor
open Go.Proofs.YtgcibhbhbgoacaaDoor.G Go.Proofs.YtgcibhbhbgoacaaDoor.H FB
open Go.RowKit Go.Proofs.YtgcibhbhbgoacaaDoorW.PrintWords
set_option linter.unusedVariables false
set_option linter.unusedSimpArgs false

theorem rd_list (l : List Int) (i : Nat) (h : i < l.length) : rd l (i : Int) = l[i] := by simp [rd, List.getD_eq_getElem?_getD, h]
end Go.Proofs.YtgcibhbhbgoacaaDoor
