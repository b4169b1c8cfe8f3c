/- trim, in plain lists. -/
import Derived.Test.YticfidlclofbbaaG
import Derived.Test.YticfidlclofbbaaPm
namespace Go.Proofs.Yticfidlclofbbaa.G
open Go.RowKit Go.Proofs.YticfidlclofbbaaW.PrintWords FB

theorem shortL_take_zero (l : List F) (n : Nat) (h : n < l.length) (hz : l.getD n 0 = 0) : shortL (l.take (n + 1)) = shortL (l.take n) := by
  rw [List.take_succ_eq_append_getElem h]
  have : l[n] = 0 := by simpa [List.getD_eq_getElem?_getD, h] using hz
  rw [this, shortL_snoc_zero]
theorem shortL_take_ne (l : List F) (n : Nat) (h : n < l.length) (hz : l.getD n 0 ≠ 0) : shortL (l.take (n + 1)) = l.take (n + 1) := by
  rw [List.take_succ_eq_append_getElem h]
  have : l[n] ≠ 0 := by simpa [List.getD_eq_getElem?_getD, h] using hz
  exact shortL_snoc_ne _ _ this
theorem trim_loop (l : List F) (hl : l.length ≤ 140737488355328) : ∀ n : Nat, n ≤ l.length → Ev (fun k => fareboxlaw32_trim.l0 k (Iz l) (n : Int)) (Iz (shortL (l.take n))) := by
  intro n
  induction n with
  | zero =>
    intro _
    refine Ev.step (f := fun _ => some (Iz (shortL (l.take 0)))) (fun k => ?_) (Ev.now _)
    simp only [fareboxlaw32_trim.l0]
    rw [if_neg (by omega), if_pos (by omega), if_pos (by omega)]
    rfl
  | succ n ih =>
    intro hn
    have e1 : wrap64 (((n + 1 : Nat) : Int) - 1) = (n : Int) := by rw [w64 _ (by omega) (by omega)]; omega
    by_cases hz : l.getD n 0 = 0
    · rw [shortL_take_zero l n (by omega) hz]
      refine Ev.step (f := fun k => fareboxlaw32_trim.l0 k (Iz l) (n : Int)) (fun k => ?_) (ih (by omega))
      simp only [fareboxlaw32_trim.l0]
      rw [e1, if_pos (by omega), if_pos (by omega), if_pos (by rw [Iz_length]; omega), rd_IzN, hz, if_pos zF_zero]
    · rw [shortL_take_ne l n (by omega) hz]
      refine Ev.step (f := fun _ => some (Iz (l.take (n + 1)))) (fun k => ?_) (Ev.now _)
      simp only [fareboxlaw32_trim.l0]
      rw [e1, if_pos (by omega), if_pos (by omega), if_pos (by rw [Iz_length]; omega), rd_IzN, if_neg (fun h => hz (zF_eq_zero.1 h)), if_pos (by omega), if_pos (by rw [Iz_length]; omega), Iz_take]
      rfl
theorem trim_ev (l : List F) (hl : l.length ≤ 140737488355328) : Ev (fun k => fareboxlaw32_trim.f k (Iz l)) (Iz (shortL l)) := by
  have := trim_loop l hl l.length (Nat.le_refl _)
  rw [List.take_length] at this
  refine Ev.congr (fun k => ?_) this
  unfold fareboxlaw32_trim.f
  rw [Iz_length]
end Go.Proofs.Yticfidlclofbbaa.G
