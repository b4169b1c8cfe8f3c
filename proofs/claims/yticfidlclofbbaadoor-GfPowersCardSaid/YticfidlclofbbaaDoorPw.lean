/- The law GfPowers, in plain numbers: every element but 0 is one power of 2; powers add up. -/
import Derived.Test.YticfidlclofbbaaDoorLp1
import Derived.Test.YticfidlclofbbaaDoorEl
namespace Go.Proofs.YticfidlclofbbaaDoor.Lp
open Go.RowKit Go.Proofs.YticfidlclofbbaaDoorW.PrintWords FB Go.Proofs.YticfidlclofbbaaDoor.G

theorem i64_wf (n : Int) (h0 : -9223372036854775808 ≤ n) (h1 : n ≤ 9223372036854775807) : (Lit.int .i64 n).wf = true := by
  simp only [Lit.wf, IntKind.min, IntKind.max, IntKind.signed, IntKind.bits, Bool.and_eq_true, decide_eq_true_eq]
  exact ⟨by simpa using h0, by simpa using h1⟩
theorem i64_bd (n : Int) (h : (Lit.int .i64 n).wf = true) : -9223372036854775808 ≤ n ∧ n ≤ 9223372036854775807 := by
  simpa [Lit.wf, IntKind.min, IntKind.max, IntKind.signed, IntKind.bits] using h
theorem expF_ne (n : Int) : zF (expF n) ≠ 0 := fun h => pw_ne_zero _ (zF_eq_zero.1 h)
theorem logOf_expF (n : Int) : (logOf (expF n).n : Int) = n % 255 := by
  have h0 := Int.emod_nonneg n (show (255 : Int) ≠ 0 by decide)
  have h1 := Int.emod_lt_of_pos n (show (0 : Int) < 255 by decide)
  have : logOf (expF n).n = (n % 255).toNat := pw_inj (logOf_lt _ (pw_ne_zero _)) (by omega) (pw_logOf _ (pw_ne_zero _))
  rw [this]; omega
theorem expF_add (m n : Int) : expF (m + n) = expF m * expF n := by
  have h0 := Int.emod_nonneg m (show (255 : Int) ≠ 0 by decide)
  have h1 := Int.emod_nonneg n (show (255 : Int) ≠ 0 by decide)
  have h2 := Int.emod_nonneg (m + n) (show (255 : Int) ≠ 0 by decide)
  unfold expF
  rw [← pw_add, ← pw_mod ((m % 255).toNat + (n % 255).toNat)]
  congr 1
  omega
theorem rest_ev (m n : Int) (hm : (Lit.int .i64 m).wf = true) (hn : (Lit.int .i64 n).wf = true) : Ev (fun k => fareboxlaw32_GfPowers.j2 k m n false) true := by
  have bm := i64_bd m hm
  have bn := i64_bd n hn
  have fin : ∀ b : Bool, (b = false → -9223372036854775808 ≤ m + n ∧ m + n ≤ 9223372036854775807) → Ev (fun k => fareboxlaw32_GfPowers.j3 k m n b) true := by
    intro b hb
    cases b with
    | true => exact Ev.step (f := fun _ => some true) (fun k => by simp [fareboxlaw32_GfPowers.j3]) (Ev.now _)
    | false =>
      have hb' := hb rfl
      refine Ev.step (f := fun k => (gf_Mul.f k (zF (expF m)) (zF (expF n))).bind fun t => some (zF (expF (m + n)) == t)) (fun k => ?_) ?_
      · simp only [fareboxlaw32_GfPowers.j3]
        rw [if_neg (by decide), show wrap64 (m + n) = m + n by unfold wrap64; omega, exp_at _ (i64_wf _ hb'.1 hb'.2), exp_at _ hm, exp_at _ hn]
        rfl
      · refine Ev.bind (f := fun _ t => some (zF (expF (m + n)) == t)) (mul_ev _ _) ?_
        rw [expF_add, beq_self_eq_true]; exact Ev.now _
  by_cases c1 : n > 0
  · by_cases c2 : m > wrap64 (9223372036854775807 - n)
    · exact Ev.step (fun k => by simp only [fareboxlaw32_GfPowers.j2]; rw [if_neg (by decide), if_pos c1, if_pos c2]) (fin true (by simp))
    · refine Ev.step (fun k => by simp only [fareboxlaw32_GfPowers.j2]; rw [if_neg (by decide), if_pos c1, if_neg c2, if_neg (by omega)]) (fin false (fun _ => ?_))
      rw [show wrap64 (9223372036854775807 - n) = 9223372036854775807 - n by unfold wrap64; omega] at c2
      omega
  · by_cases c3 : n < 0
    · refine Ev.step (fun k => by simp only [fareboxlaw32_GfPowers.j2]; rw [if_neg (by decide), if_neg c1, if_pos c3]) (fin _ (fun h => ?_))
      rw [show wrap64 (-9223372036854775808 - n) = -9223372036854775808 - n by unfold wrap64; omega] at h
      have := of_decide_eq_false h
      omega
    · exact Ev.step (fun k => by simp only [fareboxlaw32_GfPowers.j2]; rw [if_neg (by decide), if_neg c1, if_neg c3]) (fin false (fun _ => by omega))
theorem j0_ev (m n : Int) (hm : (Lit.int .i64 m).wf = true) (hn : (Lit.int .i64 n).wf = true) : Ev (fun k => fareboxlaw32_GfPowers.j0 k m n (zF (expF m) == 0)) true := by
  have h0 : (zF (expF m) == 0) = false := by rw [beq_eq_false_iff_ne]; exact expF_ne m
  have e1 := logOf_expF m
  have p0 := Int.emod_nonneg m (show (255 : Int) ≠ 0 by decide)
  have p1 := Int.emod_lt_of_pos m (show (0 : Int) < 255 by decide)
  have t0 : Int.tmod m 255 = if 0 ≤ m then m % 255 else if m % 255 = 0 then 0 else m % 255 - 255 := by
    have := Int.tmod_add_mul_tdiv m 255
    by_cases h : 0 ≤ m
    · rw [if_pos h, Int.tmod_eq_emod_of_nonneg h]
    · rw [if_neg h]
      have l1 := Int.lt_tmod_of_pos m (show (0 : Int) < 255 by decide)
      have l2 : Int.tmod m 255 ≤ 0 := by
        have h2 := Int.tmod_nonneg 255 (show 0 ≤ -m by omega)
        rw [Int.neg_tmod] at h2
        omega
      split <;> omega
  rw [h0]
  have last : Ev (fun k => fareboxlaw32_GfPowers.j1 k m n (logOf (expF m).n : Int) true (m % 255)) true := by
    refine Ev.step (f := fun k => fareboxlaw32_GfPowers.j2 k m n false) (fun k => ?_) (rest_ev m n hm hn)
    simp only [fareboxlaw32_GfPowers.j1]
    rw [if_pos trivial, e1, show (m % 255 != m % 255) = false from by simp]
  refine Ev.step (f := fun k => (gf_Log.f k (zF (expF m))).bind fun b => if Int.tmod m 255 < 0 then fareboxlaw32_GfPowers.j1 k m n b.1 b.2 (wrap64 (Int.tmod m 255 + 255)) else fareboxlaw32_GfPowers.j1 k m n b.1 b.2 (Int.tmod m 255)) (fun k => ?_) ?_
  · simp only [fareboxlaw32_GfPowers.j0]
    rw [if_neg (by decide), exp_at _ hm]; rfl
  · refine Ev.bind (log_ev _) ?_
    have hl : logP (expF m) = ((logOf (expF m).n : Int), true) := by unfold logP; rw [if_neg (show expF m ≠ 0 from pw_ne_zero _)]
    rw [hl]
    by_cases c : Int.tmod m 255 < 0
    · refine Ev.congr (fun k => by rw [if_pos c]) ?_
      have : wrap64 (Int.tmod m 255 + 255) = m % 255 := by unfold wrap64; split at t0 <;> (try split at t0) <;> omega
      rw [this]; exact last
    · refine Ev.congr (fun k => by rw [if_neg c]) ?_
      have : Int.tmod m 255 = m % 255 := by split at t0 <;> (try split at t0) <;> omega
      rw [this]; exact last
theorem powers_ev (a : F) (m n : Int) (hm : (Lit.int .i64 m).wf = true) (hn : (Lit.int .i64 n).wf = true) : Ev (fun k => fareboxlaw32_GfPowers.f k (zF a) m n) true := by
  have x1 : gf_Exp.f 1 = some 2 := by
    rw [exp_at 1 (i64_wf 1 (by omega) (by omega))]
    decide +kernel
  unfold fareboxlaw32_GfPowers.f
  refine Ev.bind (log_ev a) ?_
  by_cases ha : a = 0
  · have hl : logP a = (0, false) := by unfold logP; rw [if_pos ha]
    have hz : zF a = 0 := zF_eq_zero.2 ha
    refine Ev.congr (f := fun k => fareboxlaw32_GfPowers.j0 k m n (zF (expF m) == 0)) (fun k => ?_) (j0_ev m n hm hn)
    rw [hl, hz, x1, exp_at m hm]; rfl
  · have hl : logP a = ((logOf a.n : Int), true) := by unfold logP; rw [if_neg ha]
    have hz : ¬ zF a = 0 := fun h => ha (zF_eq_zero.1 h)
    have hlt := logOf_lt a ha
    refine Ev.congr (f := fun k => fareboxlaw32_GfPowers.j0 k m n (zF (expF m) == 0)) (fun k => ?_) (j0_ev m n hm hn)
    have e2 : gf_Exp.f (logOf a.n : Int) = some (zF a) := by
      rw [exp_at _ (i64_wf _ (by omega) (by omega))]
      have : expF (logOf a.n : Int) = a := by
        unfold expF
        rw [show ((logOf a.n : Int) % 255).toNat = logOf a.n by omega, pw_logOf a ha]
      rw [this]
    rw [hl]
    have hz2 : (zF a != 0) = true := by rw [bne_iff_ne]; exact hz
    simp only [hz2, bne_self_eq_false, Bool.false_eq_true, if_false, if_true, e2, Option.bind_some, x1, exp_at m hm]
    rw [if_neg (by omega), if_neg (by omega)]
theorem gfPowers_walk (a0 a1 a2 : Int) (w : World) (w0 : (Lit.int .u8 a0).wf = true) (w1 : (Lit.int .i64 a1).wf = true) (w2 : (Lit.int .i64 a2).wf = true) (ht : TabW w) :
    Calls Tryd.prog 3 #[.int .u8 a0, .int .i64 a1, .int .i64 a2] w fun e w' => e = .returned (.bool true) ∧ Below w.heap.size w w' := by
  have hb : 0 ≤ a0 ∧ a0 ≤ 255 := by simpa [Lit.wf, IntKind.min, IntKind.max, IntKind.signed, IntKind.bits] using w0
  obtain ⟨a, rfl⟩ := zF_of hb.1 (by omega)
  obtain ⟨k, hk⟩ := (powers_ev a a1 a2 w1 w2).rounds
  refine (fareboxlaw32_GfPowers.calls k _ _ _ true w hk ht).mono ?_
  rintro e w' ⟨rfl, hd⟩
  exact ⟨rfl, hd.below⟩
end Go.Proofs.YticfidlclofbbaaDoor.Lp
