-- Written for this claim by a program of ours (wip/tools), out of the translation: plain functions, and the proofs that the machine's calls come to their answers. Lean checks it.
import Derived.Test.YticfidlclofbbaaDoorLp0
import Derived.Test.YticfidlclofbbaaDoorG
import Derived.Test.YticfidlclofbbaaDoorTab
namespace Go.Proofs.YticfidlclofbbaaDoor.Lp
open Go.Proofs.YticfidlclofbbaaDoor.G
open Go.RowKit Go.Proofs.YticfidlclofbbaaDoorW.PrintWords Go.Proofs.YticfidlclofbbaaDoorW.PrintLast Go.Proofs.YticfidlclofbbaaDoorW.PrintMore
attribute [local go_sem] max2_int min2_int max_two min_two max_three min_three max_four min_four   -- for this text's walks alone
set_option linter.unusedVariables false
set_option linter.unusedSimpArgs false

/-! ### fareboxlaw32_GfPowers: function 3 -/
mutual
def fareboxlaw32_GfPowers.j0 : Nat → Int → Int → Bool → Option (Bool)
  | 0, _, _, _ => none
  | k + 1, x1, x2, x46 => if x46 = true then (some false) else ((gf_Exp.f x1).bind fun t108 => ((gf_Log.f k t108).bind fun bt109 => (if (Int.tmod x1 255) < 0 then (fareboxlaw32_GfPowers.j1 k x1 x2 bt109.1 bt109.2 (wrap64 ((Int.tmod x1 255) + 255))) else (fareboxlaw32_GfPowers.j1 k x1 x2 bt109.1 bt109.2 (Int.tmod x1 255)))))
def fareboxlaw32_GfPowers.j1 : Nat → Int → Int → Int → Bool → Int → Option (Bool)
  | 0, _, _, _, _, _ => none
  | k + 1, x1, x2, x9, x10, x11 => if x10 = true then (fareboxlaw32_GfPowers.j2 k x1 x2 (x9 != x11)) else (fareboxlaw32_GfPowers.j2 k x1 x2 true)
def fareboxlaw32_GfPowers.j2 : Nat → Int → Int → Bool → Option (Bool)
  | 0, _, _, _ => none
  | k + 1, x1, x2, x65 => if x65 = true then (some false) else (if x2 > 0 then (if x1 > (wrap64 (9223372036854775807 - x2)) then (fareboxlaw32_GfPowers.j3 k x1 x2 true) else (if x2 < 0 then (fareboxlaw32_GfPowers.j3 k x1 x2 (decide (x1 < (wrap64 ((-9223372036854775808) - x2))))) else (fareboxlaw32_GfPowers.j3 k x1 x2 false))) else (if x2 < 0 then (fareboxlaw32_GfPowers.j3 k x1 x2 (decide (x1 < (wrap64 ((-9223372036854775808) - x2))))) else (fareboxlaw32_GfPowers.j3 k x1 x2 false)))
def fareboxlaw32_GfPowers.j3 : Nat → Int → Int → Bool → Option (Bool)
  | 0, _, _, _ => none
  | k + 1, x1, x2, x83 => if x83 = true then (some true) else ((gf_Exp.f (wrap64 (x1 + x2))).bind fun t111 => ((gf_Exp.f x1).bind fun t112 => ((gf_Exp.f x2).bind fun t113 => ((gf_Mul.f k t112 t113).bind fun t114 => (some (t111 == t114))))))
end
def fareboxlaw32_GfPowers.f (k : Nat) (a0 : Int) (a1 : Int) (a2 : Int) : Option (Bool) := (gf_Log.f k a0).bind fun bt101 => (if (bt101.2 != (a0 != 0)) = true then (fareboxlaw32_GfPowers.j0 k a1 a2 true) else (if bt101.2 = true then (if bt101.1 < 0 then (fareboxlaw32_GfPowers.j0 k a1 a2 true) else (if bt101.1 > 254 then (fareboxlaw32_GfPowers.j0 k a1 a2 true) else ((gf_Exp.f bt101.1).bind fun t103 => (if t103 = a0 then ((gf_Exp.f 1).bind fun t104 => (if t104 = 2 then ((gf_Exp.f a1).bind fun t105 => (fareboxlaw32_GfPowers.j0 k a1 a2 (t105 == 0))) else (fareboxlaw32_GfPowers.j0 k a1 a2 true))) else (fareboxlaw32_GfPowers.j0 k a1 a2 true))))) else ((gf_Exp.f 1).bind fun t106 => (if t106 = 2 then ((gf_Exp.f a1).bind fun t107 => (fareboxlaw32_GfPowers.j0 k a1 a2 (t107 == 0))) else (fareboxlaw32_GfPowers.j0 k a1 a2 true)))))
theorem fareboxlaw32_GfPowers.mono_l : ∀ k, (∀ y0 y1 y2, LeO (fareboxlaw32_GfPowers.j0 k y0 y1 y2) (fareboxlaw32_GfPowers.j0 (k + 1) y0 y1 y2)) ∧ (∀ y0 y1 y2 y3 y4, LeO (fareboxlaw32_GfPowers.j1 k y0 y1 y2 y3 y4) (fareboxlaw32_GfPowers.j1 (k + 1) y0 y1 y2 y3 y4)) ∧ (∀ y0 y1 y2, LeO (fareboxlaw32_GfPowers.j2 k y0 y1 y2) (fareboxlaw32_GfPowers.j2 (k + 1) y0 y1 y2)) ∧ (∀ y0 y1 y2, LeO (fareboxlaw32_GfPowers.j3 k y0 y1 y2) (fareboxlaw32_GfPowers.j3 (k + 1) y0 y1 y2))
  | 0 => ⟨fun _ _ _ r h => by simp [fareboxlaw32_GfPowers.j0] at h, fun _ _ _ _ _ r h => by simp [fareboxlaw32_GfPowers.j1] at h, fun _ _ _ r h => by simp [fareboxlaw32_GfPowers.j2] at h, fun _ _ _ r h => by simp [fareboxlaw32_GfPowers.j3] at h⟩
  | k + 1 => by
    obtain ⟨ih0, ih1, ih2, ih3⟩ := fareboxlaw32_GfPowers.mono_l k
    refine ⟨?_, ?_, ?_, ?_⟩
    · intro y0 y1 y2
      unfold fareboxlaw32_GfPowers.j0
      repeat' first
      | (with_reducible exact ih0 _ _ _)
      | (with_reducible exact ih1 _ _ _ _ _)
      | (with_reducible exact ih2 _ _ _)
      | (with_reducible exact ih3 _ _ _)
      | (with_reducible exact gf_Log.mono _ _)
      | (with_reducible exact gf_Mul.mono _ _ _)
      | (with_reducible exact LeO.refl _)
      | (with_reducible exact LeO.none _)
      | (with_reducible refine LeO.ite ?_ ?_)
      | (with_reducible refine LeO.bind ?_ (fun _ => ?_))
      | exact ih0 _ _ _
      | exact ih1 _ _ _ _ _
      | exact ih2 _ _ _
      | exact ih3 _ _ _
      | exact gf_Log.mono _ _
      | exact gf_Mul.mono _ _ _
      | exact LeO.none _
      | refine LeO.ite ?_ ?_
      | refine LeO.bind ?_ (fun _ => ?_)
    · intro y0 y1 y2 y3 y4
      unfold fareboxlaw32_GfPowers.j1
      repeat' first
      | (with_reducible exact ih0 _ _ _)
      | (with_reducible exact ih1 _ _ _ _ _)
      | (with_reducible exact ih2 _ _ _)
      | (with_reducible exact ih3 _ _ _)
      | (with_reducible exact gf_Log.mono _ _)
      | (with_reducible exact gf_Mul.mono _ _ _)
      | (with_reducible exact LeO.refl _)
      | (with_reducible exact LeO.none _)
      | (with_reducible refine LeO.ite ?_ ?_)
      | (with_reducible refine LeO.bind ?_ (fun _ => ?_))
      | exact ih0 _ _ _
      | exact ih1 _ _ _ _ _
      | exact ih2 _ _ _
      | exact ih3 _ _ _
      | exact gf_Log.mono _ _
      | exact gf_Mul.mono _ _ _
      | exact LeO.none _
      | refine LeO.ite ?_ ?_
      | refine LeO.bind ?_ (fun _ => ?_)
    · intro y0 y1 y2
      unfold fareboxlaw32_GfPowers.j2
      repeat' first
      | (with_reducible exact ih0 _ _ _)
      | (with_reducible exact ih1 _ _ _ _ _)
      | (with_reducible exact ih2 _ _ _)
      | (with_reducible exact ih3 _ _ _)
      | (with_reducible exact gf_Log.mono _ _)
      | (with_reducible exact gf_Mul.mono _ _ _)
      | (with_reducible exact LeO.refl _)
      | (with_reducible exact LeO.none _)
      | (with_reducible refine LeO.ite ?_ ?_)
      | (with_reducible refine LeO.bind ?_ (fun _ => ?_))
      | exact ih0 _ _ _
      | exact ih1 _ _ _ _ _
      | exact ih2 _ _ _
      | exact ih3 _ _ _
      | exact gf_Log.mono _ _
      | exact gf_Mul.mono _ _ _
      | exact LeO.none _
      | refine LeO.ite ?_ ?_
      | refine LeO.bind ?_ (fun _ => ?_)
    · intro y0 y1 y2
      unfold fareboxlaw32_GfPowers.j3
      repeat' first
      | (with_reducible exact ih0 _ _ _)
      | (with_reducible exact ih1 _ _ _ _ _)
      | (with_reducible exact ih2 _ _ _)
      | (with_reducible exact ih3 _ _ _)
      | (with_reducible exact gf_Log.mono _ _)
      | (with_reducible exact gf_Mul.mono _ _ _)
      | (with_reducible exact LeO.refl _)
      | (with_reducible exact LeO.none _)
      | (with_reducible refine LeO.ite ?_ ?_)
      | (with_reducible refine LeO.bind ?_ (fun _ => ?_))
      | exact ih0 _ _ _
      | exact ih1 _ _ _ _ _
      | exact ih2 _ _ _
      | exact ih3 _ _ _
      | exact gf_Log.mono _ _
      | exact gf_Mul.mono _ _ _
      | exact LeO.none _
      | refine LeO.ite ?_ ?_
      | refine LeO.bind ?_ (fun _ => ?_)
theorem fareboxlaw32_GfPowers.mono : ∀ a0 a1 a2 k, LeO (fareboxlaw32_GfPowers.f k a0 a1 a2) (fareboxlaw32_GfPowers.f (k + 1) a0 a1 a2) := by
  intro a0 a1 a2 k
  obtain ⟨ih0, ih1, ih2, ih3⟩ := fareboxlaw32_GfPowers.mono_l k
  unfold fareboxlaw32_GfPowers.f
  repeat' first
      | (with_reducible exact ih0 _ _ _)
      | (with_reducible exact ih1 _ _ _ _ _)
      | (with_reducible exact ih2 _ _ _)
      | (with_reducible exact ih3 _ _ _)
      | (with_reducible exact gf_Log.mono _ _)
      | (with_reducible exact gf_Mul.mono _ _ _)
      | (with_reducible exact LeO.refl _)
      | (with_reducible exact LeO.none _)
      | (with_reducible refine LeO.ite ?_ ?_)
      | (with_reducible refine LeO.bind ?_ (fun _ => ?_))
      | exact ih0 _ _ _
      | exact ih1 _ _ _ _ _
      | exact ih2 _ _ _
      | exact ih3 _ _ _
      | exact gf_Log.mono _ _
      | exact gf_Mul.mono _ _ _
      | exact LeO.none _
      | refine LeO.ite ?_ ?_
      | refine LeO.bind ?_ (fun _ => ?_)
set_option maxHeartbeats 8000000 in
set_option maxRecDepth 100000 in
theorem fareboxlaw32_GfPowers.calls (k : Nat) (a0 : Int) (a1 : Int) (a2 : Int) (r : Bool) (w : World) (h : fareboxlaw32_GfPowers.f k a0 a1 a2 = some r) (ht : TabW w) :
    Calls Tryd.prog 3 #[.int .u8 a0, .int .i64 a1, .int .i64 a2] w fun e w' => e = .returned (.bool r) ∧ Drawn0 w w' := by
  have HT := Aside0.mk ht
  clear ht
  have H : ((gf_Log.f k a0).bind fun bt101 => (if (bt101.2 != (a0 != 0)) = true then (fareboxlaw32_GfPowers.j0 k a1 a2 true) else (if bt101.2 = true then (if bt101.1 < 0 then (fareboxlaw32_GfPowers.j0 k a1 a2 true) else (if bt101.1 > 254 then (fareboxlaw32_GfPowers.j0 k a1 a2 true) else ((gf_Exp.f bt101.1).bind fun t103 => (if t103 = a0 then ((gf_Exp.f 1).bind fun t104 => (if t104 = 2 then ((gf_Exp.f a1).bind fun t105 => (fareboxlaw32_GfPowers.j0 k a1 a2 (t105 == 0))) else (fareboxlaw32_GfPowers.j0 k a1 a2 true))) else (fareboxlaw32_GfPowers.j0 k a1 a2 true))))) else ((gf_Exp.f 1).bind fun t106 => (if t106 = 2 then ((gf_Exp.f a1).bind fun t107 => (fareboxlaw32_GfPowers.j0 k a1 a2 (t107 == 0))) else (fareboxlaw32_GfPowers.j0 k a1 a2 true)))))) = some r := h
  clear h
  replace H := Option.bind_eq_some_iff.mp H
  obtain ⟨⟨t101, t102⟩, A40, H⟩ := H
  replace H : (if (t102 != (a0 != 0)) = true then (fareboxlaw32_GfPowers.j0 k a1 a2 true) else (if t102 = true then (if t101 < 0 then (fareboxlaw32_GfPowers.j0 k a1 a2 true) else (if t101 > 254 then (fareboxlaw32_GfPowers.j0 k a1 a2 true) else ((gf_Exp.f t101).bind fun t103 => (if t103 = a0 then ((gf_Exp.f 1).bind fun t104 => (if t104 = 2 then ((gf_Exp.f a1).bind fun t105 => (fareboxlaw32_GfPowers.j0 k a1 a2 (t105 == 0))) else (fareboxlaw32_GfPowers.j0 k a1 a2 true))) else (fareboxlaw32_GfPowers.j0 k a1 a2 true))))) else ((gf_Exp.f 1).bind fun t106 => (if t106 = 2 then ((gf_Exp.f a1).bind fun t107 => (fareboxlaw32_GfPowers.j0 k a1 a2 (t107 == 0))) else (fareboxlaw32_GfPowers.j0 k a1 a2 true))))) = some r := H
  have A4 := Aside0.mk A40
  clear A40
  have HC5 := Aside0.mk H
  clear H
  go_enter Tryd.func3, Tryd.ntmps3
  go_upto_region 2 with (first | ((with_reducible refine gate_callee (f := 8) rfl ?_); refine goesL_ (some 14) rfl rfl Tryd.func8 (by kernel_rfl) rfl #[.int .u8 a0] rfl (by (try simp only [List.map_toArray, List.map_cons, List.map_nil]); first | done | rfl | (simp only [List.length_drop, List.length_take]; rfl)) ?_; (with_reducible refine (gf_Log.calls k a0 t101 t102 _ A4.out (by first | exact HT.out | (repeat (first | exact HT.out | apply TabW.drewN | apply TabW.drew | apply TabW.alloc)))).mono ?_); rintro e w' ⟨rfl, ⟨nd, rfl⟩⟩; refine ⟨_, rfl, ?_⟩))
  (try simp only [Act.put, List.setIfInBounds_toArray, List.set_cons_zero, List.set_cons_succ])
  go_cut [46] (fun v46 wc => ∃ (kq : Nat) (x46_4 : Bool), v46 = .bool x46_4 ∧ Aside0 (fareboxlaw32_GfPowers.j0 kq a1 a2 x46_4 = some r) ∧ Aside0 (kq ≤ k) ∧ Drawn0 w wc)
  case first =>
    have H := HC5.out
    clear HC5
    by_cases c6 : (t102 != (a0 != 0)) = true
    · rw [if_pos c6] at H
      have c6b0 : (t102 != (a0 != 0)) = true := c6
      (try (have c6b1 : decide (t102 = (a0 != 0)) = false := by simpa using c6))
      (try (have c6b2 : (t102 == (a0 != 0)) = false := by simpa using c6))
      (try (have c6b3 : ¬ (t102 = (a0 != 0)) := by simpa using c6))
      clear c6
      (first | rw [c6b0] | (simp only [i64_w, i32_w]; rw [c6b0]) | skip)
      have H' := Aside0.mk H
      clear H
      go_wp2
      go_meet
      case rel => exact ⟨_, (true), (by first | rfl | (simp; done) | (simp [*]; done)), H', ⟨by first | omega | exact Nat.le_refl _⟩, by repeat (first | exact Drawn0.refl _ | apply Drawn0.step)⟩
    · rw [if_neg c6] at H
      have c6b0 : (t102 != (a0 != 0)) = false := by simpa using c6
      (try (have c6b1 : decide (t102 = (a0 != 0)) = true := by simpa using c6))
      (try (have c6b2 : (t102 == (a0 != 0)) = true := by simpa using c6))
      clear c6
      (first | rw [c6b0] | (simp only [i64_w, i32_w]; rw [c6b0]) | skip)
      by_cases c7 : t102 = true
      · subst c7
        have H1 : (if t101 < 0 then (fareboxlaw32_GfPowers.j0 k a1 a2 true) else (if t101 > 254 then (fareboxlaw32_GfPowers.j0 k a1 a2 true) else ((gf_Exp.f t101).bind fun t103 => (if t103 = a0 then ((gf_Exp.f 1).bind fun t104 => (if t104 = 2 then ((gf_Exp.f a1).bind fun t105 => (fareboxlaw32_GfPowers.j0 k a1 a2 (t105 == 0))) else (fareboxlaw32_GfPowers.j0 k a1 a2 true))) else (fareboxlaw32_GfPowers.j0 k a1 a2 true))))) = some r := by rw [if_pos rfl] at H; exact H
        clear H
        have H := H1
        clear H1
        by_cases c8 : t101 < 0
        · rw [if_pos c8] at H
          have c8b0 : decide (t101 < 0) = true := decide_eq_true c8
          clear c8
          have H' := Aside0.mk H
          clear H
          go_wp2
          go_meet
          case rel => exact ⟨_, (true), (by first | rfl | (simp; done) | (simp [*]; done)), H', ⟨by first | omega | exact Nat.le_refl _⟩, by repeat (first | exact Drawn0.refl _ | apply Drawn0.step)⟩
        · rw [if_neg c8] at H
          have c8b0 : decide (t101 < 0) = false := decide_eq_false c8
          clear c8
          by_cases c9 : t101 > 254
          · rw [if_pos c9] at H
            have c9b0 : decide (254 < t101) = true := decide_eq_true c9
            clear c9
            have H' := Aside0.mk H
            clear H
            go_wp2
            go_meet
            case rel => exact ⟨_, (true), (by first | rfl | (simp; done) | (simp [*]; done)), H', ⟨by first | omega | exact Nat.le_refl _⟩, by repeat (first | exact Drawn0.refl _ | apply Drawn0.step)⟩
          · rw [if_neg c9] at H
            have c9b0 : decide (254 < t101) = false := decide_eq_false c9
            clear c9
            replace H := Option.bind_eq_some_iff.mp H
            obtain ⟨t103, A100, H⟩ := H
            replace H : (if t103 = a0 then ((gf_Exp.f 1).bind fun t104 => (if t104 = 2 then ((gf_Exp.f a1).bind fun t105 => (fareboxlaw32_GfPowers.j0 k a1 a2 (t105 == 0))) else (fareboxlaw32_GfPowers.j0 k a1 a2 true))) else (fareboxlaw32_GfPowers.j0 k a1 a2 true)) = some r := H
            have A10 := Aside0.mk A100
            clear A100
            by_cases c11 : t103 = a0
            · rw [if_pos c11] at H
              have c11b0 : (t103 == a0) = true := beq_iff_eq.mpr c11
              have c11b1 : (t103 != a0) = false := bne_eq_false_iff_eq.mpr c11
              clear c11
              replace H := Option.bind_eq_some_iff.mp H
              obtain ⟨t104, A120, H⟩ := H
              replace H : (if t104 = 2 then ((gf_Exp.f a1).bind fun t105 => (fareboxlaw32_GfPowers.j0 k a1 a2 (t105 == 0))) else (fareboxlaw32_GfPowers.j0 k a1 a2 true)) = some r := H
              have A12 := Aside0.mk A120
              clear A120
              by_cases c13 : t104 = 2
              · rw [if_pos c13] at H
                have c13b0 : (t104 == 2) = true := beq_iff_eq.mpr c13
                have c13b1 : (t104 != 2) = false := bne_eq_false_iff_eq.mpr c13
                clear c13
                replace H := Option.bind_eq_some_iff.mp H
                obtain ⟨t105, A140, H⟩ := H
                replace H : (fareboxlaw32_GfPowers.j0 k a1 a2 (t105 == 0)) = some r := H
                have A14 := Aside0.mk A140
                clear A140
                have H' := Aside0.mk H
                clear H
                go_wp2_with (first | (go_at_call 9; (with_reducible refine (gf_Exp.calls t101 t103 _ A10.out (by first | exact HT.out | (repeat (first | exact HT.out | apply TabW.drewN | apply TabW.drew | apply TabW.alloc)))).mono ?_); rintro e w' ⟨rfl, ⟨nd, rfl⟩⟩) | (go_at_call 9; (with_reducible refine (gf_Exp.calls 1 t104 _ A12.out (by first | exact HT.out | (repeat (first | exact HT.out | apply TabW.drewN | apply TabW.drew | apply TabW.alloc)))).mono ?_); rintro e w' ⟨rfl, ⟨nd, rfl⟩⟩) | (go_at_call 9; (with_reducible refine (gf_Exp.calls a1 t105 _ A14.out (by first | exact HT.out | (repeat (first | exact HT.out | apply TabW.drewN | apply TabW.drew | apply TabW.alloc)))).mono ?_); rintro e w' ⟨rfl, ⟨nd, rfl⟩⟩))
                go_meet
                case rel => exact ⟨_, ((t105 == 0)), (by first | rfl | (simp; done) | (simp [*]; done)), H', ⟨by first | omega | exact Nat.le_refl _⟩, by repeat (first | exact Drawn0.refl _ | apply Drawn0.step)⟩
              · rw [if_neg c13] at H
                have c13b0 : (t104 == 2) = false := beq_eq_false_iff_ne.mpr c13
                have c13b1 : (t104 != 2) = true := bne_iff_ne.mpr c13
                have H' := Aside0.mk H
                clear H
                go_wp2_with (first | (go_at_call 9; (with_reducible refine (gf_Exp.calls t101 t103 _ A10.out (by first | exact HT.out | (repeat (first | exact HT.out | apply TabW.drewN | apply TabW.drew | apply TabW.alloc)))).mono ?_); rintro e w' ⟨rfl, ⟨nd, rfl⟩⟩) | (go_at_call 9; (with_reducible refine (gf_Exp.calls 1 t104 _ A12.out (by first | exact HT.out | (repeat (first | exact HT.out | apply TabW.drewN | apply TabW.drew | apply TabW.alloc)))).mono ?_); rintro e w' ⟨rfl, ⟨nd, rfl⟩⟩))
                go_meet
                case rel => exact ⟨_, (true), (by first | rfl | (simp; done) | (simp [*]; done)), H', ⟨by first | omega | exact Nat.le_refl _⟩, by repeat (first | exact Drawn0.refl _ | apply Drawn0.step)⟩
            · rw [if_neg c11] at H
              have c11b0 : (t103 == a0) = false := beq_eq_false_iff_ne.mpr c11
              have c11b1 : (t103 != a0) = true := bne_iff_ne.mpr c11
              have H' := Aside0.mk H
              clear H
              go_wp2_with (first | (go_at_call 9; (with_reducible refine (gf_Exp.calls t101 t103 _ A10.out (by first | exact HT.out | (repeat (first | exact HT.out | apply TabW.drewN | apply TabW.drew | apply TabW.alloc)))).mono ?_); rintro e w' ⟨rfl, ⟨nd, rfl⟩⟩))
              go_meet
              case rel => exact ⟨_, (true), (by first | rfl | (simp; done) | (simp [*]; done)), H', ⟨by first | omega | exact Nat.le_refl _⟩, by repeat (first | exact Drawn0.refl _ | apply Drawn0.step)⟩
      · replace c7 := Bool.eq_false_iff.mpr c7
        subst c7
        have H1 : ((gf_Exp.f 1).bind fun t106 => (if t106 = 2 then ((gf_Exp.f a1).bind fun t107 => (fareboxlaw32_GfPowers.j0 k a1 a2 (t107 == 0))) else (fareboxlaw32_GfPowers.j0 k a1 a2 true))) = some r := by rw [if_neg (show ¬ (false = true) by decide)] at H; exact H
        clear H
        have H := H1
        clear H1
        replace H := Option.bind_eq_some_iff.mp H
        obtain ⟨t106, A150, H⟩ := H
        replace H : (if t106 = 2 then ((gf_Exp.f a1).bind fun t107 => (fareboxlaw32_GfPowers.j0 k a1 a2 (t107 == 0))) else (fareboxlaw32_GfPowers.j0 k a1 a2 true)) = some r := H
        have A15 := Aside0.mk A150
        clear A150
        by_cases c16 : t106 = 2
        · rw [if_pos c16] at H
          have c16b0 : (t106 == 2) = true := beq_iff_eq.mpr c16
          have c16b1 : (t106 != 2) = false := bne_eq_false_iff_eq.mpr c16
          clear c16
          replace H := Option.bind_eq_some_iff.mp H
          obtain ⟨t107, A170, H⟩ := H
          replace H : (fareboxlaw32_GfPowers.j0 k a1 a2 (t107 == 0)) = some r := H
          have A17 := Aside0.mk A170
          clear A170
          have H' := Aside0.mk H
          clear H
          go_wp2_with (first | (go_at_call 9; (with_reducible refine (gf_Exp.calls 1 t106 _ A15.out (by first | exact HT.out | (repeat (first | exact HT.out | apply TabW.drewN | apply TabW.drew | apply TabW.alloc)))).mono ?_); rintro e w' ⟨rfl, ⟨nd, rfl⟩⟩) | (go_at_call 9; (with_reducible refine (gf_Exp.calls a1 t107 _ A17.out (by first | exact HT.out | (repeat (first | exact HT.out | apply TabW.drewN | apply TabW.drew | apply TabW.alloc)))).mono ?_); rintro e w' ⟨rfl, ⟨nd, rfl⟩⟩))
          go_meet
          case rel => exact ⟨_, ((t107 == 0)), (by first | rfl | (simp; done) | (simp [*]; done)), H', ⟨by first | omega | exact Nat.le_refl _⟩, by repeat (first | exact Drawn0.refl _ | apply Drawn0.step)⟩
        · rw [if_neg c16] at H
          have c16b0 : (t106 == 2) = false := beq_eq_false_iff_ne.mpr c16
          have c16b1 : (t106 != 2) = true := bne_iff_ne.mpr c16
          have H' := Aside0.mk H
          clear H
          go_wp2_with (first | (go_at_call 9; (with_reducible refine (gf_Exp.calls 1 t106 _ A15.out (by first | exact HT.out | (repeat (first | exact HT.out | apply TabW.drewN | apply TabW.drew | apply TabW.alloc)))).mono ?_); rintro e w' ⟨rfl, ⟨nd, rfl⟩⟩))
          go_meet
          case rel => exact ⟨_, (true), (by first | rfl | (simp; done) | (simp [*]; done)), H', ⟨by first | omega | exact Nat.le_refl _⟩, by repeat (first | exact Drawn0.refl _ | apply Drawn0.step)⟩
  case rest =>
    clear HC5
    try clear c1
    try clear p2
    try clear c3
    try clear c6
    try clear c6b0
    try clear c6b1
    try clear c6b2
    try clear c7
    try clear c8
    try clear c8b0
    try clear c9
    try clear c9b0
    try clear c11
    try clear c11b0
    try clear c11b1
    try clear c13
    try clear c13b0
    try clear c13b1
    try clear c16
    try clear c16b0
    try clear c16b1
    obtain ⟨kq, x46_4, rfl, HA, HJ4, ⟨mc4, rfl⟩⟩ := hcut
    cases kq with
    | zero => exact absurd HA.out (by simp [fareboxlaw32_GfPowers.j0])
    | succ kj4 =>
      have H := HA.out
      clear HA
      simp only [fareboxlaw32_GfPowers.j0] at H
      by_cases c18 : x46_4 = true
      · subst c18
        have H1 : (some false) = some r := by rw [if_pos rfl] at H; exact H
        clear H
        have H := H1
        clear H1
        obtain rfl := Option.some.inj H
        go_wp2
        go_ret
        exact ⟨by first | rfl | (simp; done) | (simp [*]; done), by repeat (first | exact Drawn0.refl _ | apply Drawn0.step)⟩
      · replace c18 := Bool.eq_false_iff.mpr c18
        subst c18
        have H1 : ((gf_Exp.f a1).bind fun t108 => ((gf_Log.f kj4 t108).bind fun bt109 => (if (Int.tmod a1 255) < 0 then (fareboxlaw32_GfPowers.j1 kj4 a1 a2 bt109.1 bt109.2 (wrap64 ((Int.tmod a1 255) + 255))) else (fareboxlaw32_GfPowers.j1 kj4 a1 a2 bt109.1 bt109.2 (Int.tmod a1 255))))) = some r := by rw [if_neg (show ¬ (false = true) by decide)] at H; exact H
        clear H
        have H := H1
        clear H1
        replace H := Option.bind_eq_some_iff.mp H
        obtain ⟨t108, A190, H⟩ := H
        replace H : ((gf_Log.f kj4 t108).bind fun bt109 => (if (Int.tmod a1 255) < 0 then (fareboxlaw32_GfPowers.j1 kj4 a1 a2 bt109.1 bt109.2 (wrap64 ((Int.tmod a1 255) + 255))) else (fareboxlaw32_GfPowers.j1 kj4 a1 a2 bt109.1 bt109.2 (Int.tmod a1 255)))) = some r := H
        have A19 := Aside0.mk A190
        clear A190
        replace H := Option.bind_eq_some_iff.mp H
        obtain ⟨⟨t109, t110⟩, A200, H⟩ := H
        replace H : (if (Int.tmod a1 255) < 0 then (fareboxlaw32_GfPowers.j1 kj4 a1 a2 t109 t110 (wrap64 ((Int.tmod a1 255) + 255))) else (fareboxlaw32_GfPowers.j1 kj4 a1 a2 t109 t110 (Int.tmod a1 255))) = some r := H
        have A20 := Aside0.mk A200
        clear A200
        have HC21 := Aside0.mk H
        clear H
        go_upto_if 56 with (first | ((with_reducible refine gate_callee (f := 9) rfl ?_); refine goesL_ (some 49) rfl rfl Tryd.func9 (by kernel_rfl) rfl #[.int .i64 a1] rfl (by (try simp only [List.map_toArray, List.map_cons, List.map_nil]); first | done | rfl | (simp only [List.length_drop, List.length_take]; rfl)) ?_; (with_reducible refine (gf_Exp.calls a1 t108 _ A19.out (by first | exact HT.out | (repeat (first | exact HT.out | apply TabW.drewN | apply TabW.drew | apply TabW.alloc)))).mono ?_); rintro e w' ⟨rfl, ⟨nd, rfl⟩⟩; refine ⟨_, rfl, ?_⟩) | ((with_reducible refine gate_callee (f := 8) rfl ?_); refine goesL_ (some 50) rfl rfl Tryd.func8 (by kernel_rfl) rfl #[.int .u8 t108] rfl (by (try simp only [List.map_toArray, List.map_cons, List.map_nil]); first | done | rfl | (simp only [List.length_drop, List.length_take]; rfl)) ?_; (with_reducible refine (gf_Log.calls kj4 t108 t109 t110 _ A20.out (by first | exact HT.out | (repeat (first | exact HT.out | apply TabW.drewN | apply TabW.drew | apply TabW.alloc)))).mono ?_); rintro e w' ⟨rfl, ⟨nd, rfl⟩⟩; refine ⟨_, rfl, ?_⟩))
        (try simp only [Act.put, List.setIfInBounds_toArray, List.set_cons_zero, List.set_cons_succ])
        go_cut [11] (fun v11 wc => ∃ (kq : Nat) (x11_20 : Int), v11 = .int .i64 x11_20 ∧ Aside0 (fareboxlaw32_GfPowers.j1 kq a1 a2 t109 t110 x11_20 = some r) ∧ Aside0 (kq ≤ kj4) ∧ Drawn0 w wc)
        case first =>
          have H := HC21.out
          clear HC21
          by_cases c22 : (Int.tmod a1 255) < 0
          · rw [if_pos c22] at H
            have c22b0 : decide ((Int.tmod a1 255) < 0) = true := decide_eq_true c22
            clear c22
            (first | rw [c22b0] | (simp only [i64_w, i32_w]; rw [c22b0]) | skip)
            have H' := Aside0.mk H
            clear H
            go_wp2
            go_meet
            case rel => exact ⟨_, (wrap64 ((Int.tmod a1 255) + 255)), (by first | rfl | (simp; done) | (simp [*]; done)), H', ⟨by have := HJ4.out; first | omega | exact Nat.le_refl _⟩, by repeat (first | exact Drawn0.refl _ | apply Drawn0.step)⟩
          · rw [if_neg c22] at H
            have c22b0 : decide ((Int.tmod a1 255) < 0) = false := decide_eq_false c22
            clear c22
            (first | rw [c22b0] | (simp only [i64_w, i32_w]; rw [c22b0]) | skip)
            have H' := Aside0.mk H
            clear H
            go_wp2
            go_meet
            case rel => exact ⟨_, (Int.tmod a1 255), (by first | rfl | (simp; done) | (simp [*]; done)), H', ⟨by have := HJ4.out; first | omega | exact Nat.le_refl _⟩, by repeat (first | exact Drawn0.refl _ | apply Drawn0.step)⟩
        case rest =>
          clear HC21
          try clear c1
          try clear c2
          try clear p2
          try clear c3
          try clear c4
          try clear c6
          try clear c6b0
          try clear c6b1
          try clear c6b2
          try clear p6
          try clear c7
          try clear c8
          try clear c8b0
          try clear c9
          try clear c9b0
          try clear c11
          try clear c11b0
          try clear c11b1
          try clear c13
          try clear c13b0
          try clear c13b1
          try clear c16
          try clear c16b0
          try clear c16b1
          try clear c18
          try clear c22
          try clear c22b0
          try clear p2
          obtain ⟨kq, x11_20, rfl, HA, HJ20, ⟨mc20, rfl⟩⟩ := hcut
          cases kq with
          | zero => exact absurd HA.out (by simp [fareboxlaw32_GfPowers.j1])
          | succ kj20 =>
            have H := HA.out
            clear HA
            simp only [fareboxlaw32_GfPowers.j1] at H
            have HC23 := Aside0.mk H
            clear H
            go_upto_region 8 with (fail)
            go_cut [65] (fun v65 wc => ∃ (kq : Nat) (x65_22 : Bool), v65 = .bool x65_22 ∧ Aside0 (fareboxlaw32_GfPowers.j2 kq a1 a2 x65_22 = some r) ∧ Aside0 (kq ≤ kj20) ∧ Drawn0 w wc)
            case first =>
              have H := HC23.out
              clear HC23
              by_cases c24 : t110 = true
              · subst c24
                have H1 : (fareboxlaw32_GfPowers.j2 kj20 a1 a2 (t109 != x11_20)) = some r := by rw [if_pos rfl] at H; exact H
                clear H
                have H := H1
                clear H1
                have H' := Aside0.mk H
                clear H
                go_wp2
                go_meet
                case rel => exact ⟨_, ((t109 != x11_20)), (by first | rfl | (simp; done) | (simp [*]; done)), H', ⟨by have := HJ4.out; have := HJ20.out; first | omega | exact Nat.le_refl _⟩, by repeat (first | exact Drawn0.refl _ | apply Drawn0.step)⟩
              · replace c24 := Bool.eq_false_iff.mpr c24
                subst c24
                have H1 : (fareboxlaw32_GfPowers.j2 kj20 a1 a2 true) = some r := by rw [if_neg (show ¬ (false = true) by decide)] at H; exact H
                clear H
                have H := H1
                clear H1
                have H' := Aside0.mk H
                clear H
                go_wp2
                go_meet
                case rel => exact ⟨_, (true), (by first | rfl | (simp; done) | (simp [*]; done)), H', ⟨by have := HJ4.out; have := HJ20.out; first | omega | exact Nat.le_refl _⟩, by repeat (first | exact Drawn0.refl _ | apply Drawn0.step)⟩
            case rest =>
              clear HC23
              try clear c1
              try clear c2
              try clear p2
              try clear c3
              try clear c4
              try clear c6
              try clear c6b0
              try clear c6b1
              try clear c6b2
              try clear p6
              try clear c7
              try clear c8
              try clear c8b0
              try clear c9
              try clear c9b0
              try clear c11
              try clear c11b0
              try clear c11b1
              try clear c13
              try clear c13b0
              try clear c13b1
              try clear c16
              try clear c16b0
              try clear c16b1
              try clear c18
              try clear c20
              try clear c22
              try clear c22b0
              try clear c24
              try clear p2
              try clear p6
              obtain ⟨kq, x65_22, rfl, HA, HJ22, ⟨mc22, rfl⟩⟩ := hcut
              cases kq with
              | zero => exact absurd HA.out (by simp [fareboxlaw32_GfPowers.j2])
              | succ kj22 =>
                have H := HA.out
                clear HA
                simp only [fareboxlaw32_GfPowers.j2] at H
                by_cases c25 : x65_22 = true
                · subst c25
                  have H1 : (some false) = some r := by rw [if_pos rfl] at H; exact H
                  clear H
                  have H := H1
                  clear H1
                  obtain rfl := Option.some.inj H
                  go_wp2
                  go_ret
                  exact ⟨by first | rfl | (simp; done) | (simp [*]; done), by repeat (first | exact Drawn0.refl _ | apply Drawn0.step)⟩
                · replace c25 := Bool.eq_false_iff.mpr c25
                  subst c25
                  have H1 : (if a2 > 0 then (if a1 > (wrap64 (9223372036854775807 - a2)) then (fareboxlaw32_GfPowers.j3 kj22 a1 a2 true) else (if a2 < 0 then (fareboxlaw32_GfPowers.j3 kj22 a1 a2 (decide (a1 < (wrap64 ((-9223372036854775808) - a2))))) else (fareboxlaw32_GfPowers.j3 kj22 a1 a2 false))) else (if a2 < 0 then (fareboxlaw32_GfPowers.j3 kj22 a1 a2 (decide (a1 < (wrap64 ((-9223372036854775808) - a2))))) else (fareboxlaw32_GfPowers.j3 kj22 a1 a2 false))) = some r := by rw [if_neg (show ¬ (false = true) by decide)] at H; exact H
                  clear H
                  have H := H1
                  clear H1
                  have HC26 := Aside0.mk H
                  clear H
                  go_upto_region 10 with (fail)
                  go_cut [83] (fun v83 wc => ∃ (kq : Nat) (x83_25 : Bool), v83 = .bool x83_25 ∧ Aside0 (fareboxlaw32_GfPowers.j3 kq a1 a2 x83_25 = some r) ∧ Aside0 (kq ≤ kj22) ∧ Drawn0 w wc)
                  case first =>
                    have H := HC26.out
                    clear HC26
                    by_cases c27 : a2 > 0
                    · rw [if_pos c27] at H
                      have c27b0 : decide (0 < a2) = true := decide_eq_true c27
                      clear c27
                      (first | rw [c27b0] | (simp only [i64_w, i32_w]; rw [c27b0]) | skip)
                      by_cases c28 : a1 > (wrap64 (9223372036854775807 - a2))
                      · rw [if_pos c28] at H
                        have c28b0 : decide ((wrap64 (9223372036854775807 - a2)) < a1) = true := decide_eq_true c28
                        clear c28
                        have H' := Aside0.mk H
                        clear H
                        go_wp2
                        go_meet
                        case rel => exact ⟨_, (true), (by first | rfl | (simp; done) | (simp [*]; done)), H', ⟨by have := HJ4.out; have := HJ20.out; have := HJ22.out; first | omega | exact Nat.le_refl _⟩, by repeat (first | exact Drawn0.refl _ | apply Drawn0.step)⟩
                      · rw [if_neg c28] at H
                        have c28b0 : decide ((wrap64 (9223372036854775807 - a2)) < a1) = false := decide_eq_false c28
                        clear c28
                        by_cases c29 : a2 < 0
                        · rw [if_pos c29] at H
                          have c29b0 : decide (a2 < 0) = true := decide_eq_true c29
                          clear c29
                          have H' := Aside0.mk H
                          clear H
                          go_wp2
                          go_meet
                          case rel => exact ⟨_, (decide (a1 < (wrap64 ((-9223372036854775808) - a2)))), (by first | rfl | (simp; done) | (simp [*]; done)), H', ⟨by have := HJ4.out; have := HJ20.out; have := HJ22.out; first | omega | exact Nat.le_refl _⟩, by repeat (first | exact Drawn0.refl _ | apply Drawn0.step)⟩
                        · rw [if_neg c29] at H
                          have c29b0 : decide (a2 < 0) = false := decide_eq_false c29
                          clear c29
                          have H' := Aside0.mk H
                          clear H
                          go_wp2
                          go_meet
                          case rel => exact ⟨_, (false), (by first | rfl | (simp; done) | (simp [*]; done)), H', ⟨by have := HJ4.out; have := HJ20.out; have := HJ22.out; first | omega | exact Nat.le_refl _⟩, by repeat (first | exact Drawn0.refl _ | apply Drawn0.step)⟩
                    · rw [if_neg c27] at H
                      have c27b0 : decide (0 < a2) = false := decide_eq_false c27
                      clear c27
                      (first | rw [c27b0] | (simp only [i64_w, i32_w]; rw [c27b0]) | skip)
                      by_cases c30 : a2 < 0
                      · rw [if_pos c30] at H
                        have c30b0 : decide (a2 < 0) = true := decide_eq_true c30
                        clear c30
                        have H' := Aside0.mk H
                        clear H
                        go_wp2
                        go_meet
                        case rel => exact ⟨_, (decide (a1 < (wrap64 ((-9223372036854775808) - a2)))), (by first | rfl | (simp; done) | (simp [*]; done)), H', ⟨by have := HJ4.out; have := HJ20.out; have := HJ22.out; first | omega | exact Nat.le_refl _⟩, by repeat (first | exact Drawn0.refl _ | apply Drawn0.step)⟩
                      · rw [if_neg c30] at H
                        have c30b0 : decide (a2 < 0) = false := decide_eq_false c30
                        clear c30
                        have H' := Aside0.mk H
                        clear H
                        go_wp2
                        go_meet
                        case rel => exact ⟨_, (false), (by first | rfl | (simp; done) | (simp [*]; done)), H', ⟨by have := HJ4.out; have := HJ20.out; have := HJ22.out; first | omega | exact Nat.le_refl _⟩, by repeat (first | exact Drawn0.refl _ | apply Drawn0.step)⟩
                  case rest =>
                    clear HC26
                    try clear c1
                    try clear c2
                    try clear p2
                    try clear c3
                    try clear c4
                    try clear c6
                    try clear c6b0
                    try clear c6b1
                    try clear c6b2
                    try clear p6
                    try clear c7
                    try clear c8
                    try clear c8b0
                    try clear c9
                    try clear c9b0
                    try clear c11
                    try clear c11b0
                    try clear c11b1
                    try clear c13
                    try clear c13b0
                    try clear c13b1
                    try clear c16
                    try clear c16b0
                    try clear c16b1
                    try clear c18
                    try clear c20
                    try clear c22
                    try clear c22b0
                    try clear c24
                    try clear c25
                    try clear c27
                    try clear c27b0
                    try clear c28
                    try clear c28b0
                    try clear c29
                    try clear c29b0
                    try clear c30
                    try clear c30b0
                    try clear p2
                    try clear p6
                    obtain ⟨kq, x83_25, rfl, HA, HJ25, ⟨mc25, rfl⟩⟩ := hcut
                    cases kq with
                    | zero => exact absurd HA.out (by simp [fareboxlaw32_GfPowers.j3])
                    | succ kj25 =>
                      have H := HA.out
                      clear HA
                      simp only [fareboxlaw32_GfPowers.j3] at H
                      by_cases c31 : x83_25 = true
                      · subst c31
                        have H1 : (some true) = some r := by rw [if_pos rfl] at H; exact H
                        clear H
                        have H := H1
                        clear H1
                        obtain rfl := Option.some.inj H
                        go_wp2
                        go_ret
                        exact ⟨by first | rfl | (simp; done) | (simp [*]; done), by repeat (first | exact Drawn0.refl _ | apply Drawn0.step)⟩
                      · replace c31 := Bool.eq_false_iff.mpr c31
                        subst c31
                        have H1 : ((gf_Exp.f (wrap64 (a1 + a2))).bind fun t111 => ((gf_Exp.f a1).bind fun t112 => ((gf_Exp.f a2).bind fun t113 => ((gf_Mul.f kj25 t112 t113).bind fun t114 => (some (t111 == t114)))))) = some r := by rw [if_neg (show ¬ (false = true) by decide)] at H; exact H
                        clear H
                        have H := H1
                        clear H1
                        replace H := Option.bind_eq_some_iff.mp H
                        obtain ⟨t111, A320, H⟩ := H
                        replace H : ((gf_Exp.f a1).bind fun t112 => ((gf_Exp.f a2).bind fun t113 => ((gf_Mul.f kj25 t112 t113).bind fun t114 => (some (t111 == t114))))) = some r := H
                        have A32 := Aside0.mk A320
                        clear A320
                        replace H := Option.bind_eq_some_iff.mp H
                        obtain ⟨t112, A330, H⟩ := H
                        replace H : ((gf_Exp.f a2).bind fun t113 => ((gf_Mul.f kj25 t112 t113).bind fun t114 => (some (t111 == t114)))) = some r := H
                        have A33 := Aside0.mk A330
                        clear A330
                        replace H := Option.bind_eq_some_iff.mp H
                        obtain ⟨t113, A340, H⟩ := H
                        replace H : ((gf_Mul.f kj25 t112 t113).bind fun t114 => (some (t111 == t114))) = some r := H
                        have A34 := Aside0.mk A340
                        clear A340
                        replace H := Option.bind_eq_some_iff.mp H
                        obtain ⟨t114, A350, H⟩ := H
                        replace H : (some (t111 == t114)) = some r := H
                        have A35 := Aside0.mk A350
                        clear A350
                        obtain rfl := Option.some.inj H
                        go_wp2_with (first | ((with_reducible refine gate_callee (f := 9) rfl ?_); refine goesL_ (some 87) rfl rfl Tryd.func9 (by kernel_rfl) rfl #[.int .i64 (wrap64 (a1 + a2))] rfl (by (try simp only [List.map_toArray, List.map_cons, List.map_nil]); first | done | rfl | (simp only [List.length_drop, List.length_take]; rfl)) ?_; (with_reducible refine (gf_Exp.calls (wrap64 (a1 + a2)) t111 _ A32.out (by first | exact HT.out | (repeat (first | exact HT.out | apply TabW.drewN | apply TabW.drew | apply TabW.alloc)))).mono ?_); rintro e w' ⟨rfl, ⟨nd, rfl⟩⟩; refine ⟨_, rfl, ?_⟩) | ((with_reducible refine gate_callee (f := 9) rfl ?_); refine goesL_ (some 89) rfl rfl Tryd.func9 (by kernel_rfl) rfl #[.int .i64 a1] rfl (by (try simp only [List.map_toArray, List.map_cons, List.map_nil]); first | done | rfl | (simp only [List.length_drop, List.length_take]; rfl)) ?_; (with_reducible refine (gf_Exp.calls a1 t112 _ A33.out (by first | exact HT.out | (repeat (first | exact HT.out | apply TabW.drewN | apply TabW.drew | apply TabW.alloc)))).mono ?_); rintro e w' ⟨rfl, ⟨nd, rfl⟩⟩; refine ⟨_, rfl, ?_⟩) | ((with_reducible refine gate_callee (f := 9) rfl ?_); refine goesL_ (some 91) rfl rfl Tryd.func9 (by kernel_rfl) rfl #[.int .i64 a2] rfl (by (try simp only [List.map_toArray, List.map_cons, List.map_nil]); first | done | rfl | (simp only [List.length_drop, List.length_take]; rfl)) ?_; (with_reducible refine (gf_Exp.calls a2 t113 _ A34.out (by first | exact HT.out | (repeat (first | exact HT.out | apply TabW.drewN | apply TabW.drew | apply TabW.alloc)))).mono ?_); rintro e w' ⟨rfl, ⟨nd, rfl⟩⟩; refine ⟨_, rfl, ?_⟩) | ((with_reducible refine gate_callee (f := 10) rfl ?_); refine goesL_ (some 92) rfl rfl Tryd.func10 (by kernel_rfl) rfl #[.int .u8 t112, .int .u8 t113] rfl (by (try simp only [List.map_toArray, List.map_cons, List.map_nil]); first | done | rfl | (simp only [List.length_drop, List.length_take]; rfl)) ?_; (with_reducible refine (gf_Mul.calls kj25 t112 t113 t114 _ A35.out).mono ?_); rintro e w' ⟨rfl, ⟨nd, rfl⟩⟩; refine ⟨_, rfl, ?_⟩))
                        go_ret
                        exact ⟨by first | rfl | (simp; done) | (simp [*]; done), by repeat (first | exact Drawn0.refl _ | apply Drawn0.step)⟩

end Go.Proofs.YticfidlclofbbaaDoor.Lp
