-- Written for this claim by a program of ours (wip/tools), out of the translation: plain functions, and the proofs that the machine's calls come to their answers. Lean checks it.
import Derived.Test.YticfidlclofbbaaDoorLf0
import Derived.Test.YticfidlclofbbaaDoorG
import Derived.Test.YticfidlclofbbaaDoorTab
namespace Go.Proofs.YticfidlclofbbaaDoor.Lf
open Go.Proofs.YticfidlclofbbaaDoor.G
open Go.RowKit Go.Proofs.YticfidlclofbbaaDoorW.PrintWords Go.Proofs.YticfidlclofbbaaDoorW.PrintLast Go.Proofs.YticfidlclofbbaaDoorW.PrintMore
attribute [local go_sem] max2_int min2_int max_two min_two max_three min_three max_four min_four   -- for this text's walks alone
set_option linter.unusedVariables false
set_option linter.unusedSimpArgs false

/-! ### fareboxlaw32_GfField: function 4 -/
mutual
def fareboxlaw32_GfField.j0 : Nat → Int → Int → Int → Bool → Option (Bool)
  | 0, _, _, _, _ => none
  | k + 1, x0, x1, x2, x52 => if x52 = true then (some false) else ((gf_Add.f x1 x2).bind fun t111 => ((gf_Mul.f k x0 t111).bind fun t112 => ((gf_Mul.f k x0 x1).bind fun t113 => ((gf_Mul.f k x0 x2).bind fun t114 => ((gf_Add.f t113 t114).bind fun t115 => (if t112 = t115 then ((gf_Add.f x0 0).bind fun t116 => (if t116 = x0 then ((gf_Mul.f k x0 1).bind fun t117 => (if t117 = x0 then ((gf_Add.f x0 x0).bind fun t118 => (fareboxlaw32_GfField.j1 k x0 x1 (t118 != 0))) else (fareboxlaw32_GfField.j1 k x0 x1 true))) else (fareboxlaw32_GfField.j1 k x0 x1 true))) else (fareboxlaw32_GfField.j1 k x0 x1 true)))))))
def fareboxlaw32_GfField.j1 : Nat → Int → Int → Bool → Option (Bool)
  | 0, _, _, _ => none
  | k + 1, x0, x1, x83 => if x83 = true then (some false) else ((gf_Inv.f k x0).bind fun bt119 => (if (bt119.2 != (x0 != 0)) = true then (fareboxlaw32_GfField.j2 k x0 x1 true) else (if bt119.2 = true then ((gf_Mul.f k x0 bt119.1).bind fun t121 => (if t121 = 1 then ((gf_Mul.f k x0 x1).bind fun t122 => (if x0 = 0 then (fareboxlaw32_GfField.j2 k x0 x1 ((t122 == 0) != true)) else (fareboxlaw32_GfField.j2 k x0 x1 ((t122 == 0) != (x1 == 0))))) else (fareboxlaw32_GfField.j2 k x0 x1 true))) else ((gf_Mul.f k x0 x1).bind fun t123 => (if x0 = 0 then (fareboxlaw32_GfField.j2 k x0 x1 ((t123 == 0) != true)) else (fareboxlaw32_GfField.j2 k x0 x1 ((t123 == 0) != (x1 == 0))))))))
def fareboxlaw32_GfField.j2 : Nat → Int → Int → Bool → Option (Bool)
  | 0, _, _, _ => none
  | k + 1, x0, x1, x114 => if x114 = true then (some false) else ((gf_Div.f k x0 x1).bind fun bt124 => (if (bt124.2 == (x1 != 0)) = true then (if bt124.2 = true then ((gf_Mul.f k bt124.1 x1).bind fun t126 => (some (t126 == x0))) else (some true)) else (some false)))
end
def fareboxlaw32_GfField.f (k : Nat) (a0 : Int) (a1 : Int) (a2 : Int) : Option (Bool) := (gf_Mul.f k a0 a1).bind fun t101 => ((gf_Mul.f k a1 a0).bind fun t102 => (if t101 = t102 then ((gf_Add.f a0 a1).bind fun t103 => ((gf_Add.f a1 a0).bind fun t104 => (if t103 = t104 then ((gf_Mul.f k t101 a2).bind fun t105 => ((gf_Mul.f k a1 a2).bind fun t106 => ((gf_Mul.f k a0 t106).bind fun t107 => (if t105 = t107 then ((gf_Add.f t103 a2).bind fun t108 => ((gf_Add.f a1 a2).bind fun t109 => ((gf_Add.f a0 t109).bind fun t110 => (fareboxlaw32_GfField.j0 k a0 a1 a2 (t108 != t110))))) else (fareboxlaw32_GfField.j0 k a0 a1 a2 true))))) else (fareboxlaw32_GfField.j0 k a0 a1 a2 true)))) else (fareboxlaw32_GfField.j0 k a0 a1 a2 true)))
theorem fareboxlaw32_GfField.mono_l : ∀ k, (∀ y0 y1 y2 y3, LeO (fareboxlaw32_GfField.j0 k y0 y1 y2 y3) (fareboxlaw32_GfField.j0 (k + 1) y0 y1 y2 y3)) ∧ (∀ y0 y1 y2, LeO (fareboxlaw32_GfField.j1 k y0 y1 y2) (fareboxlaw32_GfField.j1 (k + 1) y0 y1 y2)) ∧ (∀ y0 y1 y2, LeO (fareboxlaw32_GfField.j2 k y0 y1 y2) (fareboxlaw32_GfField.j2 (k + 1) y0 y1 y2))
  | 0 => ⟨fun _ _ _ _ r h => by simp [fareboxlaw32_GfField.j0] at h, fun _ _ _ r h => by simp [fareboxlaw32_GfField.j1] at h, fun _ _ _ r h => by simp [fareboxlaw32_GfField.j2] at h⟩
  | k + 1 => by
    obtain ⟨ih0, ih1, ih2⟩ := fareboxlaw32_GfField.mono_l k
    refine ⟨?_, ?_, ?_⟩
    · intro y0 y1 y2 y3
      unfold fareboxlaw32_GfField.j0
      repeat' first
      | (with_reducible exact ih0 _ _ _ _)
      | (with_reducible exact ih1 _ _ _)
      | (with_reducible exact ih2 _ _ _)
      | (with_reducible exact gf_Div.mono _ _ _)
      | (with_reducible exact gf_Inv.mono _ _)
      | (with_reducible exact gf_Mul.mono _ _ _)
      | (with_reducible exact LeO.refl _)
      | (with_reducible exact LeO.none _)
      | (with_reducible refine LeO.ite ?_ ?_)
      | (with_reducible refine LeO.bind ?_ (fun _ => ?_))
      | exact ih0 _ _ _ _
      | exact ih1 _ _ _
      | exact ih2 _ _ _
      | exact gf_Div.mono _ _ _
      | exact gf_Inv.mono _ _
      | exact gf_Mul.mono _ _ _
      | exact LeO.none _
      | refine LeO.ite ?_ ?_
      | refine LeO.bind ?_ (fun _ => ?_)
    · intro y0 y1 y2
      unfold fareboxlaw32_GfField.j1
      repeat' first
      | (with_reducible exact ih0 _ _ _ _)
      | (with_reducible exact ih1 _ _ _)
      | (with_reducible exact ih2 _ _ _)
      | (with_reducible exact gf_Div.mono _ _ _)
      | (with_reducible exact gf_Inv.mono _ _)
      | (with_reducible exact gf_Mul.mono _ _ _)
      | (with_reducible exact LeO.refl _)
      | (with_reducible exact LeO.none _)
      | (with_reducible refine LeO.ite ?_ ?_)
      | (with_reducible refine LeO.bind ?_ (fun _ => ?_))
      | exact ih0 _ _ _ _
      | exact ih1 _ _ _
      | exact ih2 _ _ _
      | exact gf_Div.mono _ _ _
      | exact gf_Inv.mono _ _
      | exact gf_Mul.mono _ _ _
      | exact LeO.none _
      | refine LeO.ite ?_ ?_
      | refine LeO.bind ?_ (fun _ => ?_)
    · intro y0 y1 y2
      unfold fareboxlaw32_GfField.j2
      repeat' first
      | (with_reducible exact ih0 _ _ _ _)
      | (with_reducible exact ih1 _ _ _)
      | (with_reducible exact ih2 _ _ _)
      | (with_reducible exact gf_Div.mono _ _ _)
      | (with_reducible exact gf_Inv.mono _ _)
      | (with_reducible exact gf_Mul.mono _ _ _)
      | (with_reducible exact LeO.refl _)
      | (with_reducible exact LeO.none _)
      | (with_reducible refine LeO.ite ?_ ?_)
      | (with_reducible refine LeO.bind ?_ (fun _ => ?_))
      | exact ih0 _ _ _ _
      | exact ih1 _ _ _
      | exact ih2 _ _ _
      | exact gf_Div.mono _ _ _
      | exact gf_Inv.mono _ _
      | exact gf_Mul.mono _ _ _
      | exact LeO.none _
      | refine LeO.ite ?_ ?_
      | refine LeO.bind ?_ (fun _ => ?_)
theorem fareboxlaw32_GfField.mono : ∀ a0 a1 a2 k, LeO (fareboxlaw32_GfField.f k a0 a1 a2) (fareboxlaw32_GfField.f (k + 1) a0 a1 a2) := by
  intro a0 a1 a2 k
  obtain ⟨ih0, ih1, ih2⟩ := fareboxlaw32_GfField.mono_l k
  unfold fareboxlaw32_GfField.f
  repeat' first
      | (with_reducible exact ih0 _ _ _ _)
      | (with_reducible exact ih1 _ _ _)
      | (with_reducible exact ih2 _ _ _)
      | (with_reducible exact gf_Div.mono _ _ _)
      | (with_reducible exact gf_Inv.mono _ _)
      | (with_reducible exact gf_Mul.mono _ _ _)
      | (with_reducible exact LeO.refl _)
      | (with_reducible exact LeO.none _)
      | (with_reducible refine LeO.ite ?_ ?_)
      | (with_reducible refine LeO.bind ?_ (fun _ => ?_))
      | exact ih0 _ _ _ _
      | exact ih1 _ _ _
      | exact ih2 _ _ _
      | exact gf_Div.mono _ _ _
      | exact gf_Inv.mono _ _
      | exact gf_Mul.mono _ _ _
      | exact LeO.none _
      | refine LeO.ite ?_ ?_
      | refine LeO.bind ?_ (fun _ => ?_)
set_option maxHeartbeats 8000000 in
set_option maxRecDepth 100000 in
theorem fareboxlaw32_GfField.calls (k : Nat) (a0 : Int) (a1 : Int) (a2 : Int) (r : Bool) (w : World) (h : fareboxlaw32_GfField.f k a0 a1 a2 = some r) (ht : TabW w) :
    Calls Tryd.prog 4 #[.int .u8 a0, .int .u8 a1, .int .u8 a2] w fun e w' => e = .returned (.bool r) ∧ Drawn0 w w' := by
  have HT := Aside0.mk ht
  clear ht
  have H : ((gf_Mul.f k a0 a1).bind fun t101 => ((gf_Mul.f k a1 a0).bind fun t102 => (if t101 = t102 then ((gf_Add.f a0 a1).bind fun t103 => ((gf_Add.f a1 a0).bind fun t104 => (if t103 = t104 then ((gf_Mul.f k t101 a2).bind fun t105 => ((gf_Mul.f k a1 a2).bind fun t106 => ((gf_Mul.f k a0 t106).bind fun t107 => (if t105 = t107 then ((gf_Add.f t103 a2).bind fun t108 => ((gf_Add.f a1 a2).bind fun t109 => ((gf_Add.f a0 t109).bind fun t110 => (fareboxlaw32_GfField.j0 k a0 a1 a2 (t108 != t110))))) else (fareboxlaw32_GfField.j0 k a0 a1 a2 true))))) else (fareboxlaw32_GfField.j0 k a0 a1 a2 true)))) else (fareboxlaw32_GfField.j0 k a0 a1 a2 true)))) = some r := h
  clear h
  have HC4 := Aside0.mk H
  clear H
  go_enter Tryd.func4, Tryd.ntmps4
  go_upto_region 1 with (fail)
  go_cut [52] (fun v52 wc => ∃ (kq : Nat) (x52_3 : Bool), v52 = .bool x52_3 ∧ Aside0 (fareboxlaw32_GfField.j0 kq a0 a1 a2 x52_3 = some r) ∧ Aside0 (kq ≤ k) ∧ Drawn0 w wc)
  case first =>
    have H := HC4.out
    clear HC4
    replace H := Option.bind_eq_some_iff.mp H
    obtain ⟨t101, A50, H⟩ := H
    replace H : ((gf_Mul.f k a1 a0).bind fun t102 => (if t101 = t102 then ((gf_Add.f a0 a1).bind fun t103 => ((gf_Add.f a1 a0).bind fun t104 => (if t103 = t104 then ((gf_Mul.f k t101 a2).bind fun t105 => ((gf_Mul.f k a1 a2).bind fun t106 => ((gf_Mul.f k a0 t106).bind fun t107 => (if t105 = t107 then ((gf_Add.f t103 a2).bind fun t108 => ((gf_Add.f a1 a2).bind fun t109 => ((gf_Add.f a0 t109).bind fun t110 => (fareboxlaw32_GfField.j0 k a0 a1 a2 (t108 != t110))))) else (fareboxlaw32_GfField.j0 k a0 a1 a2 true))))) else (fareboxlaw32_GfField.j0 k a0 a1 a2 true)))) else (fareboxlaw32_GfField.j0 k a0 a1 a2 true))) = some r := H
    have A5 := Aside0.mk A50
    clear A50
    replace H := Option.bind_eq_some_iff.mp H
    obtain ⟨t102, A60, H⟩ := H
    replace H : (if t101 = t102 then ((gf_Add.f a0 a1).bind fun t103 => ((gf_Add.f a1 a0).bind fun t104 => (if t103 = t104 then ((gf_Mul.f k t101 a2).bind fun t105 => ((gf_Mul.f k a1 a2).bind fun t106 => ((gf_Mul.f k a0 t106).bind fun t107 => (if t105 = t107 then ((gf_Add.f t103 a2).bind fun t108 => ((gf_Add.f a1 a2).bind fun t109 => ((gf_Add.f a0 t109).bind fun t110 => (fareboxlaw32_GfField.j0 k a0 a1 a2 (t108 != t110))))) else (fareboxlaw32_GfField.j0 k a0 a1 a2 true))))) else (fareboxlaw32_GfField.j0 k a0 a1 a2 true)))) else (fareboxlaw32_GfField.j0 k a0 a1 a2 true)) = some r := H
    have A6 := Aside0.mk A60
    clear A60
    by_cases c7 : t101 = t102
    · rw [if_pos c7] at H
      have c7b0 : (t101 == t102) = true := beq_iff_eq.mpr c7
      have c7b1 : (t101 != t102) = false := bne_eq_false_iff_eq.mpr c7
      clear c7
      (first | rw [c7b0] | (simp only [i64_w, i32_w]; rw [c7b0]) | skip)
      replace H := Option.bind_eq_some_iff.mp H
      obtain ⟨t103, A80, H⟩ := H
      replace H : ((gf_Add.f a1 a0).bind fun t104 => (if t103 = t104 then ((gf_Mul.f k t101 a2).bind fun t105 => ((gf_Mul.f k a1 a2).bind fun t106 => ((gf_Mul.f k a0 t106).bind fun t107 => (if t105 = t107 then ((gf_Add.f t103 a2).bind fun t108 => ((gf_Add.f a1 a2).bind fun t109 => ((gf_Add.f a0 t109).bind fun t110 => (fareboxlaw32_GfField.j0 k a0 a1 a2 (t108 != t110))))) else (fareboxlaw32_GfField.j0 k a0 a1 a2 true))))) else (fareboxlaw32_GfField.j0 k a0 a1 a2 true))) = some r := H
      have A8 := Aside0.mk A80
      clear A80
      replace H := Option.bind_eq_some_iff.mp H
      obtain ⟨t104, A90, H⟩ := H
      replace H : (if t103 = t104 then ((gf_Mul.f k t101 a2).bind fun t105 => ((gf_Mul.f k a1 a2).bind fun t106 => ((gf_Mul.f k a0 t106).bind fun t107 => (if t105 = t107 then ((gf_Add.f t103 a2).bind fun t108 => ((gf_Add.f a1 a2).bind fun t109 => ((gf_Add.f a0 t109).bind fun t110 => (fareboxlaw32_GfField.j0 k a0 a1 a2 (t108 != t110))))) else (fareboxlaw32_GfField.j0 k a0 a1 a2 true))))) else (fareboxlaw32_GfField.j0 k a0 a1 a2 true)) = some r := H
      have A9 := Aside0.mk A90
      clear A90
      by_cases c10 : t103 = t104
      · rw [if_pos c10] at H
        have c10b0 : (t103 == t104) = true := beq_iff_eq.mpr c10
        have c10b1 : (t103 != t104) = false := bne_eq_false_iff_eq.mpr c10
        clear c10
        replace H := Option.bind_eq_some_iff.mp H
        obtain ⟨t105, A110, H⟩ := H
        replace H : ((gf_Mul.f k a1 a2).bind fun t106 => ((gf_Mul.f k a0 t106).bind fun t107 => (if t105 = t107 then ((gf_Add.f t103 a2).bind fun t108 => ((gf_Add.f a1 a2).bind fun t109 => ((gf_Add.f a0 t109).bind fun t110 => (fareboxlaw32_GfField.j0 k a0 a1 a2 (t108 != t110))))) else (fareboxlaw32_GfField.j0 k a0 a1 a2 true)))) = some r := H
        have A11 := Aside0.mk A110
        clear A110
        replace H := Option.bind_eq_some_iff.mp H
        obtain ⟨t106, A120, H⟩ := H
        replace H : ((gf_Mul.f k a0 t106).bind fun t107 => (if t105 = t107 then ((gf_Add.f t103 a2).bind fun t108 => ((gf_Add.f a1 a2).bind fun t109 => ((gf_Add.f a0 t109).bind fun t110 => (fareboxlaw32_GfField.j0 k a0 a1 a2 (t108 != t110))))) else (fareboxlaw32_GfField.j0 k a0 a1 a2 true))) = some r := H
        have A12 := Aside0.mk A120
        clear A120
        replace H := Option.bind_eq_some_iff.mp H
        obtain ⟨t107, A130, H⟩ := H
        replace H : (if t105 = t107 then ((gf_Add.f t103 a2).bind fun t108 => ((gf_Add.f a1 a2).bind fun t109 => ((gf_Add.f a0 t109).bind fun t110 => (fareboxlaw32_GfField.j0 k a0 a1 a2 (t108 != t110))))) else (fareboxlaw32_GfField.j0 k a0 a1 a2 true)) = some r := H
        have A13 := Aside0.mk A130
        clear A130
        by_cases c14 : t105 = t107
        · rw [if_pos c14] at H
          have c14b0 : (t105 == t107) = true := beq_iff_eq.mpr c14
          have c14b1 : (t105 != t107) = false := bne_eq_false_iff_eq.mpr c14
          clear c14
          replace H := Option.bind_eq_some_iff.mp H
          obtain ⟨t108, A150, H⟩ := H
          replace H : ((gf_Add.f a1 a2).bind fun t109 => ((gf_Add.f a0 t109).bind fun t110 => (fareboxlaw32_GfField.j0 k a0 a1 a2 (t108 != t110)))) = some r := H
          have A15 := Aside0.mk A150
          clear A150
          replace H := Option.bind_eq_some_iff.mp H
          obtain ⟨t109, A160, H⟩ := H
          replace H : ((gf_Add.f a0 t109).bind fun t110 => (fareboxlaw32_GfField.j0 k a0 a1 a2 (t108 != t110))) = some r := H
          have A16 := Aside0.mk A160
          clear A160
          replace H := Option.bind_eq_some_iff.mp H
          obtain ⟨t110, A170, H⟩ := H
          replace H : (fareboxlaw32_GfField.j0 k a0 a1 a2 (t108 != t110)) = some r := H
          have A17 := Aside0.mk A170
          clear A170
          have H' := Aside0.mk H
          clear H
          go_wp2_with (first | ((with_reducible refine gate_callee (f := 10) rfl ?_); refine goesL_ (some 13) rfl rfl Tryd.func10 (by kernel_rfl) rfl #[.int .u8 a0, .int .u8 a1] rfl (by (try simp only [List.map_toArray, List.map_cons, List.map_nil]); first | done | rfl | (simp only [List.length_drop, List.length_take]; rfl)) ?_; (with_reducible refine (gf_Mul.calls k a0 a1 t101 _ A5.out).mono ?_); rintro e w' ⟨rfl, ⟨nd, rfl⟩⟩; refine ⟨_, rfl, ?_⟩) | ((with_reducible refine gate_callee (f := 10) rfl ?_); refine goesL_ (some 16) rfl rfl Tryd.func10 (by kernel_rfl) rfl #[.int .u8 a1, .int .u8 a0] rfl (by (try simp only [List.map_toArray, List.map_cons, List.map_nil]); first | done | rfl | (simp only [List.length_drop, List.length_take]; rfl)) ?_; (with_reducible refine (gf_Mul.calls k a1 a0 t102 _ A6.out).mono ?_); rintro e w' ⟨rfl, ⟨nd, rfl⟩⟩; refine ⟨_, rfl, ?_⟩) | (go_at_call 11; (with_reducible refine (gf_Add.calls a0 a1 t103 _ A8.out).mono ?_); rintro e w' ⟨rfl, ⟨nd, rfl⟩⟩) | (go_at_call 11; (with_reducible refine (gf_Add.calls a1 a0 t104 _ A9.out).mono ?_); rintro e w' ⟨rfl, ⟨nd, rfl⟩⟩) | (go_at_call 10; (with_reducible refine (gf_Mul.calls k t101 a2 t105 _ A11.out).mono ?_); rintro e w' ⟨rfl, ⟨nd, rfl⟩⟩) | (go_at_call 10; (with_reducible refine (gf_Mul.calls k a1 a2 t106 _ A12.out).mono ?_); rintro e w' ⟨rfl, ⟨nd, rfl⟩⟩) | (go_at_call 10; (with_reducible refine (gf_Mul.calls k a0 t106 t107 _ A13.out).mono ?_); rintro e w' ⟨rfl, ⟨nd, rfl⟩⟩) | (go_at_call 11; (with_reducible refine (gf_Add.calls t103 a2 t108 _ A15.out).mono ?_); rintro e w' ⟨rfl, ⟨nd, rfl⟩⟩) | (go_at_call 11; (with_reducible refine (gf_Add.calls a1 a2 t109 _ A16.out).mono ?_); rintro e w' ⟨rfl, ⟨nd, rfl⟩⟩) | (go_at_call 11; (with_reducible refine (gf_Add.calls a0 t109 t110 _ A17.out).mono ?_); rintro e w' ⟨rfl, ⟨nd, rfl⟩⟩) | (go_at_call 10; (with_reducible refine (gf_Mul.calls k a0 a1 t101 _ A5.out).mono ?_); rintro e w' ⟨rfl, ⟨nd, rfl⟩⟩) | (go_at_call 10; (with_reducible refine (gf_Mul.calls k a1 a0 t102 _ A6.out).mono ?_); rintro e w' ⟨rfl, ⟨nd, rfl⟩⟩))
          go_meet
          case rel => exact ⟨_, ((t108 != t110)), (by first | rfl | (simp; done) | (simp [*]; done) | (exfalso; simp_all; done)), H', ⟨by first | omega | exact Nat.le_refl _⟩, by repeat (first | exact Drawn0.refl _ | apply Drawn0.step)⟩
        · rw [if_neg c14] at H
          have c14b0 : (t105 == t107) = false := beq_eq_false_iff_ne.mpr c14
          have c14b1 : (t105 != t107) = true := bne_iff_ne.mpr c14
          have H' := Aside0.mk H
          clear H
          go_wp2_with (first | ((with_reducible refine gate_callee (f := 10) rfl ?_); refine goesL_ (some 13) rfl rfl Tryd.func10 (by kernel_rfl) rfl #[.int .u8 a0, .int .u8 a1] rfl (by (try simp only [List.map_toArray, List.map_cons, List.map_nil]); first | done | rfl | (simp only [List.length_drop, List.length_take]; rfl)) ?_; (with_reducible refine (gf_Mul.calls k a0 a1 t101 _ A5.out).mono ?_); rintro e w' ⟨rfl, ⟨nd, rfl⟩⟩; refine ⟨_, rfl, ?_⟩) | ((with_reducible refine gate_callee (f := 10) rfl ?_); refine goesL_ (some 16) rfl rfl Tryd.func10 (by kernel_rfl) rfl #[.int .u8 a1, .int .u8 a0] rfl (by (try simp only [List.map_toArray, List.map_cons, List.map_nil]); first | done | rfl | (simp only [List.length_drop, List.length_take]; rfl)) ?_; (with_reducible refine (gf_Mul.calls k a1 a0 t102 _ A6.out).mono ?_); rintro e w' ⟨rfl, ⟨nd, rfl⟩⟩; refine ⟨_, rfl, ?_⟩) | (go_at_call 11; (with_reducible refine (gf_Add.calls a0 a1 t103 _ A8.out).mono ?_); rintro e w' ⟨rfl, ⟨nd, rfl⟩⟩) | (go_at_call 11; (with_reducible refine (gf_Add.calls a1 a0 t104 _ A9.out).mono ?_); rintro e w' ⟨rfl, ⟨nd, rfl⟩⟩) | (go_at_call 10; (with_reducible refine (gf_Mul.calls k t101 a2 t105 _ A11.out).mono ?_); rintro e w' ⟨rfl, ⟨nd, rfl⟩⟩) | (go_at_call 10; (with_reducible refine (gf_Mul.calls k a1 a2 t106 _ A12.out).mono ?_); rintro e w' ⟨rfl, ⟨nd, rfl⟩⟩) | (go_at_call 10; (with_reducible refine (gf_Mul.calls k a0 t106 t107 _ A13.out).mono ?_); rintro e w' ⟨rfl, ⟨nd, rfl⟩⟩) | (go_at_call 10; (with_reducible refine (gf_Mul.calls k a0 a1 t101 _ A5.out).mono ?_); rintro e w' ⟨rfl, ⟨nd, rfl⟩⟩) | (go_at_call 10; (with_reducible refine (gf_Mul.calls k a1 a0 t102 _ A6.out).mono ?_); rintro e w' ⟨rfl, ⟨nd, rfl⟩⟩))
          go_meet
          case rel => exact ⟨_, (true), (by first | rfl | (simp; done) | (simp [*]; done) | (exfalso; simp_all; done)), H', ⟨by first | omega | exact Nat.le_refl _⟩, by repeat (first | exact Drawn0.refl _ | apply Drawn0.step)⟩
      · rw [if_neg c10] at H
        have c10b0 : (t103 == t104) = false := beq_eq_false_iff_ne.mpr c10
        have c10b1 : (t103 != t104) = true := bne_iff_ne.mpr c10
        have H' := Aside0.mk H
        clear H
        go_wp2_with (first | ((with_reducible refine gate_callee (f := 10) rfl ?_); refine goesL_ (some 13) rfl rfl Tryd.func10 (by kernel_rfl) rfl #[.int .u8 a0, .int .u8 a1] rfl (by (try simp only [List.map_toArray, List.map_cons, List.map_nil]); first | done | rfl | (simp only [List.length_drop, List.length_take]; rfl)) ?_; (with_reducible refine (gf_Mul.calls k a0 a1 t101 _ A5.out).mono ?_); rintro e w' ⟨rfl, ⟨nd, rfl⟩⟩; refine ⟨_, rfl, ?_⟩) | ((with_reducible refine gate_callee (f := 10) rfl ?_); refine goesL_ (some 16) rfl rfl Tryd.func10 (by kernel_rfl) rfl #[.int .u8 a1, .int .u8 a0] rfl (by (try simp only [List.map_toArray, List.map_cons, List.map_nil]); first | done | rfl | (simp only [List.length_drop, List.length_take]; rfl)) ?_; (with_reducible refine (gf_Mul.calls k a1 a0 t102 _ A6.out).mono ?_); rintro e w' ⟨rfl, ⟨nd, rfl⟩⟩; refine ⟨_, rfl, ?_⟩) | (go_at_call 11; (with_reducible refine (gf_Add.calls a0 a1 t103 _ A8.out).mono ?_); rintro e w' ⟨rfl, ⟨nd, rfl⟩⟩) | (go_at_call 11; (with_reducible refine (gf_Add.calls a1 a0 t104 _ A9.out).mono ?_); rintro e w' ⟨rfl, ⟨nd, rfl⟩⟩) | (go_at_call 10; (with_reducible refine (gf_Mul.calls k a0 a1 t101 _ A5.out).mono ?_); rintro e w' ⟨rfl, ⟨nd, rfl⟩⟩) | (go_at_call 10; (with_reducible refine (gf_Mul.calls k a1 a0 t102 _ A6.out).mono ?_); rintro e w' ⟨rfl, ⟨nd, rfl⟩⟩))
        go_meet
        case rel => exact ⟨_, (true), (by first | rfl | (simp; done) | (simp [*]; done) | (exfalso; simp_all; done)), H', ⟨by first | omega | exact Nat.le_refl _⟩, by repeat (first | exact Drawn0.refl _ | apply Drawn0.step)⟩
    · rw [if_neg c7] at H
      have c7b0 : (t101 == t102) = false := beq_eq_false_iff_ne.mpr c7
      have c7b1 : (t101 != t102) = true := bne_iff_ne.mpr c7
      (first | rw [c7b0] | (simp only [i64_w, i32_w]; rw [c7b0]) | skip)
      have H' := Aside0.mk H
      clear H
      go_wp2_with (first | ((with_reducible refine gate_callee (f := 10) rfl ?_); refine goesL_ (some 13) rfl rfl Tryd.func10 (by kernel_rfl) rfl #[.int .u8 a0, .int .u8 a1] rfl (by (try simp only [List.map_toArray, List.map_cons, List.map_nil]); first | done | rfl | (simp only [List.length_drop, List.length_take]; rfl)) ?_; (with_reducible refine (gf_Mul.calls k a0 a1 t101 _ A5.out).mono ?_); rintro e w' ⟨rfl, ⟨nd, rfl⟩⟩; refine ⟨_, rfl, ?_⟩) | ((with_reducible refine gate_callee (f := 10) rfl ?_); refine goesL_ (some 16) rfl rfl Tryd.func10 (by kernel_rfl) rfl #[.int .u8 a1, .int .u8 a0] rfl (by (try simp only [List.map_toArray, List.map_cons, List.map_nil]); first | done | rfl | (simp only [List.length_drop, List.length_take]; rfl)) ?_; (with_reducible refine (gf_Mul.calls k a1 a0 t102 _ A6.out).mono ?_); rintro e w' ⟨rfl, ⟨nd, rfl⟩⟩; refine ⟨_, rfl, ?_⟩) | (go_at_call 10; (with_reducible refine (gf_Mul.calls k a0 a1 t101 _ A5.out).mono ?_); rintro e w' ⟨rfl, ⟨nd, rfl⟩⟩) | (go_at_call 10; (with_reducible refine (gf_Mul.calls k a1 a0 t102 _ A6.out).mono ?_); rintro e w' ⟨rfl, ⟨nd, rfl⟩⟩))
      go_meet
      case rel => exact ⟨_, (true), (by first | rfl | (simp; done) | (simp [*]; done) | (exfalso; simp_all; done)), H', ⟨by first | omega | exact Nat.le_refl _⟩, by repeat (first | exact Drawn0.refl _ | apply Drawn0.step)⟩
  case rest =>
    clear HC4
    try clear c1
    try clear p2
    try clear c4
    try clear c7
    try clear c7b0
    try clear c7b1
    try clear c10
    try clear c10b0
    try clear c10b1
    try clear c14
    try clear c14b0
    try clear c14b1
    obtain ⟨kq, x52_3, rfl, HA, HJ3, ⟨mc3, rfl⟩⟩ := hcut
    cases kq with
    | zero => exact absurd HA.out (by simp [fareboxlaw32_GfField.j0])
    | succ kj3 =>
      have H := HA.out
      clear HA
      simp only [fareboxlaw32_GfField.j0] at H
      by_cases c18 : x52_3 = true
      · subst c18
        have H1 : (some false) = some r := by rw [if_pos rfl] at H; exact H
        clear H
        have H := H1
        clear H1
        obtain rfl := Option.some.inj H
        go_wp2
        go_ret
        exact ⟨by first | rfl | (simp; done) | (simp [*]; done), by repeat (first | exact Drawn0.refl _ | apply Drawn0.step)⟩
      · replace c18 := Bool.eq_false_iff.mpr c18
        subst c18
        have H1 : ((gf_Add.f a1 a2).bind fun t111 => ((gf_Mul.f kj3 a0 t111).bind fun t112 => ((gf_Mul.f kj3 a0 a1).bind fun t113 => ((gf_Mul.f kj3 a0 a2).bind fun t114 => ((gf_Add.f t113 t114).bind fun t115 => (if t112 = t115 then ((gf_Add.f a0 0).bind fun t116 => (if t116 = a0 then ((gf_Mul.f kj3 a0 1).bind fun t117 => (if t117 = a0 then ((gf_Add.f a0 a0).bind fun t118 => (fareboxlaw32_GfField.j1 kj3 a0 a1 (t118 != 0))) else (fareboxlaw32_GfField.j1 kj3 a0 a1 true))) else (fareboxlaw32_GfField.j1 kj3 a0 a1 true))) else (fareboxlaw32_GfField.j1 kj3 a0 a1 true))))))) = some r := by rw [if_neg (show ¬ (false = true) by decide)] at H; exact H
        clear H
        have H := H1
        clear H1
        have HC19 := Aside0.mk H
        clear H
        go_upto_region 3 with (fail)
        go_cut [83] (fun v83 wc => ∃ (kq : Nat) (x83_18 : Bool), v83 = .bool x83_18 ∧ Aside0 (fareboxlaw32_GfField.j1 kq a0 a1 x83_18 = some r) ∧ Aside0 (kq ≤ kj3) ∧ Drawn0 w wc)
        case first =>
          have H := HC19.out
          clear HC19
          replace H := Option.bind_eq_some_iff.mp H
          obtain ⟨t111, A200, H⟩ := H
          replace H : ((gf_Mul.f kj3 a0 t111).bind fun t112 => ((gf_Mul.f kj3 a0 a1).bind fun t113 => ((gf_Mul.f kj3 a0 a2).bind fun t114 => ((gf_Add.f t113 t114).bind fun t115 => (if t112 = t115 then ((gf_Add.f a0 0).bind fun t116 => (if t116 = a0 then ((gf_Mul.f kj3 a0 1).bind fun t117 => (if t117 = a0 then ((gf_Add.f a0 a0).bind fun t118 => (fareboxlaw32_GfField.j1 kj3 a0 a1 (t118 != 0))) else (fareboxlaw32_GfField.j1 kj3 a0 a1 true))) else (fareboxlaw32_GfField.j1 kj3 a0 a1 true))) else (fareboxlaw32_GfField.j1 kj3 a0 a1 true)))))) = some r := H
          have A20 := Aside0.mk A200
          clear A200
          replace H := Option.bind_eq_some_iff.mp H
          obtain ⟨t112, A210, H⟩ := H
          replace H : ((gf_Mul.f kj3 a0 a1).bind fun t113 => ((gf_Mul.f kj3 a0 a2).bind fun t114 => ((gf_Add.f t113 t114).bind fun t115 => (if t112 = t115 then ((gf_Add.f a0 0).bind fun t116 => (if t116 = a0 then ((gf_Mul.f kj3 a0 1).bind fun t117 => (if t117 = a0 then ((gf_Add.f a0 a0).bind fun t118 => (fareboxlaw32_GfField.j1 kj3 a0 a1 (t118 != 0))) else (fareboxlaw32_GfField.j1 kj3 a0 a1 true))) else (fareboxlaw32_GfField.j1 kj3 a0 a1 true))) else (fareboxlaw32_GfField.j1 kj3 a0 a1 true))))) = some r := H
          have A21 := Aside0.mk A210
          clear A210
          replace H := Option.bind_eq_some_iff.mp H
          obtain ⟨t113, A220, H⟩ := H
          replace H : ((gf_Mul.f kj3 a0 a2).bind fun t114 => ((gf_Add.f t113 t114).bind fun t115 => (if t112 = t115 then ((gf_Add.f a0 0).bind fun t116 => (if t116 = a0 then ((gf_Mul.f kj3 a0 1).bind fun t117 => (if t117 = a0 then ((gf_Add.f a0 a0).bind fun t118 => (fareboxlaw32_GfField.j1 kj3 a0 a1 (t118 != 0))) else (fareboxlaw32_GfField.j1 kj3 a0 a1 true))) else (fareboxlaw32_GfField.j1 kj3 a0 a1 true))) else (fareboxlaw32_GfField.j1 kj3 a0 a1 true)))) = some r := H
          have A22 := Aside0.mk A220
          clear A220
          replace H := Option.bind_eq_some_iff.mp H
          obtain ⟨t114, A230, H⟩ := H
          replace H : ((gf_Add.f t113 t114).bind fun t115 => (if t112 = t115 then ((gf_Add.f a0 0).bind fun t116 => (if t116 = a0 then ((gf_Mul.f kj3 a0 1).bind fun t117 => (if t117 = a0 then ((gf_Add.f a0 a0).bind fun t118 => (fareboxlaw32_GfField.j1 kj3 a0 a1 (t118 != 0))) else (fareboxlaw32_GfField.j1 kj3 a0 a1 true))) else (fareboxlaw32_GfField.j1 kj3 a0 a1 true))) else (fareboxlaw32_GfField.j1 kj3 a0 a1 true))) = some r := H
          have A23 := Aside0.mk A230
          clear A230
          replace H := Option.bind_eq_some_iff.mp H
          obtain ⟨t115, A240, H⟩ := H
          replace H : (if t112 = t115 then ((gf_Add.f a0 0).bind fun t116 => (if t116 = a0 then ((gf_Mul.f kj3 a0 1).bind fun t117 => (if t117 = a0 then ((gf_Add.f a0 a0).bind fun t118 => (fareboxlaw32_GfField.j1 kj3 a0 a1 (t118 != 0))) else (fareboxlaw32_GfField.j1 kj3 a0 a1 true))) else (fareboxlaw32_GfField.j1 kj3 a0 a1 true))) else (fareboxlaw32_GfField.j1 kj3 a0 a1 true)) = some r := H
          have A24 := Aside0.mk A240
          clear A240
          by_cases c25 : t112 = t115
          · rw [if_pos c25] at H
            have c25b0 : (t112 == t115) = true := beq_iff_eq.mpr c25
            have c25b1 : (t112 != t115) = false := bne_eq_false_iff_eq.mpr c25
            clear c25
            (first | rw [c25b0] | (simp only [i64_w, i32_w]; rw [c25b0]) | skip)
            replace H := Option.bind_eq_some_iff.mp H
            obtain ⟨t116, A260, H⟩ := H
            replace H : (if t116 = a0 then ((gf_Mul.f kj3 a0 1).bind fun t117 => (if t117 = a0 then ((gf_Add.f a0 a0).bind fun t118 => (fareboxlaw32_GfField.j1 kj3 a0 a1 (t118 != 0))) else (fareboxlaw32_GfField.j1 kj3 a0 a1 true))) else (fareboxlaw32_GfField.j1 kj3 a0 a1 true)) = some r := H
            have A26 := Aside0.mk A260
            clear A260
            by_cases c27 : t116 = a0
            · rw [if_pos c27] at H
              have c27b0 : (t116 == a0) = true := beq_iff_eq.mpr c27
              have c27b1 : (t116 != a0) = false := bne_eq_false_iff_eq.mpr c27
              clear c27
              replace H := Option.bind_eq_some_iff.mp H
              obtain ⟨t117, A280, H⟩ := H
              replace H : (if t117 = a0 then ((gf_Add.f a0 a0).bind fun t118 => (fareboxlaw32_GfField.j1 kj3 a0 a1 (t118 != 0))) else (fareboxlaw32_GfField.j1 kj3 a0 a1 true)) = some r := H
              have A28 := Aside0.mk A280
              clear A280
              by_cases c29 : t117 = a0
              · rw [if_pos c29] at H
                have c29b0 : (t117 == a0) = true := beq_iff_eq.mpr c29
                have c29b1 : (t117 != a0) = false := bne_eq_false_iff_eq.mpr c29
                clear c29
                replace H := Option.bind_eq_some_iff.mp H
                obtain ⟨t118, A300, H⟩ := H
                replace H : (fareboxlaw32_GfField.j1 kj3 a0 a1 (t118 != 0)) = some r := H
                have A30 := Aside0.mk A300
                clear A300
                have H' := Aside0.mk H
                clear H
                go_wp2_with (first | ((with_reducible refine gate_callee (f := 11) rfl ?_); refine goesL_ (some 56) rfl rfl Tryd.func11 (by kernel_rfl) rfl #[.int .u8 a1, .int .u8 a2] rfl (by (try simp only [List.map_toArray, List.map_cons, List.map_nil]); first | done | rfl | (simp only [List.length_drop, List.length_take]; rfl)) ?_; (with_reducible refine (gf_Add.calls a1 a2 t111 _ A20.out).mono ?_); rintro e w' ⟨rfl, ⟨nd, rfl⟩⟩; refine ⟨_, rfl, ?_⟩) | ((with_reducible refine gate_callee (f := 10) rfl ?_); refine goesL_ (some 57) rfl rfl Tryd.func10 (by kernel_rfl) rfl #[.int .u8 a0, .int .u8 t111] rfl (by (try simp only [List.map_toArray, List.map_cons, List.map_nil]); first | done | rfl | (simp only [List.length_drop, List.length_take]; rfl)) ?_; (with_reducible refine (gf_Mul.calls kj3 a0 t111 t112 _ A21.out).mono ?_); rintro e w' ⟨rfl, ⟨nd, rfl⟩⟩; refine ⟨_, rfl, ?_⟩) | ((with_reducible refine gate_callee (f := 10) rfl ?_); refine goesL_ (some 60) rfl rfl Tryd.func10 (by kernel_rfl) rfl #[.int .u8 a0, .int .u8 a1] rfl (by (try simp only [List.map_toArray, List.map_cons, List.map_nil]); first | done | rfl | (simp only [List.length_drop, List.length_take]; rfl)) ?_; (with_reducible refine (gf_Mul.calls kj3 a0 a1 t113 _ A22.out).mono ?_); rintro e w' ⟨rfl, ⟨nd, rfl⟩⟩; refine ⟨_, rfl, ?_⟩) | ((with_reducible refine gate_callee (f := 10) rfl ?_); refine goesL_ (some 63) rfl rfl Tryd.func10 (by kernel_rfl) rfl #[.int .u8 a0, .int .u8 a2] rfl (by (try simp only [List.map_toArray, List.map_cons, List.map_nil]); first | done | rfl | (simp only [List.length_drop, List.length_take]; rfl)) ?_; (with_reducible refine (gf_Mul.calls kj3 a0 a2 t114 _ A23.out).mono ?_); rintro e w' ⟨rfl, ⟨nd, rfl⟩⟩; refine ⟨_, rfl, ?_⟩) | ((with_reducible refine gate_callee (f := 11) rfl ?_); refine goesL_ (some 64) rfl rfl Tryd.func11 (by kernel_rfl) rfl #[.int .u8 t113, .int .u8 t114] rfl (by (try simp only [List.map_toArray, List.map_cons, List.map_nil]); first | done | rfl | (simp only [List.length_drop, List.length_take]; rfl)) ?_; (with_reducible refine (gf_Add.calls t113 t114 t115 _ A24.out).mono ?_); rintro e w' ⟨rfl, ⟨nd, rfl⟩⟩; refine ⟨_, rfl, ?_⟩) | (go_at_call 11; (with_reducible refine (gf_Add.calls a0 0 t116 _ A26.out).mono ?_); rintro e w' ⟨rfl, ⟨nd, rfl⟩⟩) | (go_at_call 10; (with_reducible refine (gf_Mul.calls kj3 a0 1 t117 _ A28.out).mono ?_); rintro e w' ⟨rfl, ⟨nd, rfl⟩⟩) | (go_at_call 11; (with_reducible refine (gf_Add.calls a0 a0 t118 _ A30.out).mono ?_); rintro e w' ⟨rfl, ⟨nd, rfl⟩⟩) | (go_at_call 11; (with_reducible refine (gf_Add.calls a1 a2 t111 _ A20.out).mono ?_); rintro e w' ⟨rfl, ⟨nd, rfl⟩⟩) | (go_at_call 10; (with_reducible refine (gf_Mul.calls kj3 a0 t111 t112 _ A21.out).mono ?_); rintro e w' ⟨rfl, ⟨nd, rfl⟩⟩) | (go_at_call 10; (with_reducible refine (gf_Mul.calls kj3 a0 a1 t113 _ A22.out).mono ?_); rintro e w' ⟨rfl, ⟨nd, rfl⟩⟩) | (go_at_call 10; (with_reducible refine (gf_Mul.calls kj3 a0 a2 t114 _ A23.out).mono ?_); rintro e w' ⟨rfl, ⟨nd, rfl⟩⟩) | (go_at_call 11; (with_reducible refine (gf_Add.calls t113 t114 t115 _ A24.out).mono ?_); rintro e w' ⟨rfl, ⟨nd, rfl⟩⟩))
                go_meet
                case rel => exact ⟨_, ((t118 != 0)), (by first | rfl | (simp; done) | (simp [*]; done) | (exfalso; simp_all; done)), H', ⟨by have := HJ3.out; first | omega | exact Nat.le_refl _⟩, by repeat (first | exact Drawn0.refl _ | apply Drawn0.step)⟩
              · rw [if_neg c29] at H
                have c29b0 : (t117 == a0) = false := beq_eq_false_iff_ne.mpr c29
                have c29b1 : (t117 != a0) = true := bne_iff_ne.mpr c29
                have H' := Aside0.mk H
                clear H
                go_wp2_with (first | ((with_reducible refine gate_callee (f := 11) rfl ?_); refine goesL_ (some 56) rfl rfl Tryd.func11 (by kernel_rfl) rfl #[.int .u8 a1, .int .u8 a2] rfl (by (try simp only [List.map_toArray, List.map_cons, List.map_nil]); first | done | rfl | (simp only [List.length_drop, List.length_take]; rfl)) ?_; (with_reducible refine (gf_Add.calls a1 a2 t111 _ A20.out).mono ?_); rintro e w' ⟨rfl, ⟨nd, rfl⟩⟩; refine ⟨_, rfl, ?_⟩) | ((with_reducible refine gate_callee (f := 10) rfl ?_); refine goesL_ (some 57) rfl rfl Tryd.func10 (by kernel_rfl) rfl #[.int .u8 a0, .int .u8 t111] rfl (by (try simp only [List.map_toArray, List.map_cons, List.map_nil]); first | done | rfl | (simp only [List.length_drop, List.length_take]; rfl)) ?_; (with_reducible refine (gf_Mul.calls kj3 a0 t111 t112 _ A21.out).mono ?_); rintro e w' ⟨rfl, ⟨nd, rfl⟩⟩; refine ⟨_, rfl, ?_⟩) | ((with_reducible refine gate_callee (f := 10) rfl ?_); refine goesL_ (some 60) rfl rfl Tryd.func10 (by kernel_rfl) rfl #[.int .u8 a0, .int .u8 a1] rfl (by (try simp only [List.map_toArray, List.map_cons, List.map_nil]); first | done | rfl | (simp only [List.length_drop, List.length_take]; rfl)) ?_; (with_reducible refine (gf_Mul.calls kj3 a0 a1 t113 _ A22.out).mono ?_); rintro e w' ⟨rfl, ⟨nd, rfl⟩⟩; refine ⟨_, rfl, ?_⟩) | ((with_reducible refine gate_callee (f := 10) rfl ?_); refine goesL_ (some 63) rfl rfl Tryd.func10 (by kernel_rfl) rfl #[.int .u8 a0, .int .u8 a2] rfl (by (try simp only [List.map_toArray, List.map_cons, List.map_nil]); first | done | rfl | (simp only [List.length_drop, List.length_take]; rfl)) ?_; (with_reducible refine (gf_Mul.calls kj3 a0 a2 t114 _ A23.out).mono ?_); rintro e w' ⟨rfl, ⟨nd, rfl⟩⟩; refine ⟨_, rfl, ?_⟩) | ((with_reducible refine gate_callee (f := 11) rfl ?_); refine goesL_ (some 64) rfl rfl Tryd.func11 (by kernel_rfl) rfl #[.int .u8 t113, .int .u8 t114] rfl (by (try simp only [List.map_toArray, List.map_cons, List.map_nil]); first | done | rfl | (simp only [List.length_drop, List.length_take]; rfl)) ?_; (with_reducible refine (gf_Add.calls t113 t114 t115 _ A24.out).mono ?_); rintro e w' ⟨rfl, ⟨nd, rfl⟩⟩; refine ⟨_, rfl, ?_⟩) | (go_at_call 11; (with_reducible refine (gf_Add.calls a0 0 t116 _ A26.out).mono ?_); rintro e w' ⟨rfl, ⟨nd, rfl⟩⟩) | (go_at_call 10; (with_reducible refine (gf_Mul.calls kj3 a0 1 t117 _ A28.out).mono ?_); rintro e w' ⟨rfl, ⟨nd, rfl⟩⟩) | (go_at_call 11; (with_reducible refine (gf_Add.calls a1 a2 t111 _ A20.out).mono ?_); rintro e w' ⟨rfl, ⟨nd, rfl⟩⟩) | (go_at_call 10; (with_reducible refine (gf_Mul.calls kj3 a0 t111 t112 _ A21.out).mono ?_); rintro e w' ⟨rfl, ⟨nd, rfl⟩⟩) | (go_at_call 10; (with_reducible refine (gf_Mul.calls kj3 a0 a1 t113 _ A22.out).mono ?_); rintro e w' ⟨rfl, ⟨nd, rfl⟩⟩) | (go_at_call 10; (with_reducible refine (gf_Mul.calls kj3 a0 a2 t114 _ A23.out).mono ?_); rintro e w' ⟨rfl, ⟨nd, rfl⟩⟩) | (go_at_call 11; (with_reducible refine (gf_Add.calls t113 t114 t115 _ A24.out).mono ?_); rintro e w' ⟨rfl, ⟨nd, rfl⟩⟩))
                go_meet
                case rel => exact ⟨_, (true), (by first | rfl | (simp; done) | (simp [*]; done) | (exfalso; simp_all; done)), H', ⟨by have := HJ3.out; first | omega | exact Nat.le_refl _⟩, by repeat (first | exact Drawn0.refl _ | apply Drawn0.step)⟩
            · rw [if_neg c27] at H
              have c27b0 : (t116 == a0) = false := beq_eq_false_iff_ne.mpr c27
              have c27b1 : (t116 != a0) = true := bne_iff_ne.mpr c27
              have H' := Aside0.mk H
              clear H
              go_wp2_with (first | ((with_reducible refine gate_callee (f := 11) rfl ?_); refine goesL_ (some 56) rfl rfl Tryd.func11 (by kernel_rfl) rfl #[.int .u8 a1, .int .u8 a2] rfl (by (try simp only [List.map_toArray, List.map_cons, List.map_nil]); first | done | rfl | (simp only [List.length_drop, List.length_take]; rfl)) ?_; (with_reducible refine (gf_Add.calls a1 a2 t111 _ A20.out).mono ?_); rintro e w' ⟨rfl, ⟨nd, rfl⟩⟩; refine ⟨_, rfl, ?_⟩) | ((with_reducible refine gate_callee (f := 10) rfl ?_); refine goesL_ (some 57) rfl rfl Tryd.func10 (by kernel_rfl) rfl #[.int .u8 a0, .int .u8 t111] rfl (by (try simp only [List.map_toArray, List.map_cons, List.map_nil]); first | done | rfl | (simp only [List.length_drop, List.length_take]; rfl)) ?_; (with_reducible refine (gf_Mul.calls kj3 a0 t111 t112 _ A21.out).mono ?_); rintro e w' ⟨rfl, ⟨nd, rfl⟩⟩; refine ⟨_, rfl, ?_⟩) | ((with_reducible refine gate_callee (f := 10) rfl ?_); refine goesL_ (some 60) rfl rfl Tryd.func10 (by kernel_rfl) rfl #[.int .u8 a0, .int .u8 a1] rfl (by (try simp only [List.map_toArray, List.map_cons, List.map_nil]); first | done | rfl | (simp only [List.length_drop, List.length_take]; rfl)) ?_; (with_reducible refine (gf_Mul.calls kj3 a0 a1 t113 _ A22.out).mono ?_); rintro e w' ⟨rfl, ⟨nd, rfl⟩⟩; refine ⟨_, rfl, ?_⟩) | ((with_reducible refine gate_callee (f := 10) rfl ?_); refine goesL_ (some 63) rfl rfl Tryd.func10 (by kernel_rfl) rfl #[.int .u8 a0, .int .u8 a2] rfl (by (try simp only [List.map_toArray, List.map_cons, List.map_nil]); first | done | rfl | (simp only [List.length_drop, List.length_take]; rfl)) ?_; (with_reducible refine (gf_Mul.calls kj3 a0 a2 t114 _ A23.out).mono ?_); rintro e w' ⟨rfl, ⟨nd, rfl⟩⟩; refine ⟨_, rfl, ?_⟩) | ((with_reducible refine gate_callee (f := 11) rfl ?_); refine goesL_ (some 64) rfl rfl Tryd.func11 (by kernel_rfl) rfl #[.int .u8 t113, .int .u8 t114] rfl (by (try simp only [List.map_toArray, List.map_cons, List.map_nil]); first | done | rfl | (simp only [List.length_drop, List.length_take]; rfl)) ?_; (with_reducible refine (gf_Add.calls t113 t114 t115 _ A24.out).mono ?_); rintro e w' ⟨rfl, ⟨nd, rfl⟩⟩; refine ⟨_, rfl, ?_⟩) | (go_at_call 11; (with_reducible refine (gf_Add.calls a0 0 t116 _ A26.out).mono ?_); rintro e w' ⟨rfl, ⟨nd, rfl⟩⟩) | (go_at_call 11; (with_reducible refine (gf_Add.calls a1 a2 t111 _ A20.out).mono ?_); rintro e w' ⟨rfl, ⟨nd, rfl⟩⟩) | (go_at_call 10; (with_reducible refine (gf_Mul.calls kj3 a0 t111 t112 _ A21.out).mono ?_); rintro e w' ⟨rfl, ⟨nd, rfl⟩⟩) | (go_at_call 10; (with_reducible refine (gf_Mul.calls kj3 a0 a1 t113 _ A22.out).mono ?_); rintro e w' ⟨rfl, ⟨nd, rfl⟩⟩) | (go_at_call 10; (with_reducible refine (gf_Mul.calls kj3 a0 a2 t114 _ A23.out).mono ?_); rintro e w' ⟨rfl, ⟨nd, rfl⟩⟩) | (go_at_call 11; (with_reducible refine (gf_Add.calls t113 t114 t115 _ A24.out).mono ?_); rintro e w' ⟨rfl, ⟨nd, rfl⟩⟩))
              go_meet
              case rel => exact ⟨_, (true), (by first | rfl | (simp; done) | (simp [*]; done) | (exfalso; simp_all; done)), H', ⟨by have := HJ3.out; first | omega | exact Nat.le_refl _⟩, by repeat (first | exact Drawn0.refl _ | apply Drawn0.step)⟩
          · rw [if_neg c25] at H
            have c25b0 : (t112 == t115) = false := beq_eq_false_iff_ne.mpr c25
            have c25b1 : (t112 != t115) = true := bne_iff_ne.mpr c25
            (first | rw [c25b0] | (simp only [i64_w, i32_w]; rw [c25b0]) | skip)
            have H' := Aside0.mk H
            clear H
            go_wp2_with (first | ((with_reducible refine gate_callee (f := 11) rfl ?_); refine goesL_ (some 56) rfl rfl Tryd.func11 (by kernel_rfl) rfl #[.int .u8 a1, .int .u8 a2] rfl (by (try simp only [List.map_toArray, List.map_cons, List.map_nil]); first | done | rfl | (simp only [List.length_drop, List.length_take]; rfl)) ?_; (with_reducible refine (gf_Add.calls a1 a2 t111 _ A20.out).mono ?_); rintro e w' ⟨rfl, ⟨nd, rfl⟩⟩; refine ⟨_, rfl, ?_⟩) | ((with_reducible refine gate_callee (f := 10) rfl ?_); refine goesL_ (some 57) rfl rfl Tryd.func10 (by kernel_rfl) rfl #[.int .u8 a0, .int .u8 t111] rfl (by (try simp only [List.map_toArray, List.map_cons, List.map_nil]); first | done | rfl | (simp only [List.length_drop, List.length_take]; rfl)) ?_; (with_reducible refine (gf_Mul.calls kj3 a0 t111 t112 _ A21.out).mono ?_); rintro e w' ⟨rfl, ⟨nd, rfl⟩⟩; refine ⟨_, rfl, ?_⟩) | ((with_reducible refine gate_callee (f := 10) rfl ?_); refine goesL_ (some 60) rfl rfl Tryd.func10 (by kernel_rfl) rfl #[.int .u8 a0, .int .u8 a1] rfl (by (try simp only [List.map_toArray, List.map_cons, List.map_nil]); first | done | rfl | (simp only [List.length_drop, List.length_take]; rfl)) ?_; (with_reducible refine (gf_Mul.calls kj3 a0 a1 t113 _ A22.out).mono ?_); rintro e w' ⟨rfl, ⟨nd, rfl⟩⟩; refine ⟨_, rfl, ?_⟩) | ((with_reducible refine gate_callee (f := 10) rfl ?_); refine goesL_ (some 63) rfl rfl Tryd.func10 (by kernel_rfl) rfl #[.int .u8 a0, .int .u8 a2] rfl (by (try simp only [List.map_toArray, List.map_cons, List.map_nil]); first | done | rfl | (simp only [List.length_drop, List.length_take]; rfl)) ?_; (with_reducible refine (gf_Mul.calls kj3 a0 a2 t114 _ A23.out).mono ?_); rintro e w' ⟨rfl, ⟨nd, rfl⟩⟩; refine ⟨_, rfl, ?_⟩) | ((with_reducible refine gate_callee (f := 11) rfl ?_); refine goesL_ (some 64) rfl rfl Tryd.func11 (by kernel_rfl) rfl #[.int .u8 t113, .int .u8 t114] rfl (by (try simp only [List.map_toArray, List.map_cons, List.map_nil]); first | done | rfl | (simp only [List.length_drop, List.length_take]; rfl)) ?_; (with_reducible refine (gf_Add.calls t113 t114 t115 _ A24.out).mono ?_); rintro e w' ⟨rfl, ⟨nd, rfl⟩⟩; refine ⟨_, rfl, ?_⟩) | (go_at_call 11; (with_reducible refine (gf_Add.calls a1 a2 t111 _ A20.out).mono ?_); rintro e w' ⟨rfl, ⟨nd, rfl⟩⟩) | (go_at_call 10; (with_reducible refine (gf_Mul.calls kj3 a0 t111 t112 _ A21.out).mono ?_); rintro e w' ⟨rfl, ⟨nd, rfl⟩⟩) | (go_at_call 10; (with_reducible refine (gf_Mul.calls kj3 a0 a1 t113 _ A22.out).mono ?_); rintro e w' ⟨rfl, ⟨nd, rfl⟩⟩) | (go_at_call 10; (with_reducible refine (gf_Mul.calls kj3 a0 a2 t114 _ A23.out).mono ?_); rintro e w' ⟨rfl, ⟨nd, rfl⟩⟩) | (go_at_call 11; (with_reducible refine (gf_Add.calls t113 t114 t115 _ A24.out).mono ?_); rintro e w' ⟨rfl, ⟨nd, rfl⟩⟩))
            go_meet
            case rel => exact ⟨_, (true), (by first | rfl | (simp; done) | (simp [*]; done) | (exfalso; simp_all; done)), H', ⟨by have := HJ3.out; first | omega | exact Nat.le_refl _⟩, by repeat (first | exact Drawn0.refl _ | apply Drawn0.step)⟩
        case rest =>
          clear HC19
          try clear c1
          try clear c2
          try clear p2
          try clear c3
          try clear c4
          try clear c7
          try clear c7b0
          try clear c7b1
          try clear c10
          try clear c10b0
          try clear c10b1
          try clear c11
          try clear c14
          try clear c14b0
          try clear c14b1
          try clear c18
          try clear c25
          try clear c25b0
          try clear c25b1
          try clear c27
          try clear c27b0
          try clear c27b1
          try clear c29
          try clear c29b0
          try clear c29b1
          try clear p2
          obtain ⟨kq, x83_18, rfl, HA, HJ18, ⟨mc18, rfl⟩⟩ := hcut
          cases kq with
          | zero => exact absurd HA.out (by simp [fareboxlaw32_GfField.j1])
          | succ kj18 =>
            have H := HA.out
            clear HA
            simp only [fareboxlaw32_GfField.j1] at H
            by_cases c31 : x83_18 = true
            · subst c31
              have H1 : (some false) = some r := by rw [if_pos rfl] at H; exact H
              clear H
              have H := H1
              clear H1
              obtain rfl := Option.some.inj H
              go_wp2
              go_ret
              exact ⟨by first | rfl | (simp; done) | (simp [*]; done), by repeat (first | exact Drawn0.refl _ | apply Drawn0.step)⟩
            · replace c31 := Bool.eq_false_iff.mpr c31
              subst c31
              have H1 : ((gf_Inv.f kj18 a0).bind fun bt119 => (if (bt119.2 != (a0 != 0)) = true then (fareboxlaw32_GfField.j2 kj18 a0 a1 true) else (if bt119.2 = true then ((gf_Mul.f kj18 a0 bt119.1).bind fun t121 => (if t121 = 1 then ((gf_Mul.f kj18 a0 a1).bind fun t122 => (if a0 = 0 then (fareboxlaw32_GfField.j2 kj18 a0 a1 ((t122 == 0) != true)) else (fareboxlaw32_GfField.j2 kj18 a0 a1 ((t122 == 0) != (a1 == 0))))) else (fareboxlaw32_GfField.j2 kj18 a0 a1 true))) else ((gf_Mul.f kj18 a0 a1).bind fun t123 => (if a0 = 0 then (fareboxlaw32_GfField.j2 kj18 a0 a1 ((t123 == 0) != true)) else (fareboxlaw32_GfField.j2 kj18 a0 a1 ((t123 == 0) != (a1 == 0)))))))) = some r := by rw [if_neg (show ¬ (false = true) by decide)] at H; exact H
              clear H
              have H := H1
              clear H1
              replace H := Option.bind_eq_some_iff.mp H
              obtain ⟨⟨t119, t120⟩, A320, H⟩ := H
              replace H : (if (t120 != (a0 != 0)) = true then (fareboxlaw32_GfField.j2 kj18 a0 a1 true) else (if t120 = true then ((gf_Mul.f kj18 a0 t119).bind fun t121 => (if t121 = 1 then ((gf_Mul.f kj18 a0 a1).bind fun t122 => (if a0 = 0 then (fareboxlaw32_GfField.j2 kj18 a0 a1 ((t122 == 0) != true)) else (fareboxlaw32_GfField.j2 kj18 a0 a1 ((t122 == 0) != (a1 == 0))))) else (fareboxlaw32_GfField.j2 kj18 a0 a1 true))) else ((gf_Mul.f kj18 a0 a1).bind fun t123 => (if a0 = 0 then (fareboxlaw32_GfField.j2 kj18 a0 a1 ((t123 == 0) != true)) else (fareboxlaw32_GfField.j2 kj18 a0 a1 ((t123 == 0) != (a1 == 0))))))) = some r := H
              have A32 := Aside0.mk A320
              clear A320
              have HC33 := Aside0.mk H
              clear H
              go_upto_region 6 with (first | ((with_reducible refine gate_callee (f := 12) rfl ?_); refine goesL_ (some 86) rfl rfl Tryd.func12 (by kernel_rfl) rfl #[.int .u8 a0] rfl (by (try simp only [List.map_toArray, List.map_cons, List.map_nil]); first | done | rfl | (simp only [List.length_drop, List.length_take]; rfl)) ?_; (with_reducible refine (gf_Inv.calls kj18 a0 t119 t120 _ A32.out (by first | exact HT.out | (repeat (first | exact HT.out | apply TabW.drewN | apply TabW.drew | apply TabW.alloc)))).mono ?_); rintro e w' ⟨rfl, ⟨nd, rfl⟩⟩; refine ⟨_, rfl, ?_⟩))
              (try simp only [Act.put, List.setIfInBounds_toArray, List.set_cons_zero, List.set_cons_succ])
              go_cut [114] (fun v114 wc => ∃ (kq : Nat) (x114_32 : Bool), v114 = .bool x114_32 ∧ Aside0 (fareboxlaw32_GfField.j2 kq a0 a1 x114_32 = some r) ∧ Aside0 (kq ≤ kj18) ∧ Drawn0 w wc)
              case first =>
                have H := HC33.out
                clear HC33
                by_cases c34 : (t120 != (a0 != 0)) = true
                · rw [if_pos c34] at H
                  have c34b0 : (t120 != (a0 != 0)) = true := c34
                  (try (have c34b1 : decide (t120 = (a0 != 0)) = false := by simpa using c34))
                  (try (have c34b2 : (t120 == (a0 != 0)) = false := by simpa using c34))
                  (try (have c34b3 : ¬ (t120 = (a0 != 0)) := by simpa using c34))
                  clear c34
                  (first | rw [c34b0] | (simp only [i64_w, i32_w]; rw [c34b0]) | skip)
                  have H' := Aside0.mk H
                  clear H
                  go_wp2
                  go_meet
                  case rel => exact ⟨_, (true), (by first | rfl | (simp; done) | (simp [*]; done) | (exfalso; simp_all; done)), H', ⟨by have := HJ3.out; have := HJ18.out; first | omega | exact Nat.le_refl _⟩, by repeat (first | exact Drawn0.refl _ | apply Drawn0.step)⟩
                · rw [if_neg c34] at H
                  have c34b0 : (t120 != (a0 != 0)) = false := by simpa using c34
                  (try (have c34b1 : decide (t120 = (a0 != 0)) = true := by simpa using c34))
                  (try (have c34b2 : (t120 == (a0 != 0)) = true := by simpa using c34))
                  clear c34
                  (first | rw [c34b0] | (simp only [i64_w, i32_w]; rw [c34b0]) | skip)
                  by_cases c35 : t120 = true
                  · subst c35
                    have H1 : ((gf_Mul.f kj18 a0 t119).bind fun t121 => (if t121 = 1 then ((gf_Mul.f kj18 a0 a1).bind fun t122 => (if a0 = 0 then (fareboxlaw32_GfField.j2 kj18 a0 a1 ((t122 == 0) != true)) else (fareboxlaw32_GfField.j2 kj18 a0 a1 ((t122 == 0) != (a1 == 0))))) else (fareboxlaw32_GfField.j2 kj18 a0 a1 true))) = some r := by rw [if_pos rfl] at H; exact H
                    clear H
                    have H := H1
                    clear H1
                    replace H := Option.bind_eq_some_iff.mp H
                    obtain ⟨t121, A360, H⟩ := H
                    replace H : (if t121 = 1 then ((gf_Mul.f kj18 a0 a1).bind fun t122 => (if a0 = 0 then (fareboxlaw32_GfField.j2 kj18 a0 a1 ((t122 == 0) != true)) else (fareboxlaw32_GfField.j2 kj18 a0 a1 ((t122 == 0) != (a1 == 0))))) else (fareboxlaw32_GfField.j2 kj18 a0 a1 true)) = some r := H
                    have A36 := Aside0.mk A360
                    clear A360
                    by_cases c37 : t121 = 1
                    · rw [if_pos c37] at H
                      have c37b0 : (t121 == 1) = true := beq_iff_eq.mpr c37
                      have c37b1 : (t121 != 1) = false := bne_eq_false_iff_eq.mpr c37
                      clear c37
                      replace H := Option.bind_eq_some_iff.mp H
                      obtain ⟨t122, A380, H⟩ := H
                      replace H : (if a0 = 0 then (fareboxlaw32_GfField.j2 kj18 a0 a1 ((t122 == 0) != true)) else (fareboxlaw32_GfField.j2 kj18 a0 a1 ((t122 == 0) != (a1 == 0)))) = some r := H
                      have A38 := Aside0.mk A380
                      clear A380
                      by_cases c39 : a0 = 0
                      · rw [if_pos c39] at H
                        have c39b0 : (a0 == 0) = true := beq_iff_eq.mpr c39
                        have c39b1 : (a0 != 0) = false := bne_eq_false_iff_eq.mpr c39
                        clear c39
                        have H' := Aside0.mk H
                        clear H
                        go_wp2_with (first | (go_at_call 10; (with_reducible refine (gf_Mul.calls kj18 a0 t119 t121 _ A36.out).mono ?_); rintro e w' ⟨rfl, ⟨nd, rfl⟩⟩) | (go_at_call 10; (with_reducible refine (gf_Mul.calls kj18 a0 a1 t122 _ A38.out).mono ?_); rintro e w' ⟨rfl, ⟨nd, rfl⟩⟩))
                        go_meet
                        case rel => exact ⟨_, (((t122 == 0) != true)), (by first | rfl | (simp; done) | (simp [*]; done) | (exfalso; simp_all; done)), H', ⟨by have := HJ3.out; have := HJ18.out; first | omega | exact Nat.le_refl _⟩, by repeat (first | exact Drawn0.refl _ | apply Drawn0.step)⟩
                      · rw [if_neg c39] at H
                        have c39b0 : (a0 == 0) = false := beq_eq_false_iff_ne.mpr c39
                        have c39b1 : (a0 != 0) = true := bne_iff_ne.mpr c39
                        have H' := Aside0.mk H
                        clear H
                        go_wp2_with (first | (go_at_call 10; (with_reducible refine (gf_Mul.calls kj18 a0 t119 t121 _ A36.out).mono ?_); rintro e w' ⟨rfl, ⟨nd, rfl⟩⟩) | (go_at_call 10; (with_reducible refine (gf_Mul.calls kj18 a0 a1 t122 _ A38.out).mono ?_); rintro e w' ⟨rfl, ⟨nd, rfl⟩⟩))
                        go_meet
                        case rel => exact ⟨_, (((t122 == 0) != (a1 == 0))), (by first | rfl | (simp; done) | (simp [*]; done) | (exfalso; simp_all; done)), H', ⟨by have := HJ3.out; have := HJ18.out; first | omega | exact Nat.le_refl _⟩, by repeat (first | exact Drawn0.refl _ | apply Drawn0.step)⟩
                    · rw [if_neg c37] at H
                      have c37b0 : (t121 == 1) = false := beq_eq_false_iff_ne.mpr c37
                      have c37b1 : (t121 != 1) = true := bne_iff_ne.mpr c37
                      have H' := Aside0.mk H
                      clear H
                      go_wp2_with (first | (go_at_call 10; (with_reducible refine (gf_Mul.calls kj18 a0 t119 t121 _ A36.out).mono ?_); rintro e w' ⟨rfl, ⟨nd, rfl⟩⟩))
                      go_meet
                      case rel => exact ⟨_, (true), (by first | rfl | (simp; done) | (simp [*]; done) | (exfalso; simp_all; done)), H', ⟨by have := HJ3.out; have := HJ18.out; first | omega | exact Nat.le_refl _⟩, by repeat (first | exact Drawn0.refl _ | apply Drawn0.step)⟩
                  · replace c35 := Bool.eq_false_iff.mpr c35
                    subst c35
                    have H1 : ((gf_Mul.f kj18 a0 a1).bind fun t123 => (if a0 = 0 then (fareboxlaw32_GfField.j2 kj18 a0 a1 ((t123 == 0) != true)) else (fareboxlaw32_GfField.j2 kj18 a0 a1 ((t123 == 0) != (a1 == 0))))) = some r := by rw [if_neg (show ¬ (false = true) by decide)] at H; exact H
                    clear H
                    have H := H1
                    clear H1
                    replace H := Option.bind_eq_some_iff.mp H
                    obtain ⟨t123, A400, H⟩ := H
                    replace H : (if a0 = 0 then (fareboxlaw32_GfField.j2 kj18 a0 a1 ((t123 == 0) != true)) else (fareboxlaw32_GfField.j2 kj18 a0 a1 ((t123 == 0) != (a1 == 0)))) = some r := H
                    have A40 := Aside0.mk A400
                    clear A400
                    by_cases c41 : a0 = 0
                    · rw [if_pos c41] at H
                      have c41b0 : (a0 == 0) = true := beq_iff_eq.mpr c41
                      have c41b1 : (a0 != 0) = false := bne_eq_false_iff_eq.mpr c41
                      clear c41
                      have H' := Aside0.mk H
                      clear H
                      go_wp2_with (first | (go_at_call 10; (with_reducible refine (gf_Mul.calls kj18 a0 a1 t123 _ A40.out).mono ?_); rintro e w' ⟨rfl, ⟨nd, rfl⟩⟩))
                      go_meet
                      case rel => exact ⟨_, (((t123 == 0) != true)), (by first | rfl | (simp; done) | (simp [*]; done) | (exfalso; simp_all; done)), H', ⟨by have := HJ3.out; have := HJ18.out; first | omega | exact Nat.le_refl _⟩, by repeat (first | exact Drawn0.refl _ | apply Drawn0.step)⟩
                    · rw [if_neg c41] at H
                      have c41b0 : (a0 == 0) = false := beq_eq_false_iff_ne.mpr c41
                      have c41b1 : (a0 != 0) = true := bne_iff_ne.mpr c41
                      have H' := Aside0.mk H
                      clear H
                      go_wp2_with (first | (go_at_call 10; (with_reducible refine (gf_Mul.calls kj18 a0 a1 t123 _ A40.out).mono ?_); rintro e w' ⟨rfl, ⟨nd, rfl⟩⟩))
                      go_meet
                      case rel => exact ⟨_, (((t123 == 0) != (a1 == 0))), (by first | rfl | (simp; done) | (simp [*]; done) | (exfalso; simp_all; done)), H', ⟨by have := HJ3.out; have := HJ18.out; first | omega | exact Nat.le_refl _⟩, by repeat (first | exact Drawn0.refl _ | apply Drawn0.step)⟩
              case rest =>
                clear HC33
                try clear c1
                try clear c2
                try clear p2
                try clear c3
                try clear c4
                try clear c7
                try clear c7b0
                try clear c7b1
                try clear c10
                try clear c10b0
                try clear c10b1
                try clear c11
                try clear c12
                try clear c14
                try clear c14b0
                try clear c14b1
                try clear c18
                try clear c25
                try clear c25b0
                try clear c25b1
                try clear c27
                try clear c27b0
                try clear c27b1
                try clear c29
                try clear c29b0
                try clear c29b1
                try clear c31
                try clear c34
                try clear c34b0
                try clear c34b1
                try clear c34b2
                try clear c35
                try clear c37
                try clear c37b0
                try clear c37b1
                try clear c39
                try clear c39b0
                try clear c39b1
                try clear c41
                try clear c41b0
                try clear c41b1
                try clear p2
                obtain ⟨kq, x114_32, rfl, HA, HJ32, ⟨mc32, rfl⟩⟩ := hcut
                cases kq with
                | zero => exact absurd HA.out (by simp [fareboxlaw32_GfField.j2])
                | succ kj32 =>
                  have H := HA.out
                  clear HA
                  simp only [fareboxlaw32_GfField.j2] at H
                  by_cases c42 : x114_32 = true
                  · subst c42
                    have H1 : (some false) = some r := by rw [if_pos rfl] at H; exact H
                    clear H
                    have H := H1
                    clear H1
                    obtain rfl := Option.some.inj H
                    go_wp2
                    go_ret
                    exact ⟨by first | rfl | (simp; done) | (simp [*]; done), by repeat (first | exact Drawn0.refl _ | apply Drawn0.step)⟩
                  · replace c42 := Bool.eq_false_iff.mpr c42
                    subst c42
                    have H1 : ((gf_Div.f kj32 a0 a1).bind fun bt124 => (if (bt124.2 == (a1 != 0)) = true then (if bt124.2 = true then ((gf_Mul.f kj32 bt124.1 a1).bind fun t126 => (some (t126 == a0))) else (some true)) else (some false))) = some r := by rw [if_neg (show ¬ (false = true) by decide)] at H; exact H
                    clear H
                    have H := H1
                    clear H1
                    replace H := Option.bind_eq_some_iff.mp H
                    obtain ⟨⟨t124, t125⟩, A430, H⟩ := H
                    replace H : (if (t125 == (a1 != 0)) = true then (if t125 = true then ((gf_Mul.f kj32 t124 a1).bind fun t126 => (some (t126 == a0))) else (some true)) else (some false)) = some r := H
                    have A43 := Aside0.mk A430
                    clear A430
                    by_cases c44 : (t125 == (a1 != 0)) = true
                    · rw [if_pos c44] at H
                      have c44b0 : (t125 == (a1 != 0)) = true := c44
                      (try (have c44b1 : decide (t125 = (a1 != 0)) = true := by simpa using c44))
                      (try (have c44b2 : (t125 == (a1 != 0)) = true := by simpa using c44))
                      clear c44
                      by_cases c45 : t125 = true
                      · subst c45
                        have H1 : ((gf_Mul.f kj32 t124 a1).bind fun t126 => (some (t126 == a0))) = some r := by rw [if_pos rfl] at H; exact H
                        clear H
                        have H := H1
                        clear H1
                        replace H := Option.bind_eq_some_iff.mp H
                        obtain ⟨t126, A460, H⟩ := H
                        replace H : (some (t126 == a0)) = some r := H
                        have A46 := Aside0.mk A460
                        clear A460
                        obtain rfl := Option.some.inj H
                        go_wp2_with (first | ((with_reducible refine gate_callee (f := 13) rfl ?_); refine goesL_ (some 118) rfl rfl Tryd.func13 (by kernel_rfl) rfl #[.int .u8 a0, .int .u8 a1] rfl (by (try simp only [List.map_toArray, List.map_cons, List.map_nil]); first | done | rfl | (simp only [List.length_drop, List.length_take]; rfl)) ?_; (with_reducible refine (gf_Div.calls kj32 a0 a1 t124 true _ A43.out (by first | exact HT.out | (repeat (first | exact HT.out | apply TabW.drewN | apply TabW.drew | apply TabW.alloc)))).mono ?_); rintro e w' ⟨rfl, ⟨nd, rfl⟩⟩; refine ⟨_, rfl, ?_⟩) | (go_at_call 10; (with_reducible refine (gf_Mul.calls kj32 t124 a1 t126 _ A46.out).mono ?_); rintro e w' ⟨rfl, ⟨nd, rfl⟩⟩) | (go_at_call 13; (with_reducible refine (gf_Div.calls kj32 a0 a1 t124 true _ A43.out (by first | exact HT.out | (repeat (first | exact HT.out | apply TabW.drewN | apply TabW.drew | apply TabW.alloc)))).mono ?_); rintro e w' ⟨rfl, ⟨nd, rfl⟩⟩))
                        go_ret
                        exact ⟨by first | rfl | (simp; done) | (simp [*]; done), by repeat (first | exact Drawn0.refl _ | apply Drawn0.step)⟩
                      · replace c45 := Bool.eq_false_iff.mpr c45
                        subst c45
                        have H1 : (some true) = some r := by rw [if_neg (show ¬ (false = true) by decide)] at H; exact H
                        clear H
                        have H := H1
                        clear H1
                        obtain rfl := Option.some.inj H
                        go_wp2_with (first | ((with_reducible refine gate_callee (f := 13) rfl ?_); refine goesL_ (some 118) rfl rfl Tryd.func13 (by kernel_rfl) rfl #[.int .u8 a0, .int .u8 a1] rfl (by (try simp only [List.map_toArray, List.map_cons, List.map_nil]); first | done | rfl | (simp only [List.length_drop, List.length_take]; rfl)) ?_; (with_reducible refine (gf_Div.calls kj32 a0 a1 t124 false _ A43.out (by first | exact HT.out | (repeat (first | exact HT.out | apply TabW.drewN | apply TabW.drew | apply TabW.alloc)))).mono ?_); rintro e w' ⟨rfl, ⟨nd, rfl⟩⟩; refine ⟨_, rfl, ?_⟩) | (go_at_call 13; (with_reducible refine (gf_Div.calls kj32 a0 a1 t124 false _ A43.out (by first | exact HT.out | (repeat (first | exact HT.out | apply TabW.drewN | apply TabW.drew | apply TabW.alloc)))).mono ?_); rintro e w' ⟨rfl, ⟨nd, rfl⟩⟩))
                        go_ret
                        exact ⟨by first | rfl | (simp; done) | (simp [*]; done), by repeat (first | exact Drawn0.refl _ | apply Drawn0.step)⟩
                    · rw [if_neg c44] at H
                      have c44b0 : (t125 == (a1 != 0)) = false := by simpa using c44
                      (try (have c44b1 : decide (t125 = (a1 != 0)) = false := by simpa using c44))
                      (try (have c44b2 : (t125 == (a1 != 0)) = false := by simpa using c44))
                      (try (have c44b3 : ¬ (t125 = (a1 != 0)) := by simpa using c44))
                      clear c44
                      obtain rfl := Option.some.inj H
                      go_wp2_with (first | ((with_reducible refine gate_callee (f := 13) rfl ?_); refine goesL_ (some 118) rfl rfl Tryd.func13 (by kernel_rfl) rfl #[.int .u8 a0, .int .u8 a1] rfl (by (try simp only [List.map_toArray, List.map_cons, List.map_nil]); first | done | rfl | (simp only [List.length_drop, List.length_take]; rfl)) ?_; (with_reducible refine (gf_Div.calls kj32 a0 a1 t124 t125 _ A43.out (by first | exact HT.out | (repeat (first | exact HT.out | apply TabW.drewN | apply TabW.drew | apply TabW.alloc)))).mono ?_); rintro e w' ⟨rfl, ⟨nd, rfl⟩⟩; refine ⟨_, rfl, ?_⟩) | (go_at_call 13; (with_reducible refine (gf_Div.calls kj32 a0 a1 t124 t125 _ A43.out (by first | exact HT.out | (repeat (first | exact HT.out | apply TabW.drewN | apply TabW.drew | apply TabW.alloc)))).mono ?_); rintro e w' ⟨rfl, ⟨nd, rfl⟩⟩))
                      go_ret
                      exact ⟨by first | rfl | (simp; done) | (simp [*]; done), by repeat (first | exact Drawn0.refl _ | apply Drawn0.step)⟩

end Go.Proofs.YticfidlclofbbaaDoor.Lf
