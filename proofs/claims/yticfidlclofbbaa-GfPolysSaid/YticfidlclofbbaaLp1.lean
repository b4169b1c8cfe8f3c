-- Written for this claim by a program of ours (wip/tools), out of the translation: plain functions, and the proofs that the machine's calls come to their answers. Lean checks it.
import Derived.Test.YticfidlclofbbaaLp0
import Derived.Test.YticfidlclofbbaaG
import Derived.Test.YticfidlclofbbaaPadd
namespace Go.Proofs.Yticfidlclofbbaa.Lp
open Go.Proofs.Yticfidlclofbbaa.G
open Go.RowKit Go.Proofs.YticfidlclofbbaaW.PrintWords Go.Proofs.YticfidlclofbbaaW.PrintLast Go.Proofs.YticfidlclofbbaaW.PrintMore
attribute [local go_sem] max2_int min2_int max_two min_two max_three min_three max_four min_four   -- for this text's walks alone
set_option linter.unusedVariables false
set_option linter.unusedSimpArgs false

/-! ### fareboxlaw32_GfPolys: function 4 -/
mutual
def fareboxlaw32_GfPolys.j0 : Nat → List Int → List Int → Int → List Int → List Int → Bool → Option (Bool)
  | 0, _, _, _, _, _, _ => none
  | k + 1, x0, x1, x2, x9, x10, x76 => if x76 = true then (some false) else ((gf_PolyEval.f k x9 x2).bind fun t128 => ((gf_PolyEval.f k x0 x2).bind fun t129 => ((gf_PolyEval.f k x1 x2).bind fun t130 => ((gf_Add.f t129 t130).bind fun t131 => (if t128 = t131 then ((gf_PolyEval.f k x10 x2).bind fun t132 => ((gf_Mul.f k t129 t130).bind fun t133 => (fareboxlaw32_GfPolys.j1 k x0 x1 x10 (t132 != t133)))) else (fareboxlaw32_GfPolys.j1 k x0 x1 x10 true))))))
def fareboxlaw32_GfPolys.j1 : Nat → List Int → List Int → List Int → Bool → Option (Bool)
  | 0, _, _, _, _ => none
  | k + 1, x0, x1, x10, x100 => if x100 = true then (some false) else ((fareboxlaw32_trim.f k x0).bind fun t134 => (if (t134.length : Int) = 0 then (fareboxlaw32_GfPolys.j2 k x0 x1 x10 true) else ((fareboxlaw32_trim.f k x1).bind fun t137 => (fareboxlaw32_GfPolys.j2 k x0 x1 x10 ((t137.length : Int) == 0)))))
def fareboxlaw32_GfPolys.j2 : Nat → List Int → List Int → List Int → Bool → Option (Bool)
  | 0, _, _, _, _ => none
  | k + 1, x0, x1, x10, x110 => if x110 = true then (if (x10.length : Int) = 0 then ((gf_Mul.f k 1 1).bind fun t140 => (some (t140 == 1))) else (some false)) else ((fareboxlaw32_trim.f k x0).bind fun t141 => ((fareboxlaw32_trim.f k x1).bind fun t144 => (if (x10.length : Int) = (wrap64 ((wrap64 ((t141.length : Int) + (t144.length : Int))) - 1)) then (if 0 ≤ (wrap64 ((x10.length : Int) - 1)) then (if (wrap64 ((x10.length : Int) - 1)) < (x10.length : Int) then (some ((rd x10 (wrap64 ((x10.length : Int) - 1))) != 0)) else (none)) else (none)) else (some false))))
end
def fareboxlaw32_GfPolys.f (k : Nat) (l0 : List Int) (l1 : List Int) (a2 : Int) : Option (Bool) := if (wrap64 ((l0.length : Int) + (l1.length : Int))) > 512 then ((gf_PolyMul.f k l0 l1).bind fun bt101 => (if bt101.2 = true then (some false) else (some ((bt101.1.length : Int) == 0)))) else ((gf_PolyAdd.f k l0 l1).bind fun t105 => ((gf_PolyMul.f k l0 l1).bind fun bt108 => ((gf_PolyMul.f k l1 l0).bind fun bt112 => (if bt108.2 = true then (if bt112.2 = true then ((fareboxlaw32_same.f k bt108.1 bt112.1).bind fun t116 => (if t116 = true then ((gf_PolyAdd.f k l1 l0).bind fun t117 => ((fareboxlaw32_same.f k t105 t117).bind fun t120 => (if t120 = true then ((gf_PolyAdd.f k t105 l1).bind fun t121 => ((fareboxlaw32_trim.f k l0).bind fun t124 => ((fareboxlaw32_same.f k t121 t124).bind fun t127 => (fareboxlaw32_GfPolys.j0 k l0 l1 a2 t105 bt108.1 (!t127))))) else (fareboxlaw32_GfPolys.j0 k l0 l1 a2 t105 bt108.1 true)))) else (fareboxlaw32_GfPolys.j0 k l0 l1 a2 t105 bt108.1 true))) else (fareboxlaw32_GfPolys.j0 k l0 l1 a2 t105 bt108.1 true)) else (fareboxlaw32_GfPolys.j0 k l0 l1 a2 t105 bt108.1 true)))))
theorem fareboxlaw32_GfPolys.mono_l : ∀ k, (∀ y0 y1 y2 y3 y4 y5, LeO (fareboxlaw32_GfPolys.j0 k y0 y1 y2 y3 y4 y5) (fareboxlaw32_GfPolys.j0 (k + 1) y0 y1 y2 y3 y4 y5)) ∧ (∀ y0 y1 y2 y3, LeO (fareboxlaw32_GfPolys.j1 k y0 y1 y2 y3) (fareboxlaw32_GfPolys.j1 (k + 1) y0 y1 y2 y3)) ∧ (∀ y0 y1 y2 y3, LeO (fareboxlaw32_GfPolys.j2 k y0 y1 y2 y3) (fareboxlaw32_GfPolys.j2 (k + 1) y0 y1 y2 y3))
  | 0 => ⟨fun _ _ _ _ _ _ r h => by simp [fareboxlaw32_GfPolys.j0] at h, fun _ _ _ _ r h => by simp [fareboxlaw32_GfPolys.j1] at h, fun _ _ _ _ r h => by simp [fareboxlaw32_GfPolys.j2] at h⟩
  | k + 1 => by
    obtain ⟨ih0, ih1, ih2⟩ := fareboxlaw32_GfPolys.mono_l k
    refine ⟨?_, ?_, ?_⟩
    · intro y0 y1 y2 y3 y4 y5
      unfold fareboxlaw32_GfPolys.j0
      repeat' first
      | (with_reducible exact ih0 _ _ _ _ _ _)
      | (with_reducible exact ih1 _ _ _ _)
      | (with_reducible exact ih2 _ _ _ _)
      | (with_reducible exact fareboxlaw32_same.mono _ _ _)
      | (with_reducible exact fareboxlaw32_trim.mono _ _)
      | (with_reducible exact gf_Mul.mono _ _ _)
      | (with_reducible exact gf_PolyAdd.mono _ _ _)
      | (with_reducible exact gf_PolyEval.mono _ _ _)
      | (with_reducible exact gf_PolyMul.mono _ _ _)
      | (with_reducible exact LeO.refl _)
      | (with_reducible exact LeO.none _)
      | (with_reducible refine LeO.ite ?_ ?_)
      | (with_reducible refine LeO.bind ?_ (fun _ => ?_))
      | exact ih0 _ _ _ _ _ _
      | exact ih1 _ _ _ _
      | exact ih2 _ _ _ _
      | exact fareboxlaw32_same.mono _ _ _
      | exact fareboxlaw32_trim.mono _ _
      | exact gf_Mul.mono _ _ _
      | exact gf_PolyAdd.mono _ _ _
      | exact gf_PolyEval.mono _ _ _
      | exact gf_PolyMul.mono _ _ _
      | exact LeO.none _
      | refine LeO.ite ?_ ?_
      | refine LeO.bind ?_ (fun _ => ?_)
    · intro y0 y1 y2 y3
      unfold fareboxlaw32_GfPolys.j1
      repeat' first
      | (with_reducible exact ih0 _ _ _ _ _ _)
      | (with_reducible exact ih1 _ _ _ _)
      | (with_reducible exact ih2 _ _ _ _)
      | (with_reducible exact fareboxlaw32_same.mono _ _ _)
      | (with_reducible exact fareboxlaw32_trim.mono _ _)
      | (with_reducible exact gf_Mul.mono _ _ _)
      | (with_reducible exact gf_PolyAdd.mono _ _ _)
      | (with_reducible exact gf_PolyEval.mono _ _ _)
      | (with_reducible exact gf_PolyMul.mono _ _ _)
      | (with_reducible exact LeO.refl _)
      | (with_reducible exact LeO.none _)
      | (with_reducible refine LeO.ite ?_ ?_)
      | (with_reducible refine LeO.bind ?_ (fun _ => ?_))
      | exact ih0 _ _ _ _ _ _
      | exact ih1 _ _ _ _
      | exact ih2 _ _ _ _
      | exact fareboxlaw32_same.mono _ _ _
      | exact fareboxlaw32_trim.mono _ _
      | exact gf_Mul.mono _ _ _
      | exact gf_PolyAdd.mono _ _ _
      | exact gf_PolyEval.mono _ _ _
      | exact gf_PolyMul.mono _ _ _
      | exact LeO.none _
      | refine LeO.ite ?_ ?_
      | refine LeO.bind ?_ (fun _ => ?_)
    · intro y0 y1 y2 y3
      unfold fareboxlaw32_GfPolys.j2
      repeat' first
      | (with_reducible exact ih0 _ _ _ _ _ _)
      | (with_reducible exact ih1 _ _ _ _)
      | (with_reducible exact ih2 _ _ _ _)
      | (with_reducible exact fareboxlaw32_same.mono _ _ _)
      | (with_reducible exact fareboxlaw32_trim.mono _ _)
      | (with_reducible exact gf_Mul.mono _ _ _)
      | (with_reducible exact gf_PolyAdd.mono _ _ _)
      | (with_reducible exact gf_PolyEval.mono _ _ _)
      | (with_reducible exact gf_PolyMul.mono _ _ _)
      | (with_reducible exact LeO.refl _)
      | (with_reducible exact LeO.none _)
      | (with_reducible refine LeO.ite ?_ ?_)
      | (with_reducible refine LeO.bind ?_ (fun _ => ?_))
      | exact ih0 _ _ _ _ _ _
      | exact ih1 _ _ _ _
      | exact ih2 _ _ _ _
      | exact fareboxlaw32_same.mono _ _ _
      | exact fareboxlaw32_trim.mono _ _
      | exact gf_Mul.mono _ _ _
      | exact gf_PolyAdd.mono _ _ _
      | exact gf_PolyEval.mono _ _ _
      | exact gf_PolyMul.mono _ _ _
      | exact LeO.none _
      | refine LeO.ite ?_ ?_
      | refine LeO.bind ?_ (fun _ => ?_)
theorem fareboxlaw32_GfPolys.mono : ∀ a0 a1 a2 k, LeO (fareboxlaw32_GfPolys.f k a0 a1 a2) (fareboxlaw32_GfPolys.f (k + 1) a0 a1 a2) := by
  intro a0 a1 a2 k
  obtain ⟨ih0, ih1, ih2⟩ := fareboxlaw32_GfPolys.mono_l k
  unfold fareboxlaw32_GfPolys.f
  repeat' first
      | (with_reducible exact ih0 _ _ _ _ _ _)
      | (with_reducible exact ih1 _ _ _ _)
      | (with_reducible exact ih2 _ _ _ _)
      | (with_reducible exact fareboxlaw32_same.mono _ _ _)
      | (with_reducible exact fareboxlaw32_trim.mono _ _)
      | (with_reducible exact gf_Mul.mono _ _ _)
      | (with_reducible exact gf_PolyAdd.mono _ _ _)
      | (with_reducible exact gf_PolyEval.mono _ _ _)
      | (with_reducible exact gf_PolyMul.mono _ _ _)
      | (with_reducible exact LeO.refl _)
      | (with_reducible exact LeO.none _)
      | (with_reducible refine LeO.ite ?_ ?_)
      | (with_reducible refine LeO.bind ?_ (fun _ => ?_))
      | exact ih0 _ _ _ _ _ _
      | exact ih1 _ _ _ _
      | exact ih2 _ _ _ _
      | exact fareboxlaw32_same.mono _ _ _
      | exact fareboxlaw32_trim.mono _ _
      | exact gf_Mul.mono _ _ _
      | exact gf_PolyAdd.mono _ _ _
      | exact gf_PolyEval.mono _ _ _
      | exact gf_PolyMul.mono _ _ _
      | exact LeO.none _
      | refine LeO.ite ?_ ?_
      | refine LeO.bind ?_ (fun _ => ?_)
set_option maxHeartbeats 8000000 in
set_option maxRecDepth 100000 in
theorem fareboxlaw32_GfPolys.calls (k : Nat) (A0 : Option Addr) (c0 : Nat) (l0 : List Int) (A1 : Option Addr) (c1 : Nat) (l1 : List Int) (a2 : Int) (r : Bool) (w : World) (hr0 : Kd.C (Kd.int .u8) w A0 l0.length l0) (hc0 : l0.length ≤ c0) (hr1 : Kd.C (Kd.int .u8) w A1 l1.length l1) (hc1 : l1.length ≤ c1) (h : fareboxlaw32_GfPolys.f k l0 l1 a2 = some r) :
    Calls Try.prog 4 #[.slice A0 l0.length c0, .slice A1 l1.length c1, .int .u8 a2] w fun e w' => e = .returned (.bool r) ∧ Below w.heap.size w w' := by
  have HR0 := Aside0.mk hr0
  have HC0 := Aside0.mk hc0
  clear hr0 hc0
  have HR1 := Aside0.mk hr1
  have HC1 := Aside0.mk hc1
  clear hr1 hc1
  have HB := Aside0.mk (Below.refl w.heap.size w)
  have H : (if (wrap64 ((l0.length : Int) + (l1.length : Int))) > 512 then ((gf_PolyMul.f k l0 l1).bind fun bt101 => (if bt101.2 = true then (some false) else (some ((bt101.1.length : Int) == 0)))) else ((gf_PolyAdd.f k l0 l1).bind fun t105 => ((gf_PolyMul.f k l0 l1).bind fun bt108 => ((gf_PolyMul.f k l1 l0).bind fun bt112 => (if bt108.2 = true then (if bt112.2 = true then ((fareboxlaw32_same.f k bt108.1 bt112.1).bind fun t116 => (if t116 = true then ((gf_PolyAdd.f k l1 l0).bind fun t117 => ((fareboxlaw32_same.f k t105 t117).bind fun t120 => (if t120 = true then ((gf_PolyAdd.f k t105 l1).bind fun t121 => ((fareboxlaw32_trim.f k l0).bind fun t124 => ((fareboxlaw32_same.f k t121 t124).bind fun t127 => (fareboxlaw32_GfPolys.j0 k l0 l1 a2 t105 bt108.1 (!t127))))) else (fareboxlaw32_GfPolys.j0 k l0 l1 a2 t105 bt108.1 true)))) else (fareboxlaw32_GfPolys.j0 k l0 l1 a2 t105 bt108.1 true))) else (fareboxlaw32_GfPolys.j0 k l0 l1 a2 t105 bt108.1 true)) else (fareboxlaw32_GfPolys.j0 k l0 l1 a2 t105 bt108.1 true)))))) = some r := h
  clear h
  by_cases c4 : (wrap64 ((l0.length : Int) + (l1.length : Int))) > 512
  · rw [if_pos c4] at H
    have c4b0 : decide (512 < (wrap64 ((l0.length : Int) + (l1.length : Int)))) = true := decide_eq_true c4
    clear c4
    replace H := Option.bind_eq_some_iff.mp H
    obtain ⟨⟨t101, t104⟩, A50, H⟩ := H
    replace H : (if t104 = true then (some false) else (some ((t101.length : Int) == 0))) = some r := H
    have A5 := Aside0.mk A50
    clear A50
    by_cases c6 : t104 = true
    · subst c6
      have H1 : (some false) = some r := by rw [if_pos rfl] at H; exact H
      clear H
      have H := H1
      clear H1
      obtain rfl := Option.some.inj H
      go_enter Try.func4, Try.ntmps4
      go_wp2_with (first | ((with_reducible refine gate_callee (f := 7) rfl ?_); refine goesL_ (some 23) rfl rfl Try.func7 (by kernel_rfl) rfl #[.slice A0 l0.length c0, .slice A1 l1.length c1] rfl (by (try simp only [List.map_toArray, List.map_cons, List.map_nil]); first | done | rfl | (simp only [List.length_drop, List.length_take]; rfl)) ?_; (with_reducible refine (gf_PolyMul.calls k _ _ l0 _ _ l1 t101 true _ ?side1 ?side2 ?side3 ?side4 A5.out).mono ?_); (case side1 => repeat (first | exact HR0.out | (with_reducible refine Kd.C_alloc ?_ _) | (with_reducible refine Kd.C_drewN ?_ _) | (with_reducible refine Kd.C_drew ?_))); (case side2 => exact HC0.out); (case side3 => repeat (first | exact HR1.out | (with_reducible refine Kd.C_alloc ?_ _) | (with_reducible refine Kd.C_drewN ?_ _) | (with_reducible refine Kd.C_drew ?_))); (case side4 => exact HC1.out); rintro e w7 ⟨v102, rfl, ho0, hb⟩; refine ⟨_, rfl, ?_⟩; have n0_ := Aside0.mk (Kd.V_lower (Kd.V_mono (ok' := fun k_ => True) ho0 (fun k_ hk_ => trivial)) (below_size (by repeat (first | (with_reducible first | exact HB.out | apply below_alloc | apply pw_below_drewN | apply below_drew1) | exact HB.out)))); have n1_ := Aside0.mk (below_step (by repeat (first | (with_reducible first | exact HB.out | apply below_alloc | apply pw_below_drewN | apply below_drew1) | exact HB.out)) hb); clear HB; have HO103 := n0_; have HB := n1_; clear n0_ n1_; (try clear hb); (try clear hb2); (try clear hk); (try clear hi); (try clear ho0)))
      go_ret
      exact ⟨by first | rfl | (simp [errW_none, errW_some] <;> rfl) | (simp [*, errW_none, errW_some] <;> rfl), by repeat (first | (with_reducible first | exact HB.out | apply below_alloc | apply pw_below_drewN | apply below_drew1) | exact HB.out)⟩
    · replace c6 := Bool.eq_false_iff.mpr c6
      subst c6
      have H1 : (some ((t101.length : Int) == 0)) = some r := by rw [if_neg (show ¬ (false = true) by decide)] at H; exact H
      clear H
      have H := H1
      clear H1
      obtain rfl := Option.some.inj H
      go_enter Try.func4, Try.ntmps4
      go_wp2_with (first | ((with_reducible refine gate_callee (f := 7) rfl ?_); refine goesL_ (some 23) rfl rfl Try.func7 (by kernel_rfl) rfl #[.slice A0 l0.length c0, .slice A1 l1.length c1] rfl (by (try simp only [List.map_toArray, List.map_cons, List.map_nil]); first | done | rfl | (simp only [List.length_drop, List.length_take]; rfl)) ?_; (with_reducible refine (gf_PolyMul.calls k _ _ l0 _ _ l1 t101 false _ ?side1 ?side2 ?side3 ?side4 A5.out).mono ?_); (case side1 => repeat (first | exact HR0.out | (with_reducible refine Kd.C_alloc ?_ _) | (with_reducible refine Kd.C_drewN ?_ _) | (with_reducible refine Kd.C_drew ?_))); (case side2 => exact HC0.out); (case side3 => repeat (first | exact HR1.out | (with_reducible refine Kd.C_alloc ?_ _) | (with_reducible refine Kd.C_drewN ?_ _) | (with_reducible refine Kd.C_drew ?_))); (case side4 => exact HC1.out); rintro e w8 ⟨v102, rfl, ho0, hb⟩; refine ⟨_, rfl, ?_⟩; have n0_ := Aside0.mk (Kd.V_lower (Kd.V_mono (ok' := fun k_ => True) ho0 (fun k_ hk_ => trivial)) (below_size (by repeat (first | (with_reducible first | exact HB.out | apply below_alloc | apply pw_below_drewN | apply below_drew1) | exact HB.out)))); have n1_ := Aside0.mk (below_step (by repeat (first | (with_reducible first | exact HB.out | apply below_alloc | apply pw_below_drewN | apply below_drew1) | exact HB.out)) hb); clear HB; have HO103 := n0_; have HB := n1_; clear n0_ n1_; (try clear hb); (try clear hb2); (try clear hk); (try clear hi); (try clear ho0); obtain ⟨Ao9, co9, eo9⟩ := Kd.V_slice HO103.out; subst eo9))
      go_ret
      exact ⟨by first | rfl | (simp [errW_none, errW_some] <;> rfl) | (simp [*, errW_none, errW_some] <;> rfl), by repeat (first | (with_reducible first | exact HB.out | apply below_alloc | apply pw_below_drewN | apply below_drew1) | exact HB.out)⟩
  · rw [if_neg c4] at H
    have c4b0 : decide (512 < (wrap64 ((l0.length : Int) + (l1.length : Int)))) = false := decide_eq_false c4
    clear c4
    replace H := Option.bind_eq_some_iff.mp H
    obtain ⟨t105, A100, H⟩ := H
    replace H : ((gf_PolyMul.f k l0 l1).bind fun bt108 => ((gf_PolyMul.f k l1 l0).bind fun bt112 => (if bt108.2 = true then (if bt112.2 = true then ((fareboxlaw32_same.f k bt108.1 bt112.1).bind fun t116 => (if t116 = true then ((gf_PolyAdd.f k l1 l0).bind fun t117 => ((fareboxlaw32_same.f k t105 t117).bind fun t120 => (if t120 = true then ((gf_PolyAdd.f k t105 l1).bind fun t121 => ((fareboxlaw32_trim.f k l0).bind fun t124 => ((fareboxlaw32_same.f k t121 t124).bind fun t127 => (fareboxlaw32_GfPolys.j0 k l0 l1 a2 t105 bt108.1 (!t127))))) else (fareboxlaw32_GfPolys.j0 k l0 l1 a2 t105 bt108.1 true)))) else (fareboxlaw32_GfPolys.j0 k l0 l1 a2 t105 bt108.1 true))) else (fareboxlaw32_GfPolys.j0 k l0 l1 a2 t105 bt108.1 true)) else (fareboxlaw32_GfPolys.j0 k l0 l1 a2 t105 bt108.1 true)))) = some r := H
    have A10 := Aside0.mk A100
    clear A100
    replace H := Option.bind_eq_some_iff.mp H
    obtain ⟨⟨t108, t111⟩, A110, H⟩ := H
    replace H : ((gf_PolyMul.f k l1 l0).bind fun bt112 => (if t111 = true then (if bt112.2 = true then ((fareboxlaw32_same.f k t108 bt112.1).bind fun t116 => (if t116 = true then ((gf_PolyAdd.f k l1 l0).bind fun t117 => ((fareboxlaw32_same.f k t105 t117).bind fun t120 => (if t120 = true then ((gf_PolyAdd.f k t105 l1).bind fun t121 => ((fareboxlaw32_trim.f k l0).bind fun t124 => ((fareboxlaw32_same.f k t121 t124).bind fun t127 => (fareboxlaw32_GfPolys.j0 k l0 l1 a2 t105 t108 (!t127))))) else (fareboxlaw32_GfPolys.j0 k l0 l1 a2 t105 t108 true)))) else (fareboxlaw32_GfPolys.j0 k l0 l1 a2 t105 t108 true))) else (fareboxlaw32_GfPolys.j0 k l0 l1 a2 t105 t108 true)) else (fareboxlaw32_GfPolys.j0 k l0 l1 a2 t105 t108 true))) = some r := H
    have A11 := Aside0.mk A110
    clear A110
    replace H := Option.bind_eq_some_iff.mp H
    obtain ⟨⟨t112, t115⟩, A120, H⟩ := H
    replace H : (if t111 = true then (if t115 = true then ((fareboxlaw32_same.f k t108 t112).bind fun t116 => (if t116 = true then ((gf_PolyAdd.f k l1 l0).bind fun t117 => ((fareboxlaw32_same.f k t105 t117).bind fun t120 => (if t120 = true then ((gf_PolyAdd.f k t105 l1).bind fun t121 => ((fareboxlaw32_trim.f k l0).bind fun t124 => ((fareboxlaw32_same.f k t121 t124).bind fun t127 => (fareboxlaw32_GfPolys.j0 k l0 l1 a2 t105 t108 (!t127))))) else (fareboxlaw32_GfPolys.j0 k l0 l1 a2 t105 t108 true)))) else (fareboxlaw32_GfPolys.j0 k l0 l1 a2 t105 t108 true))) else (fareboxlaw32_GfPolys.j0 k l0 l1 a2 t105 t108 true)) else (fareboxlaw32_GfPolys.j0 k l0 l1 a2 t105 t108 true)) = some r := H
    have A12 := Aside0.mk A120
    clear A120
    have HC13 := Aside0.mk H
    clear H
    go_enter Try.func4, Try.ntmps4
    go_upto_region 7 with (first | ((with_reducible refine gate_callee (f := 8) rfl ?_); refine goesL_ (some 35) rfl rfl Try.func8 (by kernel_rfl) rfl #[.slice A0 l0.length c0, .slice A1 l1.length c1] rfl (by (try simp only [List.map_toArray, List.map_cons, List.map_nil]); first | done | rfl | (simp only [List.length_drop, List.length_take]; rfl)) ?_; (with_reducible refine (gf_PolyAdd.calls k _ _ l0 _ _ l1 t105 _ ?side1 ?side2 ?side3 ?side4 A10.out).mono ?_); (case side1 => repeat (first | exact HR0.out | (with_reducible refine Kd.C_alloc ?_ _) | (with_reducible refine Kd.C_drewN ?_ _) | (with_reducible refine Kd.C_drew ?_))); (case side2 => exact HC0.out); (case side3 => repeat (first | exact HR1.out | (with_reducible refine Kd.C_alloc ?_ _) | (with_reducible refine Kd.C_drewN ?_ _) | (with_reducible refine Kd.C_drew ?_))); (case side4 => exact HC1.out); rintro e w14 ⟨v106, rfl, ho0, hb⟩; refine ⟨_, rfl, ?_⟩; have n0_ := Aside0.mk (Kd.V_lower (Kd.V_mono (ok' := fun k_ => True) ho0 (fun k_ hk_ => trivial)) (below_size (by repeat (first | (with_reducible first | exact HB.out | apply below_alloc | apply pw_below_drewN | apply below_drew1) | exact HB.out)))); have n1_ := Aside0.mk (below_step (by repeat (first | (with_reducible first | exact HB.out | apply below_alloc | apply pw_below_drewN | apply below_drew1) | exact HB.out)) hb); clear HB; have HO107 := n0_; have HB := n1_; clear n0_ n1_; (try clear hb); (try clear hb2); (try clear hk); (try clear hi); (try clear ho0)) | ((with_reducible refine gate_callee (f := 7) rfl ?_); refine goesL_ (some 39) rfl rfl Try.func7 (by kernel_rfl) rfl #[.slice A0 l0.length c0, .slice A1 l1.length c1] rfl (by (try simp only [List.map_toArray, List.map_cons, List.map_nil]); first | done | rfl | (simp only [List.length_drop, List.length_take]; rfl)) ?_; (with_reducible refine (gf_PolyMul.calls k _ _ l0 _ _ l1 t108 t111 _ ?side1 ?side2 ?side3 ?side4 A11.out).mono ?_); (case side1 => repeat (first | exact (Kd.C_below HR0.out HB.out) | (with_reducible refine Kd.C_alloc ?_ _) | (with_reducible refine Kd.C_drewN ?_ _) | (with_reducible refine Kd.C_drew ?_))); (case side2 => exact HC0.out); (case side3 => repeat (first | exact (Kd.C_below HR1.out HB.out) | (with_reducible refine Kd.C_alloc ?_ _) | (with_reducible refine Kd.C_drewN ?_ _) | (with_reducible refine Kd.C_drew ?_))); (case side4 => exact HC1.out); rintro e w15 ⟨v109, rfl, ho0, hb⟩; refine ⟨_, rfl, ?_⟩; have n0_ := Aside0.mk (Kd.V_below (by (with_reducible repeat (first | apply Kd.V_alloc | apply Kd.V_drewN | apply Kd.V_drew)); exact HO107.out) hb); have n1_ := Aside0.mk (Kd.V_lower (Kd.V_mono (ok' := fun k_ => True) ho0 (fun k_ hk_ => trivial)) (below_size (by repeat (first | (with_reducible first | exact HB.out | apply below_alloc | apply pw_below_drewN | apply below_drew1) | exact HB.out)))); have n2_ := Aside0.mk (below_step (by repeat (first | (with_reducible first | exact HB.out | apply below_alloc | apply pw_below_drewN | apply below_drew1) | exact HB.out)) hb); clear HO107; clear HB; have HO107 := n0_; have HO110 := n1_; have HB := n2_; clear n0_ n1_ n2_; (try clear hb); (try clear hb2); (try clear hk); (try clear hi); (try clear ho0)) | ((with_reducible refine gate_callee (f := 7) rfl ?_); refine goesL_ (some 45) rfl rfl Try.func7 (by kernel_rfl) rfl #[.slice A1 l1.length c1, .slice A0 l0.length c0] rfl (by (try simp only [List.map_toArray, List.map_cons, List.map_nil]); first | done | rfl | (simp only [List.length_drop, List.length_take]; rfl)) ?_; (with_reducible refine (gf_PolyMul.calls k _ _ l1 _ _ l0 t112 t115 _ ?side1 ?side2 ?side3 ?side4 A12.out).mono ?_); (case side1 => repeat (first | exact (Kd.C_below HR1.out HB.out) | (with_reducible refine Kd.C_alloc ?_ _) | (with_reducible refine Kd.C_drewN ?_ _) | (with_reducible refine Kd.C_drew ?_))); (case side2 => exact HC1.out); (case side3 => repeat (first | exact (Kd.C_below HR0.out HB.out) | (with_reducible refine Kd.C_alloc ?_ _) | (with_reducible refine Kd.C_drewN ?_ _) | (with_reducible refine Kd.C_drew ?_))); (case side4 => exact HC0.out); rintro e w16 ⟨v113, rfl, ho0, hb⟩; refine ⟨_, rfl, ?_⟩; have n0_ := Aside0.mk (Kd.V_below (by (with_reducible repeat (first | apply Kd.V_alloc | apply Kd.V_drewN | apply Kd.V_drew)); exact HO107.out) hb); have n1_ := Aside0.mk (Kd.V_below (by (with_reducible repeat (first | apply Kd.V_alloc | apply Kd.V_drewN | apply Kd.V_drew)); exact HO110.out) hb); have n2_ := Aside0.mk (Kd.V_lower (Kd.V_mono (ok' := fun k_ => True) ho0 (fun k_ hk_ => trivial)) (below_size (by repeat (first | (with_reducible first | exact HB.out | apply below_alloc | apply pw_below_drewN | apply below_drew1) | exact HB.out)))); have n3_ := Aside0.mk (below_step (by repeat (first | (with_reducible first | exact HB.out | apply below_alloc | apply pw_below_drewN | apply below_drew1) | exact HB.out)) hb); clear HO107; clear HO110; clear HB; have HO107 := n0_; have HO110 := n1_; have HO114 := n2_; have HB := n3_; clear n0_ n1_ n2_ n3_; (try clear hb); (try clear hb2); (try clear hk); (try clear hi); (try clear ho0)))
    (try simp only [Act.put, List.setIfInBounds_toArray, List.set_cons_zero, List.set_cons_succ])
    go_cut [76] (fun v76 wc => ∃ (kq : Nat) (x76_12 : Bool), v76 = .bool x76_12 ∧ Aside0 (fareboxlaw32_GfPolys.j0 kq l0 l1 a2 t105 t108 x76_12 = some r) ∧ Aside0 (kq ≤ k) ∧ Aside0 (Kd.V (Kd.int .u8) 5 wc w.heap.size (fun _ => True) v106 t105) ∧ Aside0 (Kd.V (Kd.int .u8) 5 wc w.heap.size (fun _ => True) v109 t108) ∧ Aside0 (Below w.heap.size w wc))
    case first =>
      have H := HC13.out
      clear HC13
      by_cases c17 : t111 = true
      · subst c17
        have H1 : (if t115 = true then ((fareboxlaw32_same.f k t108 t112).bind fun t116 => (if t116 = true then ((gf_PolyAdd.f k l1 l0).bind fun t117 => ((fareboxlaw32_same.f k t105 t117).bind fun t120 => (if t120 = true then ((gf_PolyAdd.f k t105 l1).bind fun t121 => ((fareboxlaw32_trim.f k l0).bind fun t124 => ((fareboxlaw32_same.f k t121 t124).bind fun t127 => (fareboxlaw32_GfPolys.j0 k l0 l1 a2 t105 t108 (!t127))))) else (fareboxlaw32_GfPolys.j0 k l0 l1 a2 t105 t108 true)))) else (fareboxlaw32_GfPolys.j0 k l0 l1 a2 t105 t108 true))) else (fareboxlaw32_GfPolys.j0 k l0 l1 a2 t105 t108 true)) = some r := by rw [if_pos rfl] at H; exact H
        clear H
        have H := H1
        clear H1
        by_cases c18 : t115 = true
        · subst c18
          have H1 : ((fareboxlaw32_same.f k t108 t112).bind fun t116 => (if t116 = true then ((gf_PolyAdd.f k l1 l0).bind fun t117 => ((fareboxlaw32_same.f k t105 t117).bind fun t120 => (if t120 = true then ((gf_PolyAdd.f k t105 l1).bind fun t121 => ((fareboxlaw32_trim.f k l0).bind fun t124 => ((fareboxlaw32_same.f k t121 t124).bind fun t127 => (fareboxlaw32_GfPolys.j0 k l0 l1 a2 t105 t108 (!t127))))) else (fareboxlaw32_GfPolys.j0 k l0 l1 a2 t105 t108 true)))) else (fareboxlaw32_GfPolys.j0 k l0 l1 a2 t105 t108 true))) = some r := by rw [if_pos rfl] at H; exact H
          clear H
          have H := H1
          clear H1
          replace H := Option.bind_eq_some_iff.mp H
          obtain ⟨t116, A190, H⟩ := H
          replace H : (if t116 = true then ((gf_PolyAdd.f k l1 l0).bind fun t117 => ((fareboxlaw32_same.f k t105 t117).bind fun t120 => (if t120 = true then ((gf_PolyAdd.f k t105 l1).bind fun t121 => ((fareboxlaw32_trim.f k l0).bind fun t124 => ((fareboxlaw32_same.f k t121 t124).bind fun t127 => (fareboxlaw32_GfPolys.j0 k l0 l1 a2 t105 t108 (!t127))))) else (fareboxlaw32_GfPolys.j0 k l0 l1 a2 t105 t108 true)))) else (fareboxlaw32_GfPolys.j0 k l0 l1 a2 t105 t108 true)) = some r := H
          have A19 := Aside0.mk A190
          clear A190
          by_cases c20 : t116 = true
          · subst c20
            have H1 : ((gf_PolyAdd.f k l1 l0).bind fun t117 => ((fareboxlaw32_same.f k t105 t117).bind fun t120 => (if t120 = true then ((gf_PolyAdd.f k t105 l1).bind fun t121 => ((fareboxlaw32_trim.f k l0).bind fun t124 => ((fareboxlaw32_same.f k t121 t124).bind fun t127 => (fareboxlaw32_GfPolys.j0 k l0 l1 a2 t105 t108 (!t127))))) else (fareboxlaw32_GfPolys.j0 k l0 l1 a2 t105 t108 true)))) = some r := by rw [if_pos rfl] at H; exact H
            clear H
            have H := H1
            clear H1
            replace H := Option.bind_eq_some_iff.mp H
            obtain ⟨t117, A210, H⟩ := H
            replace H : ((fareboxlaw32_same.f k t105 t117).bind fun t120 => (if t120 = true then ((gf_PolyAdd.f k t105 l1).bind fun t121 => ((fareboxlaw32_trim.f k l0).bind fun t124 => ((fareboxlaw32_same.f k t121 t124).bind fun t127 => (fareboxlaw32_GfPolys.j0 k l0 l1 a2 t105 t108 (!t127))))) else (fareboxlaw32_GfPolys.j0 k l0 l1 a2 t105 t108 true))) = some r := H
            have A21 := Aside0.mk A210
            clear A210
            replace H := Option.bind_eq_some_iff.mp H
            obtain ⟨t120, A220, H⟩ := H
            replace H : (if t120 = true then ((gf_PolyAdd.f k t105 l1).bind fun t121 => ((fareboxlaw32_trim.f k l0).bind fun t124 => ((fareboxlaw32_same.f k t121 t124).bind fun t127 => (fareboxlaw32_GfPolys.j0 k l0 l1 a2 t105 t108 (!t127))))) else (fareboxlaw32_GfPolys.j0 k l0 l1 a2 t105 t108 true)) = some r := H
            have A22 := Aside0.mk A220
            clear A220
            by_cases c23 : t120 = true
            · subst c23
              have H1 : ((gf_PolyAdd.f k t105 l1).bind fun t121 => ((fareboxlaw32_trim.f k l0).bind fun t124 => ((fareboxlaw32_same.f k t121 t124).bind fun t127 => (fareboxlaw32_GfPolys.j0 k l0 l1 a2 t105 t108 (!t127))))) = some r := by rw [if_pos rfl] at H; exact H
              clear H
              have H := H1
              clear H1
              replace H := Option.bind_eq_some_iff.mp H
              obtain ⟨t121, A240, H⟩ := H
              replace H : ((fareboxlaw32_trim.f k l0).bind fun t124 => ((fareboxlaw32_same.f k t121 t124).bind fun t127 => (fareboxlaw32_GfPolys.j0 k l0 l1 a2 t105 t108 (!t127)))) = some r := H
              have A24 := Aside0.mk A240
              clear A240
              replace H := Option.bind_eq_some_iff.mp H
              obtain ⟨t124, A250, H⟩ := H
              replace H : ((fareboxlaw32_same.f k t121 t124).bind fun t127 => (fareboxlaw32_GfPolys.j0 k l0 l1 a2 t105 t108 (!t127))) = some r := H
              have A25 := Aside0.mk A250
              clear A250
              replace H := Option.bind_eq_some_iff.mp H
              obtain ⟨t127, A260, H⟩ := H
              replace H : (fareboxlaw32_GfPolys.j0 k l0 l1 a2 t105 t108 (!t127)) = some r := H
              have A26 := Aside0.mk A260
              clear A260
              have H' := Aside0.mk H
              clear H
              obtain ⟨Ao27, co27, eo27⟩ := Kd.V_slice HO110.out
              subst eo27
              obtain ⟨Ao28, co28, eo28⟩ := Kd.V_slice HO114.out
              subst eo28
              go_wp2_with (first | (go_at_call 9; (with_reducible refine (fareboxlaw32_same.calls k _ _ t108 _ _ t112 true _ ?side1 ?side2 ?side3 ?side4 A19.out).mono ?_); (case side1 => repeat (first | exact (Kd.V_reads' HO110.out).2.2 | (with_reducible refine Kd.C_alloc ?_ _) | (with_reducible refine Kd.C_drewN ?_ _) | (with_reducible refine Kd.C_drew ?_))); (case side2 => exact (Kd.V_reads' HO110.out).2.1); (case side3 => repeat (first | exact (Kd.V_reads' HO114.out).2.2 | (with_reducible refine Kd.C_alloc ?_ _) | (with_reducible refine Kd.C_drewN ?_ _) | (with_reducible refine Kd.C_drew ?_))); (case side4 => exact (Kd.V_reads' HO114.out).2.1); rintro e w' ⟨rfl, ⟨nd, rfl⟩⟩) | (go_at_call 8; (with_reducible refine (gf_PolyAdd.calls k _ _ l1 _ _ l0 t117 _ ?side1 ?side2 ?side3 ?side4 A21.out).mono ?_); (case side1 => repeat (first | exact (Kd.C_below HR1.out (by repeat (first | (with_reducible first | exact HB.out | apply below_alloc | apply pw_below_drewN | apply below_drew1) | exact HB.out))) | (with_reducible refine Kd.C_alloc ?_ _) | (with_reducible refine Kd.C_drewN ?_ _) | (with_reducible refine Kd.C_drew ?_))); (case side2 => exact HC1.out); (case side3 => repeat (first | exact (Kd.C_below HR0.out (by repeat (first | (with_reducible first | exact HB.out | apply below_alloc | apply pw_below_drewN | apply below_drew1) | exact HB.out))) | (with_reducible refine Kd.C_alloc ?_ _) | (with_reducible refine Kd.C_drewN ?_ _) | (with_reducible refine Kd.C_drew ?_))); (case side4 => exact HC0.out); rintro e w29 ⟨v118, rfl, ho0, hb⟩; have n0_ := Aside0.mk (Kd.V_below (by (with_reducible repeat (first | apply Kd.V_alloc | apply Kd.V_drewN | apply Kd.V_drew)); exact HO107.out) hb); have n1_ := Aside0.mk (Kd.V_below (by (with_reducible repeat (first | apply Kd.V_alloc | apply Kd.V_drewN | apply Kd.V_drew)); exact HO110.out) hb); have n2_ := Aside0.mk (Kd.V_below (by (with_reducible repeat (first | apply Kd.V_alloc | apply Kd.V_drewN | apply Kd.V_drew)); exact HO114.out) hb); have n3_ := Aside0.mk (Kd.V_lower (Kd.V_mono (ok' := fun k_ => True) ho0 (fun k_ hk_ => trivial)) (below_size (by repeat (first | (with_reducible first | exact HB.out | apply below_alloc | apply pw_below_drewN | apply below_drew1) | exact HB.out)))); have n4_ := Aside0.mk (below_step (by repeat (first | (with_reducible first | exact HB.out | apply below_alloc | apply pw_below_drewN | apply below_drew1) | exact HB.out)) hb); clear HO107; clear HO110; clear HO114; clear HB; have HO107 := n0_; have HO110 := n1_; have HO114 := n2_; have HO119 := n3_; have HB := n4_; clear n0_ n1_ n2_ n3_ n4_; (try clear hb); (try clear hb2); (try clear hk); (try clear hi); (try clear ho0); obtain ⟨Ao30, co30, eo30⟩ := Kd.V_slice HO107.out; subst eo30; obtain ⟨Ao31, co31, eo31⟩ := Kd.V_slice HO119.out; subst eo31) | (go_at_call 9; (with_reducible refine (fareboxlaw32_same.calls k _ _ t105 _ _ t117 true _ ?side1 ?side2 ?side3 ?side4 A22.out).mono ?_); (case side1 => repeat (first | exact (Kd.V_reads' HO107.out).2.2 | (with_reducible refine Kd.C_alloc ?_ _) | (with_reducible refine Kd.C_drewN ?_ _) | (with_reducible refine Kd.C_drew ?_))); (case side2 => exact (Kd.V_reads' HO107.out).2.1); (case side3 => repeat (first | exact (Kd.V_reads' HO119.out).2.2 | (with_reducible refine Kd.C_alloc ?_ _) | (with_reducible refine Kd.C_drewN ?_ _) | (with_reducible refine Kd.C_drew ?_))); (case side4 => exact (Kd.V_reads' HO119.out).2.1); rintro e w' ⟨rfl, ⟨nd, rfl⟩⟩) | (go_at_call 8; (with_reducible refine (gf_PolyAdd.calls k _ _ t105 _ _ l1 t121 _ ?side1 ?side2 ?side3 ?side4 A24.out).mono ?_); (case side1 => repeat (first | exact (Kd.V_reads' HO107.out).2.2 | (with_reducible refine Kd.C_alloc ?_ _) | (with_reducible refine Kd.C_drewN ?_ _) | (with_reducible refine Kd.C_drew ?_))); (case side2 => exact (Kd.V_reads' HO107.out).2.1); (case side3 => repeat (first | exact (Kd.C_below HR1.out (by repeat (first | (with_reducible first | exact HB.out | apply below_alloc | apply pw_below_drewN | apply below_drew1) | exact HB.out))) | (with_reducible refine Kd.C_alloc ?_ _) | (with_reducible refine Kd.C_drewN ?_ _) | (with_reducible refine Kd.C_drew ?_))); (case side4 => exact HC1.out); rintro e w32 ⟨v122, rfl, ho0, hb⟩; have n0_ := Aside0.mk (Kd.V_below (by (with_reducible repeat (first | apply Kd.V_alloc | apply Kd.V_drewN | apply Kd.V_drew)); exact HO107.out) hb); have n1_ := Aside0.mk (Kd.V_below (by (with_reducible repeat (first | apply Kd.V_alloc | apply Kd.V_drewN | apply Kd.V_drew)); exact HO110.out) hb); have n2_ := Aside0.mk (Kd.V_below (by (with_reducible repeat (first | apply Kd.V_alloc | apply Kd.V_drewN | apply Kd.V_drew)); exact HO114.out) hb); have n3_ := Aside0.mk (Kd.V_below (by (with_reducible repeat (first | apply Kd.V_alloc | apply Kd.V_drewN | apply Kd.V_drew)); exact HO119.out) hb); have n4_ := Aside0.mk (Kd.V_lower (Kd.V_mono (ok' := fun k_ => True) ho0 (fun k_ hk_ => trivial)) (below_size (by repeat (first | (with_reducible first | exact HB.out | apply below_alloc | apply pw_below_drewN | apply below_drew1) | exact HB.out)))); have n5_ := Aside0.mk (below_step (by repeat (first | (with_reducible first | exact HB.out | apply below_alloc | apply pw_below_drewN | apply below_drew1) | exact HB.out)) hb); clear HO107; clear HO110; clear HO114; clear HO119; clear HB; have HO107 := n0_; have HO110 := n1_; have HO114 := n2_; have HO119 := n3_; have HO123 := n4_; have HB := n5_; clear n0_ n1_ n2_ n3_ n4_ n5_; (try clear hb); (try clear hb2); (try clear hk); (try clear hi); (try clear ho0)) | (go_at_call 6; (with_reducible refine (fareboxlaw32_trim.calls k (fun k_ => k_ < w.heap.size) _ _ l0 t124 _ ?side1 A25.out).mono ?_); (case side1 => exact Kd.V_mk HC0.out (Kd.F_below (Kd.C_F (Kd.heap_int .u8) HR0.out) (by repeat (first | (with_reducible first | exact HB.out | apply below_alloc | apply pw_below_drewN | apply below_drew1) | exact HB.out)))); rintro e w33 ⟨v125, rfl, ho0, hb⟩; have n0_ := Aside0.mk (Kd.V_below (by (with_reducible repeat (first | apply Kd.V_alloc | apply Kd.V_drewN | apply Kd.V_drew)); exact HO107.out) hb); have n1_ := Aside0.mk (Kd.V_below (by (with_reducible repeat (first | apply Kd.V_alloc | apply Kd.V_drewN | apply Kd.V_drew)); exact HO110.out) hb); have n2_ := Aside0.mk (Kd.V_below (by (with_reducible repeat (first | apply Kd.V_alloc | apply Kd.V_drewN | apply Kd.V_drew)); exact HO114.out) hb); have n3_ := Aside0.mk (Kd.V_below (by (with_reducible repeat (first | apply Kd.V_alloc | apply Kd.V_drewN | apply Kd.V_drew)); exact HO119.out) hb); have n4_ := Aside0.mk (Kd.V_below (by (with_reducible repeat (first | apply Kd.V_alloc | apply Kd.V_drewN | apply Kd.V_drew)); exact HO123.out) hb); have n5_ := Aside0.mk (Kd.V_lower (Kd.V_mono (ok' := fun k_ => True) ho0 (fun k_ hk_ => trivial)) (below_size (by repeat (first | (with_reducible first | exact HB.out | apply below_alloc | apply pw_below_drewN | apply below_drew1) | exact HB.out)))); have n6_ := Aside0.mk (below_step (by repeat (first | (with_reducible first | exact HB.out | apply below_alloc | apply pw_below_drewN | apply below_drew1) | exact HB.out)) hb); clear HO107; clear HO110; clear HO114; clear HO119; clear HO123; clear HB; have HO107 := n0_; have HO110 := n1_; have HO114 := n2_; have HO119 := n3_; have HO123 := n4_; have HO126 := n5_; have HB := n6_; clear n0_ n1_ n2_ n3_ n4_ n5_ n6_; (try clear hb); (try clear hb2); (try clear hk); (try clear hi); (try clear ho0); obtain ⟨Ao34, co34, eo34⟩ := Kd.V_slice HO123.out; subst eo34; obtain ⟨Ao35, co35, eo35⟩ := Kd.V_slice HO126.out; subst eo35) | (go_at_call 9; (with_reducible refine (fareboxlaw32_same.calls k _ _ t121 _ _ t124 t127 _ ?side1 ?side2 ?side3 ?side4 A26.out).mono ?_); (case side1 => repeat (first | exact (Kd.V_reads' HO123.out).2.2 | (with_reducible refine Kd.C_alloc ?_ _) | (with_reducible refine Kd.C_drewN ?_ _) | (with_reducible refine Kd.C_drew ?_))); (case side2 => exact (Kd.V_reads' HO123.out).2.1); (case side3 => repeat (first | exact (Kd.V_reads' HO126.out).2.2 | (with_reducible refine Kd.C_alloc ?_ _) | (with_reducible refine Kd.C_drewN ?_ _) | (with_reducible refine Kd.C_drew ?_))); (case side4 => exact (Kd.V_reads' HO126.out).2.1); rintro e w' ⟨rfl, ⟨nd, rfl⟩⟩))
              go_meet
              case rel => exact ⟨_, (!t127), (by first | rfl | (simp; done) | (simp [*]; done) | (exfalso; simp_all; done)), H', ⟨by first | omega | exact Nat.le_refl _⟩, ⟨by (with_reducible repeat (first | apply Kd.V_alloc | apply Kd.V_drewN | apply Kd.V_drew)); exact HO107.out⟩, ⟨by (with_reducible repeat (first | apply Kd.V_alloc | apply Kd.V_drewN | apply Kd.V_drew)); exact HO110.out⟩, ⟨by repeat (first | (with_reducible first | exact HB.out | apply below_alloc | apply pw_below_drewN | apply below_drew1) | exact HB.out)⟩⟩
            · replace c23 := Bool.eq_false_iff.mpr c23
              subst c23
              have H1 : (fareboxlaw32_GfPolys.j0 k l0 l1 a2 t105 t108 true) = some r := by rw [if_neg (show ¬ (false = true) by decide)] at H; exact H
              clear H
              have H := H1
              clear H1
              have H' := Aside0.mk H
              clear H
              obtain ⟨Ao36, co36, eo36⟩ := Kd.V_slice HO110.out
              subst eo36
              obtain ⟨Ao37, co37, eo37⟩ := Kd.V_slice HO114.out
              subst eo37
              go_wp2_with (first | (go_at_call 9; (with_reducible refine (fareboxlaw32_same.calls k _ _ t108 _ _ t112 true _ ?side1 ?side2 ?side3 ?side4 A19.out).mono ?_); (case side1 => repeat (first | exact (Kd.V_reads' HO110.out).2.2 | (with_reducible refine Kd.C_alloc ?_ _) | (with_reducible refine Kd.C_drewN ?_ _) | (with_reducible refine Kd.C_drew ?_))); (case side2 => exact (Kd.V_reads' HO110.out).2.1); (case side3 => repeat (first | exact (Kd.V_reads' HO114.out).2.2 | (with_reducible refine Kd.C_alloc ?_ _) | (with_reducible refine Kd.C_drewN ?_ _) | (with_reducible refine Kd.C_drew ?_))); (case side4 => exact (Kd.V_reads' HO114.out).2.1); rintro e w' ⟨rfl, ⟨nd, rfl⟩⟩) | (go_at_call 8; (with_reducible refine (gf_PolyAdd.calls k _ _ l1 _ _ l0 t117 _ ?side1 ?side2 ?side3 ?side4 A21.out).mono ?_); (case side1 => repeat (first | exact (Kd.C_below HR1.out (by repeat (first | (with_reducible first | exact HB.out | apply below_alloc | apply pw_below_drewN | apply below_drew1) | exact HB.out))) | (with_reducible refine Kd.C_alloc ?_ _) | (with_reducible refine Kd.C_drewN ?_ _) | (with_reducible refine Kd.C_drew ?_))); (case side2 => exact HC1.out); (case side3 => repeat (first | exact (Kd.C_below HR0.out (by repeat (first | (with_reducible first | exact HB.out | apply below_alloc | apply pw_below_drewN | apply below_drew1) | exact HB.out))) | (with_reducible refine Kd.C_alloc ?_ _) | (with_reducible refine Kd.C_drewN ?_ _) | (with_reducible refine Kd.C_drew ?_))); (case side4 => exact HC0.out); rintro e w38 ⟨v118, rfl, ho0, hb⟩; have n0_ := Aside0.mk (Kd.V_below (by (with_reducible repeat (first | apply Kd.V_alloc | apply Kd.V_drewN | apply Kd.V_drew)); exact HO107.out) hb); have n1_ := Aside0.mk (Kd.V_below (by (with_reducible repeat (first | apply Kd.V_alloc | apply Kd.V_drewN | apply Kd.V_drew)); exact HO110.out) hb); have n2_ := Aside0.mk (Kd.V_below (by (with_reducible repeat (first | apply Kd.V_alloc | apply Kd.V_drewN | apply Kd.V_drew)); exact HO114.out) hb); have n3_ := Aside0.mk (Kd.V_lower (Kd.V_mono (ok' := fun k_ => True) ho0 (fun k_ hk_ => trivial)) (below_size (by repeat (first | (with_reducible first | exact HB.out | apply below_alloc | apply pw_below_drewN | apply below_drew1) | exact HB.out)))); have n4_ := Aside0.mk (below_step (by repeat (first | (with_reducible first | exact HB.out | apply below_alloc | apply pw_below_drewN | apply below_drew1) | exact HB.out)) hb); clear HO107; clear HO110; clear HO114; clear HB; have HO107 := n0_; have HO110 := n1_; have HO114 := n2_; have HO119 := n3_; have HB := n4_; clear n0_ n1_ n2_ n3_ n4_; (try clear hb); (try clear hb2); (try clear hk); (try clear hi); (try clear ho0); obtain ⟨Ao39, co39, eo39⟩ := Kd.V_slice HO107.out; subst eo39; obtain ⟨Ao40, co40, eo40⟩ := Kd.V_slice HO119.out; subst eo40) | (go_at_call 9; (with_reducible refine (fareboxlaw32_same.calls k _ _ t105 _ _ t117 false _ ?side1 ?side2 ?side3 ?side4 A22.out).mono ?_); (case side1 => repeat (first | exact (Kd.V_reads' HO107.out).2.2 | (with_reducible refine Kd.C_alloc ?_ _) | (with_reducible refine Kd.C_drewN ?_ _) | (with_reducible refine Kd.C_drew ?_))); (case side2 => exact (Kd.V_reads' HO107.out).2.1); (case side3 => repeat (first | exact (Kd.V_reads' HO119.out).2.2 | (with_reducible refine Kd.C_alloc ?_ _) | (with_reducible refine Kd.C_drewN ?_ _) | (with_reducible refine Kd.C_drew ?_))); (case side4 => exact (Kd.V_reads' HO119.out).2.1); rintro e w' ⟨rfl, ⟨nd, rfl⟩⟩))
              go_meet
              case rel => exact ⟨_, (true), (by first | rfl | (simp; done) | (simp [*]; done) | (exfalso; simp_all; done)), H', ⟨by first | omega | exact Nat.le_refl _⟩, ⟨by (with_reducible repeat (first | apply Kd.V_alloc | apply Kd.V_drewN | apply Kd.V_drew)); exact HO107.out⟩, ⟨by (with_reducible repeat (first | apply Kd.V_alloc | apply Kd.V_drewN | apply Kd.V_drew)); exact HO110.out⟩, ⟨by repeat (first | (with_reducible first | exact HB.out | apply below_alloc | apply pw_below_drewN | apply below_drew1) | exact HB.out)⟩⟩
          · replace c20 := Bool.eq_false_iff.mpr c20
            subst c20
            have H1 : (fareboxlaw32_GfPolys.j0 k l0 l1 a2 t105 t108 true) = some r := by rw [if_neg (show ¬ (false = true) by decide)] at H; exact H
            clear H
            have H := H1
            clear H1
            have H' := Aside0.mk H
            clear H
            obtain ⟨Ao41, co41, eo41⟩ := Kd.V_slice HO110.out
            subst eo41
            obtain ⟨Ao42, co42, eo42⟩ := Kd.V_slice HO114.out
            subst eo42
            go_wp2_with (first | (go_at_call 9; (with_reducible refine (fareboxlaw32_same.calls k _ _ t108 _ _ t112 false _ ?side1 ?side2 ?side3 ?side4 A19.out).mono ?_); (case side1 => repeat (first | exact (Kd.V_reads' HO110.out).2.2 | (with_reducible refine Kd.C_alloc ?_ _) | (with_reducible refine Kd.C_drewN ?_ _) | (with_reducible refine Kd.C_drew ?_))); (case side2 => exact (Kd.V_reads' HO110.out).2.1); (case side3 => repeat (first | exact (Kd.V_reads' HO114.out).2.2 | (with_reducible refine Kd.C_alloc ?_ _) | (with_reducible refine Kd.C_drewN ?_ _) | (with_reducible refine Kd.C_drew ?_))); (case side4 => exact (Kd.V_reads' HO114.out).2.1); rintro e w' ⟨rfl, ⟨nd, rfl⟩⟩))
            go_meet
            case rel => exact ⟨_, (true), (by first | rfl | (simp; done) | (simp [*]; done) | (exfalso; simp_all; done)), H', ⟨by first | omega | exact Nat.le_refl _⟩, ⟨by (with_reducible repeat (first | apply Kd.V_alloc | apply Kd.V_drewN | apply Kd.V_drew)); exact HO107.out⟩, ⟨by (with_reducible repeat (first | apply Kd.V_alloc | apply Kd.V_drewN | apply Kd.V_drew)); exact HO110.out⟩, ⟨by repeat (first | (with_reducible first | exact HB.out | apply below_alloc | apply pw_below_drewN | apply below_drew1) | exact HB.out)⟩⟩
        · replace c18 := Bool.eq_false_iff.mpr c18
          subst c18
          have H1 : (fareboxlaw32_GfPolys.j0 k l0 l1 a2 t105 t108 true) = some r := by rw [if_neg (show ¬ (false = true) by decide)] at H; exact H
          clear H
          have H := H1
          clear H1
          have H' := Aside0.mk H
          clear H
          go_wp2
          go_meet
          case rel => exact ⟨_, (true), (by first | rfl | (simp; done) | (simp [*]; done) | (exfalso; simp_all; done)), H', ⟨by first | omega | exact Nat.le_refl _⟩, ⟨by (with_reducible repeat (first | apply Kd.V_alloc | apply Kd.V_drewN | apply Kd.V_drew)); exact HO107.out⟩, ⟨by (with_reducible repeat (first | apply Kd.V_alloc | apply Kd.V_drewN | apply Kd.V_drew)); exact HO110.out⟩, ⟨by repeat (first | (with_reducible first | exact HB.out | apply below_alloc | apply pw_below_drewN | apply below_drew1) | exact HB.out)⟩⟩
      · replace c17 := Bool.eq_false_iff.mpr c17
        subst c17
        have H1 : (fareboxlaw32_GfPolys.j0 k l0 l1 a2 t105 t108 true) = some r := by rw [if_neg (show ¬ (false = true) by decide)] at H; exact H
        clear H
        have H := H1
        clear H1
        have H' := Aside0.mk H
        clear H
        go_wp2
        go_meet
        case rel => exact ⟨_, (true), (by first | rfl | (simp; done) | (simp [*]; done) | (exfalso; simp_all; done)), H', ⟨by first | omega | exact Nat.le_refl _⟩, ⟨by (with_reducible repeat (first | apply Kd.V_alloc | apply Kd.V_drewN | apply Kd.V_drew)); exact HO107.out⟩, ⟨by (with_reducible repeat (first | apply Kd.V_alloc | apply Kd.V_drewN | apply Kd.V_drew)); exact HO110.out⟩, ⟨by repeat (first | (with_reducible first | exact HB.out | apply below_alloc | apply pw_below_drewN | apply below_drew1) | exact HB.out)⟩⟩
    case rest =>
      clear HC13
      try clear c1
      try clear c2
      try clear p2
      try clear c4
      try clear c4b0
      try clear c6
      try clear p6
      try clear c7
      try clear c8
      try clear c17
      try clear c18
      try clear c20
      try clear c23
      obtain ⟨kq, x76_12, rfl, HA, HJ12, HO_9, HO_10, HB⟩ := hcut
      cases kq with
      | zero => exact absurd HA.out (by simp [fareboxlaw32_GfPolys.j0])
      | succ kj12 =>
        have H := HA.out
        clear HA
        simp only [fareboxlaw32_GfPolys.j0] at H
        by_cases c43 : x76_12 = true
        · subst c43
          have H1 : (some false) = some r := by rw [if_pos rfl] at H; exact H
          clear H
          have H := H1
          clear H1
          obtain rfl := Option.some.inj H
          go_wp2
          go_ret
          exact ⟨by first | rfl | (simp [errW_none, errW_some] <;> rfl) | (simp [*, errW_none, errW_some] <;> rfl), by repeat (first | (with_reducible first | exact HB.out | apply below_alloc | apply pw_below_drewN | apply below_drew1) | exact HB.out)⟩
        · replace c43 := Bool.eq_false_iff.mpr c43
          subst c43
          have H1 : ((gf_PolyEval.f kj12 t105 a2).bind fun t128 => ((gf_PolyEval.f kj12 l0 a2).bind fun t129 => ((gf_PolyEval.f kj12 l1 a2).bind fun t130 => ((gf_Add.f t129 t130).bind fun t131 => (if t128 = t131 then ((gf_PolyEval.f kj12 t108 a2).bind fun t132 => ((gf_Mul.f kj12 t129 t130).bind fun t133 => (fareboxlaw32_GfPolys.j1 kj12 l0 l1 t108 (t132 != t133)))) else (fareboxlaw32_GfPolys.j1 kj12 l0 l1 t108 true)))))) = some r := by rw [if_neg (show ¬ (false = true) by decide)] at H; exact H
          clear H
          have H := H1
          clear H1
          have HC44 := Aside0.mk H
          clear H
          go_upto_region 9 with (fail)
          go_cut [100] (fun v100 wc => ∃ (kq : Nat) (x100_43 : Bool), v100 = .bool x100_43 ∧ Aside0 (fareboxlaw32_GfPolys.j1 kq l0 l1 t108 x100_43 = some r) ∧ Aside0 (kq ≤ kj12) ∧ Aside0 (Kd.V (Kd.int .u8) 5 wc w.heap.size (fun _ => True) v109 t108) ∧ Aside0 (Below w.heap.size w wc))
          case first =>
            have H := HC44.out
            clear HC44
            replace H := Option.bind_eq_some_iff.mp H
            obtain ⟨t128, A450, H⟩ := H
            replace H : ((gf_PolyEval.f kj12 l0 a2).bind fun t129 => ((gf_PolyEval.f kj12 l1 a2).bind fun t130 => ((gf_Add.f t129 t130).bind fun t131 => (if t128 = t131 then ((gf_PolyEval.f kj12 t108 a2).bind fun t132 => ((gf_Mul.f kj12 t129 t130).bind fun t133 => (fareboxlaw32_GfPolys.j1 kj12 l0 l1 t108 (t132 != t133)))) else (fareboxlaw32_GfPolys.j1 kj12 l0 l1 t108 true))))) = some r := H
            have A45 := Aside0.mk A450
            clear A450
            replace H := Option.bind_eq_some_iff.mp H
            obtain ⟨t129, A460, H⟩ := H
            replace H : ((gf_PolyEval.f kj12 l1 a2).bind fun t130 => ((gf_Add.f t129 t130).bind fun t131 => (if t128 = t131 then ((gf_PolyEval.f kj12 t108 a2).bind fun t132 => ((gf_Mul.f kj12 t129 t130).bind fun t133 => (fareboxlaw32_GfPolys.j1 kj12 l0 l1 t108 (t132 != t133)))) else (fareboxlaw32_GfPolys.j1 kj12 l0 l1 t108 true)))) = some r := H
            have A46 := Aside0.mk A460
            clear A460
            replace H := Option.bind_eq_some_iff.mp H
            obtain ⟨t130, A470, H⟩ := H
            replace H : ((gf_Add.f t129 t130).bind fun t131 => (if t128 = t131 then ((gf_PolyEval.f kj12 t108 a2).bind fun t132 => ((gf_Mul.f kj12 t129 t130).bind fun t133 => (fareboxlaw32_GfPolys.j1 kj12 l0 l1 t108 (t132 != t133)))) else (fareboxlaw32_GfPolys.j1 kj12 l0 l1 t108 true))) = some r := H
            have A47 := Aside0.mk A470
            clear A470
            replace H := Option.bind_eq_some_iff.mp H
            obtain ⟨t131, A480, H⟩ := H
            replace H : (if t128 = t131 then ((gf_PolyEval.f kj12 t108 a2).bind fun t132 => ((gf_Mul.f kj12 t129 t130).bind fun t133 => (fareboxlaw32_GfPolys.j1 kj12 l0 l1 t108 (t132 != t133)))) else (fareboxlaw32_GfPolys.j1 kj12 l0 l1 t108 true)) = some r := H
            have A48 := Aside0.mk A480
            clear A480
            by_cases c49 : t128 = t131
            · rw [if_pos c49] at H
              have c49b0 : (t128 == t131) = true := beq_iff_eq.mpr c49
              have c49b1 : (t128 != t131) = false := bne_eq_false_iff_eq.mpr c49
              clear c49
              (first | rw [c49b0] | (simp only [i64_w, i32_w]; rw [c49b0]) | skip)
              replace H := Option.bind_eq_some_iff.mp H
              obtain ⟨t132, A500, H⟩ := H
              replace H : ((gf_Mul.f kj12 t129 t130).bind fun t133 => (fareboxlaw32_GfPolys.j1 kj12 l0 l1 t108 (t132 != t133))) = some r := H
              have A50 := Aside0.mk A500
              clear A500
              replace H := Option.bind_eq_some_iff.mp H
              obtain ⟨t133, A510, H⟩ := H
              replace H : (fareboxlaw32_GfPolys.j1 kj12 l0 l1 t108 (t132 != t133)) = some r := H
              have A51 := Aside0.mk A510
              clear A510
              have H' := Aside0.mk H
              clear H
              obtain ⟨Ao52, co52, eo52⟩ := Kd.V_slice HO_9.out
              subst eo52
              go_wp2_with (first | ((with_reducible refine gate_callee (f := 5) rfl ?_); refine goesL_ (some 79) rfl rfl Try.func5 (by kernel_rfl) rfl #[.slice Ao52 t105.length co52, .int .u8 a2] rfl (by (try simp only [List.map_toArray, List.map_cons, List.map_nil]); first | done | rfl | (simp only [List.length_drop, List.length_take]; rfl)) ?_; (with_reducible refine (gf_PolyEval.calls kj12 _ _ t105 a2 t128 _ ?side1 ?side2 A45.out).mono ?_); (case side1 => repeat (first | exact (Kd.V_reads' HO_9.out).2.2 | (with_reducible refine Kd.C_alloc ?_ _) | (with_reducible refine Kd.C_drewN ?_ _) | (with_reducible refine Kd.C_drew ?_))); (case side2 => exact (Kd.V_reads' HO_9.out).2.1); rintro e w' ⟨rfl, ⟨nd, rfl⟩⟩; refine ⟨_, rfl, ?_⟩) | ((with_reducible refine gate_callee (f := 5) rfl ?_); refine goesL_ (some 82) rfl rfl Try.func5 (by kernel_rfl) rfl #[.slice A0 l0.length c0, .int .u8 a2] rfl (by (try simp only [List.map_toArray, List.map_cons, List.map_nil]); first | done | rfl | (simp only [List.length_drop, List.length_take]; rfl)) ?_; (with_reducible refine (gf_PolyEval.calls kj12 _ _ l0 a2 t129 _ ?side1 ?side2 A46.out).mono ?_); (case side1 => repeat (first | exact (Kd.C_below HR0.out (by repeat (first | (with_reducible first | exact HB.out | apply below_alloc | apply pw_below_drewN | apply below_drew1) | exact HB.out))) | (with_reducible refine Kd.C_alloc ?_ _) | (with_reducible refine Kd.C_drewN ?_ _) | (with_reducible refine Kd.C_drew ?_))); (case side2 => exact HC0.out); rintro e w' ⟨rfl, ⟨nd, rfl⟩⟩; refine ⟨_, rfl, ?_⟩) | ((with_reducible refine gate_callee (f := 5) rfl ?_); refine goesL_ (some 85) rfl rfl Try.func5 (by kernel_rfl) rfl #[.slice A1 l1.length c1, .int .u8 a2] rfl (by (try simp only [List.map_toArray, List.map_cons, List.map_nil]); first | done | rfl | (simp only [List.length_drop, List.length_take]; rfl)) ?_; (with_reducible refine (gf_PolyEval.calls kj12 _ _ l1 a2 t130 _ ?side1 ?side2 A47.out).mono ?_); (case side1 => repeat (first | exact (Kd.C_below HR1.out (by repeat (first | (with_reducible first | exact HB.out | apply below_alloc | apply pw_below_drewN | apply below_drew1) | exact HB.out))) | (with_reducible refine Kd.C_alloc ?_ _) | (with_reducible refine Kd.C_drewN ?_ _) | (with_reducible refine Kd.C_drew ?_))); (case side2 => exact HC1.out); rintro e w' ⟨rfl, ⟨nd, rfl⟩⟩; refine ⟨_, rfl, ?_⟩) | ((with_reducible refine gate_callee (f := 10) rfl ?_); refine goesL_ (some 86) rfl rfl Try.func10 (by kernel_rfl) rfl #[.int .u8 t129, .int .u8 t130] rfl (by (try simp only [List.map_toArray, List.map_cons, List.map_nil]); first | done | rfl | (simp only [List.length_drop, List.length_take]; rfl)) ?_; (with_reducible refine (gf_Add.calls t129 t130 t131 _ A48.out).mono ?_); rintro e w' ⟨rfl, ⟨nd, rfl⟩⟩; refine ⟨_, rfl, ?_⟩; obtain ⟨Ao53, co53, eo53⟩ := Kd.V_slice HO_10.out; subst eo53) | (go_at_call 5; (with_reducible refine (gf_PolyEval.calls kj12 _ _ t108 a2 t132 _ ?side1 ?side2 A50.out).mono ?_); (case side1 => repeat (first | exact (Kd.V_reads' HO_10.out).2.2 | (with_reducible refine Kd.C_alloc ?_ _) | (with_reducible refine Kd.C_drewN ?_ _) | (with_reducible refine Kd.C_drew ?_))); (case side2 => exact (Kd.V_reads' HO_10.out).2.1); rintro e w' ⟨rfl, ⟨nd, rfl⟩⟩) | (go_at_call 11; (with_reducible refine (gf_Mul.calls kj12 t129 t130 t133 _ A51.out).mono ?_); rintro e w' ⟨rfl, ⟨nd, rfl⟩⟩) | (go_at_call 5; (with_reducible refine (gf_PolyEval.calls kj12 _ _ t105 a2 t128 _ ?side1 ?side2 A45.out).mono ?_); (case side1 => repeat (first | exact (Kd.V_reads' HO_9.out).2.2 | (with_reducible refine Kd.C_alloc ?_ _) | (with_reducible refine Kd.C_drewN ?_ _) | (with_reducible refine Kd.C_drew ?_))); (case side2 => exact (Kd.V_reads' HO_9.out).2.1); rintro e w' ⟨rfl, ⟨nd, rfl⟩⟩) | (go_at_call 5; (with_reducible refine (gf_PolyEval.calls kj12 _ _ l0 a2 t129 _ ?side1 ?side2 A46.out).mono ?_); (case side1 => repeat (first | exact (Kd.C_below HR0.out (by repeat (first | (with_reducible first | exact HB.out | apply below_alloc | apply pw_below_drewN | apply below_drew1) | exact HB.out))) | (with_reducible refine Kd.C_alloc ?_ _) | (with_reducible refine Kd.C_drewN ?_ _) | (with_reducible refine Kd.C_drew ?_))); (case side2 => exact HC0.out); rintro e w' ⟨rfl, ⟨nd, rfl⟩⟩) | (go_at_call 5; (with_reducible refine (gf_PolyEval.calls kj12 _ _ l1 a2 t130 _ ?side1 ?side2 A47.out).mono ?_); (case side1 => repeat (first | exact (Kd.C_below HR1.out (by repeat (first | (with_reducible first | exact HB.out | apply below_alloc | apply pw_below_drewN | apply below_drew1) | exact HB.out))) | (with_reducible refine Kd.C_alloc ?_ _) | (with_reducible refine Kd.C_drewN ?_ _) | (with_reducible refine Kd.C_drew ?_))); (case side2 => exact HC1.out); rintro e w' ⟨rfl, ⟨nd, rfl⟩⟩) | (go_at_call 10; (with_reducible refine (gf_Add.calls t129 t130 t131 _ A48.out).mono ?_); rintro e w' ⟨rfl, ⟨nd, rfl⟩⟩))
              go_meet
              case rel => exact ⟨_, ((t132 != t133)), (by first | rfl | (simp; done) | (simp [*]; done) | (exfalso; simp_all; done)), H', ⟨by have := HJ12.out; first | omega | exact Nat.le_refl _⟩, ⟨by (with_reducible repeat (first | apply Kd.V_alloc | apply Kd.V_drewN | apply Kd.V_drew)); exact HO_10.out⟩, ⟨by repeat (first | (with_reducible first | exact HB.out | apply below_alloc | apply pw_below_drewN | apply below_drew1) | exact HB.out)⟩⟩
            · rw [if_neg c49] at H
              have c49b0 : (t128 == t131) = false := beq_eq_false_iff_ne.mpr c49
              have c49b1 : (t128 != t131) = true := bne_iff_ne.mpr c49
              (first | rw [c49b0] | (simp only [i64_w, i32_w]; rw [c49b0]) | skip)
              have H' := Aside0.mk H
              clear H
              obtain ⟨Ao54, co54, eo54⟩ := Kd.V_slice HO_9.out
              subst eo54
              go_wp2_with (first | ((with_reducible refine gate_callee (f := 5) rfl ?_); refine goesL_ (some 79) rfl rfl Try.func5 (by kernel_rfl) rfl #[.slice Ao54 t105.length co54, .int .u8 a2] rfl (by (try simp only [List.map_toArray, List.map_cons, List.map_nil]); first | done | rfl | (simp only [List.length_drop, List.length_take]; rfl)) ?_; (with_reducible refine (gf_PolyEval.calls kj12 _ _ t105 a2 t128 _ ?side1 ?side2 A45.out).mono ?_); (case side1 => repeat (first | exact (Kd.V_reads' HO_9.out).2.2 | (with_reducible refine Kd.C_alloc ?_ _) | (with_reducible refine Kd.C_drewN ?_ _) | (with_reducible refine Kd.C_drew ?_))); (case side2 => exact (Kd.V_reads' HO_9.out).2.1); rintro e w' ⟨rfl, ⟨nd, rfl⟩⟩; refine ⟨_, rfl, ?_⟩) | ((with_reducible refine gate_callee (f := 5) rfl ?_); refine goesL_ (some 82) rfl rfl Try.func5 (by kernel_rfl) rfl #[.slice A0 l0.length c0, .int .u8 a2] rfl (by (try simp only [List.map_toArray, List.map_cons, List.map_nil]); first | done | rfl | (simp only [List.length_drop, List.length_take]; rfl)) ?_; (with_reducible refine (gf_PolyEval.calls kj12 _ _ l0 a2 t129 _ ?side1 ?side2 A46.out).mono ?_); (case side1 => repeat (first | exact (Kd.C_below HR0.out (by repeat (first | (with_reducible first | exact HB.out | apply below_alloc | apply pw_below_drewN | apply below_drew1) | exact HB.out))) | (with_reducible refine Kd.C_alloc ?_ _) | (with_reducible refine Kd.C_drewN ?_ _) | (with_reducible refine Kd.C_drew ?_))); (case side2 => exact HC0.out); rintro e w' ⟨rfl, ⟨nd, rfl⟩⟩; refine ⟨_, rfl, ?_⟩) | ((with_reducible refine gate_callee (f := 5) rfl ?_); refine goesL_ (some 85) rfl rfl Try.func5 (by kernel_rfl) rfl #[.slice A1 l1.length c1, .int .u8 a2] rfl (by (try simp only [List.map_toArray, List.map_cons, List.map_nil]); first | done | rfl | (simp only [List.length_drop, List.length_take]; rfl)) ?_; (with_reducible refine (gf_PolyEval.calls kj12 _ _ l1 a2 t130 _ ?side1 ?side2 A47.out).mono ?_); (case side1 => repeat (first | exact (Kd.C_below HR1.out (by repeat (first | (with_reducible first | exact HB.out | apply below_alloc | apply pw_below_drewN | apply below_drew1) | exact HB.out))) | (with_reducible refine Kd.C_alloc ?_ _) | (with_reducible refine Kd.C_drewN ?_ _) | (with_reducible refine Kd.C_drew ?_))); (case side2 => exact HC1.out); rintro e w' ⟨rfl, ⟨nd, rfl⟩⟩; refine ⟨_, rfl, ?_⟩) | ((with_reducible refine gate_callee (f := 10) rfl ?_); refine goesL_ (some 86) rfl rfl Try.func10 (by kernel_rfl) rfl #[.int .u8 t129, .int .u8 t130] rfl (by (try simp only [List.map_toArray, List.map_cons, List.map_nil]); first | done | rfl | (simp only [List.length_drop, List.length_take]; rfl)) ?_; (with_reducible refine (gf_Add.calls t129 t130 t131 _ A48.out).mono ?_); rintro e w' ⟨rfl, ⟨nd, rfl⟩⟩; refine ⟨_, rfl, ?_⟩) | (go_at_call 5; (with_reducible refine (gf_PolyEval.calls kj12 _ _ t105 a2 t128 _ ?side1 ?side2 A45.out).mono ?_); (case side1 => repeat (first | exact (Kd.V_reads' HO_9.out).2.2 | (with_reducible refine Kd.C_alloc ?_ _) | (with_reducible refine Kd.C_drewN ?_ _) | (with_reducible refine Kd.C_drew ?_))); (case side2 => exact (Kd.V_reads' HO_9.out).2.1); rintro e w' ⟨rfl, ⟨nd, rfl⟩⟩) | (go_at_call 5; (with_reducible refine (gf_PolyEval.calls kj12 _ _ l0 a2 t129 _ ?side1 ?side2 A46.out).mono ?_); (case side1 => repeat (first | exact (Kd.C_below HR0.out (by repeat (first | (with_reducible first | exact HB.out | apply below_alloc | apply pw_below_drewN | apply below_drew1) | exact HB.out))) | (with_reducible refine Kd.C_alloc ?_ _) | (with_reducible refine Kd.C_drewN ?_ _) | (with_reducible refine Kd.C_drew ?_))); (case side2 => exact HC0.out); rintro e w' ⟨rfl, ⟨nd, rfl⟩⟩) | (go_at_call 5; (with_reducible refine (gf_PolyEval.calls kj12 _ _ l1 a2 t130 _ ?side1 ?side2 A47.out).mono ?_); (case side1 => repeat (first | exact (Kd.C_below HR1.out (by repeat (first | (with_reducible first | exact HB.out | apply below_alloc | apply pw_below_drewN | apply below_drew1) | exact HB.out))) | (with_reducible refine Kd.C_alloc ?_ _) | (with_reducible refine Kd.C_drewN ?_ _) | (with_reducible refine Kd.C_drew ?_))); (case side2 => exact HC1.out); rintro e w' ⟨rfl, ⟨nd, rfl⟩⟩) | (go_at_call 10; (with_reducible refine (gf_Add.calls t129 t130 t131 _ A48.out).mono ?_); rintro e w' ⟨rfl, ⟨nd, rfl⟩⟩))
              go_meet
              case rel => exact ⟨_, (true), (by first | rfl | (simp; done) | (simp [*]; done) | (exfalso; simp_all; done)), H', ⟨by have := HJ12.out; first | omega | exact Nat.le_refl _⟩, ⟨by (with_reducible repeat (first | apply Kd.V_alloc | apply Kd.V_drewN | apply Kd.V_drew)); exact HO_10.out⟩, ⟨by repeat (first | (with_reducible first | exact HB.out | apply below_alloc | apply pw_below_drewN | apply below_drew1) | exact HB.out)⟩⟩
          case rest =>
            clear HC44
            try clear c1
            try clear c2
            try clear p2
            try clear c4
            try clear c4b0
            try clear c5
            try clear c6
            try clear p6
            try clear c7
            try clear c8
            try clear c10
            try clear c17
            try clear c18
            try clear c20
            try clear c23
            try clear c43
            try clear c49
            try clear c49b0
            try clear c49b1
            try clear p2
            try clear p6
            obtain ⟨kq, x100_43, rfl, HA, HJ43, HO_10, HB⟩ := hcut
            cases kq with
            | zero => exact absurd HA.out (by simp [fareboxlaw32_GfPolys.j1])
            | succ kj43 =>
              have H := HA.out
              clear HA
              simp only [fareboxlaw32_GfPolys.j1] at H
              by_cases c55 : x100_43 = true
              · subst c55
                have H1 : (some false) = some r := by rw [if_pos rfl] at H; exact H
                clear H
                have H := H1
                clear H1
                obtain rfl := Option.some.inj H
                go_wp2
                go_ret
                exact ⟨by first | rfl | (simp [errW_none, errW_some] <;> rfl) | (simp [*, errW_none, errW_some] <;> rfl), by repeat (first | (with_reducible first | exact HB.out | apply below_alloc | apply pw_below_drewN | apply below_drew1) | exact HB.out)⟩
              · replace c55 := Bool.eq_false_iff.mpr c55
                subst c55
                have H1 : ((fareboxlaw32_trim.f kj43 l0).bind fun t134 => (if (t134.length : Int) = 0 then (fareboxlaw32_GfPolys.j2 kj43 l0 l1 t108 true) else ((fareboxlaw32_trim.f kj43 l1).bind fun t137 => (fareboxlaw32_GfPolys.j2 kj43 l0 l1 t108 ((t137.length : Int) == 0))))) = some r := by rw [if_neg (show ¬ (false = true) by decide)] at H; exact H
                clear H
                have H := H1
                clear H1
                have HC56 := Aside0.mk H
                clear H
                go_upto_region 11 with (fail)
                go_cut [110] (fun v110 wc => ∃ (kq : Nat) (x110_55 : Bool), v110 = .bool x110_55 ∧ Aside0 (fareboxlaw32_GfPolys.j2 kq l0 l1 t108 x110_55 = some r) ∧ Aside0 (kq ≤ kj43) ∧ Aside0 (Kd.V (Kd.int .u8) 5 wc w.heap.size (fun _ => True) v109 t108) ∧ Aside0 (Below w.heap.size w wc))
                case first =>
                  have H := HC56.out
                  clear HC56
                  replace H := Option.bind_eq_some_iff.mp H
                  obtain ⟨t134, A570, H⟩ := H
                  replace H : (if (t134.length : Int) = 0 then (fareboxlaw32_GfPolys.j2 kj43 l0 l1 t108 true) else ((fareboxlaw32_trim.f kj43 l1).bind fun t137 => (fareboxlaw32_GfPolys.j2 kj43 l0 l1 t108 ((t137.length : Int) == 0)))) = some r := H
                  have A57 := Aside0.mk A570
                  clear A570
                  by_cases c58 : (t134.length : Int) = 0
                  · rw [if_pos c58] at H
                    have c58b0 : ((t134.length : Int) == 0) = true := beq_iff_eq.mpr c58
                    have c58b1 : ((t134.length : Int) != 0) = false := bne_eq_false_iff_eq.mpr c58
                    clear c58
                    (first | rw [c58b0] | (simp only [i64_w, i32_w]; rw [c58b0]) | skip)
                    have H' := Aside0.mk H
                    clear H
                    go_wp2_with (first | ((with_reducible refine gate_callee (f := 6) rfl ?_); refine goesL_ (some 102) rfl rfl Try.func6 (by kernel_rfl) rfl #[.slice A0 l0.length c0] rfl (by (try simp only [List.map_toArray, List.map_cons, List.map_nil]); first | done | rfl | (simp only [List.length_drop, List.length_take]; rfl)) ?_; (with_reducible refine (fareboxlaw32_trim.calls kj43 (fun k_ => k_ < w.heap.size) _ _ l0 t134 _ ?side1 A57.out).mono ?_); (case side1 => exact Kd.V_mk HC0.out (Kd.F_below (Kd.C_F (Kd.heap_int .u8) HR0.out) (by repeat (first | (with_reducible first | exact HB.out | apply below_alloc | apply pw_below_drewN | apply below_drew1) | exact HB.out)))); rintro e w59 ⟨v135, rfl, ho0, hb⟩; refine ⟨_, rfl, ?_⟩; have n0_ := Aside0.mk (Kd.V_below (by (with_reducible repeat (first | apply Kd.V_alloc | apply Kd.V_drewN | apply Kd.V_drew)); exact HO_10.out) hb); have n1_ := Aside0.mk (Kd.V_lower (Kd.V_mono (ok' := fun k_ => True) ho0 (fun k_ hk_ => trivial)) (below_size (by repeat (first | (with_reducible first | exact HB.out | apply below_alloc | apply pw_below_drewN | apply below_drew1) | exact HB.out)))); have n2_ := Aside0.mk (below_step (by repeat (first | (with_reducible first | exact HB.out | apply below_alloc | apply pw_below_drewN | apply below_drew1) | exact HB.out)) hb); clear HO_10; clear HB; have HO_10 := n0_; have HO136 := n1_; have HB := n2_; clear n0_ n1_ n2_; (try clear hb); (try clear hb2); (try clear hk); (try clear hi); (try clear ho0); obtain ⟨Ao60, co60, eo60⟩ := Kd.V_slice HO136.out; subst eo60))
                    go_meet
                    case rel => exact ⟨_, (true), (by first | rfl | (simp; done) | (simp [*]; done) | (exfalso; simp_all; done)), H', ⟨by have := HJ12.out; have := HJ43.out; first | omega | exact Nat.le_refl _⟩, ⟨by (with_reducible repeat (first | apply Kd.V_alloc | apply Kd.V_drewN | apply Kd.V_drew)); exact HO_10.out⟩, ⟨by repeat (first | (with_reducible first | exact HB.out | apply below_alloc | apply pw_below_drewN | apply below_drew1) | exact HB.out)⟩⟩
                  · rw [if_neg c58] at H
                    have c58b0 : ((t134.length : Int) == 0) = false := beq_eq_false_iff_ne.mpr c58
                    have c58b1 : ((t134.length : Int) != 0) = true := bne_iff_ne.mpr c58
                    have c58b2 : ¬ (t134 = []) := fun h_ => c58 (by rw [h_]; rfl)
                    (first | rw [c58b0] | (simp only [i64_w, i32_w]; rw [c58b0]) | skip)
                    replace H := Option.bind_eq_some_iff.mp H
                    obtain ⟨t137, A610, H⟩ := H
                    replace H : (fareboxlaw32_GfPolys.j2 kj43 l0 l1 t108 ((t137.length : Int) == 0)) = some r := H
                    have A61 := Aside0.mk A610
                    clear A610
                    have H' := Aside0.mk H
                    clear H
                    go_wp2_with (first | ((with_reducible refine gate_callee (f := 6) rfl ?_); refine goesL_ (some 102) rfl rfl Try.func6 (by kernel_rfl) rfl #[.slice A0 l0.length c0] rfl (by (try simp only [List.map_toArray, List.map_cons, List.map_nil]); first | done | rfl | (simp only [List.length_drop, List.length_take]; rfl)) ?_; (with_reducible refine (fareboxlaw32_trim.calls kj43 (fun k_ => k_ < w.heap.size) _ _ l0 t134 _ ?side1 A57.out).mono ?_); (case side1 => exact Kd.V_mk HC0.out (Kd.F_below (Kd.C_F (Kd.heap_int .u8) HR0.out) (by repeat (first | (with_reducible first | exact HB.out | apply below_alloc | apply pw_below_drewN | apply below_drew1) | exact HB.out)))); rintro e w62 ⟨v135, rfl, ho0, hb⟩; refine ⟨_, rfl, ?_⟩; have n0_ := Aside0.mk (Kd.V_below (by (with_reducible repeat (first | apply Kd.V_alloc | apply Kd.V_drewN | apply Kd.V_drew)); exact HO_10.out) hb); have n1_ := Aside0.mk (Kd.V_lower (Kd.V_mono (ok' := fun k_ => True) ho0 (fun k_ hk_ => trivial)) (below_size (by repeat (first | (with_reducible first | exact HB.out | apply below_alloc | apply pw_below_drewN | apply below_drew1) | exact HB.out)))); have n2_ := Aside0.mk (below_step (by repeat (first | (with_reducible first | exact HB.out | apply below_alloc | apply pw_below_drewN | apply below_drew1) | exact HB.out)) hb); clear HO_10; clear HB; have HO_10 := n0_; have HO136 := n1_; have HB := n2_; clear n0_ n1_ n2_; (try clear hb); (try clear hb2); (try clear hk); (try clear hi); (try clear ho0); obtain ⟨Ao63, co63, eo63⟩ := Kd.V_slice HO136.out; subst eo63) | (go_at_call 6; (with_reducible refine (fareboxlaw32_trim.calls kj43 (fun k_ => k_ < w.heap.size) _ _ l1 t137 _ ?side1 A61.out).mono ?_); (case side1 => exact Kd.V_mk HC1.out (Kd.F_below (Kd.C_F (Kd.heap_int .u8) HR1.out) (by repeat (first | (with_reducible first | exact HB.out | apply below_alloc | apply pw_below_drewN | apply below_drew1) | exact HB.out)))); rintro e w64 ⟨v138, rfl, ho0, hb⟩; have n0_ := Aside0.mk (Kd.V_below (by (with_reducible repeat (first | apply Kd.V_alloc | apply Kd.V_drewN | apply Kd.V_drew)); exact HO_10.out) hb); have n1_ := Aside0.mk (Kd.V_below (by (with_reducible repeat (first | apply Kd.V_alloc | apply Kd.V_drewN | apply Kd.V_drew)); exact HO136.out) hb); have n2_ := Aside0.mk (Kd.V_lower (Kd.V_mono (ok' := fun k_ => True) ho0 (fun k_ hk_ => trivial)) (below_size (by repeat (first | (with_reducible first | exact HB.out | apply below_alloc | apply pw_below_drewN | apply below_drew1) | exact HB.out)))); have n3_ := Aside0.mk (below_step (by repeat (first | (with_reducible first | exact HB.out | apply below_alloc | apply pw_below_drewN | apply below_drew1) | exact HB.out)) hb); clear HO_10; clear HO136; clear HB; have HO_10 := n0_; have HO136 := n1_; have HO139 := n2_; have HB := n3_; clear n0_ n1_ n2_ n3_; (try clear hb); (try clear hb2); (try clear hk); (try clear hi); (try clear ho0); obtain ⟨Ao65, co65, eo65⟩ := Kd.V_slice HO139.out; subst eo65))
                    go_meet
                    case rel => exact ⟨_, (((t137.length : Int) == 0)), (by first | rfl | (simp; done) | (simp [*]; done) | (exfalso; simp_all; done)), H', ⟨by have := HJ12.out; have := HJ43.out; first | omega | exact Nat.le_refl _⟩, ⟨by (with_reducible repeat (first | apply Kd.V_alloc | apply Kd.V_drewN | apply Kd.V_drew)); exact HO_10.out⟩, ⟨by repeat (first | (with_reducible first | exact HB.out | apply below_alloc | apply pw_below_drewN | apply below_drew1) | exact HB.out)⟩⟩
                case rest =>
                  clear HC56
                  try clear c1
                  try clear c2
                  try clear p2
                  try clear c4
                  try clear c4b0
                  try clear c5
                  try clear c6
                  try clear p6
                  try clear c7
                  try clear c8
                  try clear c10
                  try clear c17
                  try clear c18
                  try clear c20
                  try clear c23
                  try clear c43
                  try clear c49
                  try clear c49b0
                  try clear c49b1
                  try clear c55
                  try clear c58
                  try clear c58b0
                  try clear c58b1
                  try clear c58b2
                  try clear p64
                  try clear p2
                  try clear p6
                  obtain ⟨kq, x110_55, rfl, HA, HJ55, HO_10, HB⟩ := hcut
                  cases kq with
                  | zero => exact absurd HA.out (by simp [fareboxlaw32_GfPolys.j2])
                  | succ kj55 =>
                    have H := HA.out
                    clear HA
                    simp only [fareboxlaw32_GfPolys.j2] at H
                    by_cases c66 : x110_55 = true
                    · subst c66
                      have H1 : (if (t108.length : Int) = 0 then ((gf_Mul.f kj55 1 1).bind fun t140 => (some (t140 == 1))) else (some false)) = some r := by rw [if_pos rfl] at H; exact H
                      clear H
                      have H := H1
                      clear H1
                      by_cases c67 : (t108.length : Int) = 0
                      · rw [if_pos c67] at H
                        have c67b0 : ((t108.length : Int) == 0) = true := beq_iff_eq.mpr c67
                        have c67b1 : ((t108.length : Int) != 0) = false := bne_eq_false_iff_eq.mpr c67
                        clear c67
                        replace H := Option.bind_eq_some_iff.mp H
                        obtain ⟨t140, A680, H⟩ := H
                        replace H : (some (t140 == 1)) = some r := H
                        have A68 := Aside0.mk A680
                        clear A680
                        obtain rfl := Option.some.inj H
                        obtain ⟨Ao69, co69, eo69⟩ := Kd.V_slice HO_10.out
                        subst eo69
                        go_wp2_with (first | (go_at_call 11; (with_reducible refine (gf_Mul.calls kj55 1 1 t140 _ A68.out).mono ?_); rintro e w' ⟨rfl, ⟨nd, rfl⟩⟩))
                        go_ret
                        exact ⟨by first | rfl | (simp [errW_none, errW_some] <;> rfl) | (simp [*, errW_none, errW_some] <;> rfl), by repeat (first | (with_reducible first | exact HB.out | apply below_alloc | apply pw_below_drewN | apply below_drew1) | exact HB.out)⟩
                      · rw [if_neg c67] at H
                        have c67b0 : ((t108.length : Int) == 0) = false := beq_eq_false_iff_ne.mpr c67
                        have c67b1 : ((t108.length : Int) != 0) = true := bne_iff_ne.mpr c67
                        have c67b2 : ¬ (t108 = []) := fun h_ => c67 (by rw [h_]; rfl)
                        obtain rfl := Option.some.inj H
                        obtain ⟨Ao70, co70, eo70⟩ := Kd.V_slice HO_10.out
                        subst eo70
                        go_wp2
                        go_ret
                        exact ⟨by first | rfl | (simp [errW_none, errW_some] <;> rfl) | (simp [*, errW_none, errW_some] <;> rfl), by repeat (first | (with_reducible first | exact HB.out | apply below_alloc | apply pw_below_drewN | apply below_drew1) | exact HB.out)⟩
                    · replace c66 := Bool.eq_false_iff.mpr c66
                      subst c66
                      have H1 : ((fareboxlaw32_trim.f kj55 l0).bind fun t141 => ((fareboxlaw32_trim.f kj55 l1).bind fun t144 => (if (t108.length : Int) = (wrap64 ((wrap64 ((t141.length : Int) + (t144.length : Int))) - 1)) then (if 0 ≤ (wrap64 ((t108.length : Int) - 1)) then (if (wrap64 ((t108.length : Int) - 1)) < (t108.length : Int) then (some ((rd t108 (wrap64 ((t108.length : Int) - 1))) != 0)) else (none)) else (none)) else (some false)))) = some r := by rw [if_neg (show ¬ (false = true) by decide)] at H; exact H
                      clear H
                      have H := H1
                      clear H1
                      replace H := Option.bind_eq_some_iff.mp H
                      obtain ⟨t141, A710, H⟩ := H
                      replace H : ((fareboxlaw32_trim.f kj55 l1).bind fun t144 => (if (t108.length : Int) = (wrap64 ((wrap64 ((t141.length : Int) + (t144.length : Int))) - 1)) then (if 0 ≤ (wrap64 ((t108.length : Int) - 1)) then (if (wrap64 ((t108.length : Int) - 1)) < (t108.length : Int) then (some ((rd t108 (wrap64 ((t108.length : Int) - 1))) != 0)) else (none)) else (none)) else (some false))) = some r := H
                      have A71 := Aside0.mk A710
                      clear A710
                      replace H := Option.bind_eq_some_iff.mp H
                      obtain ⟨t144, A720, H⟩ := H
                      replace H : (if (t108.length : Int) = (wrap64 ((wrap64 ((t141.length : Int) + (t144.length : Int))) - 1)) then (if 0 ≤ (wrap64 ((t108.length : Int) - 1)) then (if (wrap64 ((t108.length : Int) - 1)) < (t108.length : Int) then (some ((rd t108 (wrap64 ((t108.length : Int) - 1))) != 0)) else (none)) else (none)) else (some false)) = some r := H
                      have A72 := Aside0.mk A720
                      clear A720
                      by_cases c73 : (t108.length : Int) = (wrap64 ((wrap64 ((t141.length : Int) + (t144.length : Int))) - 1))
                      · rw [if_pos c73] at H
                        have c73b0 : ((t108.length : Int) == (wrap64 ((wrap64 ((t141.length : Int) + (t144.length : Int))) - 1))) = true := beq_iff_eq.mpr c73
                        have c73b1 : ((t108.length : Int) != (wrap64 ((wrap64 ((t141.length : Int) + (t144.length : Int))) - 1))) = false := bne_eq_false_iff_eq.mpr c73
                        clear c73
                        obtain ⟨ji74, hji74⟩ : ∃ j_ : Int, (wrap64 ((t108.length : Int) - 1)) = j_ := ⟨_, rfl⟩
                        replace H : (if 0 ≤ (ji74) then (if (ji74) < (t108.length : Int) then (some ((rd t108 (ji74)) != 0)) else (none)) else (none)) = some r := by first | (rw [hji74] at H; exact H) | (simp only [hji74] at H ⊢; exact H)
                        (try rw [hji74] at A71)
                        (try rw [hji74] at A72)
                        have hji74w : (IntKind.i64.wrap ((t108.length : Int) - 1)) = ji74 := (i64_w _).trans hji74
                        by_cases c75 : 0 ≤ (ji74)
                        · rw [if_pos c75] at H
                          have c75b0 : decide (0 ≤ (ji74)) = true := decide_eq_true c75
                          clear c75
                          by_cases c76 : (ji74) < (t108.length : Int)
                          · rw [if_pos c76] at H
                            have c76b0 : decide ((ji74) < (t108.length : Int)) = true := decide_eq_true c76
                            clear c76
                            obtain rfl := Option.some.inj H
                            obtain ⟨Ao77, co77, eo77⟩ := Kd.V_slice HO_10.out
                            subst eo77
                            go_wp2_with (first | ((with_reducible refine gate_callee (f := 6) rfl ?_); refine goesL_ (some 121) rfl rfl Try.func6 (by kernel_rfl) rfl #[.slice A0 l0.length c0] rfl (by (try simp only [List.map_toArray, List.map_cons, List.map_nil]); first | done | rfl | (simp only [List.length_drop, List.length_take]; rfl)) ?_; (with_reducible refine (fareboxlaw32_trim.calls kj55 (fun k_ => k_ < w.heap.size) _ _ l0 t141 _ ?side1 A71.out).mono ?_); (case side1 => exact Kd.V_mk HC0.out (Kd.F_below (Kd.C_F (Kd.heap_int .u8) HR0.out) (by repeat (first | (with_reducible first | exact HB.out | apply below_alloc | apply pw_below_drewN | apply below_drew1) | exact HB.out)))); rintro e w78 ⟨v142, rfl, ho0, hb⟩; refine ⟨_, rfl, ?_⟩; have n0_ := Aside0.mk (Kd.V_below (by (with_reducible repeat (first | apply Kd.V_alloc | apply Kd.V_drewN | apply Kd.V_drew)); exact HO_10.out) hb); have n1_ := Aside0.mk (Kd.V_lower (Kd.V_mono (ok' := fun k_ => True) ho0 (fun k_ hk_ => trivial)) (below_size (by repeat (first | (with_reducible first | exact HB.out | apply below_alloc | apply pw_below_drewN | apply below_drew1) | exact HB.out)))); have n2_ := Aside0.mk (below_step (by repeat (first | (with_reducible first | exact HB.out | apply below_alloc | apply pw_below_drewN | apply below_drew1) | exact HB.out)) hb); clear HO_10; clear HB; have HO_10 := n0_; have HO143 := n1_; have HB := n2_; clear n0_ n1_ n2_; (try clear hb); (try clear hb2); (try clear hk); (try clear hi); (try clear ho0); obtain ⟨Ao79, co79, eo79⟩ := Kd.V_slice HO143.out; subst eo79) | ((with_reducible refine gate_callee (f := 6) rfl ?_); refine goesL_ (some 124) rfl rfl Try.func6 (by kernel_rfl) rfl #[.slice A1 l1.length c1] rfl (by (try simp only [List.map_toArray, List.map_cons, List.map_nil]); first | done | rfl | (simp only [List.length_drop, List.length_take]; rfl)) ?_; (with_reducible refine (fareboxlaw32_trim.calls kj55 (fun k_ => k_ < w.heap.size) _ _ l1 t144 _ ?side1 A72.out).mono ?_); (case side1 => exact Kd.V_mk HC1.out (Kd.F_below (Kd.C_F (Kd.heap_int .u8) HR1.out) (by repeat (first | (with_reducible first | exact HB.out | apply below_alloc | apply pw_below_drewN | apply below_drew1) | exact HB.out)))); rintro e w80 ⟨v145, rfl, ho0, hb⟩; refine ⟨_, rfl, ?_⟩; have n0_ := Aside0.mk (Kd.V_below (by (with_reducible repeat (first | apply Kd.V_alloc | apply Kd.V_drewN | apply Kd.V_drew)); exact HO_10.out) hb); have n1_ := Aside0.mk (Kd.V_below (by (with_reducible repeat (first | apply Kd.V_alloc | apply Kd.V_drewN | apply Kd.V_drew)); exact HO143.out) hb); have n2_ := Aside0.mk (Kd.V_lower (Kd.V_mono (ok' := fun k_ => True) ho0 (fun k_ hk_ => trivial)) (below_size (by repeat (first | (with_reducible first | exact HB.out | apply below_alloc | apply pw_below_drewN | apply below_drew1) | exact HB.out)))); have n3_ := Aside0.mk (below_step (by repeat (first | (with_reducible first | exact HB.out | apply below_alloc | apply pw_below_drewN | apply below_drew1) | exact HB.out)) hb); clear HO_10; clear HO143; clear HB; have HO_10 := n0_; have HO143 := n1_; have HO146 := n2_; have HB := n3_; clear n0_ n1_ n2_ n3_; (try clear hb); (try clear hb2); (try clear hk); (try clear hi); (try clear ho0); obtain ⟨Ao81, co81, eo81⟩ := Kd.V_slice HO146.out; subst eo81; have p147 : 0 ≤ ((ji74) : Int) := of_decide_eq_true (by first | (with_reducible assumption) | assumption); have q147 : (ji74) < (t108.length : Int) := of_decide_eq_true (by first | (with_reducible assumption) | assumption); obtain ⟨ad147, e147, hx147_0⟩ := Kd.at_int (Kd.V_reads' HO_10.out).2.2 (ji74) p147 q147; cases e147; replace p147 := eq_true p147; replace q147 := eq_true q147))
                            go_ret
                            exact ⟨by first | rfl | (simp [errW_none, errW_some] <;> rfl) | (simp only [← hji74]; first | rfl | (simp [errW_none, errW_some] <;> rfl)) | (simp [*, errW_none, errW_some] <;> rfl), by repeat (first | (with_reducible first | exact HB.out | apply below_alloc | apply pw_below_drewN | apply below_drew1) | exact HB.out)⟩
                          · rw [if_neg c76] at H
                            exact absurd H (by simp)
                        · rw [if_neg c75] at H
                          exact absurd H (by simp)
                      · rw [if_neg c73] at H
                        have c73b0 : ((t108.length : Int) == (wrap64 ((wrap64 ((t141.length : Int) + (t144.length : Int))) - 1))) = false := beq_eq_false_iff_ne.mpr c73
                        have c73b1 : ((t108.length : Int) != (wrap64 ((wrap64 ((t141.length : Int) + (t144.length : Int))) - 1))) = true := bne_iff_ne.mpr c73
                        obtain rfl := Option.some.inj H
                        obtain ⟨Ao82, co82, eo82⟩ := Kd.V_slice HO_10.out
                        subst eo82
                        go_wp2_with (first | ((with_reducible refine gate_callee (f := 6) rfl ?_); refine goesL_ (some 121) rfl rfl Try.func6 (by kernel_rfl) rfl #[.slice A0 l0.length c0] rfl (by (try simp only [List.map_toArray, List.map_cons, List.map_nil]); first | done | rfl | (simp only [List.length_drop, List.length_take]; rfl)) ?_; (with_reducible refine (fareboxlaw32_trim.calls kj55 (fun k_ => k_ < w.heap.size) _ _ l0 t141 _ ?side1 A71.out).mono ?_); (case side1 => exact Kd.V_mk HC0.out (Kd.F_below (Kd.C_F (Kd.heap_int .u8) HR0.out) (by repeat (first | (with_reducible first | exact HB.out | apply below_alloc | apply pw_below_drewN | apply below_drew1) | exact HB.out)))); rintro e w83 ⟨v142, rfl, ho0, hb⟩; refine ⟨_, rfl, ?_⟩; have n0_ := Aside0.mk (Kd.V_below (by (with_reducible repeat (first | apply Kd.V_alloc | apply Kd.V_drewN | apply Kd.V_drew)); exact HO_10.out) hb); have n1_ := Aside0.mk (Kd.V_lower (Kd.V_mono (ok' := fun k_ => True) ho0 (fun k_ hk_ => trivial)) (below_size (by repeat (first | (with_reducible first | exact HB.out | apply below_alloc | apply pw_below_drewN | apply below_drew1) | exact HB.out)))); have n2_ := Aside0.mk (below_step (by repeat (first | (with_reducible first | exact HB.out | apply below_alloc | apply pw_below_drewN | apply below_drew1) | exact HB.out)) hb); clear HO_10; clear HB; have HO_10 := n0_; have HO143 := n1_; have HB := n2_; clear n0_ n1_ n2_; (try clear hb); (try clear hb2); (try clear hk); (try clear hi); (try clear ho0); obtain ⟨Ao84, co84, eo84⟩ := Kd.V_slice HO143.out; subst eo84) | ((with_reducible refine gate_callee (f := 6) rfl ?_); refine goesL_ (some 124) rfl rfl Try.func6 (by kernel_rfl) rfl #[.slice A1 l1.length c1] rfl (by (try simp only [List.map_toArray, List.map_cons, List.map_nil]); first | done | rfl | (simp only [List.length_drop, List.length_take]; rfl)) ?_; (with_reducible refine (fareboxlaw32_trim.calls kj55 (fun k_ => k_ < w.heap.size) _ _ l1 t144 _ ?side1 A72.out).mono ?_); (case side1 => exact Kd.V_mk HC1.out (Kd.F_below (Kd.C_F (Kd.heap_int .u8) HR1.out) (by repeat (first | (with_reducible first | exact HB.out | apply below_alloc | apply pw_below_drewN | apply below_drew1) | exact HB.out)))); rintro e w85 ⟨v145, rfl, ho0, hb⟩; refine ⟨_, rfl, ?_⟩; have n0_ := Aside0.mk (Kd.V_below (by (with_reducible repeat (first | apply Kd.V_alloc | apply Kd.V_drewN | apply Kd.V_drew)); exact HO_10.out) hb); have n1_ := Aside0.mk (Kd.V_below (by (with_reducible repeat (first | apply Kd.V_alloc | apply Kd.V_drewN | apply Kd.V_drew)); exact HO143.out) hb); have n2_ := Aside0.mk (Kd.V_lower (Kd.V_mono (ok' := fun k_ => True) ho0 (fun k_ hk_ => trivial)) (below_size (by repeat (first | (with_reducible first | exact HB.out | apply below_alloc | apply pw_below_drewN | apply below_drew1) | exact HB.out)))); have n3_ := Aside0.mk (below_step (by repeat (first | (with_reducible first | exact HB.out | apply below_alloc | apply pw_below_drewN | apply below_drew1) | exact HB.out)) hb); clear HO_10; clear HO143; clear HB; have HO_10 := n0_; have HO143 := n1_; have HO146 := n2_; have HB := n3_; clear n0_ n1_ n2_ n3_; (try clear hb); (try clear hb2); (try clear hk); (try clear hi); (try clear ho0); obtain ⟨Ao86, co86, eo86⟩ := Kd.V_slice HO146.out; subst eo86))
                        go_ret
                        exact ⟨by first | rfl | (simp [errW_none, errW_some] <;> rfl) | (simp [*, errW_none, errW_some] <;> rfl), by repeat (first | (with_reducible first | exact HB.out | apply below_alloc | apply pw_below_drewN | apply below_drew1) | exact HB.out)⟩

end Go.Proofs.Yticfidlclofbbaa.Lp
