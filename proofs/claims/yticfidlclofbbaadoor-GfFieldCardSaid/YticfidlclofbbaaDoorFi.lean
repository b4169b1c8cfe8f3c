/- The law GfField, in plain numbers: the 256 elements with sum and product are a field, for any three of them. -/
import Derived.Test.YticfidlclofbbaaDoorLf1
import Derived.Test.YticfidlclofbbaaDoorEl
namespace Go.Proofs.YticfidlclofbbaaDoor.Lf
open Go.RowKit Go.Proofs.YticfidlclofbbaaDoorW.PrintWords FB Go.Proofs.YticfidlclofbbaaDoor.G

theorem zF_beq (a b : F) : (zF a == zF b) = decide (a = b) := by
  by_cases h : a = b
  · subst h; simp
  · rw [decide_eq_false h, beq_eq_false_iff_ne]; exact fun e => h (zF_inj.1 e)
theorem zF_bne0 (a : F) : (zF a != 0) = !decide (a = 0) := by
  have := zF_beq a 0
  rw [zF_zero] at this
  rw [bne, this]
theorem zF_beq0 (a : F) : (zF a == 0) = decide (a = 0) := by
  have := zF_beq a 0
  rwa [zF_zero] at this
theorem j2_ev (a b : F) : Ev (fun k => fareboxlaw32_GfField.j2 k (zF a) (zF b) false) true := by
  refine Ev.step (f := fun k => (gf_Div.f k (zF a) (zF b)).bind fun t => if (t.2 == (zF b != 0)) = true then (if t.2 = true then (gf_Mul.f k t.1 (zF b)).bind fun u => some (u == zF a) else some true) else some false) (fun k => ?_) ?_
  · simp only [fareboxlaw32_GfField.j2]; rw [if_neg (by decide)]
  · refine Ev.bind (div_ev a b) ?_
    rw [zF_bne0, beq_self_eq_true]
    by_cases hb : b = 0
    · refine Ev.congr (f := fun _ => some true) (fun k => ?_) (Ev.now _)
      simp [hb]
    · refine Ev.congr (f := fun k => (gf_Mul.f k (zF (a * F.inv b)) (zF b)).bind fun u => some (u == zF a)) (fun k => ?_) ?_
      · simp [hb]
      · refine Ev.bind (f := fun _ u => some (u == zF a)) (mul_ev _ _) ?_
        rw [F.mul_assoc, F.inv_mul hb, F.mul_one, beq_self_eq_true]; exact Ev.now _
theorem j1_ev (a b : F) : Ev (fun k => fareboxlaw32_GfField.j1 k (zF a) (zF b) false) true := by
  have last : Ev (fun k => (gf_Mul.f k (zF a) (zF b)).bind fun t => if zF a = 0 then fareboxlaw32_GfField.j2 k (zF a) (zF b) ((t == 0) != true) else fareboxlaw32_GfField.j2 k (zF a) (zF b) ((t == 0) != (zF b == 0))) true := by
    refine Ev.bind (mul_ev a b) ?_
    by_cases ha : a = 0
    · refine Ev.congr (fun k => ?_) (j2_ev a b)
      rw [if_pos (zF_eq_zero.2 ha), zF_beq0, ha, F.zero_mul]; rfl
    · refine Ev.congr (fun k => ?_) (j2_ev a b)
      rw [if_neg (fun h => ha (zF_eq_zero.1 h)), zF_beq0, zF_beq0]
      have : decide (a * b = 0) = decide (b = 0) := by
        by_cases hb : b = 0
        · simp [hb, F.mul_zero]
        · simp [hb, F.mul_ne_zero ha hb]
      rw [this, bne_self_eq_false]
  refine Ev.step (f := fun k => (gf_Inv.f k (zF a)).bind fun t => if (t.2 != (zF a != 0)) = true then fareboxlaw32_GfField.j2 k (zF a) (zF b) true else (if t.2 = true then (gf_Mul.f k (zF a) t.1).bind fun u => (if u = 1 then (gf_Mul.f k (zF a) (zF b)).bind fun t => (if zF a = 0 then fareboxlaw32_GfField.j2 k (zF a) (zF b) ((t == 0) != true) else fareboxlaw32_GfField.j2 k (zF a) (zF b) ((t == 0) != (zF b == 0))) else fareboxlaw32_GfField.j2 k (zF a) (zF b) true) else (gf_Mul.f k (zF a) (zF b)).bind fun t => if zF a = 0 then fareboxlaw32_GfField.j2 k (zF a) (zF b) ((t == 0) != true) else fareboxlaw32_GfField.j2 k (zF a) (zF b) ((t == 0) != (zF b == 0)))) (fun k => ?_) ?_
  · simp only [fareboxlaw32_GfField.j1]; rw [if_neg (by decide)]
  · refine Ev.bind (inv_ev a) ?_
    unfold invP
    rw [zF_bne0, bne_self_eq_false]
    by_cases ha : a = 0
    · refine Ev.congr (fun k => ?_) last
      simp [ha]
    · refine Ev.congr (f := fun k => (gf_Mul.f k (zF a) (zF (F.inv a))).bind fun u => (if u = 1 then (gf_Mul.f k (zF a) (zF b)).bind fun t => (if zF a = 0 then fareboxlaw32_GfField.j2 k (zF a) (zF b) ((t == 0) != true) else fareboxlaw32_GfField.j2 k (zF a) (zF b) ((t == 0) != (zF b == 0))) else fareboxlaw32_GfField.j2 k (zF a) (zF b) true)) (fun k => ?_) ?_
      · simp [ha]
      · refine Ev.bind (mul_ev a (F.inv a)) ?_
        refine Ev.congr (fun k => ?_) last
        rw [F.mul_inv ha, if_pos zF_one]
theorem j0_ev (a b c : F) : Ev (fun k => fareboxlaw32_GfField.j0 k (zF a) (zF b) (zF c) false) true := by
  have h0 : ∀ k, fareboxlaw32_GfField.j0 (k + 1) (zF a) (zF b) (zF c) false = (gf_Mul.f k (zF a) (zF (b + c))).bind fun t112 => (gf_Mul.f k (zF a) (zF b)).bind fun t113 => (gf_Mul.f k (zF a) (zF c)).bind fun t114 => (gf_Add.f t113 t114).bind fun t115 => if t112 = t115 then (gf_Mul.f k (zF a) 1).bind fun t117 => if t117 = zF a then fareboxlaw32_GfField.j1 k (zF a) (zF b) false else fareboxlaw32_GfField.j1 k (zF a) (zF b) true else fareboxlaw32_GfField.j1 k (zF a) (zF b) true := by
    intro k
    have e0 : gf_Add.f (zF a) 0 = some (zF a) := by
      have := gfAdd_at a 0
      rwa [zF_zero, F.add_zero] at this
    have e1 : gf_Add.f (zF a) (zF a) = some 0 := by rw [gfAdd_at, F.add_self]; rfl
    simp only [fareboxlaw32_GfField.j0]
    rw [if_neg (by decide), gfAdd_at, Option.bind_some]
    simp only [e0, e1, Option.bind_some, if_true, show ((0 : Int) != 0) = false from rfl]
  refine Ev.step h0 ?_
  refine Ev.bind (mul_ev _ _) ?_
  refine Ev.bind (mul_ev _ _) ?_
  refine Ev.bind (mul_ev _ _) ?_
  refine Ev.congr (f := fun k => (gf_Mul.f k (zF a) 1).bind fun t117 => if t117 = zF a then fareboxlaw32_GfField.j1 k (zF a) (zF b) false else fareboxlaw32_GfField.j1 k (zF a) (zF b) true) (fun k => ?_) ?_
  · rw [gfAdd_at, Option.bind_some, F.mul_add, if_pos rfl]
  · have h1 := mul_ev a 1
    rw [F.mul_one] at h1
    refine Ev.bind h1 ?_
    refine Ev.congr (fun k => ?_) (j1_ev a b)
    rw [if_pos rfl]
theorem field_ev (a b c : F) : Ev (fun k => fareboxlaw32_GfField.f k (zF a) (zF b) (zF c)) true := by
  unfold fareboxlaw32_GfField.f
  refine Ev.bind (mul_ev a b) ?_
  refine Ev.bind (mul_ev b a) ?_
  rw [F.mul_comm b a]
  refine Ev.congr (f := fun k => (gf_Mul.f k (zF (a * b)) (zF c)).bind fun t105 => (gf_Mul.f k (zF b) (zF c)).bind fun t106 => (gf_Mul.f k (zF a) t106).bind fun t107 => if t105 = t107 then fareboxlaw32_GfField.j0 k (zF a) (zF b) (zF c) (zF (a + b + c) != zF (a + (b + c))) else fareboxlaw32_GfField.j0 k (zF a) (zF b) (zF c) true) (fun k => ?_) ?_
  · rw [if_pos rfl, gfAdd_at, Option.bind_some, gfAdd_at, Option.bind_some, F.add_comm b a, if_pos rfl]
    simp only [gfAdd_at, Option.bind_some]
  · refine Ev.bind (mul_ev _ _) ?_
    refine Ev.bind (mul_ev _ _) ?_
    refine Ev.bind (mul_ev _ _) ?_
    refine Ev.congr (fun k => ?_) (j0_ev a b c)
    rw [F.mul_assoc, if_pos rfl, F.add_assoc, bne_self_eq_false]
theorem u8_bd (n : Int) (h : (Lit.int .u8 n).wf = true) : 0 ≤ n ∧ n ≤ 255 := by
  simpa [Lit.wf, IntKind.min, IntKind.max, IntKind.signed, IntKind.bits] using h
theorem gfField_walk (a0 a1 a2 : Int) (w : World) (w0 : (Lit.int .u8 a0).wf = true) (w1 : (Lit.int .u8 a1).wf = true) (w2 : (Lit.int .u8 a2).wf = true) (ht : TabW w) :
    Calls Tryd.prog 4 #[.int .u8 a0, .int .u8 a1, .int .u8 a2] w fun e w' => e = .returned (.bool true) ∧ Below w.heap.size w w' := by
  have b0 := u8_bd _ w0
  have b1 := u8_bd _ w1
  have b2 := u8_bd _ w2
  obtain ⟨a, rfl⟩ := zF_of b0.1 (by omega)
  obtain ⟨b, rfl⟩ := zF_of b1.1 (by omega)
  obtain ⟨c, rfl⟩ := zF_of b2.1 (by omega)
  obtain ⟨k, hk⟩ := (field_ev a b c).rounds
  refine (fareboxlaw32_GfField.calls k _ _ _ true w hk ht).mono ?_
  rintro e w' ⟨rfl, hd⟩
  exact ⟨rfl, hd.below⟩
end Go.Proofs.YticfidlclofbbaaDoor.Lf
