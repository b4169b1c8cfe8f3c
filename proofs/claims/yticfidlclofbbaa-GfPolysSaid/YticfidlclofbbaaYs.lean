/- The law GfPolys, in plain lists. -/
import Derived.Test.YticfidlclofbbaaLp1
import Derived.Test.YticfidlclofbbaaTr
namespace Go.Proofs.Yticfidlclofbbaa.Lp
open Go.RowKit Go.Proofs.YticfidlclofbbaaW.PrintWords FB Go.Proofs.Yticfidlclofbbaa.G

theorem Ev.ifT {α : Type} {c : Prop} [Decidable c] {f g : Nat → Option α} {r : α} (h : c) (e : Ev f r) : Ev (fun k => if c then f k else g k) r := Ev.congr (fun _ => if_pos h) e
theorem Ev.ifF {α : Type} {c : Prop} [Decidable c] {f g : Nat → Option α} {r : α} (h : ¬ c) (e : Ev g r) : Ev (fun k => if c then f k else g k) r := Ev.congr (fun _ => if_neg h) e
theorem evL_canon {p : PS} {d : Nat} (h : p.below d) (x : F) : evL (canon p d) x = PS.ev d p x := by
  rw [← evL_of_below _ _ d (canon_length _ _), of_canon h]
theorem mulP_comm (p q : List F) : mulP p q = mulP q p := by unfold mulP; rw [PS.mul_comm, Nat.add_comm]
theorem add_below (p q : List F) : (PS.of p + PS.of q).below (max p.length q.length) := ((PS.of_below p).mono (by omega)).add ((PS.of_below q).mono (by omega))
theorem evL_addP (p q : List F) (x : F) : evL (canon (PS.of p + PS.of q) (max p.length q.length)) x = evL p x + evL q x := by
  rw [evL_canon (add_below p q), PS.ev_add, evL_of_below _ _ _ (by omega), evL_of_below _ _ _ (by omega)]
theorem evL_mulP (p q : List F) (x : F) : evL (mulP p q) x = evL p x * evL q x := by
  unfold mulP; rw [evL_canon (mul_below' p q), PS.ev_mul (PS.of_below p) (PS.of_below q)]; rfl
theorem mulP_zero {p q : List F} (h : shortL p = [] ∨ shortL q = []) : mulP p q = [] := by
  have hz : PS.of p * PS.of q = 0 := by
    rcases h with h | h
    · rw [← of_shortL p, h, PS.of_nil, PS.zero_mul]
    · rw [← of_shortL q, h, PS.of_nil, PS.mul_zero]
  refine Short.eq (short_canon _ _) short_nil ?_
  show PS.of (mulP p q) = _
  rw [of_mulP, hz]; rfl
theorem mulP_length {p q : List F} (hp : shortL p ≠ []) (hq : shortL q ≠ []) : (mulP p q).length = (shortL p).length + (shortL q).length - 1 := by
  have lp := List.length_pos_iff.2 hp
  have lq := List.length_pos_iff.2 hq
  have b1 : (PS.of p).below ((shortL p).length - 1 + 1) := by rw [← of_shortL p, show (shortL p).length - 1 + 1 = (shortL p).length by omega]; exact PS.of_below _
  have b2 : (PS.of q).below ((shortL q).length - 1 + 1) := by rw [← of_shortL q, show (shortL q).length - 1 + 1 = (shortL q).length by omega]; exact PS.of_below _
  have top := PS.mul_top b1 b2
  have t1 : PS.of p ((shortL p).length - 1) ≠ 0 := by rw [← of_shortL p]; exact shortL_last p hp
  have t2 : PS.of q ((shortL q).length - 1) ≠ 0 := by rw [← of_shortL q]; exact shortL_last q hq
  have hb := b1.mul b2
  have hs : Short (mulP p q) := short_canon _ _
  have h1 : (mulP p q).length ≤ _ := hs.length_le (d := (shortL p).length - 1 + 1 + ((shortL q).length - 1 + 1) - 1) (by rw [of_mulP]; exact hb)
  have h2 : ¬ (mulP p q).length ≤ (shortL p).length - 1 + ((shortL q).length - 1) := by
    intro h
    have := PS.of_below (mulP p q) _ h
    rw [of_mulP, top] at this
    exact F.mul_ne_zero t1 t2 this
  omega
theorem polys_ev (p q : List F) (x : F) (hp : p.length ≤ 140737488351232) (hq : q.length ≤ 140737488351232) : Ev (fun k => fareboxlaw32_GfPolys.f k (Iz p) (Iz q) (zF x)) true := by
  unfold fareboxlaw32_GfPolys.f
  have lq := shortL_length q
  have lp := shortL_length p
  by_cases hb : p.length + q.length ≤ 512
  · refine Ev.ifF (by rw [Iz_length, Iz_length, w64 _ (by omega) (by omega)]; omega) ?_
    have hS := polyAdd_ev p q (by omega) (by omega)
    have hS' := polyAdd_ev q p (by omega) (by omega)
    rw [PS.add_comm, Nat.max_comm] at hS'
    have evS : ∀ y, evL (canon (PS.of p + PS.of q) (max p.length q.length)) y = evL p y + evL q y := evL_addP p q
    have hSof := of_canon (add_below p q)
    have lS := canon_length (PS.of p + PS.of q) (max p.length q.length)
    generalize canon (PS.of p + PS.of q) (max p.length q.length) = S at hS hS' evS hSof lS
    refine Ev.bind hS ?_
    refine Ev.bind (polyMul_ev p q hb) ?_
    refine Ev.bind (polyMul_ev q p (by omega)) ?_
    have hR := polyAdd_ev S q (by omega) (by omega)
    have hc : canon (PS.of S + PS.of q) (max S.length q.length) = shortL p := by
      refine (shortL_eq_canon (add_below S q) ?_).symm
      rw [hSof, PS.add_assoc, PS.add_self, PS.add_zero]
    rw [hc] at hR
    have evT := evL_mulP p q x
    have lT := canon_length (PS.of p * PS.of q) (p.length + q.length)
    change (mulP p q).length ≤ _ at lT
    have eT := mulP_comm q p
    have hlen := @mulP_length p q
    have hzero := @mulP_zero p q
    have hTs : Short (mulP p q) := short_canon _ _
    rw [eT]
    generalize mulP p q = T at evT lT hlen hzero hTs
    refine Ev.ifT rfl (Ev.ifT rfl ?_)
    refine Ev.bind (same_ev T T (by omega)) ?_
    refine Ev.ifT (by simp) ?_
    refine Ev.bind hS' ?_
    refine Ev.bind (same_ev S S (by omega)) ?_
    refine Ev.ifT (by simp) ?_
    refine Ev.bind hR ?_
    refine Ev.bind (trim_ev p (by omega)) ?_
    refine Ev.bind (same_ev _ _ (by omega)) ?_
    rw [decide_eq_true rfl]
    refine Ev.step (fun k => by simp only [fareboxlaw32_GfPolys.j0]; rw [if_neg (by decide)]) ?_
    refine Ev.bind (polyEval_ev S x (by omega)) ?_
    refine Ev.bind (polyEval_ev p x (by omega)) ?_
    refine Ev.bind (polyEval_ev q x (by omega)) ?_
    refine Ev.congr (fun k => by rw [gfAdd_at, Option.bind_some]) ?_
    refine Ev.ifT (by rw [evS]) ?_
    refine Ev.bind (polyEval_ev T x (by omega)) ?_
    refine Ev.bind (mul_ev _ _) ?_
    rw [evT, bne_self_eq_false]
    refine Ev.step (fun k => by simp only [fareboxlaw32_GfPolys.j1]; rw [if_neg (by decide)]) ?_
    refine Ev.bind (trim_ev p (by omega)) ?_
    by_cases hsp : shortL p = []
    · refine Ev.ifT (by rw [hsp]; rfl) ?_
      rw [hzero (.inl hsp)]
      refine Ev.step (fun k => by simp only [fareboxlaw32_GfPolys.j2]; rw [if_pos trivial, if_pos (by rfl)]) ?_
      refine Ev.bind (f := fun _ t => some (t == 1)) (mul_ev 1 1) ?_
      rw [F.mul_one]; exact Ev.now _
    · have l1 := List.length_pos_iff.2 hsp
      refine Ev.ifF (by rw [Iz_length]; omega) ?_
      refine Ev.bind (trim_ev q (by omega)) ?_
      by_cases hsq : shortL q = []
      · rw [hzero (.inr hsq), hsq]
        refine Ev.step (fun k => by simp only [fareboxlaw32_GfPolys.j2]; rw [if_pos (by rfl), if_pos (by rfl)]) ?_
        refine Ev.bind (f := fun _ t => some (t == 1)) (mul_ev 1 1) ?_
        rw [F.mul_one]; exact Ev.now _
      · have l2 := List.length_pos_iff.2 hsq
        have hl := hlen hsp hsq
        rw [show ((((Iz (shortL q)).length : Nat) : Int) == 0) = false by rw [Iz_length]; simpa using hsq]
        refine Ev.step (fun k => by simp only [fareboxlaw32_GfPolys.j2]; rw [if_neg (by decide)]) ?_
        refine Ev.bind (trim_ev p (by omega)) ?_
        refine Ev.bind (trim_ev q (by omega)) ?_
        have e1 : wrap64 (((Iz T).length : Int) - 1) = ((T.length - 1 : Nat) : Int) := by rw [Iz_length, w64 _ (by omega) (by omega)]; omega
        rw [e1, rd_IzN, Iz_length, Iz_length, Iz_length]
        refine Ev.ifT (by rw [w64 (((shortL p).length : Int) + _) (by omega) (by omega), w64 _ (by omega) (by omega)]; omega) ?_
        refine Ev.ifT (by omega) (Ev.ifT (by omega) ?_)
        have hne := hTs.last (by intro h; rw [h] at hl; simp at hl; omega)
        rw [show (zF (T.getD (T.length - 1) 0) != 0) = true by rw [bne_iff_ne]; exact fun h => hne (zF_eq_zero.1 h)]
        exact Ev.now _
  · refine Ev.ifT (by rw [Iz_length, Iz_length, w64 _ (by omega) (by omega)]; omega) ?_
    refine Ev.congr (fun k => by rw [polyMul_long p q hp hq (by omega) k, Option.bind_some, if_neg (by decide)]; rfl) (Ev.now _)
theorem u8s_bd {l : List Int} (h : ∀ x ∈ l, (Lit.int .u8 x).wf = true) : ∀ x ∈ l, 0 ≤ x ∧ x < 256 := fun x hx => by
  have := h x hx
  have h2 : 0 ≤ x ∧ x ≤ 255 := by simpa [Lit.wf, IntKind.min, IntKind.max, IntKind.signed, IntKind.bits] using this
  omega
theorem gfPolys_walk (A0 : Option Addr) (c0 : Nat) (l0 : List Int) (A1 : Option Addr) (c1 : Nat) (l1 : List Int) (a2 : Int) (w : World) (hr0 : Kd.C (Kd.int .u8) w A0 l0.length l0) (hc0 : l0.length ≤ c0) (y0 : l0.length * 1 ≤ 140737488351232) (w0 : ∀ x ∈ l0, (Lit.int .u8 x).wf = true) (hr1 : Kd.C (Kd.int .u8) w A1 l1.length l1) (hc1 : l1.length ≤ c1) (y1 : l1.length * 1 ≤ 140737488351232) (w1 : ∀ x ∈ l1, (Lit.int .u8 x).wf = true) (w2 : (Lit.int .u8 a2).wf = true) :
    Calls Try.prog 4 #[.slice A0 l0.length c0, .slice A1 l1.length c1, .int .u8 a2] w fun e w' => e = .returned (.bool true) ∧ Below w.heap.size w w' := by
  obtain ⟨p, rfl⟩ := Iz_of (u8s_bd w0)
  obtain ⟨q, rfl⟩ := Iz_of (u8s_bd w1)
  have h2 : 0 ≤ a2 ∧ a2 ≤ 255 := by simpa [Lit.wf, IntKind.min, IntKind.max, IntKind.signed, IntKind.bits] using w2
  obtain ⟨x, rfl⟩ := zF_of h2.1 (by omega)
  obtain ⟨k, hk⟩ := (polys_ev p q x (by rw [Iz_length] at y0; omega) (by rw [Iz_length] at y1; omega)).rounds
  exact fareboxlaw32_GfPolys.calls k A0 c0 _ A1 c1 _ _ true w hr0 hc0 hr1 hc1 hk
end Go.Proofs.Yticfidlclofbbaa.Lp
