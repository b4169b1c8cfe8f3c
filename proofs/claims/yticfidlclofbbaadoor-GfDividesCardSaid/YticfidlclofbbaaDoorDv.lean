/- The law GfDivides, in plain lists: quotient times divisor and rest are the whole, and the rest is of a lower degree. -/
import Derived.Test.YticfidlclofbbaaDoorLd1
import Derived.Test.YticfidlclofbbaaDoorPm
namespace Go.Proofs.YticfidlclofbbaaDoor.Ld
open Go.RowKit Go.Proofs.YticfidlclofbbaaDoorW.PrintWords FB Go.Proofs.YticfidlclofbbaaDoor.G

theorem shortL_take_zero (l : List F) (n : Nat) (h : n < l.length) (hz : l.getD n 0 = 0) : shortL (l.take (n + 1)) = shortL (l.take n) := by
  rw [List.take_succ_eq_append_getElem h]
  have : l[n] = 0 := by simpa [List.getD_eq_getElem?_getD, h] using hz
  rw [this, shortL_snoc_zero]
theorem shortL_take_ne (l : List F) (n : Nat) (h : n < l.length) (hz : l.getD n 0 ≠ 0) : shortL (l.take (n + 1)) = l.take (n + 1) := by
  rw [List.take_succ_eq_append_getElem h]
  have : l[n] ≠ 0 := by simpa [List.getD_eq_getElem?_getD, h] using hz
  exact shortL_snoc_ne _ _ this
theorem trim_loop (l : List F) (hl : l.length ≤ 140737488355328) : ∀ n : Nat, n ≤ l.length → Ev (fun k => fareboxlaw32_trim.l0 k (Iz l) (n : Int)) (Iz (shortL (l.take n))) := by
  intro n
  induction n with
  | zero =>
    intro _
    refine Ev.step (f := fun _ => some (Iz (shortL (l.take 0)))) (fun k => ?_) (Ev.now _)
    simp only [fareboxlaw32_trim.l0]
    rw [if_neg (by omega), if_pos (by omega), if_pos (by omega)]
    rfl
  | succ n ih =>
    intro hn
    have e1 : wrap64 (((n + 1 : Nat) : Int) - 1) = (n : Int) := by rw [w64 _ (by omega) (by omega)]; omega
    by_cases hz : l.getD n 0 = 0
    · rw [shortL_take_zero l n (by omega) hz]
      refine Ev.step (f := fun k => fareboxlaw32_trim.l0 k (Iz l) (n : Int)) (fun k => ?_) (ih (by omega))
      simp only [fareboxlaw32_trim.l0]
      rw [e1, if_pos (by omega), if_pos (by omega), if_pos (by rw [Iz_length]; omega), rd_IzN, hz, if_pos zF_zero]
    · rw [shortL_take_ne l n (by omega) hz]
      refine Ev.step (f := fun _ => some (Iz (l.take (n + 1)))) (fun k => ?_) (Ev.now _)
      simp only [fareboxlaw32_trim.l0]
      rw [e1, if_pos (by omega), if_pos (by omega), if_pos (by rw [Iz_length]; omega), rd_IzN, if_neg (fun h => hz (zF_eq_zero.1 h)), if_pos (by omega), if_pos (by rw [Iz_length]; omega), Iz_take]
      rfl
theorem trim_ev (l : List F) (hl : l.length ≤ 140737488355328) : Ev (fun k => fareboxlaw32_trim.f k (Iz l)) (Iz (shortL l)) := by
  have := trim_loop l hl l.length (Nat.le_refl _)
  rw [List.take_length] at this
  refine Ev.congr (fun k => ?_) this
  unfold fareboxlaw32_trim.f
  rw [Iz_length]
theorem divides_ev (p q : List F) (hp : p.length ≤ 140737488351232) (hq : q.length ≤ 140737488351232) : Ev (fun k => fareboxlaw32_GfDivides.f k (Iz p) (Iz q)) true := by
  unfold fareboxlaw32_GfDivides.f
  have lq := shortL_length q
  have lp := shortL_length p
  by_cases h : shortL q = [] ∨ 512 < p.length + q.length
  · refine Ev.bind (polyDiv_no p q hp hq h) ?_
    refine Ev.bind (trim_ev q (by omega)) ?_
    have fin : Ev (fun k => fareboxlaw32_GfDivides.j0 k (Iz p) (Iz q) [] [] false true) true :=
      Ev.step (f := fun _ => some true) (fun k => by simp [fareboxlaw32_GfDivides.j0]) (Ev.now _)
    by_cases hs : shortL q = []
    · refine Ev.congr (fun k => ?_) fin
      rw [if_pos (by rw [hs]; rfl)]
    · have hpos : 0 < (shortL q).length := List.length_pos_iff.2 hs
      have hb : 512 < p.length + q.length := h.resolve_left hs
      refine Ev.congr (fun k => ?_) fin
      have hdec : decide (wrap64 (((Iz p).length : Int) + ((Iz q).length : Int)) > 512) = true := by
        rw [Iz_length, Iz_length, w64 _ (by omega) (by omega)]; simp; omega
      rw [if_neg (by rw [Iz_length]; omega), hdec]
  · have hs : shortL q ≠ [] := fun e => h (.inl e)
    have hb : p.length + q.length ≤ 512 := Nat.le_of_not_lt (fun e => h (.inr e))
    have hpos : 0 < (shortL q).length := List.length_pos_iff.2 hs
    obtain ⟨Q, R, sQ, sR, lQ, lR, hpe, hR, hev⟩ := polyDiv_ev p q hb hs
    refine Ev.bind hev ?_
    refine Ev.bind (trim_ev q (by omega)) ?_
    have hdec : decide (wrap64 (((Iz p).length : Int) + ((Iz q).length : Int)) > 512) = false := by
      rw [Iz_length, Iz_length, w64 _ (by omega) (by omega)]; simp; omega
    refine Ev.congr (fun k => by rw [if_neg (by rw [Iz_length]; omega), hdec]) ?_
    have hRl : R.length ≤ (shortL q).length - 1 := sR.length_le hR
    -- t + r is p
    have hof : PS.of (mulP Q (shortL q)) + PS.of R = PS.of p := by rw [of_mulP, of_shortL, hpe]
    have lm : (mulP Q (shortL q)).length ≤ Q.length + (shortL q).length := canon_length _ _
    have hsum : canon (PS.of (mulP Q (shortL q)) + PS.of R) (max (mulP Q (shortL q)).length R.length) = shortL p := by
      have hbel : (PS.of (mulP Q (shortL q)) + PS.of R).below (max (mulP Q (shortL q)).length R.length) := ((PS.of_below _).mono (by omega)).add ((PS.of_below _).mono (by omega))
      exact (shortL_eq_canon hbel hof.symm).symm
    have hRs : shortL R = R := sR
    have hQs : shortL Q = Q := sQ
    have hRR : Ev (fun k => fareboxlaw32_same.f k (Iz R) (Iz (shortL R))) true := by
      have := same_ev R (shortL R) (by omega)
      rw [hRs] at this ⊢; rwa [decide_eq_true rfl] at this
    have hQQ : Ev (fun k => fareboxlaw32_same.f k (Iz Q) (Iz (shortL Q))) true := by
      have := same_ev Q (shortL Q) (by omega)
      rw [hQs] at this ⊢; rwa [decide_eq_true rfl] at this
    have hPP : Ev (fun k => fareboxlaw32_same.f k (Iz (shortL p)) (Iz (shortL p))) true := by
      have := same_ev (shortL p) (shortL p) (by omega)
      rwa [decide_eq_true rfl] at this
    refine Ev.step (fun k => by simp only [fareboxlaw32_GfDivides.j0]; rw [if_neg (by decide)]) ?_
    refine Ev.bind (trim_ev q (by omega)) ?_
    refine Ev.bind (polyMul_ev Q (shortL q) (by omega)) ?_
    refine Ev.congr (fun k => by simp only [if_true]; rfl) ?_
    have hadd := polyAdd_ev (mulP Q (shortL q)) R (by omega) (by omega)
    rw [hsum] at hadd
    refine Ev.bind hadd ?_
    refine Ev.bind (trim_ev p (by omega)) ?_
    refine Ev.bind hPP ?_
    refine Ev.congr (fun k => by simp only [if_true]; rfl) ?_
    refine Ev.bind (trim_ev q (by omega)) ?_
    refine Ev.congr (fun k => by rw [if_pos (by rw [Iz_length, Iz_length]; omega)]) ?_
    refine Ev.bind (trim_ev R (by omega)) ?_
    refine Ev.bind hRR ?_
    refine Ev.congr (fun k => by simp only [if_true]; rfl) ?_
    refine Ev.bind (trim_ev Q (by omega)) ?_
    refine Ev.bind (f := fun _ t => some t) hQQ ?_
    exact Ev.now _
theorem u8s_bd {l : List Int} (h : ∀ x ∈ l, (Lit.int .u8 x).wf = true) : ∀ x ∈ l, 0 ≤ x ∧ x < 256 := fun x hx => by
  have := h x hx
  have h2 : 0 ≤ x ∧ x ≤ 255 := by simpa [Lit.wf, IntKind.min, IntKind.max, IntKind.signed, IntKind.bits] using this
  omega
theorem gfDivides_walk (A0 : Option Addr) (c0 : Nat) (l0 : List Int) (A1 : Option Addr) (c1 : Nat) (l1 : List Int) (w : World) (hr0 : Kd.C (Kd.int .u8) w A0 l0.length l0) (hc0 : l0.length ≤ c0) (y0 : l0.length * 1 ≤ 140737488351232) (w0 : ∀ x ∈ l0, (Lit.int .u8 x).wf = true) (hr1 : Kd.C (Kd.int .u8) w A1 l1.length l1) (hc1 : l1.length ≤ c1) (y1 : l1.length * 1 ≤ 140737488351232) (w1 : ∀ x ∈ l1, (Lit.int .u8 x).wf = true) (ht : TabW w) :
    Calls Tryd.prog 5 #[.slice A0 l0.length c0, .slice A1 l1.length c1] w fun e w' => e = .returned (.bool true) ∧ Below w.heap.size w w' := by
  obtain ⟨p, rfl⟩ := Iz_of (u8s_bd w0)
  obtain ⟨q, rfl⟩ := Iz_of (u8s_bd w1)
  obtain ⟨k, hk⟩ := (divides_ev p q (by rw [Iz_length] at y0; omega) (by rw [Iz_length] at y1; omega)).rounds
  exact fareboxlaw32_GfDivides.calls k A0 c0 _ A1 c1 _ true w hr0 hc0 hr1 hc1 hk ht
end Go.Proofs.YticfidlclofbbaaDoor.Ld
