/- law34.RsDecodes returns true: the walk (Dx) and the plain answers joined. -/
import Derived.Test.YtgcibhbhbgoacaaDoorDx
import Derived.Test.YtgcibhbhbgoacaaDoorPf
namespace Go.Proofs.YtgcibhbhbgoacaaDoor
open Go.Proofs.YtgcibhbhbgoacaaDoor.G FB
open Go.RowKit Go.Proofs.YtgcibhbhbgoacaaDoorW.PrintWords
theorem sameI_self (l : List Int) (hl : l.length ≤ 140737488355328) : Ev (fun k => fareboxlaw34_sameInts.f k l l) true := by
  have h := sameInts_ev l l hl
  rw [decide_eq_true rfl] at h
  exact h
theorem syn_both (W : List F) (check : Int) (hW : W.length ≤ 140737488355328) : ∃ (s : List F) (e : Int), s.length ≤ 64 ∧ Ev (fun k => rs_Syndromes.f k (Iz W) check) (Iz s, e) ∧ Ev (fun k => Rd.fareboxref34_Syndromes.f k (Iz W) check) (Iz s, e) := by
  have h2 := rSyndromes_ev W check hW
  by_cases h : chk W.length check = 0
  · obtain ⟨z1, z2, z3, z4⟩ := chk_zero h
    rw [if_pos h] at h2
    refine ⟨(List.range check.toNat).map (syn W), 0, by rw [List.length_map, List.length_range]; omega, ?_, h2⟩
    refine Ev.bind (checked_ev W check) ?_
    refine Ev.congr (fun k => if_pos h) ?_
    have hv := values_ev W hW check.toNat (by omega)
    rw [show ((check.toNat : Nat) : Int) = check by omega] at hv
    exact Ev.bind hv (Ev.now _)
  · rw [if_neg h] at h2
    refine ⟨[], chk W.length check, by simp, ?_, h2⟩
    refine Ev.bind (checked_ev W check) ?_
    exact Ev.congr (f := fun _ => some ([], chk W.length check)) (fun k => if_neg h) (Ev.now _)
theorem decR_len {W : List F} {check : Int} {hs : List Int} {a : List F} {p : List Nat} {d : Int} (h : decR W check hs = (a, p, d)) : a.length ≤ 255 ∧ p.length ≤ 255 := by
  by_cases h1 : chk W.length check = 0
  · obtain ⟨z1, z2, z3, z4⟩ := chk_zero h1
    cases h2 : holesOk W.length hs [] with
    | false =>
      rw [decR_holes h1 h2] at h
      simp only [Prod.mk.injEq] at h
      obtain ⟨rfl, rfl, rfl⟩ := h
      exact ⟨by simp, by simp⟩
    | true =>
      by_cases h3 : check < (hs.length : Int)
      · rw [decR_many h1 h2 h3] at h
        simp only [Prod.mk.injEq] at h
        obtain ⟨rfl, rfl, rfl⟩ := h
        exact ⟨by simp, by simp⟩
      · cases h4 : decL W check.toNat (hs.map Int.toNat) with
        | none =>
          rw [decR_none h1 h2 h3 h4] at h
          simp only [Prod.mk.injEq] at h
          obtain ⟨rfl, rfl, rfl⟩ := h
          exact ⟨by simp, by simp⟩
        | some r =>
          rw [decR_some h1 h2 h3 h4] at h
          simp only [Prod.mk.injEq] at h
          obtain ⟨rfl, rfl, rfl⟩ := h
          have := diffU_length W r W.length
          rw [List.length_take]
          exact ⟨by omega, by omega⟩
  · rw [decR_chk h1] at h
    simp only [Prod.mk.injEq] at h
    obtain ⟨rfl, rfl, rfl⟩ := h
    exact ⟨by simp, by simp⟩
theorem decodes_ok (W : List F) (check : Int) (hs : List Int) (hW : W.length ≤ 140737488351232) (hh : hs.length ≤ 17592186044032) :
    ∃ k sp sp2 e1 e2 a1 a2 a3 p1 p2 p3 d1 d2 d3, DecOk k check W (turnP W) hs sp sp2 e1 e2 a1 a2 a3 p1 p2 p3 d1 d2 d3 := by
  have hP : (turnP W).length = W.length := turnP_length W
  obtain ⟨s1, e1, l1, ⟨k1, f1⟩, ⟨k2, f2⟩⟩ := syn_both W check (by omega)
  obtain ⟨s2, e2, l2, ⟨k3, f3⟩, ⟨k4, f4⟩⟩ := syn_both (turnP W) check (by omega)
  obtain ⟨a1, p1, d1, hd1⟩ : ∃ a p d, decR W check hs = (a, p, d) := ⟨_, _, _, rfl⟩
  obtain ⟨a2, p2, d2, hd2⟩ : ∃ a p d, decR (turnP W) check hs = (a, p, d) := ⟨_, _, _, rfl⟩
  obtain ⟨a3, p3, d3, hd3⟩ : ∃ a p d, decR (turnP W) check (spentL hs) = (a, p, d) := ⟨_, _, _, rfl⟩
  have b1 := decR_len hd1
  have b2 := decR_len hd2
  have b3 := decR_len hd3
  have hsl := spentL_length hs
  obtain ⟨k5, m1⟩ := marked_ev (Iz W) (by rw [Iz_length]; omega)
  obtain ⟨k6, t1⟩ := turned_ev W (by omega)
  obtain ⟨k7, q1⟩ := same_self s1 (by omega)
  obtain ⟨k8, q2⟩ := same_self s2 (by omega)
  obtain ⟨k9, q3⟩ := same_self a1 (by omega)
  obtain ⟨k10, q4⟩ := same_self a2 (by omega)
  obtain ⟨k11, q5⟩ := same_self a3 (by omega)
  obtain ⟨k12, q6⟩ := same_self W (by omega)
  obtain ⟨k13, q7⟩ := same_self (turnP W) (by omega)
  obtain ⟨k14, q8⟩ := sameI_self (p1.map Int.ofNat) (by rw [List.length_map]; omega)
  obtain ⟨k15, q9⟩ := sameI_self (p2.map Int.ofNat) (by rw [List.length_map]; omega)
  obtain ⟨k16, q10⟩ := sameI_self (p3.map Int.ofNat) (by rw [List.length_map]; omega)
  obtain ⟨k17, q11⟩ := sameI_self hs (by omega)
  obtain ⟨k18, q12⟩ := sameI_self (spentL hs) (by omega)
  obtain ⟨k, hk⟩ : ∃ k, k = k1 + k2 + k3 + k4 + k5 + k6 + k7 + k8 + k9 + k10 + k11 + k12 + k13 + k14 + k15 + k16 + k17 + k18 := ⟨_, rfl⟩
  refine ⟨k, Iz s1, Iz s2, e1, e2, a1, a2, a3, p1, p2, p3, d1, d2, d3, m1 k (by omega), f1 k (by omega), f2 k (by omega), f3 k (by omega), f4 k (by omega), hd1, hd2, hd3, q1 k (by omega), q2 k (by omega), q3 k (by omega), q4 k (by omega), q5 k (by omega), q6 k (by omega), q7 k (by omega),
    q8 k (by omega), q9 k (by omega), q10 k (by omega), q11 k (by omega), q12 k (by omega), t1 k (by omega), hW, by omega, ?_, ?_, hh, ?_, ?_, ?_⟩
  · rw [Iz_length]; omega
  · rw [Iz_length]; omega
  · rw [Iz_length]; omega
  · rw [Iz_length]; omega
  · rw [List.length_map]; omega
theorem bytes_dec {l : List Int} (h : ∀ x ∈ l, (Lit.int .u8 x).wf = true) : ∀ x ∈ l, 0 ≤ x ∧ x < 256 := fun x hx => by
  have := h x hx
  have h2 : 0 ≤ x ∧ x ≤ 255 := by simpa [Lit.wf, IntKind.min, IntKind.max, IntKind.signed, IntKind.bits] using this
  omega
theorem rsDecodes_walk (A0 : Option Addr) (c0 : Nat) (l0 : List Int) (a1 : Int) (A2 : Option Addr) (c2 : Nat) (l2 : List Int) (w : World) (hr0 : Kd.C (Kd.int .u8) w A0 l0.length l0) (hc0 : l0.length ≤ c0) (y0 : l0.length * 1 ≤ 140737488351232) (w0 : ∀ x ∈ l0, (Lit.int .u8 x).wf = true)
    (_w1 : (Lit.int .i64 a1).wf = true) (hr2 : Kd.C (Kd.int .i64) w A2 l2.length l2) (hc2 : l2.length ≤ c2) (y2 : l2.length * 8 ≤ 140737488351232) (_w2 : ∀ x ∈ l2, (Lit.int .i64 x).wf = true) (ht : TabW w) :
    Calls Tryd.prog 4 #[.slice A0 l0.length c0, .int .i64 a1, .slice A2 l2.length c2] w fun e w' => e = .returned (.bool true) ∧ Below w.heap.size w w' := by
  obtain ⟨W, rfl⟩ := Iz_of (bytes_dec w0)
  rw [Iz_length] at y0
  obtain ⟨k, sp, sp2, e1, e2, b1, b2, b3, p1, p2, p3, d1, d2, d3, H⟩ := decodes_ok W a1 l2 (by omega) (by omega)
  exact fareboxlaw34_RsDecodes.full k a1 W _ l2 sp sp2 e1 e2 b1 b2 b3 p1 p2 p3 d1 d2 d3 _ _ w w w.heap.size H (Below.refl _ _) (Nat.le_refl _) ⟨A0, c0, rfl, hc0, hr0⟩ ⟨A2, c2, rfl, hc2, hr2⟩ ht
end Go.Proofs.YtgcibhbhbgoacaaDoor
