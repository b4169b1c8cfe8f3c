/- What the document's 'tried' comes to: where there is a near word, that one. -/
import Derived.Test.YtgcibhbhbgoacaaDoorEu
namespace Go.Proofs.YtgcibhbhbgoacaaDoor
open Go.Proofs.YtgcibhbhbgoacaaDoor.G Go.Proofs.YtgcibhbhbgoacaaDoor.Re Go.Proofs.YtgcibhbhbgoacaaDoor.Rd FB
open Go.RowKit Go.Proofs.YtgcibhbhbgoacaaDoorW.PrintWords
set_option linter.unusedVariables false
set_option linter.unusedSimpArgs false
def valT (W R A : List F) (p : Nat) : F := if E (PS.of A) (rh W.length p) = 0 then W.getD p 0 + (loc W.length p * E (PS.of R) (rh W.length p)) * F.inv (slp (A.length / 2) (PS.of A) (rh W.length p)) else W.getD p 0
theorem msum_part (N : Nat) (f : Nat → F) : ∀ Q : List Nat, Q.Nodup → (∀ q ∈ Q, q < N) → msum (List.range N) (fun p => if p ∈ Q then f p else 0) = msum Q f
  | [], _, _ => msum_zero (fun p _ => by rw [if_neg (by simp)])
  | q :: qs, hn, hb => by
    have hn' := List.nodup_cons.1 hn
    have e : msum (List.range N) (fun p => if p ∈ q :: qs then f p else 0) = msum (List.range N) (fun p => (if p = q then f p else 0) + (if p ∈ qs then f p else 0)) := by
      refine msum_congr fun p _ => ?_
      by_cases h1 : p = q
      · subst h1
        rw [if_pos (List.mem_cons_self ..), if_pos rfl, if_neg hn'.1, F.add_zero]
      · rw [if_neg h1, F.zero_add]
        by_cases h2 : p ∈ qs
        · rw [if_pos h2, if_pos (List.mem_cons_of_mem _ h2)]
        · rw [if_neg h2, if_neg (fun h => (List.mem_cons.1 h).elim h1 h2)]
    rw [e, msum_add, msum_part N f qs hn'.2 (fun x hx => hb x (List.mem_cons_of_mem _ hx)), msum_single (a := q) List.nodup_range (List.mem_range.2 (hb q (List.mem_cons_self ..))) (fun b _ hb => by rw [if_neg hb]), if_pos rfl]
    rfl
theorem msum_sub (N : Nat) (f : Nat → F) (Q : List Nat) (hn : Q.Nodup) (hb : ∀ q ∈ Q, q < N) (hz : ∀ p, p < N → p ∉ Q → f p = 0) : msum (List.range N) f = msum Q f := by
  rw [← msum_part N f Q hn hb]
  refine msum_congr fun p hp => ?_
  by_cases h : p ∈ Q
  · rw [if_pos h]
  · rw [if_neg h, hz p (List.mem_range.1 hp) h]
theorem missed_mem {W r : List F} {H : List Nat} {p : Nat} : p ∈ missed W r H ↔ p < W.length ∧ W.getD p 0 ≠ r.getD p 0 ∧ p ∉ H := by
  unfold missed
  rw [List.mem_filter, List.mem_range]
  simp only [Bool.and_eq_true, decide_eq_true_eq, Bool.not_eq_true', List.contains_eq_mem, decide_eq_false_iff_not]
theorem tried_parts (W : List F) (c : Nat) (H : List Nat) (h1 : 1 ≤ c) (h2 : c ≤ 64) (h3 : c < W.length) (h4 : W.length ≤ 255) (hH : H.length ≤ c) (hn : H.Nodup) (hb : ∀ h ∈ H, h < W.length) :
    ∃ G TU R B A : List F, Ev (fun k => fareboxref34_holed.f k (W.length : Int) (H.map Int.ofNat)) (Iz G) ∧ Ev (fun k => fareboxref34_times.f k (Iz ((List.range c).map (syn W))) (Iz G)) (Iz TU) ∧ c ≤ TU.length ∧ TU.length ≤ 1000 ∧
      Ev (fun k => fareboxref34_euclid.f k (Iz (TU.take c)) (c : Int) (H.length : Int)) (Iz R, Iz B) ∧ Ev (fun k => fareboxref34_times.f k (Iz B) (Iz G)) (Iz A) ∧ R.length ≤ 15000 ∧ A.length ≤ 20000 ∧
      (∃ d, (PS.of R).below d ∧ d ≤ 1000) ∧ (∃ d, (PS.of A).below d ∧ d ≤ 1000) ∧ ∀ r, Near W c H r → r = (List.range W.length).map (valT W R A) := by
  obtain ⟨G, g1, g2, g3⟩ := holed_ev W.length h4 H hb (by omega)
  obtain ⟨TU, t1, t2, t3⟩ := times_ev ((List.range c).map (syn W)) G (by simp; omega)
  rw [List.length_map, List.length_range] at t1
  obtain ⟨R, B, r1, r2⟩ := euclid_ev c H.length (TU.take c) h2 hH (by rw [List.length_take]; omega)
  have lB := r1.lenB
  have lR := r1.lenR
  obtain ⟨A, a1, a2, a3⟩ := times_ev B G (by omega)
  obtain ⟨PA, BA, dR, bB, e1, e2, e3, e4, e5, e6, e7⟩ := r1.ex
  have hAb : (PS.of A).below 1000 := by
    rw [a2, g2]
    exact (e4.mul (lam_below W.length H)).mono (by omega)
  refine ⟨G, TU, R, B, A, g3, t3, by omega, by omega, r2, a3, lR, by omega, ⟨dR, e2, by omega⟩, ⟨1000, hAb, by omega⟩, fun r hr => ?_⟩
  have hfew := hr.few
  obtain ⟨U, hU⟩ : ∃ U, U = missed W r H := ⟨_, rfl⟩
  rw [← hU] at hfew
  obtain ⟨e, he⟩ : ∃ e : Nat → F, e = fun p => W.getD p 0 + r.getD p 0 := ⟨_, rfl⟩
  have hmem : ∀ p, p ∈ U ↔ p < W.length ∧ W.getD p 0 ≠ r.getD p 0 ∧ p ∉ H := fun p => by rw [hU]; exact missed_mem
  have hUn : U.Nodup := by rw [hU]; exact nodup_filter _ List.nodup_range
  have hUH : (U ++ H).Nodup := List.nodup_append.2 ⟨hUn, hn, fun a ha b hb' e => ((hmem a).1 ha).2.2 (e ▸ hb')⟩
  have hbd : ∀ q ∈ U ++ H, q < W.length := fun q hq => (List.mem_append.1 hq).elim (fun h => ((hmem q).1 h).1) (hb q)
  have hzero : ∀ p, p < W.length → p ∉ U ++ H → W.getD p 0 = r.getD p 0 := fun p hp hq => by
    apply Classical.byContradiction
    intro hne
    exact hq (List.mem_append.2 (.inl ((hmem p).2 ⟨hp, hne, fun h => hq (List.mem_append.2 (.inr h))⟩)))
  have hsyn : ∀ n, n < c → syn W n = serE W.length e (U ++ H) n := fun n hn => by
    have h := syn_add (a := W) (b := r) hr.len.symm n
    rw [hr.code n hn, F.add_zero] at h
    rw [h, serE_at, he]
    exact msum_sub W.length _ (U ++ H) hUH hbd (fun p hp hq => by rw [hzero p hp hq, F.add_self, F.zero_mul])
  have hT : ∀ n, n < c → PS.of (TU.take c) n = (serE W.length e (U ++ H) * lam W.length H) n := fun n hn => by
    have e0 : PS.of (TU.take c) n = PS.of TU n := by
      show (TU.take c).getD n 0 = TU.getD n 0
      rw [List.getD_eq_getElem?_getD, List.getD_eq_getElem?_getD, List.getElem?_take, if_pos hn]
    rw [e0, t2, g2, PS.mul_comm, PS.mul_comm (serE W.length e (U ++ H))]
    refine mul_congr_lo c n _ _ _ hn (fun i hi => ?_)
    rw [← hsyn i hi]
    show ((List.range c).map (syn W)).getD i 0 = syn W i
    rw [List.getD_eq_getElem?_getD, List.getElem?_map, List.getElem?_range hi]
    rfl
  have hlen : (U ++ H).length = U.length + H.length := List.length_append
  obtain ⟨M, m, m1, m2, m3, m4, m5⟩ := sugi (e := e) h4 hUH hbd hfew h2 (fun p hp => by
    rw [he]
    exact fun h => ((hmem p).1 hp).2.1 (F.add_eq_zero.1 h)) hT r1.cong e1 e2 e3 e4 e5 e6 e7
  have hA : PS.of A = PS.of B * lam W.length H := by rw [a2, g2]
  refine getD_ext (by rw [hr.len, List.length_map, List.length_range]) fun p hp => ?_
  rw [hr.len] at hp
  have hv : ((List.range W.length).map (valT W R A)).getD p 0 = valT W R A p := by
    rw [List.getD_eq_getElem?_getD, List.getElem?_map, List.getElem?_range hp]
    rfl
  rw [hv]
  unfold valT
  rw [hA]
  by_cases hq : p ∈ U ++ H
  · obtain ⟨f1, f2⟩ := forney_in (e := e) h4 hUH (by omega) hbd m1 m2 m5 m3 m4 hq (L := A.length) (by rw [← hA]; exact PS.of_below A)
    rw [if_pos f1, f2, he]
    show r.getD p 0 = W.getD p 0 + (W.getD p 0 + r.getD p 0)
    rw [F.add_cancel]
  · rw [if_neg (forney_out h4 hp (by omega) hbd m1 m2 m5 m3 hq)]
    exact (hzero p hp hq).symm
end Go.Proofs.YtgcibhbhbgoacaaDoor
