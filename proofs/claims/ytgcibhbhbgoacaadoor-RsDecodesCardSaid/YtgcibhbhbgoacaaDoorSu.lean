/- Sugiyama's way with Euclid's steps, and Forney's amounts: plain mathematics over the field of 256. -/
import Derived.Test.YtgcibhbhbgoacaaDoorVa
namespace FB
def PS.geo (a : F) : PS := fun n => fp a n
def gx (a : F) : PS := fun n => if n = 0 then 1 else if n = 1 then a else 0
theorem gx_eq (a : F) : gx a = 1 + PS.sh 1 (PS.C a) := PS.ext fun n => by
  rw [PS.add_at]
  match n with
  | 0 => show (1 : F) = 1 + 0; rw [F.add_zero]
  | 1 => show a = 0 + a; rw [F.zero_add]
  | n + 2 => show (0 : F) = 0 + 0; rw [F.add_zero]
theorem gx_mul (a : F) (p : PS) : gx a * p = p + PS.sh 1 (PS.sc a p) := by rw [gx_eq, PS.add_mul, PS.one_mul, PS.sh_mul, PS.C_mul]
theorem gx_mul_zero (a : F) (p : PS) : (gx a * p) 0 = p 0 := by
  rw [gx_mul, PS.add_at, PS.sh_succ_zero, F.add_zero]
theorem gx_mul_succ (a : F) (p : PS) (n : Nat) : (gx a * p) (n + 1) = p (n + 1) + a * p n := by
  rw [gx_mul, PS.add_at, PS.sh_succ_at, PS.sh_zero, PS.sc_at]
theorem gx_geo (a : F) : gx a * PS.geo a = 1 := PS.ext fun n => by
  cases n with
  | zero => rw [gx_mul_zero]; rfl
  | succ n =>
    rw [gx_mul_succ]
    show fp a (n + 1) + a * fp a n = 0
    rw [fp_succ, F.add_self]
theorem gx_below (a : F) : (gx a).below 2 := fun n hn => by unfold gx; rw [if_neg (by omega), if_neg (by omega)]
theorem mul_congr_lo (c : Nat) : ∀ (n : Nat) (p q q' : PS), n < c → (∀ i, i < c → q i = q' i) → (p * q) n = (p * q') n
  | 0, p, q, q', hn, h => by rw [PS.mul_zero_at, PS.mul_zero_at, h 0 hn]
  | n + 1, p, q, q', hn, h => by rw [PS.mul_succ_at, PS.mul_succ_at, mul_congr_lo c n p.tail q q' (by omega) h, h (n + 1) hn]
/-- a value (of what is below 1000) -/
def E (p : PS) (x : F) : F := PS.ev 1000 p x
theorem E_of {p : PS} {d : Nat} (hp : p.below d) (hd : d ≤ 1000) (x : F) : E p x = PS.ev d p x := PS.ev_more hp x 1000 hd
theorem E_mul {p q : PS} {m n : Nat} (hp : p.below m) (hq : q.below n) (h : m + n ≤ 1000) (x : F) : E (p * q) x = E p x * E q x := by
  rw [E_of hp (by omega), E_of hq (by omega), ← PS.ev_mul hp hq, E_of ((hp.mul hq).mono (by omega)) h]
theorem E_add (p q : PS) (x : F) : E (p + q) x = E p x + E q x := PS.ev_add _ _ _ _
theorem E_sc (a : F) (p : PS) (x : F) : E (PS.sc a p) x = a * E p x := PS.ev_sc _ _ _ _
theorem E_gx (a x : F) : E (gx a) x = 1 + a * x := by
  rw [E_of (gx_below a) (by omega), ev_msum]
  show (1 : F) * fp x 0 + (a * fp x 1 + 0) = _
  rw [F.add_zero, fp_zero, F.mul_one, fp_succ, fp_zero, F.mul_one]
theorem E_one (x : F) : E 1 x = 1 := by rw [E_of PS.below_one (by omega), PS.ev_one]
theorem E_zero (x : F) : E 0 x = 0 := PS.ev_zero _ _
theorem E_mono (c : Nat) (hc : c < 1000) (x : F) : E (PS.mono c 1) x = fp x c := by
  unfold E
  rw [ev_msum, msum_single (a := c) List.nodup_range (List.mem_range.2 hc) (fun b _ hb => by rw [PS.mono_at, if_neg hb, F.zero_mul]), PS.mono_at, if_pos rfl, F.one_mul]
def lam (N : Nat) : List Nat → PS
  | [] => 1
  | q :: qs => gx (loc N q) * lam N qs
def om (N : Nat) (e : Nat → F) : List Nat → PS
  | [] => 0
  | q :: qs => PS.sc (e q) (lam N qs) + gx (loc N q) * om N e qs
def serE (N : Nat) (e : Nat → F) : List Nat → PS
  | [] => 0
  | q :: qs => PS.sc (e q) (PS.geo (loc N q)) + serE N e qs
def igeo (N : Nat) : List Nat → PS
  | [] => 1
  | q :: qs => PS.geo (loc N q) * igeo N qs
theorem serE_lam (N : Nat) (e : Nat → F) : ∀ Q : List Nat, serE N e Q * lam N Q = om N e Q
  | [] => PS.zero_mul _
  | q :: qs => by
    show (PS.sc (e q) (PS.geo (loc N q)) + serE N e qs) * (gx (loc N q) * lam N qs) = PS.sc (e q) (lam N qs) + gx (loc N q) * om N e qs
    rw [PS.add_mul, PS.sc_mul, ← PS.mul_assoc, PS.mul_comm (PS.geo _), gx_geo, PS.one_mul, PS.mul_left_comm, serE_lam N e qs]
theorem igeo_lam (N : Nat) : ∀ Q : List Nat, igeo N Q * lam N Q = 1
  | [] => PS.one_mul _
  | q :: qs => by
    show (PS.geo (loc N q) * igeo N qs) * (gx (loc N q) * lam N qs) = 1
    rw [PS.mul_comm (PS.geo _), PS.mul_assoc, ← PS.mul_assoc (PS.geo _), PS.mul_comm (PS.geo _), gx_geo, PS.one_mul, igeo_lam N qs]
theorem lam_append (N : Nat) : ∀ P Q : List Nat, lam N (P ++ Q) = lam N P * lam N Q
  | [], Q => (PS.one_mul _).symm
  | p :: P, Q => by
    show gx (loc N p) * lam N (P ++ Q) = (gx (loc N p) * lam N P) * lam N Q
    rw [lam_append N P Q, PS.mul_assoc]
theorem lam_below (N : Nat) : ∀ Q : List Nat, (lam N Q).below (Q.length + 1)
  | [] => PS.below_one
  | q :: qs => ((gx_below _).mul (lam_below N qs)).mono (by rw [List.length_cons]; omega)
theorem om_below (N : Nat) (e : Nat → F) : ∀ Q : List Nat, (om N e Q).below Q.length
  | [] => PS.below_zero _
  | q :: qs => ((lam_below N qs).sc _).add (((gx_below _).mul (om_below N e qs)).mono (by omega))
theorem serE_at (N : Nat) (e : Nat → F) (n : Nat) : ∀ Q : List Nat, serE N e Q n = msum Q fun p => e p * fp (loc N p) n
  | [] => rfl
  | q :: qs => by
    show e q * fp (loc N q) n + serE N e qs n = _
    rw [serE_at N e n qs]; rfl
def rh (N p : Nat) : F := F.inv (loc N p)
theorem loc_rh (N p : Nat) : loc N p * rh N p = 1 := F.mul_inv (loc_ne_zero N p)
theorem rh_ne (N p : Nat) : rh N p ≠ 0 := F.inv_ne_zero (loc_ne_zero N p)
theorem gx_root {N p q : Nat} (hN : N ≤ 255) (hp : p < N) (hq : q < N) : E (gx (loc N q)) (rh N p) = 0 ↔ q = p := by
  rw [E_gx, F.add_eq_zero]
  constructor
  · intro h
    refine loc_inj hN hq hp ?_
    refine F.mul_right_cancel (rh_ne N p) ?_
    rw [← h, loc_rh]
  · rintro rfl; exact (loc_rh N q).symm
theorem lam_ne {N p : Nat} (hN : N ≤ 255) (hp : p < N) : ∀ {Q : List Nat}, Q.length ≤ 300 → (∀ q ∈ Q, q < N) → p ∉ Q → E (lam N Q) (rh N p) ≠ 0
  | [], _, _, _ => by show E 1 _ ≠ 0; rw [E_one]; exact F.one_ne_zero
  | q :: qs, hl, hb, h => by
    rw [List.length_cons] at hl
    show E (gx (loc N q) * lam N qs) _ ≠ 0
    rw [E_mul (gx_below _) (lam_below N qs) (by omega)]
    exact F.mul_ne_zero (fun e => h (by rw [(gx_root hN hp (hb q (List.mem_cons_self ..))).1 e]; exact List.mem_cons_self ..)) (lam_ne hN hp (by omega) (fun x hx => hb x (List.mem_cons_of_mem _ hx)) (fun hx => h (List.mem_cons_of_mem _ hx)))
theorem om_at {N p : Nat} (hN : N ≤ 255) (e : Nat → F) : ∀ {Q : List Nat}, Q.length ≤ 300 → Q.Nodup → (∀ q ∈ Q, q < N) → p ∈ Q →
    ∃ B : PS, B.below Q.length ∧ lam N Q = gx (loc N p) * B ∧ E (om N e Q) (rh N p) = e p * E B (rh N p) ∧ E B (rh N p) ≠ 0
  | [], _, _, _, h => by cases h
  | q :: qs, hl, hn, hb, h => by
    rw [List.length_cons] at hl
    have hn' := List.nodup_cons.1 hn
    have hbq : ∀ x ∈ qs, x < N := fun x hx => hb x (List.mem_cons_of_mem _ hx)
    have hq : q < N := hb q (List.mem_cons_self ..)
    have hE : E (om N e (q :: qs)) (rh N p) = e q * E (lam N qs) (rh N p) + E (gx (loc N q)) (rh N p) * E (om N e qs) (rh N p) := by
      show E (PS.sc (e q) (lam N qs) + gx (loc N q) * om N e qs) (rh N p) = _
      rw [E_add, E_sc, E_mul (gx_below _) (om_below N e qs) (by omega)]
    by_cases hpq : p ∈ qs
    · obtain ⟨B, b1, b2, b3, b4⟩ := om_at hN e (by omega) hn'.2 hbq hpq
      have hp : p < N := hbq p hpq
      have hne : q ≠ p := fun e => hn'.1 (e ▸ hpq)
      refine ⟨gx (loc N q) * B, ((gx_below _).mul b1).mono (by rw [List.length_cons]; omega), ?_, ?_, ?_⟩
      · show gx (loc N q) * lam N qs = _
        rw [b2, PS.mul_left_comm]
      · have hz : E (lam N qs) (rh N p) = 0 := by
          rw [b2, E_mul (gx_below _) b1 (by omega), (gx_root hN hp hp).2 rfl, F.zero_mul]
        rw [hE, hz, F.mul_zero, F.zero_add, b3, E_mul (gx_below _) b1 (by omega), F.mul_left_comm]
      · rw [E_mul (gx_below _) b1 (by omega)]
        exact F.mul_ne_zero (fun e => hne ((gx_root hN hp hq).1 e)) b4
    · obtain rfl : p = q := (List.mem_cons.1 h).resolve_right hpq
      refine ⟨lam N qs, (lam_below N qs).mono (Nat.le_of_eq (List.length_cons ..).symm), rfl, ?_, lam_ne hN hq (by omega) hbq hpq⟩
      rw [hE, (gx_root hN hq hq).2 rfl, F.zero_mul, F.add_zero]
def kap (N : Nat) : List Nat → F
  | [] => 1
  | q :: qs => loc N q * kap N qs
theorem kap_ne (N : Nat) : ∀ Q : List Nat, kap N Q ≠ 0
  | [] => F.one_ne_zero
  | q :: qs => F.mul_ne_zero (loc_ne_zero N q) (kap_ne N qs)
theorem gx_xa (N q : Nat) : gx (loc N q) = PS.sc (loc N q) (PS.xa (rh N q)) := PS.ext fun n => by
  rw [PS.sc_at]
  match n with
  | 0 => exact (loc_rh N q).symm
  | 1 => show loc N q = loc N q * 1; rw [F.mul_one]
  | n + 2 => show (0 : F) = loc N q * 0; rw [F.mul_zero]
theorem lam_lin (N : Nat) : ∀ Q : List Nat, lam N Q = PS.sc (kap N Q) (PS.lin (Q.map (rh N)))
  | [] => by show (1 : PS) = PS.sc 1 1; rw [PS.sc_one]
  | q :: qs => by
    show gx (loc N q) * lam N qs = PS.sc (loc N q * kap N qs) (PS.xa (rh N q) * PS.lin (qs.map (rh N)))
    rw [gx_xa, lam_lin N qs, PS.sc_mul, PS.mul_sc, PS.sc_sc]
theorem rh_inj {N p q : Nat} (hN : N ≤ 255) (hp : p < N) (hq : q < N) (h : rh N p = rh N q) : p = q := by
  refine loc_inj hN hp hq ?_
  unfold rh at h
  rw [← F.inv_inv (loc_ne_zero N p), h, F.inv_inv (loc_ne_zero N q)]
theorem sugi {N c : Nat} {U H : List Nat} {e : Nat → F} (hN : N ≤ 255) (hn : (U ++ H).Nodup) (hb : ∀ q ∈ U ++ H, q < N) (hfew : 2 * U.length + H.length ≤ c) (hc : c ≤ 64) (he : ∀ p ∈ U, e p ≠ 0)
    {T R B A BA : PS} (hT : ∀ n, n < c → T n = (serE N e (U ++ H) * lam N H) n) (hcong : ∀ n, n < c → (B * T) n = R n) (hdet : A * B + R * BA = PS.mono c 1)
    {dR bB : Nat} (hR : R.below dR) (hdR : 2 * dR < c + H.length + 2) (hB : B.below bB) (hbB : 2 * bB + H.length ≤ c + 2) (hA : A.below (c + 1)) (hBA : BA.below (c + 2)) :
    ∃ (M : PS) (m : Nat), M.below m ∧ m ≤ 100 ∧ B = lam N U * M ∧ R = M * om N e (U ++ H) ∧ ∀ x, x ≠ 0 → E M x ≠ 0 := by
  have hlen : (U ++ H).length = U.length + H.length := List.length_append
  have hom := om_below N e (U ++ H)
  have hlu := lam_below N U
  have heq : lam N U * R = B * om N e (U ++ H) := by
    have b1 : (lam N U * R).below c := (hlu.mul hR).mono (by omega)
    have b2 : (B * om N e (U ++ H)).below c := (hB.mul hom).mono (by rw [hlen]; omega)
    refine PS.ext fun n => ?_
    by_cases h : n < c
    · rw [mul_congr_lo c n (lam N U) R (B * T) h (fun i hi => (hcong i hi).symm), ← PS.mul_assoc,
        mul_congr_lo c n (lam N U * B) T (serE N e (U ++ H) * lam N H) h hT, ← serE_lam, lam_append]
      congr 1
      rw [PS.mul_comm (lam N U) B, PS.mul_assoc, PS.mul_left_comm (lam N U)]
    · rw [b1 n (by omega), b2 n (by omega)]
  have hroot : ∀ p ∈ U, E B (rh N p) = 0 := by
    intro p hp
    have hpQ : p ∈ U ++ H := List.mem_append_left _ hp
    obtain ⟨B1, c1, c2, c3, c4⟩ := om_at hN e (p := p) (Q := U ++ H) (by rw [hlen]; omega) hn hb hpQ
    have hUz : E (lam N U) (rh N p) = 0 := by
      obtain ⟨B2, d1, d2, _, _⟩ := om_at hN e (p := p) (Q := U) (by omega) (List.nodup_append.1 hn).1 (fun q hq => hb q (List.mem_append_left _ hq)) hp
      rw [d2, E_mul (gx_below _) d1 (by omega), (gx_root hN (hb p hpQ) (hb p hpQ)).2 rfl, F.zero_mul]
    have h := congrArg (fun q => E q (rh N p)) heq
    rw [E_mul hlu hR (by omega), hUz, F.zero_mul, E_mul hB hom (by rw [hlen]; omega), c3] at h
    rcases F.mul_eq_zero.1 h.symm with h | h
    · exact h
    · exact absurd h (F.mul_ne_zero (he p hp) c4)
  have hnu : (U.map (rh N)).Nodup := by
    have := (List.nodup_append.1 hn).1
    unfold List.Nodup at this ⊢
    rw [List.pairwise_map]
    exact this.imp_of_mem fun ha hb' hne h => hne (rh_inj hN (hb _ (List.mem_append_left _ ha)) (hb _ (List.mem_append_left _ hb')) h)
  obtain ⟨q, q1, q2⟩ := PS.split_roots (U.map (rh N)) hnu B bB hB (fun r hr => by
    obtain ⟨p, hp, rfl⟩ := List.mem_map.1 hr
    rw [← E_of hB (by omega)]
    exact hroot p hp)
  have hBM : B = lam N U * PS.sc (F.inv (kap N U)) q := by
    rw [lam_lin, PS.sc_mul, PS.mul_sc, PS.sc_sc, F.mul_inv (kap_ne N U), PS.sc_one, q2]
  have hRM : R = PS.sc (F.inv (kap N U)) q * om N e (U ++ H) := by
    have h1 : igeo N U * (lam N U * R) = igeo N U * (lam N U * (PS.sc (F.inv (kap N U)) q * om N e (U ++ H))) := by
      rw [heq]
      conv => lhs; rw [hBM]
      rw [PS.mul_assoc (lam N U)]
    rwa [← PS.mul_assoc, igeo_lam, PS.one_mul, ← PS.mul_assoc (igeo N U), igeo_lam, PS.one_mul] at h1
  have hMb : (PS.sc (F.inv (kap N U)) q).below 34 := (q1.sc _).mono (by omega)
  refine ⟨PS.sc (F.inv (kap N U)) q, 34, hMb, by omega, hBM, hRM, fun x hx h0 => ?_⟩
  have hd : PS.sc (F.inv (kap N U)) q * (A * lam N U + om N e (U ++ H) * BA) = PS.mono c 1 := by
    rw [← hdet, PS.mul_add]
    congr 1
    · conv => rhs; rw [hBM]
      rw [PS.mul_left_comm, PS.mul_comm _ (lam N U)]
    · conv => rhs; rw [hRM]
      rw [PS.mul_assoc]
  have hs : (A * lam N U + om N e (U ++ H) * BA).below 200 := ((hA.mul hlu).mono (by omega)).add ((hom.mul hBA).mono (by rw [hlen]; omega))
  have h := congrArg (fun q => E q x) hd
  rw [E_mul hMb hs (by omega), h0, F.zero_mul, E_mono c (by omega)] at h
  exact fp_ne_zero hx c h.symm
def slp (m : Nat) (p : PS) (x : F) : F := msum (List.range m) fun k => p (2 * k + 1) * fp x (2 * k)
theorem slp_gx {X x : F} (h : X * x = 1) (Q : PS) : ∀ m : Nat, slp m (gx X * Q) x = X * PS.ev (2 * m) Q x
  | 0 => by show (0 : F) = X * 0; rw [F.mul_zero]
  | m + 1 => by
    have ih := slp_gx h Q m
    rw [ev_msum] at ih
    unfold slp at ih ⊢
    rw [msum_range_succ, ih, ev_msum, show 2 * (m + 1) = 2 * m + 1 + 1 by omega, msum_range_succ, msum_range_succ, F.mul_add, F.mul_add, gx_mul_succ, F.add_mul, fp_succ x (2 * m), F.add_assoc]
    congr 1
    rw [F.add_comm]
    congr 1
    · rw [F.mul_assoc]
    · rw [F.mul_left_comm (Q (2 * m + 1)), ← F.mul_assoc X x, h, F.one_mul]
theorem quo_below {X : F} (hX : X ≠ 0) {Q : PS} {L d : Nat} (h : (gx X * Q).below (L + 1)) (hQ : Q.below d) : Q.below L := by
  have key : ∀ k n : Nat, d - n ≤ k → L ≤ n → Q n = 0 := by
    intro k
    induction k with
    | zero => intro n hn _; exact hQ n (by omega)
    | succ k ih =>
      intro n hn hL
      by_cases hd : d ≤ n
      · exact hQ n hd
      · have h1 := h (n + 1) (by omega)
        rw [gx_mul_succ, ih (n + 1) (by omega) (by omega), F.zero_add] at h1
        exact (F.mul_eq_zero.1 h1).resolve_left hX
  exact fun n hn => key (d - n) n (Nat.le_refl _) hn
theorem forney_out {N p : Nat} {U H : List Nat} {M B : PS} {m : Nat} (hN : N ≤ 255) (hp : p < N) (hl : (U ++ H).length ≤ 64) (hb : ∀ q ∈ U ++ H, q < N) (hM : M.below m) (hm : m ≤ 100) (hM0 : ∀ x, x ≠ 0 → E M x ≠ 0) (hB : B = lam N U * M) (h : p ∉ U ++ H) :
    E (B * lam N H) (rh N p) ≠ 0 := by
  have e : B * lam N H = M * lam N (U ++ H) := by rw [hB, lam_append, PS.mul_comm (lam N U), PS.mul_assoc]
  rw [e, E_mul hM (lam_below N _) (by omega)]
  exact F.mul_ne_zero (hM0 _ (rh_ne N p)) (lam_ne hN hp (by omega) hb h)
theorem forney_in {N p : Nat} {U H : List Nat} {e : Nat → F} {M B R : PS} {m L : Nat} (hN : N ≤ 255) (hn : (U ++ H).Nodup) (hl : (U ++ H).length ≤ 64) (hb : ∀ q ∈ U ++ H, q < N) (hM : M.below m) (hm : m ≤ 100) (hM0 : ∀ x, x ≠ 0 → E M x ≠ 0) (hB : B = lam N U * M) (hR : R = M * om N e (U ++ H)) (h : p ∈ U ++ H)
    (hL : (B * lam N H).below L) :
    E (B * lam N H) (rh N p) = 0 ∧ (loc N p * E R (rh N p)) * F.inv (slp (L / 2) (B * lam N H) (rh N p)) = e p := by
  have e1 : B * lam N H = M * lam N (U ++ H) := by rw [hB, lam_append, PS.mul_comm (lam N U), PS.mul_assoc]
  obtain ⟨B1, c1, c2, c3, c4⟩ := om_at hN e (p := p) (Q := U ++ H) (by omega) hn hb h
  have hp := hb p h
  have e2 : B * lam N H = gx (loc N p) * (M * B1) := by rw [e1, c2, PS.mul_left_comm]
  have hMB : (M * B1).below 200 := (hM.mul c1).mono (by omega)
  have hLp : 1 ≤ L := by
    apply Classical.byContradiction
    intro hc
    have h1 : (gx (loc N p) * (M * B1)).below (0 + 1) := by rw [← e2]; exact hL.mono (by omega)
    have h2 := PS.eq_zero_of_below (quo_below (loc_ne_zero N p) h1 hMB)
    have h3 : E (M * B1) (rh N p) = 0 := by rw [h2, E_zero]
    rw [E_mul hM c1 (by omega)] at h3
    exact F.mul_ne_zero (hM0 _ (rh_ne N p)) c4 h3
  have hQ : (M * B1).below (L - 1) := quo_below (loc_ne_zero N p) (L := L - 1) (by rw [← e2]; exact hL.mono (by omega)) hMB
  constructor
  · rw [e2, E_mul (gx_below _) hMB (by omega), (gx_root hN hp hp).2 rfl, F.zero_mul]
  · have hQ2 : (M * B1).below (min 200 (L - 1)) := fun n hn => by
      by_cases h2 : 200 ≤ n
      · exact hMB n h2
      · exact hQ n (by omega)
    rw [e2, slp_gx (loc_rh N p), PS.ev_more hQ2 _ (2 * (L / 2)) (by omega), ← E_of hQ2 (by omega), hR, E_mul hM (om_below N e _) (by omega), c3, E_mul hM c1 (by omega)]
    have hne : loc N p * (E M (rh N p) * E B1 (rh N p)) ≠ 0 := F.mul_ne_zero (loc_ne_zero N p) (F.mul_ne_zero (hM0 _ (rh_ne N p)) c4)
    have : loc N p * (E M (rh N p) * (e p * E B1 (rh N p))) = e p * (loc N p * (E M (rh N p) * E B1 (rh N p))) := by
      rw [F.mul_left_comm (E M _), F.mul_left_comm]
    rw [this, F.mul_assoc, F.mul_inv hne, F.mul_one]
end FB
