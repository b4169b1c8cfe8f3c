/- What PolyMul and PolyDiv come to, in plain lists. -/
import Derived.Test.YticfidlclofbbaaDoorPo
namespace Go.Proofs.YticfidlclofbbaaDoor.G
open Go.RowKit Go.Proofs.YticfidlclofbbaaDoorW.PrintWords FB

theorem sh_sh (i j : Nat) (p : PS) : PS.sh i (PS.sh j p) = PS.sh (i + j) p := by
  apply PS.ext; intro n
  unfold PS.sh
  by_cases ha : n < i
  · rw [if_pos ha, if_pos (by omega)]
  · rw [if_neg ha]
    by_cases hb : n - i < j
    · rw [if_pos hb, if_pos (by omega)]
    · rw [if_neg hb, if_neg (by omega)]; congr 1; omega
theorem sh_zeroPS (i : Nat) : PS.sh i 0 = 0 := by
  apply PS.ext; intro n
  unfold PS.sh; split <;> rfl
theorem sc_of_cons (c a : F) (l : List F) : PS.sc c (PS.of (a :: l)) = PS.C (c * a) + PS.sh 1 (PS.sc c (PS.of l)) := by
  apply PS.ext; intro n
  rw [PS.add_at]
  cases n with
  | zero => rw [PS.C_zero, PS.sh_succ_zero, F.add_zero]; rfl
  | succ n => rw [PS.C_succ, PS.sh_succ_at, PS.sh_zero, F.zero_add]; rfl
theorem sc_drop_step (c : F) (q : List F) (i j : Nat) (h : j < q.length) :
    PS.sh (i + j) (PS.sc c (PS.of (q.drop j))) = PS.mono (i + j) (c * q.getD j 0) + PS.sh (i + (j + 1)) (PS.sc c (PS.of (q.drop (j + 1)))) := by
  have hq : q.drop j = q.getD j 0 :: q.drop (j + 1) := by
    rw [List.drop_eq_getElem_cons h]; simp [List.getD_eq_getElem?_getD, h]
  rw [hq, sc_of_cons, PS.sh_add, sh_sh]; rfl

/-! ### the product -/
/-- one row of the product -/
theorem mulRow (q : List F) (p : List F) (i : Nat) (a : F) (hb : i + q.length ≤ 140737488355328) (m : Int) (d : Nat) : ∀ (j : Nat) (o : List F), q.length - j = d → j ≤ q.length → i + q.length ≤ o.length →
    ∃ o' : List F, o'.length = o.length ∧ PS.of o' = PS.of o + PS.sh (i + j) (PS.sc a (PS.of (q.drop j))) ∧
      ∀ R, Ev (fun k => gf_PolyMul.l0 k (Iz q) (Iz o') (Iz p) m (wrap64 ((i : Int) + 1))) R → Ev (fun k => gf_PolyMul.l1 k (Iz q) (Iz o) (i : Int) (zF a) (Iz p) m (i : Int) (Iz q) ((Iz q).length : Int) (j : Int)) R := by
  induction d with
  | zero =>
    intro j o hd hj ho
    have : j = q.length := by omega
    subst this
    refine ⟨o, rfl, ?_, fun R hR => ?_⟩
    · rw [List.drop_length, PS.of_nil, PS.sc_zero', sh_zeroPS, PS.add_zero]
    · refine Ev.step (fun k => ?_) hR
      simp only [gf_PolyMul.l1]; rw [if_neg (by rw [Iz_length]; omega)]
  | succ d ih =>
    intro j o hd hj ho
    have hlt : j < q.length := by omega
    obtain ⟨o', h1, h2, h3⟩ := ih (j + 1) (o.set (i + j) (o.getD (i + j) 0 + a * q.getD j 0)) (by omega) (by omega) (by simp; omega)
    refine ⟨o', by rw [h1]; simp, ?_, fun R hR => ?_⟩
    · rw [h2, of_set_add _ _ _ (by omega), PS.add_assoc, sc_drop_step a q i j hlt]
    · have e1 : wrap64 ((i : Int) + (j : Int)) = ((i + j : Nat) : Int) := by rw [w64 _ (by omega) (by omega)]; omega
      refine Ev.step (f := fun k => (gf_Mul.f k (zF a) (zF (q.getD j 0))).bind fun t => gf_PolyMul.l1 k (Iz q) ((Iz o).set (i + j) (Go.bits .xor .u8 (zF (o.getD (i + j) 0)) t)) (i : Int) (zF a) (Iz p) m (i : Int) (Iz q) ((Iz q).length : Int) ((j + 1 : Nat) : Int)) (fun k => ?_) ?_
      · simp only [gf_PolyMul.l1]
        rw [if_pos (by rw [Iz_length]; omega), if_pos (by omega), if_pos (by rw [Iz_length]; omega), e1, if_pos (by omega), if_pos (by rw [Iz_length]; omega), rd_IzN, rd_IzN, w64 ((j : Int) + 1) (by omega) (by omega)]
        rfl
      · refine Ev.bind (mul_ev _ _) ?_
        rw [xor_zF, ← Iz_set]
        exact h3 R hR
theorem polyMul_loop (p q : List F) (hb : p.length + q.length ≤ 512) (d : Nat) : ∀ (i : Nat) (o : List F), p.length - i = d → i ≤ p.length → o.length = p.length + q.length →
    ∃ o' : List F, o'.length = p.length + q.length ∧ PS.of o' = PS.of o + PS.sh i (PS.of (p.drop i) * PS.of q) ∧
      Ev (fun k => gf_PolyMul.l0 k (Iz q) (Iz o) (Iz p) ((Iz p).length : Int) (i : Int)) (Iz (shortL o'), true) := by
  induction d with
  | zero =>
    intro i o hd hi ho
    have : i = p.length := by omega
    subst this
    refine ⟨o, ho, ?_, ?_⟩
    · rw [List.drop_length, PS.of_nil, PS.zero_mul, sh_zeroPS, PS.add_zero]
    · refine Ev.step (f := fun k => (gf_short.f k (Iz o)).bind fun t => some (t, true)) (fun k => ?_) ?_
      · simp only [gf_PolyMul.l0]; rw [if_neg (by rw [Iz_length]; omega)]
      · exact Ev.bind (f := fun _ t => some (t, true)) (short_ev o (by omega)) (Ev.now _)
  | succ d ih =>
    intro i o hd hi ho
    have hlt : i < p.length := by omega
    obtain ⟨o1, h1, h2, h3⟩ := mulRow q p i (p.getD i 0) (by omega) ((Iz p).length : Int) q.length 0 o (by omega) (by omega) (by omega)
    obtain ⟨o', g1, g2, g3⟩ := ih (i + 1) o1 (by omega) (by omega) (by omega)
    refine ⟨o', g1, ?_, ?_⟩
    · have hp : p.drop i = p.getD i 0 :: p.drop (i + 1) := by
        rw [List.drop_eq_getElem_cons hlt]; simp [List.getD_eq_getElem?_getD, hlt]
      have e : PS.of (p.drop i) * PS.of q = PS.sc (p.getD i 0) (PS.of q) + PS.sh 1 (PS.of (p.drop (i + 1)) * PS.of q) := by
        rw [hp, of_cons, PS.add_mul, PS.C_mul, PS.sh_mul]
      rw [g2, h2, List.drop_zero, e, PS.sh_add, sh_sh, PS.add_assoc, Nat.add_zero]
    · refine Ev.step (fun k => ?_) (h3 _ ?_)
      · simp only [gf_PolyMul.l0]
        rw [if_pos (by rw [Iz_length]; omega), if_pos (by omega), if_pos (by rw [Iz_length]; omega), rd_IzN]
        rfl
      · rw [w64 _ (by omega) (by omega)]
        exact g3
/-- PolyMul -/
def mulP (p q : List F) : List F := canon (PS.of p * PS.of q) (p.length + q.length)
theorem mul_below' (p q : List F) : (PS.of p * PS.of q).below (p.length + q.length) := ((PS.of_below p).mul (PS.of_below q)).mono (by omega)
theorem of_mulP (p q : List F) : PS.of (mulP p q) = PS.of p * PS.of q := of_canon (mul_below' p q)
theorem polyMul_ev (p q : List F) (hb : p.length + q.length ≤ 512) : Ev (fun k => gf_PolyMul.f k (Iz p) (Iz q)) (Iz (mulP p q), true) := by
  obtain ⟨o', h1, h2, h3⟩ := polyMul_loop p q hb p.length 0 (List.replicate (p.length + q.length) 0) (by omega) (by omega) (by simp)
  have e : shortL o' = mulP p q := by
    refine shortL_eq_canon (mul_below' p q) ?_
    rw [h2, of_replicate, PS.zero_add, PS.sh_zero, List.drop_zero]
  rw [← e]
  refine Ev.congr (fun k => ?_) h3
  unfold gf_PolyMul.f
  have e1 : wrap64 (((Iz p).length : Int) + ((Iz q).length : Int)) = ((p.length + q.length : Nat) : Int) := by rw [Iz_length, Iz_length, w64 _ (by omega) (by omega)]; omega
  rw [e1, if_neg (by omega), if_pos (by omega), if_pos (by omega), Iz_replicate]
  rfl
theorem polyMul_long (p q : List F) (hp : p.length ≤ 140737488351232) (hq : q.length ≤ 140737488351232) (hb : 512 < p.length + q.length) (k : Nat) : gf_PolyMul.f k (Iz p) (Iz q) = some ([], false) := by
  unfold gf_PolyMul.f
  rw [if_pos (by rw [Iz_length, Iz_length, w64 _ (by omega) (by omega)]; omega)]

/-! ### quotient and rest -/
theorem divRow (dv : List F) (Q : List Int) (inv : Int) (kk : Nat) (c : F) (hb : kk + dv.length ≤ 140737488355328) (d : Nat) : ∀ (j : Nat) (o : List F), dv.length - j = d → j ≤ dv.length → kk + dv.length ≤ o.length →
    ∃ o' : List F, o'.length = o.length ∧ PS.of o' = PS.of o + PS.sh (kk + j) (PS.sc c (PS.of (dv.drop j))) ∧
      ∀ R, Ev (fun k => gf_PolyDiv.l0 k (Iz dv) (Iz o') Q inv (wrap64 ((kk : Int) - 1))) R → Ev (fun k => gf_PolyDiv.l1 k (Iz dv) (Iz o) Q inv (kk : Int) (zF c) (Iz dv) ((Iz dv).length : Int) (j : Int)) R := by
  induction d with
  | zero =>
    intro j o hd hj ho
    have : j = dv.length := by omega
    subst this
    refine ⟨o, rfl, ?_, fun R hR => ?_⟩
    · rw [List.drop_length, PS.of_nil, PS.sc_zero', sh_zeroPS, PS.add_zero]
    · refine Ev.step (fun k => ?_) hR
      simp only [gf_PolyDiv.l1]; rw [if_neg (by rw [Iz_length]; omega)]
  | succ d ih =>
    intro j o hd hj ho
    have hlt : j < dv.length := by omega
    obtain ⟨o', h1, h2, h3⟩ := ih (j + 1) (o.set (kk + j) (o.getD (kk + j) 0 + c * dv.getD j 0)) (by omega) (by omega) (by simp; omega)
    refine ⟨o', by rw [h1]; simp, ?_, fun R hR => ?_⟩
    · rw [h2, of_set_add _ _ _ (by omega), PS.add_assoc, sc_drop_step c dv kk j hlt]
    · have e1 : wrap64 ((kk : Int) + (j : Int)) = ((kk + j : Nat) : Int) := by rw [w64 _ (by omega) (by omega)]; omega
      refine Ev.step (f := fun k => (gf_Mul.f k (zF c) (zF (dv.getD j 0))).bind fun t => gf_PolyDiv.l1 k (Iz dv) ((Iz o).set (kk + j) (Go.bits .xor .u8 (zF (o.getD (kk + j) 0)) t)) Q inv (kk : Int) (zF c) (Iz dv) ((Iz dv).length : Int) ((j + 1 : Nat) : Int)) (fun k => ?_) ?_
      · simp only [gf_PolyDiv.l1]
        rw [if_pos (by rw [Iz_length]; omega), if_pos (by omega), if_pos (by rw [Iz_length]; omega), e1, if_pos (by omega), if_pos (by rw [Iz_length]; omega), rd_IzN, rd_IzN, w64 ((j : Int) + 1) (by omega) (by omega)]
        rfl
      · refine Ev.bind (mul_ev _ _) ?_
        rw [xor_zF, ← Iz_set]
        exact h3 R hR
/-- the division's loop: kk rounds are still to come -/
theorem polyDiv_loop (dv : List F) (hd0 : 0 < dv.length) (hl : dv.getD (dv.length - 1) 0 ≠ 0) (hdb : dv.length ≤ 512) (p : PS) : ∀ (kk : Nat) (o Q : List F), kk ≤ Q.length → Q.length ≤ 512 → o.length ≤ 512 → kk + (dv.length - 1) ≤ o.length → (PS.of o).below (kk + (dv.length - 1)) →
    p = PS.of Q * PS.of dv + PS.of o → (∀ i, i < kk → Q.getD i 0 = 0) →
    ∃ Q' R' : List F, Q'.length = Q.length ∧ R'.length = o.length ∧ p = PS.of Q' * PS.of dv + PS.of R' ∧ (PS.of R').below (dv.length - 1) ∧
      Ev (fun k => gf_PolyDiv.l0 k (Iz dv) (Iz o) (Iz Q) (zF (F.inv (dv.getD (dv.length - 1) 0))) ((kk : Int) - 1)) (Iz (shortL Q'), Iz (shortL R'), true) := by
  intro kk
  induction kk with
  | zero =>
    intro o Q hk hQ ho hlen hbel hp hz
    refine ⟨Q, o, rfl, rfl, hp, by simpa using hbel, ?_⟩
    refine Ev.step (f := fun k => (gf_short.f k (Iz Q)).bind fun t => (gf_short.f k (Iz o)).bind fun u => some (t, u, true)) (fun k => ?_) ?_
    · simp only [gf_PolyDiv.l0]; rw [if_neg (by omega)]
    · exact Ev.bind (short_ev Q (by omega)) (Ev.bind (f := fun _ u => some (Iz (shortL Q), u, true)) (short_ev o (by omega)) (Ev.now _))
  | succ kk ih =>
    intro o Q hk hQ ho hlen hbel hp hz
    have htop : kk + (dv.length - 1) < o.length := by omega
    generalize hc : o.getD (kk + (dv.length - 1)) 0 * F.inv (dv.getD (dv.length - 1) 0) = c
    obtain ⟨o1, h1, h2, h3⟩ := divRow dv (Iz (Q.set kk c)) (zF (F.inv (dv.getD (dv.length - 1) 0))) kk c (by omega) dv.length 0 o (by omega) (by omega) (by omega)
    rw [List.drop_zero, Nat.add_zero] at h2
    have hQz : Q.getD kk 0 = 0 := hz kk (by omega)
    have hset : Q.set kk c = Q.set kk (Q.getD kk 0 + c) := by rw [hQz, F.zero_add]
    have hofQ : PS.of (Q.set kk c) = PS.of Q + PS.mono kk c := by rw [hset, of_set_add _ _ _ (by omega)]
    have hbel1 : (PS.of o1).below (kk + (dv.length - 1)) := by
      rw [h2]
      intro n hn
      rw [PS.add_at]
      have hsh : PS.sh kk (PS.sc c (PS.of dv)) n = c * PS.of dv (n - kk) := by
        unfold PS.sh; rw [if_neg (by omega)]; rfl
      rw [hsh]
      by_cases e : n = kk + (dv.length - 1)
      · subst e
        have : kk + (dv.length - 1) - kk = dv.length - 1 := by omega
        rw [this]
        show o.getD (kk + (dv.length - 1)) 0 + c * dv.getD (dv.length - 1) 0 = 0
        rw [← hc, F.mul_assoc, F.inv_mul hl, F.mul_one, F.add_self]
      · rw [hbel n (by omega), PS.of_below dv (n - kk) (by omega), F.mul_zero, F.add_zero]
    obtain ⟨Q', R', g1, g2, g3, g4, g5⟩ := ih o1 (Q.set kk c) (by simp; omega) (by simp; omega) (by omega) (by omega) hbel1 (by
      rw [hp, hofQ, h2, PS.add_mul, PS.mono_mul, PS.add_assoc]
      congr 1
      rw [show PS.sh kk (PS.sc c (PS.of dv)) + (PS.of o + PS.sh kk (PS.sc c (PS.of dv))) = PS.of o + (PS.sh kk (PS.sc c (PS.of dv)) + PS.sh kk (PS.sc c (PS.of dv))) by ac_rfl, PS.add_self, PS.add_zero]) (by
      intro i hi
      have := hz i (by omega)
      simp only [List.getD_eq_getElem?_getD] at this ⊢
      rw [List.getElem?_set_ne (by omega)]; exact this)
    refine ⟨Q', R', by rw [g1]; simp, by rw [g2, h1], g3, g4, ?_⟩
    have e1 : wrap64 (wrap64 (((kk + 1 : Nat) : Int) - 1 + ((Iz dv).length : Int)) - 1) = ((kk + (dv.length - 1) : Nat) : Int) := by
      rw [Iz_length, w64 (((kk + 1 : Nat) : Int) - 1 + (dv.length : Int)) (by omega) (by omega), w64 _ (by omega) (by omega)]; omega
    refine Ev.step (f := fun k => (gf_Mul.f k (zF (o.getD (kk + (dv.length - 1)) 0)) (zF (F.inv (dv.getD (dv.length - 1) 0)))).bind fun t => gf_PolyDiv.l1 k (Iz dv) (Iz o) ((Iz Q).set kk t) (zF (F.inv (dv.getD (dv.length - 1) 0))) (kk : Int) t (Iz dv) ((Iz dv).length : Int) 0) (fun k => ?_) ?_
    · simp only [gf_PolyDiv.l0]
      rw [e1, if_pos (by omega), if_pos (by omega), if_pos (by rw [Iz_length]; omega), rd_IzN]
      congr 1
      funext t
      rw [show ((kk + 1 : Nat) : Int) - 1 = (kk : Int) by omega, if_pos (by omega), if_pos (by rw [Iz_length]; omega)]
      rfl
    · refine Ev.bind (mul_ev _ _) ?_
      rw [hc, ← Iz_set]
      refine h3 _ ?_
      rw [w64 _ (by omega) (by omega)]
      exact g5
/-- PolyDiv, where it divides -/
theorem polyDiv_ev (p q : List F) (hb : p.length + q.length ≤ 512) (hq : shortL q ≠ []) :
    ∃ Q R : List F, Short Q ∧ Short R ∧ Q.length ≤ p.length ∧ R.length ≤ p.length ∧ PS.of p = PS.of Q * PS.of q + PS.of R ∧ (PS.of R).below ((shortL q).length - 1) ∧
      Ev (fun k => gf_PolyDiv.f k (Iz p) (Iz q)) (Iz Q, Iz R, true) := by
  have hlast := shortL_last q hq
  have hpos : 0 < (shortL q).length := List.length_pos_iff.2 hq
  have hlq := shortL_length q
  have hof : PS.of (shortL q) = PS.of q := of_shortL q
  generalize hd : shortL q = dv at *
  -- the number of rounds
  obtain ⟨kk, hkk⟩ : ∃ kk : Nat, kk = p.length + 1 - dv.length := ⟨_, rfl⟩
  have hrep : ∀ i, (List.replicate kk (0 : F)).getD i 0 = 0 := by
    intro i; by_cases h : i < kk <;> simp [List.getD_eq_getElem?_getD, h]
  have hofr : PS.of (List.replicate kk (0 : F)) = 0 := of_replicate kk
  have main : ∃ Q' R' : List F, Q'.length = kk ∧ R'.length = p.length ∧ PS.of p = PS.of Q' * PS.of dv + PS.of R' ∧ (PS.of R').below (dv.length - 1) ∧
      Ev (fun k => gf_PolyDiv.l0 k (Iz dv) (Iz p) (Iz (List.replicate kk 0)) (zF (F.inv (dv.getD (dv.length - 1) 0))) ((kk : Int) - 1)) (Iz (shortL Q'), Iz (shortL R'), true) := by
    by_cases hk0 : kk = 0
    · refine ⟨List.replicate kk 0, p, by simp, rfl, by rw [hofr, PS.zero_mul, PS.zero_add], (PS.of_below p).mono (by omega), ?_⟩
      rw [hk0]
      refine Ev.step (f := fun k => (gf_short.f k (Iz (List.replicate 0 0))).bind fun t => (gf_short.f k (Iz p)).bind fun u => some (t, u, true)) (fun k => ?_) ?_
      · simp only [gf_PolyDiv.l0]; rw [if_neg (by omega)]
      · exact Ev.bind (short_ev _ (by simp)) (Ev.bind (f := fun _ u => some (Iz (shortL (List.replicate 0 0)), u, true)) (short_ev p (by omega)) (Ev.now _))
    · obtain ⟨Q', R', g1, g2, g3, g4, g5⟩ := polyDiv_loop dv hpos hlast (by omega) (PS.of p) kk p (List.replicate kk 0) (by simp) (by simp; omega) (by omega) (by omega) ((PS.of_below p).mono (by omega)) (by rw [hofr, PS.zero_mul, PS.zero_add]) (fun i _ => hrep i)
      exact ⟨Q', R', by rw [g1]; simp, g2, g3, g4, g5⟩
  obtain ⟨Q', R', g1, g2, g3, g4, g5⟩ := main
  have lQ := shortL_length Q'
  have lR := shortL_length R'
  refine ⟨shortL Q', shortL R', short_shortL _, short_shortL _, by omega, by omega, by rw [of_shortL, of_shortL, ← hof, g3], by rw [of_shortL]; exact g4, ?_⟩
  unfold gf_PolyDiv.f
  refine Ev.bind (short_ev q (by omega)) ?_
  rw [hd]
  have hne : ¬ ((Iz dv).length : Int) = 0 := by rw [Iz_length]; omega
  have hdec : decide (wrap64 (((Iz p).length : Int) + ((Iz q).length : Int)) > 512) = false := by
    rw [Iz_length, Iz_length, w64 _ (by omega) (by omega)]; simp; omega
  refine Ev.congr (fun k => by rw [if_neg hne, hdec]) ?_
  have hmx : mx 0 (wrap64 (wrap64 (((Iz p).length : Int) - ((Iz dv).length : Int)) + 1)) = (kk : Int) := by
    rw [Iz_length, Iz_length, w64 ((p.length : Int) - (dv.length : Int)) (by omega) (by omega), w64 _ (by omega) (by omega)]
    unfold mx; split <;> omega
  refine Ev.step (f := fun k => (gf_Inv.f k (zF (dv.getD (dv.length - 1) 0))).bind fun t => gf_PolyDiv.l0 k (Iz dv) (Iz p) (Iz (List.replicate kk 0)) t.1 ((kk : Int) - 1)) (fun k => ?_) ?_
  · simp only [gf_PolyDiv.j0]
    have e2 : wrap64 (((Iz dv).length : Int) - 1) = ((dv.length - 1 : Nat) : Int) := by rw [Iz_length, w64 _ (by omega) (by omega)]; omega
    rw [hmx, if_neg (by decide), if_pos (by rw [Iz_length]; simp; omega), if_pos (by omega), if_pos (by omega), Option.bind_some, e2, if_pos (by omega), if_pos (by rw [Iz_length]; omega), rd_IzN]
    congr 1
    funext t
    rw [List.nil_append, List.length_replicate, Iz_replicate, w64 _ (by omega) (by omega)]
    rfl
  · refine Ev.bind (inv_ev _) ?_
    exact g5
/-- PolyDiv, where it refuses -/
theorem polyDiv_no (p q : List F) (hp : p.length ≤ 140737488351232) (hq : q.length ≤ 140737488351232) (h : shortL q = [] ∨ 512 < p.length + q.length) : Ev (fun k => gf_PolyDiv.f k (Iz p) (Iz q)) ([], [], false) := by
  unfold gf_PolyDiv.f
  refine Ev.bind (short_ev q (by omega)) ?_
  have fin : Ev (fun k => gf_PolyDiv.j0 k (Iz p) (Iz (shortL q)) true) ([], [], false) :=
    Ev.step (f := fun _ => some ([], [], false)) (fun k => by simp [gf_PolyDiv.j0]) (Ev.now _)
  by_cases hs : shortL q = []
  · refine Ev.congr (fun k => ?_) fin
    rw [if_pos (by rw [hs]; rfl)]
  · have hpos : 0 < (shortL q).length := List.length_pos_iff.2 hs
    have hb : 512 < p.length + q.length := h.resolve_left hs
    refine Ev.congr (fun k => ?_) fin
    have hdec : decide (wrap64 (((Iz p).length : Int) + ((Iz q).length : Int)) > 512) = true := by
      rw [Iz_length, Iz_length, w64 _ (by omega) (by omega)]; simp; omega
    rw [if_neg (by rw [Iz_length]; omega), hdec]
end Go.Proofs.YticfidlclofbbaaDoor.G
