/- What PolyMul and PolyDiv come to, in plain lists. -/
import Derived.Test.YticfidlclofbbaaPo
namespace Go.Proofs.Yticfidlclofbbaa.G
open Go.RowKit Go.Proofs.YticfidlclofbbaaW.PrintWords FB

theorem sh_sh (i j : Nat) (p : PS) : PS.sh i (PS.sh j p) = PS.sh (i + j) p := by
  apply PS.ext; intro n
  unfold PS.sh
  by_cases ha : n < i
  · rw [if_pos ha, if_pos (by omega)]
  · rw [if_neg ha]
    by_cases hb : n - i < j
    · rw [if_pos hb, if_pos (by omega)]
    · rw [if_neg hb, if_neg (by omega)]; congr 1; omega
theorem sh_zeroPS (i : Nat) : PS.sh i 0 = 0 := by
  apply PS.ext; intro n
  unfold PS.sh; split <;> rfl
theorem sc_of_cons (c a : F) (l : List F) : PS.sc c (PS.of (a :: l)) = PS.C (c * a) + PS.sh 1 (PS.sc c (PS.of l)) := by
  apply PS.ext; intro n
  rw [PS.add_at]
  cases n with
  | zero => rw [PS.C_zero, PS.sh_succ_zero, F.add_zero]; rfl
  | succ n => rw [PS.C_succ, PS.sh_succ_at, PS.sh_zero, F.zero_add]; rfl
theorem sc_drop_step (c : F) (q : List F) (i j : Nat) (h : j < q.length) :
    PS.sh (i + j) (PS.sc c (PS.of (q.drop j))) = PS.mono (i + j) (c * q.getD j 0) + PS.sh (i + (j + 1)) (PS.sc c (PS.of (q.drop (j + 1)))) := by
  have hq : q.drop j = q.getD j 0 :: q.drop (j + 1) := by
    rw [List.drop_eq_getElem_cons h]; simp [List.getD_eq_getElem?_getD, h]
  rw [hq, sc_of_cons, PS.sh_add, sh_sh]; rfl

/-! ### the product -/
/-- one row of the product -/
theorem mulRow (q : List F) (p : List F) (i : Nat) (a : F) (hb : i + q.length ≤ 140737488355328) (m : Int) (d : Nat) : ∀ (j : Nat) (o : List F), q.length - j = d → j ≤ q.length → i + q.length ≤ o.length →
    ∃ o' : List F, o'.length = o.length ∧ PS.of o' = PS.of o + PS.sh (i + j) (PS.sc a (PS.of (q.drop j))) ∧
      ∀ R, Ev (fun k => gf_PolyMul.l0 k (Iz q) (Iz o') (Iz p) m (wrap64 ((i : Int) + 1))) R → Ev (fun k => gf_PolyMul.l1 k (Iz q) (Iz o) (i : Int) (zF a) (Iz p) m (i : Int) (Iz q) ((Iz q).length : Int) (j : Int)) R := by
  induction d with
  | zero =>
    intro j o hd hj ho
    have : j = q.length := by omega
    subst this
    refine ⟨o, rfl, ?_, fun R hR => ?_⟩
    · rw [List.drop_length, PS.of_nil, PS.sc_zero', sh_zeroPS, PS.add_zero]
    · refine Ev.step (fun k => ?_) hR
      simp only [gf_PolyMul.l1]; rw [if_neg (by rw [Iz_length]; omega)]
  | succ d ih =>
    intro j o hd hj ho
    have hlt : j < q.length := by omega
    obtain ⟨o', h1, h2, h3⟩ := ih (j + 1) (o.set (i + j) (o.getD (i + j) 0 + a * q.getD j 0)) (by omega) (by omega) (by simp; omega)
    refine ⟨o', by rw [h1]; simp, ?_, fun R hR => ?_⟩
    · rw [h2, of_set_add _ _ _ (by omega), PS.add_assoc, sc_drop_step a q i j hlt]
    · have e1 : wrap64 ((i : Int) + (j : Int)) = ((i + j : Nat) : Int) := by rw [w64 _ (by omega) (by omega)]; omega
      refine Ev.step (f := fun k => (gf_Mul.f k (zF a) (zF (q.getD j 0))).bind fun t => gf_PolyMul.l1 k (Iz q) ((Iz o).set (i + j) (Go.bits .xor .u8 (zF (o.getD (i + j) 0)) t)) (i : Int) (zF a) (Iz p) m (i : Int) (Iz q) ((Iz q).length : Int) ((j + 1 : Nat) : Int)) (fun k => ?_) ?_
      · simp only [gf_PolyMul.l1]
        rw [if_pos (by rw [Iz_length]; omega), if_pos (by omega), if_pos (by rw [Iz_length]; omega), e1, if_pos (by omega), if_pos (by rw [Iz_length]; omega), rd_IzN, rd_IzN, w64 ((j : Int) + 1) (by omega) (by omega)]
        rfl
      · refine Ev.bind (mul_ev _ _) ?_
        rw [xor_zF, ← Iz_set]
        exact h3 R hR
theorem polyMul_loop (p q : List F) (hb : p.length + q.length ≤ 512) (d : Nat) : ∀ (i : Nat) (o : List F), p.length - i = d → i ≤ p.length → o.length = p.length + q.length →
    ∃ o' : List F, o'.length = p.length + q.length ∧ PS.of o' = PS.of o + PS.sh i (PS.of (p.drop i) * PS.of q) ∧
      Ev (fun k => gf_PolyMul.l0 k (Iz q) (Iz o) (Iz p) ((Iz p).length : Int) (i : Int)) (Iz (shortL o'), true) := by
  induction d with
  | zero =>
    intro i o hd hi ho
    have : i = p.length := by omega
    subst this
    refine ⟨o, ho, ?_, ?_⟩
    · rw [List.drop_length, PS.of_nil, PS.zero_mul, sh_zeroPS, PS.add_zero]
    · refine Ev.step (f := fun k => (gf_short.f k (Iz o)).bind fun t => some (t, true)) (fun k => ?_) ?_
      · simp only [gf_PolyMul.l0]; rw [if_neg (by rw [Iz_length]; omega)]
      · exact Ev.bind (f := fun _ t => some (t, true)) (short_ev o (by omega)) (Ev.now _)
  | succ d ih =>
    intro i o hd hi ho
    have hlt : i < p.length := by omega
    obtain ⟨o1, h1, h2, h3⟩ := mulRow q p i (p.getD i 0) (by omega) ((Iz p).length : Int) q.length 0 o (by omega) (by omega) (by omega)
    obtain ⟨o', g1, g2, g3⟩ := ih (i + 1) o1 (by omega) (by omega) (by omega)
    refine ⟨o', g1, ?_, ?_⟩
    · have hp : p.drop i = p.getD i 0 :: p.drop (i + 1) := by
        rw [List.drop_eq_getElem_cons hlt]; simp [List.getD_eq_getElem?_getD, hlt]
      have e : PS.of (p.drop i) * PS.of q = PS.sc (p.getD i 0) (PS.of q) + PS.sh 1 (PS.of (p.drop (i + 1)) * PS.of q) := by
        rw [hp, of_cons, PS.add_mul, PS.C_mul, PS.sh_mul]
      rw [g2, h2, List.drop_zero, e, PS.sh_add, sh_sh, PS.add_assoc, Nat.add_zero]
    · refine Ev.step (fun k => ?_) (h3 _ ?_)
      · simp only [gf_PolyMul.l0]
        rw [if_pos (by rw [Iz_length]; omega), if_pos (by omega), if_pos (by rw [Iz_length]; omega), rd_IzN]
        rfl
      · rw [w64 _ (by omega) (by omega)]
        exact g3
/-- PolyMul -/
def mulP (p q : List F) : List F := canon (PS.of p * PS.of q) (p.length + q.length)
theorem mul_below' (p q : List F) : (PS.of p * PS.of q).below (p.length + q.length) := ((PS.of_below p).mul (PS.of_below q)).mono (by omega)
theorem of_mulP (p q : List F) : PS.of (mulP p q) = PS.of p * PS.of q := of_canon (mul_below' p q)
theorem polyMul_ev (p q : List F) (hb : p.length + q.length ≤ 512) : Ev (fun k => gf_PolyMul.f k (Iz p) (Iz q)) (Iz (mulP p q), true) := by
  obtain ⟨o', h1, h2, h3⟩ := polyMul_loop p q hb p.length 0 (List.replicate (p.length + q.length) 0) (by omega) (by omega) (by simp)
  have e : shortL o' = mulP p q := by
    refine shortL_eq_canon (mul_below' p q) ?_
    rw [h2, of_replicate, PS.zero_add, PS.sh_zero, List.drop_zero]
  rw [← e]
  refine Ev.congr (fun k => ?_) h3
  unfold gf_PolyMul.f
  have e1 : wrap64 (((Iz p).length : Int) + ((Iz q).length : Int)) = ((p.length + q.length : Nat) : Int) := by rw [Iz_length, Iz_length, w64 _ (by omega) (by omega)]; omega
  rw [e1, if_neg (by omega), if_pos (by omega), if_pos (by omega), Iz_replicate]
  rfl
theorem polyMul_long (p q : List F) (hp : p.length ≤ 140737488351232) (hq : q.length ≤ 140737488351232) (hb : 512 < p.length + q.length) (k : Nat) : gf_PolyMul.f k (Iz p) (Iz q) = some ([], false) := by
  unfold gf_PolyMul.f
  rw [if_pos (by rw [Iz_length, Iz_length, w64 _ (by omega) (by omega)]; omega)]

end Go.Proofs.Yticfidlclofbbaa.G
