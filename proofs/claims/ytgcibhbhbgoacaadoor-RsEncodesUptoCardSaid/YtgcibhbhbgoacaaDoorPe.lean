/- The document's answer (fareboxref32: Mul, Exp, Short, Times, PolyMul): what it answers, in the field of 256. -/
import Derived.Test.YtgcibhbhbgoacaaDoorVa
import Derived.Test.YtgcibhbhbgoacaaDoorRe
namespace Go.Proofs.YtgcibhbhbgoacaaDoor
open Go.Proofs.YtgcibhbhbgoacaaDoor.G Go.Proofs.YtgcibhbhbgoacaaDoor.Re FB
open Go.RowKit Go.Proofs.YtgcibhbhbgoacaaDoorW.PrintWords
set_option linter.unusedVariables false
set_option linter.unusedSimpArgs false
/-! ### Mul -/
theorem xt_i64 (a : F) : (if wrap64 (2 * zF a) > 255 then Go.bits .xor .i64 (wrap64 (2 * zF a)) 285 else wrap64 (2 * zF a)) = zF (xt a) := by
  have h0 := zF_lo a
  have h1 := zF_hi a
  have e : wrap64 (2 * zF a) = ((2 * a.n : Nat) : Int) := by rw [w64 _ (by omega) (by omega)]; unfold zF; omega
  have ha := a.lt
  rw [e]
  show _ = ((xtn a.n : Nat) : Int)
  by_cases h : 2 * a.n > 255
  · rw [if_pos (by omega), show (285 : Int) = ((285 : Nat) : Int) from rfl, xor_i64 _ _ (by omega) (by decide)]
    unfold xtn
    rw [show a.n / 128 = 1 by omega]
  · rw [if_neg (by omega)]
    unfold xtn
    rw [show a.n / 128 = 0 by omega]
    simp
theorem rmul_loop (n : Nat) : ∀ (a o : F) (b : Nat), b < 2 ^ n → b < 256 → Ev (fun k => fareboxref32_Mul.l0 k (zF a) (zF o) (b : Int)) (zF (mulA n a b o)) := by
  induction n with
  | zero =>
    intro a o b hb _
    obtain rfl : b = 0 := by simpa using hb
    refine Ev.step (f := fun _ => some (zF o)) (fun k => ?_) (Ev.now _)
    simp only [fareboxref32_Mul.l0]
    have h0 := zF_lo o
    have h1 := zF_hi o
    rw [if_neg (by omega), show zF o % 256 = zF o by omega]
  | succ n ih =>
    intro a o b hb hb2
    by_cases h0 : b = 0
    · subst h0
      rw [mulA_zero_b]
      refine Ev.step (f := fun _ => some (zF o)) (fun k => ?_) (Ev.now _)
      simp only [fareboxref32_Mul.l0]
      have h0 := zF_lo o
      have h1 := zF_hi o
      rw [if_neg (by omega), show zF o % 256 = zF o by omega]
    · refine Ev.step (f := fun k => fareboxref32_Mul.l0 k (zF (xt a)) (zF (if b % 2 = 1 then o + a else o)) ((b / 2 : Nat) : Int)) (fun k => ?_) (ih (xt a) (if b % 2 = 1 then o + a else o) (b / 2) (by rw [Nat.pow_succ] at hb; omega) (by omega))
      simp only [fareboxref32_Mul.l0]
      have e1 : Int.tmod (b : Int) 2 = ((b % 2 : Nat) : Int) := by rw [Int.tmod_eq_emod_of_nonneg (by omega)]; omega
      have e2 : wrap64 (Int.tdiv (b : Int) 2) = ((b / 2 : Nat) : Int) := by rw [Int.tdiv_eq_ediv_of_nonneg (by omega), w64 _ (by omega) (by omega)]; omega
      have e3 : Go.bits .xor .i64 (zF o) (zF a) = zF (o + a) := xor_i64 o.n a.n (by have := o.lt; omega) (by have := a.lt; omega)
      rw [if_pos (by omega), e1, e2, e3, ← xt_i64 a]
      by_cases hp : b % 2 = 1
      · rw [if_pos (by omega), if_pos hp]
        by_cases hc : wrap64 (2 * zF a) > 255
        · rw [if_pos hc, if_pos hc]
        · rw [if_neg hc, if_neg hc]
      · rw [if_neg (by omega), if_neg hp]
        by_cases hc : wrap64 (2 * zF a) > 255
        · rw [if_pos hc, if_pos hc]
        · rw [if_neg hc, if_neg hc]
theorem zF_w64 (a : F) : wrap64 (zF a) = zF a := w64 _ (by have := zF_lo a; omega) (by have := zF_hi a; omega)
theorem rmul_ev (a b : F) : Ev (fun k => fareboxref32_Mul.f k (zF a) (zF b)) (zF (a * b)) := by
  refine Ev.congr (fun k => ?_) (rmul_loop 8 a 0 b.n b.lt b.lt)
  unfold fareboxref32_Mul.f
  rw [zF_w64, zF_w64]
  rfl
theorem radd_at (a b : F) : fareboxref32_Add.f (zF a) (zF b) = some (zF (a + b)) := by unfold fareboxref32_Add.f; rw [xor_zF]
/-! ### Exp -/
theorem rexp_loop (m d : Nat) (hm : m < 255) : ∀ i : Nat, m - i = d → i ≤ m → Ev (fun k => fareboxref32_Exp.l0 k (m : Int) (zF (pw i)) (i : Int)) (zF (pw m)) := by
  induction d with
  | zero =>
    intro i h1 h2
    obtain rfl : i = m := by omega
    exact Ev.step (f := fun _ => some (zF (pw i))) (fun k => by simp only [fareboxref32_Exp.l0]; rw [if_neg (by omega)]) (Ev.now _)
  | succ d ih =>
    intro i h1 h2
    refine Ev.step (f := fun k => (fareboxref32_Mul.f k (zF (pw i)) 2).bind fun t => fareboxref32_Exp.l0 k (m : Int) t ((i + 1 : Nat) : Int)) (fun k => ?_) ?_
    · simp only [fareboxref32_Exp.l0]
      rw [if_pos (by omega), w64 _ (by omega) (by omega)]
      rfl
    · have h := rmul_ev (pw i) ⟨2, by decide⟩
      rw [mul_two] at h
      exact Ev.bind h (ih (i + 1) (by omega) (by omega))
theorem rexp_ev (m : Nat) (hm : m < 255) : Ev (fun k => fareboxref32_Exp.f k (m : Int)) (zF (pw m)) := by
  refine Ev.congr (f := fun k => fareboxref32_Exp.j0 k (m : Int)) (fun k => ?_) ?_
  · have e : Int.tmod (m : Int) 255 = (m : Int) := by rw [Int.tmod_eq_emod_of_nonneg (by omega)]; omega
    unfold fareboxref32_Exp.f
    rw [e, if_neg (by omega)]
  · refine Ev.step (f := fun k => fareboxref32_Exp.l0 k (m : Int) 1 0) (fun k => by simp only [fareboxref32_Exp.j0]) ?_
    exact rexp_loop m m hm 0 (by omega) (by omega)
/-! ### Short -/
theorem rshort_copy (l : List F) (hl : l.length ≤ 140737488355328) (n d : Nat) (hn : n ≤ l.length) : ∀ i : Nat, n - i = d → i ≤ n → Ev (fun k => fareboxref32_Short.l1 k (Iz l) (n : Int) (Iz (l.take i)) (i : Int)) (Iz (l.take n)) := by
  induction d with
  | zero =>
    intro i h1 h2
    obtain rfl : i = n := by omega
    exact Ev.step (f := fun _ => some (Iz (l.take i))) (fun k => by simp only [fareboxref32_Short.l1]; rw [if_neg (by omega)]) (Ev.now _)
  | succ d ih =>
    intro i h1 h2
    refine Ev.step (f := fun k => fareboxref32_Short.l1 k (Iz l) (n : Int) (Iz (l.take (i + 1))) ((i + 1 : Nat) : Int)) (fun k => ?_) (ih (i + 1) (by omega) (by omega))
    simp only [fareboxref32_Short.l1]
    have hi : i < l.length := by omega
    rw [if_pos (by omega), if_pos (by omega), if_pos (by rw [Iz_length]; omega), if_pos (by rw [Iz_length, List.length_take]; omega), w64 _ (by omega) (by omega), rd_IzN]
    have e : Iz (l.take (i + 1)) = Iz (l.take i) ++ [zF (l.getD i 0)] := by
      rw [List.take_add_one, Iz_append]
      congr 1
      rw [List.getD_eq_getElem?_getD, List.getElem?_eq_getElem hi]
      rfl
    rw [e]
    rfl
theorem rshort_ev (l : List F) (hl : l.length ≤ 140737488355328) : Ev (fun k => fareboxref32_Short.f k (Iz l)) (Iz (shortL l)) := by
  have key : ∀ n : Nat, n ≤ l.length → shortL l = shortL (l.take n) → Ev (fun k => fareboxref32_Short.l0 k (Iz l) (n : Int)) (Iz (shortL l)) := by
    intro n
    induction n with
    | zero =>
      intro _ hs
      rw [hs]
      refine Ev.step (f := fun k => fareboxref32_Short.j1 k (Iz l) 0) (fun k => by simp only [fareboxref32_Short.l0]; rw [if_neg (by omega)]; rfl) ?_
      refine Ev.step (f := fun k => fareboxref32_Short.l1 k (Iz l) 0 [] 0) (fun k => by simp only [fareboxref32_Short.j1]) ?_
      exact rshort_copy l hl 0 0 (by omega) 0 rfl (by omega)
    | succ n ih =>
      intro hn hs
      have hi : n < l.length := by omega
      have hlt : (l.take (n + 1)) = l.take n ++ [l.getD n 0] := by
        rw [List.take_add_one]
        congr 1
        rw [List.getD_eq_getElem?_getD, List.getElem?_eq_getElem hi]
        rfl
      have e1 : wrap64 (((n + 1 : Nat) : Int) - 1) = (n : Int) := by rw [w64 _ (by omega) (by omega)]; omega
      by_cases hz : l.getD n 0 = 0
      · rw [hlt, hz, shortL_snoc_zero] at hs
        refine Ev.step (f := fun k => fareboxref32_Short.l0 k (Iz l) (n : Int)) (fun k => ?_) (ih (by omega) hs)
        simp only [fareboxref32_Short.l0]
        rw [e1, if_pos (by omega), if_pos (by omega), if_pos (by rw [Iz_length]; omega), rd_IzN, hz, if_pos zF_zero]
      · rw [hlt, shortL_snoc_ne _ _ hz, ← hlt] at hs
        rw [hs]
        refine Ev.step (f := fun k => fareboxref32_Short.j1 k (Iz l) ((n + 1 : Nat) : Int)) (fun k => ?_) ?_
        · simp only [fareboxref32_Short.l0]
          rw [e1, if_pos (by omega), if_pos (by omega), if_pos (by rw [Iz_length]; omega), rd_IzN, if_neg (fun e => hz (zF_eq_zero.1 e))]
        · refine Ev.step (f := fun k => fareboxref32_Short.l1 k (Iz l) ((n + 1 : Nat) : Int) [] 0) (fun k => by simp only [fareboxref32_Short.j1]) ?_
          exact rshort_copy l hl (n + 1) (n + 1) hn 0 rfl (by omega)
  have h := key l.length (Nat.le_refl _) (by rw [List.take_length])
  refine Ev.congr (fun k => ?_) h
  unfold fareboxref32_Short.f
  rw [Iz_length]
/-! ### Times, PolyMul -/
theorem rtimes_zero (p q : List F) (hb : p.length + q.length ≤ 512) (R : List Int) (d : Nat) : ∀ i : Nat, p.length + q.length - 1 - i = d → i ≤ p.length + q.length - 1 →
    Ev (fun k => fareboxref32_Times.l1 k (Iz p) (Iz q) (Iz (List.replicate (p.length + q.length - 1) 0)) 0) R → Ev (fun k => fareboxref32_Times.l0 k (Iz p) (Iz q) (Iz (List.replicate i 0)) (i : Int)) R := by
  have e0 : wrap64 (((Iz p).length : Int) + ((Iz q).length : Int)) = ((p.length + q.length : Nat) : Int) := by rw [Iz_length, Iz_length, w64 _ (by omega) (by omega)]; omega
  induction d with
  | zero =>
    intro i h1 h2 hR
    obtain rfl : i = p.length + q.length - 1 := by omega
    refine Ev.step (fun k => ?_) hR
    simp only [fareboxref32_Times.l0]
    rw [e0, w64 _ (by omega) (by omega), if_neg (by omega)]
  | succ d ih =>
    intro i h1 h2 hR
    refine Ev.step (fun k => ?_) (ih (i + 1) (by omega) (by omega) hR)
    simp only [fareboxref32_Times.l0]
    rw [e0, w64 _ (by omega) (by omega), if_pos (by omega), if_pos (by rw [Iz_length, List.length_replicate]; omega), List.replicate_succ', Iz_append]
    rfl
theorem rtimes_row (p q : List F) (i : Nat) (hi : i < p.length) (hb : p.length + q.length ≤ 512) (d : Nat) : ∀ (j : Nat) (o : List F), q.length - j = d → j ≤ q.length → p.length + q.length ≤ o.length + 1 →
    ∃ o' : List F, o'.length = o.length ∧ PS.of o' = PS.of o + PS.sh (i + j) (PS.sc (p.getD i 0) (PS.of (q.drop j))) ∧
      ∀ R, Ev (fun k => fareboxref32_Times.l1 k (Iz p) (Iz q) (Iz o') ((i + 1 : Nat) : Int)) R → Ev (fun k => fareboxref32_Times.l2 k (Iz p) (Iz q) (Iz o) (i : Int) (j : Int)) R := by
  induction d with
  | zero =>
    intro j o hd hj ho
    obtain rfl : j = q.length := by omega
    refine ⟨o, rfl, ?_, fun R hR => ?_⟩
    · rw [List.drop_length, PS.of_nil, PS.sc_zero', sh_zeroPS, PS.add_zero]
    · refine Ev.step (fun k => ?_) hR
      simp only [fareboxref32_Times.l2]; rw [if_neg (by rw [Iz_length]; omega), w64 _ (by omega) (by omega)]; rfl
  | succ d ih =>
    intro j o hd hj ho
    have hlt : j < q.length := by omega
    obtain ⟨o', h1, h2, h3⟩ := ih (j + 1) (o.set (i + j) (o.getD (i + j) 0 + p.getD i 0 * q.getD j 0)) (by omega) (by omega) (by simp; omega)
    refine ⟨o', by rw [h1]; simp, ?_, fun R hR => ?_⟩
    · rw [h2, of_set_add _ _ _ (by omega), PS.add_assoc, sc_drop_step (p.getD i 0) q i j hlt]
    · have e1 : wrap64 ((i : Int) + (j : Int)) = ((i + j : Nat) : Int) := by rw [w64 _ (by omega) (by omega)]; omega
      refine Ev.step (f := fun k => (fareboxref32_Mul.f k (zF (p.getD i 0)) (zF (q.getD j 0))).bind fun t => fareboxref32_Times.l2 k (Iz p) (Iz q) ((Iz o).set (i + j) (Go.bits .xor .u8 (zF (o.getD (i + j) 0)) t)) (i : Int) ((j + 1 : Nat) : Int)) (fun k => ?_) ?_
      · simp only [fareboxref32_Times.l2]
        rw [if_pos (by rw [Iz_length]; omega), e1, if_pos (by omega), if_pos (by rw [Iz_length]; omega), if_pos (by omega), if_pos (by rw [Iz_length]; omega), if_pos (by omega), rd_IzN, rd_IzN, rd_IzN, w64 ((j : Int) + 1) (by omega) (by omega)]
        rfl
      · refine Ev.bind (rmul_ev _ _) ?_
        rw [xor_zF, ← Iz_set]
        exact h3 R hR
theorem rtimes_loop (p q : List F) (hb : p.length + q.length ≤ 512) (d : Nat) : ∀ (i : Nat) (o : List F), p.length - i = d → i ≤ p.length → o.length = p.length + q.length - 1 →
    ∃ o' : List F, o'.length = p.length + q.length - 1 ∧ PS.of o' = PS.of o + PS.sh i (PS.of (p.drop i) * PS.of q) ∧
      Ev (fun k => fareboxref32_Times.l1 k (Iz p) (Iz q) (Iz o) (i : Int)) (Iz (shortL o')) := by
  induction d with
  | zero =>
    intro i o hd hi ho
    obtain rfl : i = p.length := by omega
    refine ⟨o, ho, ?_, ?_⟩
    · rw [List.drop_length, PS.of_nil, PS.zero_mul, sh_zeroPS, PS.add_zero]
    · refine Ev.step (f := fun k => (fareboxref32_Short.f k (Iz o)).bind fun t => some t) (fun k => ?_) ?_
      · simp only [fareboxref32_Times.l1]; rw [if_neg (by rw [Iz_length]; omega)]
      · exact Ev.bind (f := fun _ t => some t) (rshort_ev o (by omega)) (Ev.now _)
  | succ d ih =>
    intro i o hd hi ho
    have hlt : i < p.length := by omega
    obtain ⟨o1, h1, h2, h3⟩ := rtimes_row p q i hlt hb q.length 0 o (by omega) (by omega) (by omega)
    obtain ⟨o', g1, g2, g3⟩ := ih (i + 1) o1 (by omega) (by omega) (by omega)
    refine ⟨o', g1, ?_, ?_⟩
    · have hp : p.drop i = p.getD i 0 :: p.drop (i + 1) := by
        rw [List.drop_eq_getElem_cons hlt]; simp [List.getD_eq_getElem?_getD, hlt]
      have e : PS.of (p.drop i) * PS.of q = PS.sc (p.getD i 0) (PS.of q) + PS.sh 1 (PS.of (p.drop (i + 1)) * PS.of q) := by
        rw [hp, of_cons, PS.add_mul, PS.C_mul, PS.sh_mul]
      rw [g2, h2, List.drop_zero, e, PS.sh_add, sh_sh, PS.add_assoc, Nat.add_zero]
    · refine Ev.step (fun k => ?_) (h3 _ g3)
      simp only [fareboxref32_Times.l1]
      rw [if_pos (by rw [Iz_length]; omega)]
      rfl
theorem rtimes_ev (p q : List F) (hb : p.length + q.length ≤ 512) : Ev (fun k => fareboxref32_Times.f k (Iz p) (Iz q)) (Iz (mulP p q)) := by
  obtain ⟨o', h1, h2, h3⟩ := rtimes_loop p q hb p.length 0 (List.replicate (p.length + q.length - 1) 0) (by omega) (by omega) (by simp)
  have e : shortL o' = mulP p q := by
    refine shortL_eq_canon (mul_below' p q) ?_
    rw [h2, of_replicate, PS.zero_add, PS.sh_zero, List.drop_zero]
  rw [← e]
  exact rtimes_zero p q hb _ _ 0 rfl (by omega) h3
theorem mulP_short (p q : List F) : mulP (shortL p) (shortL q) = mulP p q := by
  refine Short.eq (short_canon _ _) (short_canon _ _) ?_
  show PS.of (mulP (shortL p) (shortL q)) = PS.of (mulP p q)
  rw [of_mulP, of_mulP, of_shortL, of_shortL]
theorem rpolyMul_ev (p q : List F) (hb : p.length + q.length ≤ 512) : Ev (fun k => fareboxref32_PolyMul.f k (Iz p) (Iz q)) (Iz (mulP p q), true) := by
  have e1 : wrap64 (((Iz p).length : Int) + ((Iz q).length : Int)) = ((p.length + q.length : Nat) : Int) := by rw [Iz_length, Iz_length, w64 _ (by omega) (by omega)]; omega
  refine Ev.congr (f := fun k => (fareboxref32_Short.f k (Iz p)).bind fun t => (fareboxref32_Short.f k (Iz q)).bind fun u => (fareboxref32_Times.f k t u).bind fun v => some (v, true)) (fun k => ?_) ?_
  · unfold fareboxref32_PolyMul.f
    rw [e1, if_neg (by omega)]
  · refine Ev.bind (rshort_ev p (by omega)) (Ev.bind (rshort_ev q (by omega)) ?_)
    have h1 := shortL_length p
    have h2 := shortL_length q
    have h := rtimes_ev (shortL p) (shortL q) (by omega)
    rw [mulP_short] at h
    exact Ev.bind h (Ev.now _)
end Go.Proofs.YtgcibhbhbgoacaaDoor
