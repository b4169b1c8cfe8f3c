/- The document's answer (fareboxref34: Generator, Encode, Distance), and what marked and turned answer: the same as the program's. -/
import Derived.Test.YtgcibhbhbgoacaaDoorPe
import Derived.Test.YtgcibhbhbgoacaaDoorLqe
import Derived.Test.YtgcibhbhbgoacaaDoorGe
namespace Go.Proofs.YtgcibhbhbgoacaaDoor
open Go.Proofs.YtgcibhbhbgoacaaDoor.G Go.Proofs.YtgcibhbhbgoacaaDoor.Re FB
open Go.RowKit Go.Proofs.YtgcibhbhbgoacaaDoorW.PrintWords
set_option linter.unusedVariables false
set_option linter.unusedSimpArgs false
/-! ### Generator -/
theorem rgen_loop (c : Nat) (hc : c ≤ 64) (d : Nat) : ∀ j : Nat, c - j = d → j ≤ c → Ev (fun k => fareboxref34_Generator.l0 k (c : Int) (Iz (linL (rootsL j))) (j : Int)) (Iz (linL (rootsL c)), true) := by
  induction d with
  | zero =>
    intro j h1 h2
    obtain rfl : j = c := by omega
    exact Ev.step (f := fun _ => some (Iz (linL (rootsL j)), true)) (fun k => by simp only [fareboxref34_Generator.l0]; rw [if_neg (by omega)]) (Ev.now _)
  | succ d ih =>
    intro j h1 h2
    refine Ev.step (f := fun k => (fareboxref32_Exp.f k (j : Int)).bind fun t => (fareboxref32_PolyMul.f k (Iz (linL (rootsL j))) [t, 1]).bind fun b => fareboxref34_Generator.l0 k (c : Int) b.1 ((j + 1 : Nat) : Int)) (fun k => ?_) ?_
    · simp only [fareboxref34_Generator.l0]
      rw [if_pos (by omega), w64 _ (by omega) (by omega)]
      rfl
    · refine Ev.bind (rexp_ev j (by omega)) ?_
      refine Ev.bind (rpolyMul_ev (linL (rootsL j)) [pw j, 1] (by rw [linL_length, rootsL_length]; simp; omega)) ?_
      have := ih (j + 1) (by omega) (by omega)
      simp only [mulP_lin]
      exact this
theorem rgen_ev (c : Nat) (h1 : 1 ≤ c) (h2 : c ≤ 64) : Ev (fun k => fareboxref34_Generator.f k (c : Int)) (Iz (linL (rootsL c)), true) := by
  refine Ev.congr (f := fun k => fareboxref34_Generator.j0 k (c : Int) (decide ((c : Int) > 64))) (fun k => by unfold fareboxref34_Generator.f; rw [if_neg (by omega)]) ?_
  refine Ev.step (f := fun k => fareboxref34_Generator.l0 k (c : Int) [1] 0) (fun k => ?_) ?_
  · simp only [fareboxref34_Generator.j0]
    rw [if_neg (by simp; omega)]
  · have h := rgen_loop c h2 c 0 (by omega) (by omega)
    have e : Iz (linL (rootsL 0)) = [1] := by show Iz (linL []) = [1]; rw [linL_nil]; rfl
    rw [e] at h
    exact h
theorem rgen_no (c : Int) (h : c < 1 ∨ 64 < c) : Ev (fun k => fareboxref34_Generator.f k c) ([], false) := by
  have key : Ev (fun k => fareboxref34_Generator.j0 k c true) ([], false) := Ev.step (f := fun _ => some ([], false)) (fun k => by simp only [fareboxref34_Generator.j0]; rw [if_pos trivial]) (Ev.now _)
  by_cases h1 : c < 1
  · exact Ev.congr (fun k => by unfold fareboxref34_Generator.f; rw [if_pos h1]) key
  · exact Ev.congr (fun k => by unfold fareboxref34_Generator.f; rw [if_neg h1, decide_eq_true (by omega)]) key
/-- Ge's Generator is G's -/
theorem ge_loop : ∀ (k : Nat) (l : List Int) (a b : Int), Ge.rs_Generator.l0 k l a b = G.rs_Generator.l0 k l a b := by
  intro k
  induction k with
  | zero => intro l a b; simp only [Ge.rs_Generator.l0, G.rs_Generator.l0]
  | succ k ih =>
    intro l a b
    simp only [Ge.rs_Generator.l0, G.rs_Generator.l0, ih]
theorem ge_gen (k : Nat) (a : Int) : Ge.rs_Generator.f k a = G.rs_Generator.f k a := by
  have hj : ∀ (k : Nat) (x : Int) (b : Bool), Ge.rs_Generator.j0 k x b = G.rs_Generator.j0 k x b := by
    intro k x b
    cases k with
    | zero => simp only [Ge.rs_Generator.j0, G.rs_Generator.j0]
    | succ k => simp only [Ge.rs_Generator.j0, G.rs_Generator.j0, ge_loop]
  unfold Ge.rs_Generator.f G.rs_Generator.f
  rw [hj, hj]
theorem gen_both (c : Int) : ∃ (g : List F) (b : Bool), g.length ≤ 65 ∧ Ev (fun k => Ge.rs_Generator.f k c) (Iz g, b) ∧ Ev (fun k => fareboxref34_Generator.f k c) (Iz g, b) := by
  by_cases h : c < 1 ∨ 64 < c
  · exact ⟨[], false, by simp, Ev.congr (fun k => ge_gen k c) (gen_no c h), rgen_no c h⟩
  · obtain ⟨n, rfl⟩ : ∃ n : Nat, c = (n : Int) := ⟨c.toNat, by omega⟩
    exact ⟨linL (rootsL n), true, by rw [linL_length, rootsL_length]; omega, Ev.congr (fun k => ge_gen k n) (gen_ev n (by omega) (by omega)), rgen_ev n (by omega) (by omega)⟩
/-! ### Encode -/
theorem syn_set (o : List F) (p j : Nat) (v : F) (hp : p < o.length) : syn (o.set p (o.getD p 0 + v)) j = syn o j + v * fp (loc o.length p) j := by
  unfold syn
  rw [List.length_set]
  have e : msum (List.range o.length) (fun q => (o.set p (o.getD p 0 + v)).getD q 0 * fp (loc o.length q) j)
      = msum (List.range o.length) (fun q => o.getD q 0 * fp (loc o.length q) j + (if q = p then v * fp (loc o.length q) j else 0)) := by
    refine msum_congr fun q hq => ?_
    rw [getD_set _ _ _ _ hp]
    by_cases h : q = p
    · rw [if_pos h, if_pos h, h, F.add_mul]
    · rw [if_neg h, if_neg h, F.add_zero]
  rw [e, msum_add]
  congr 1
  rw [msum_single (a := p) List.nodup_range (List.mem_range.2 hp) (fun b _ hb => by rw [if_neg hb]), if_pos rfl]
/-- the part of a row that is still to be added -/
def rowS (g : List F) (b j m : Nat) : F := msum (List.range m) fun t => g.getD t 0 * pw (j * (b + t))
theorem rowS_zero (c b j : Nat) (hj : j < c) : rowS (linL (rootsL c)) b j (c + 1) = 0 := by
  have h : evL (linL (rootsL c)) (pw j) = 0 := (evL_linL _ _).2 (rootsL_mem hj)
  unfold evL at h
  rw [linL_length, rootsL_length, ev_msum] at h
  unfold rowS
  have e : msum (List.range (c + 1)) (fun t => (linL (rootsL c)).getD t 0 * pw (j * (b + t))) = msum (List.range (c + 1)) (fun t => pw (j * b) * (PS.of (linL (rootsL c)) t * fp (pw j) t)) := by
    refine msum_congr fun t _ => ?_
    rw [fp_pw, Nat.mul_add, pw_add, Nat.mul_comm t j]
    show (linL (rootsL c)).getD t 0 * (pw (j * b) * pw (j * t)) = pw (j * b) * ((linL (rootsL c)).getD t 0 * pw (j * t))
    rw [F.mul_left_comm]
  rw [e, msum_mul, h, F.mul_zero]
theorem renc_one (D : List Int) (c n i kk : Nat) (cc : F) (g o : List F) (hg : g.length = c + 1) (hi : i < n) (hN : n + c ≤ 255) (hk : kk ≤ c) (ho : o.length = n + c) (R : List Int × Int)
    (hR : Ev (fun k => fareboxref34_Encode.l2 k D (c : Int) (Iz g) (Iz (o.set (i + kk) (o.getD (i + kk) 0 + cc * g.getD (c - kk) 0))) (i : Int) (zF cc) ((kk + 1 : Nat) : Int)) R) : Ev (fun k => fareboxref34_Encode.l2 k D (c : Int) (Iz g) (Iz o) (i : Int) (zF cc) (kk : Int)) R := by
  have e1 : wrap64 ((i : Int) + (kk : Int)) = ((i + kk : Nat) : Int) := by rw [w64 _ (by omega) (by omega)]; omega
  have e2 : wrap64 ((c : Int) - (kk : Int)) = ((c - kk : Nat) : Int) := by rw [w64 _ (by omega) (by omega)]; omega
  refine Ev.step (f := fun k => (fareboxref32_Mul.f k (zF cc) (zF (g.getD (c - kk) 0))).bind fun t => (fareboxref32_Add.f (zF (o.getD (i + kk) 0)) t).bind fun u => fareboxref34_Encode.l2 k D (c : Int) (Iz g) ((Iz o).set (i + kk) u) (i : Int) (zF cc) ((kk + 1 : Nat) : Int)) (fun k => ?_) ?_
  · simp only [fareboxref34_Encode.l2]
    rw [if_pos (by omega), e1, e2, if_pos (by omega), if_pos (by rw [Iz_length]; omega), if_pos (by omega), if_pos (by rw [Iz_length]; omega), rd_IzN, rd_IzN, w64 ((kk : Int) + 1) (by omega) (by omega)]
    rfl
  · refine Ev.bind (rmul_ev _ _) ?_
    refine Ev.bind (a := zF (o.getD (i + kk) 0 + cc * g.getD (c - kk) 0)) ⟨0, fun k _ => radd_at _ _⟩ ?_
    rw [← Iz_set]
    exact hR
theorem renc_row (D : List Int) (c n i : Nat) (cc : F) (g : List F) (hg : g.length = c + 1) (hi : i < n) (hN : n + c ≤ 255) (d : Nat) : ∀ (kk : Nat) (o : List F), c + 1 - kk = d → kk ≤ c + 1 → o.length = n + c →
    ∃ o' : List F, o'.length = n + c ∧ (∀ q, q < i + kk → o'.getD q 0 = o.getD q 0) ∧ (∀ j, syn o' j = syn o j + cc * rowS g (n - 1 - i) j (c + 1 - kk)) ∧
      ∀ R, Ev (fun k => fareboxref34_Encode.l1 k D (c : Int) (Iz g) (Iz o') ((i + 1 : Nat) : Int)) R → Ev (fun k => fareboxref34_Encode.l2 k D (c : Int) (Iz g) (Iz o) (i : Int) (zF cc) (kk : Int)) R := by
  induction d with
  | zero =>
    intro kk o hd hk ho
    obtain rfl : kk = c + 1 := by omega
    refine ⟨o, ho, fun q _ => rfl, fun j => ?_, fun R hR => ?_⟩
    · rw [Nat.sub_self]
      show syn o j = syn o j + cc * 0
      rw [F.mul_zero, F.add_zero]
    · refine Ev.step (fun k => ?_) hR
      simp only [fareboxref34_Encode.l2]; rw [if_neg (by omega), w64 _ (by omega) (by omega)]; rfl
  | succ d ih =>
    intro kk o hd hk ho
    have hlt : kk ≤ c := by omega
    obtain ⟨o', h1, h2, h3, h4⟩ := ih (kk + 1) (o.set (i + kk) (o.getD (i + kk) 0 + cc * g.getD (c - kk) 0)) (by omega) (by omega) (by simp; omega)
    refine ⟨o', h1, fun q hq => ?_, fun j => ?_, fun R hR => ?_⟩
    · rw [h2 q (by omega), getD_set _ _ _ _ (by omega), if_neg (by omega)]
    · rw [h3 j, syn_set _ _ _ _ (by omega), ho, F.add_assoc]
      congr 1
      have e : c + 1 - kk = (c - kk) + 1 := by omega
      rw [e]
      unfold rowS
      rw [msum_range_succ, F.mul_add, F.add_comm, show c + 1 - (kk + 1) = c - kk by omega]
      congr 1
      rw [F.mul_assoc]
      unfold loc
      rw [fp_pw, show n + c - 1 - (i + kk) = n - 1 - i + (c - kk) by omega]
    · exact renc_one D c n i kk cc g o hg hi hN hlt ho R (h4 R hR)
/-- the rest of the division: zero in front, with the same values at the roots -/
theorem renc_div (D : List Int) (c n : Nat) (hD : D.length = n) (hN : n + c ≤ 255) (d : Nat) : ∀ (i : Nat) (o : List F), n - i = d → i ≤ n → o.length = n + c → (∀ q, q < i → o.getD q 0 = 0) →
    ∃ o' : List F, o'.length = n + c ∧ (∀ q, q < n → o'.getD q 0 = 0) ∧ (∀ j, j < c → syn o' j = syn o j) ∧
      ∀ R, Ev (fun k => fareboxref34_Encode.l3 k D (Iz o') 0) R → Ev (fun k => fareboxref34_Encode.l1 k D (c : Int) (Iz (linL (rootsL c))) (Iz o) (i : Int)) R := by
  have hg : (linL (rootsL c)).length = c + 1 := by rw [linL_length, rootsL_length]
  have htop : (linL (rootsL c)).getD c 0 = 1 := by
    have h := PS.lin_top (rootsL c)
    rw [rootsL_length, ← of_linL] at h
    exact h
  induction d with
  | zero =>
    intro i o hd hi ho hz
    obtain rfl : i = n := by omega
    refine ⟨o, ho, hz, fun _ _ => rfl, fun R hR => ?_⟩
    refine Ev.step (fun k => ?_) hR
    simp only [fareboxref34_Encode.l1]
    rw [if_neg (by omega)]
  | succ d ih =>
    intro i o hd hi ho hz
    obtain ⟨o1, g1, g2, g3, g4⟩ := renc_row D c n i (o.getD i 0) (linL (rootsL c)) hg (by omega) hN c 1 (o.set i (o.getD i 0 + o.getD i 0 * (linL (rootsL c)).getD c 0)) (by omega) (by omega) (by simp; omega)
    obtain ⟨o', h1, h2, h3, h4⟩ := ih (i + 1) o1 (by omega) (by omega) g1 (fun q hq => by
      rw [g2 q (by omega), getD_set _ _ _ _ (by omega), htop, F.mul_one, F.add_self]
      by_cases e : q = i
      · rw [if_pos e]
      · rw [if_neg e, hz q (by omega)])
    refine ⟨o', h1, h2, fun j hj => ?_, fun R hR => ?_⟩
    · rw [h3 j hj, g3 j, syn_set _ _ _ _ (by omega), ho, F.add_assoc]
      have hs : o.getD i 0 * (linL (rootsL c)).getD c 0 * fp (loc (n + c) i) j + o.getD i 0 * rowS (linL (rootsL c)) (n - 1 - i) j (c + 1 - 1) = o.getD i 0 * rowS (linL (rootsL c)) (n - 1 - i) j (c + 1) := by
        unfold rowS
        rw [show c + 1 - 1 = c by omega, msum_range_succ, F.mul_add, F.add_comm, F.mul_assoc]
        unfold loc
        rw [fp_pw, show n + c - 1 - i = n - 1 - i + c by omega]
      rw [hs, rowS_zero c _ j hj, F.mul_zero, F.add_zero]
    · refine Ev.step (f := fun k => fareboxref34_Encode.l2 k D (c : Int) (Iz (linL (rootsL c))) (Iz o) (i : Int) (zF (o.getD i 0)) 0) (fun k => ?_) ?_
      · simp only [fareboxref34_Encode.l1]
        rw [if_pos (by omega), if_pos (by omega), if_pos (by rw [Iz_length]; omega), rd_IzN]
      · exact renc_one D c n i 0 (o.getD i 0) (linL (rootsL c)) o hg (by omega) hN (by omega) ho R (g4 R (h4 R hR))
theorem renc_lay3 (D : List F) (d : Nat) : ∀ (i : Nat) (o : List F), D.length - i = d → i ≤ D.length → D.length ≤ o.length → o.length ≤ 255 →
    ∃ o' : List F, o'.length = o.length ∧ (∀ q, o'.getD q 0 = if i ≤ q ∧ q < D.length then D.getD q 0 else o.getD q 0) ∧ Ev (fun k => fareboxref34_Encode.l3 k (Iz D) (Iz o) (i : Int)) (Iz o', 0) := by
  induction d with
  | zero =>
    intro i o h1 h2 h3 h4
    refine ⟨o, rfl, fun q => by rw [if_neg (by omega)], ?_⟩
    exact Ev.step (f := fun _ => some (Iz o, 0)) (fun k => by simp only [fareboxref34_Encode.l3]; rw [if_neg (by rw [Iz_length]; omega)]) (Ev.now _)
  | succ d ih =>
    intro i o h1 h2 h3 h4
    obtain ⟨o', g1, g2, g3⟩ := ih (i + 1) (o.set i (D.getD i 0)) (by omega) (by omega) (by simp; omega) (by simp; omega)
    refine ⟨o', by rw [g1]; simp, fun q => ?_, ?_⟩
    · rw [g2 q, getD_set _ _ _ _ (by omega)]
      by_cases e : q = i
      · rw [if_neg (by omega), if_pos e, if_pos (by omega), e]
      · by_cases e2 : i + 1 ≤ q ∧ q < D.length
        · rw [if_pos e2, if_pos (by omega)]
        · rw [if_neg e2, if_neg e, if_neg (by omega)]
    · refine Ev.step (fun k => ?_) g3
      simp only [fareboxref34_Encode.l3]
      rw [if_pos (by rw [Iz_length]; omega), if_pos (by omega), if_pos (by rw [Iz_length]; omega), rd_IzN, w64 _ (by omega) (by omega), Iz_set]
      rfl
theorem renc_lay0 (D : List F) (c : Int) (g : List Int) (R : List Int × Int) (d : Nat) : ∀ (i : Nat) (o : List F), D.length - i = d → i ≤ D.length → D.length ≤ o.length → o.length ≤ 255 →
    ∃ o' : List F, o'.length = o.length ∧ (∀ q, o'.getD q 0 = if i ≤ q ∧ q < D.length then D.getD q 0 else o.getD q 0) ∧ (Ev (fun k => fareboxref34_Encode.l1 k (Iz D) c g (Iz o') 0) R → Ev (fun k => fareboxref34_Encode.l0 k (Iz D) c g (Iz o) (i : Int)) R) := by
  induction d with
  | zero =>
    intro i o h1 h2 h3 h4
    refine ⟨o, rfl, fun q => by rw [if_neg (by omega)], fun hR => ?_⟩
    exact Ev.step (fun k => by simp only [fareboxref34_Encode.l0]; rw [if_neg (by rw [Iz_length]; omega)]) hR
  | succ d ih =>
    intro i o h1 h2 h3 h4
    obtain ⟨o', g1, g2, g3⟩ := ih (i + 1) (o.set i (D.getD i 0)) (by omega) (by omega) (by simp; omega) (by simp; omega)
    refine ⟨o', by rw [g1]; simp, fun q => ?_, fun hR => ?_⟩
    · rw [g2 q, getD_set _ _ _ _ (by omega)]
      by_cases e : q = i
      · rw [if_neg (by omega), if_pos e, if_pos (by omega), e]
      · by_cases e2 : i + 1 ≤ q ∧ q < D.length
        · rw [if_pos e2, if_pos (by omega)]
        · rw [if_neg e2, if_neg e, if_neg (by omega)]
    · refine Ev.step (fun k => ?_) (g3 hR)
      simp only [fareboxref34_Encode.l0]
      rw [if_pos (by rw [Iz_length]; omega), if_pos (by omega), if_pos (by rw [Iz_length]; omega), rd_IzN, w64 _ (by omega) (by omega), Iz_set]
      rfl
theorem renc_flag (D : List F) (hD : D ≠ []) : (((Iz D).length : Int) == 0) = false := by
  rw [Iz_length]
  simp
  exact hD
theorem renc_ev (D : List F) (c : Nat) (hD : D ≠ []) (h1 : 1 ≤ c) (h2 : c ≤ 64) (hl : D.length + c ≤ 255) :
    ∃ w : List F, Ev (fun k => fareboxref34_Encode.f k (Iz D) (c : Int)) (Iz w, 0) ∧ w.length = D.length + c ∧ w.take D.length = D ∧ ∀ j, j < c → syn w j = 0 := by
  have e0 : wrap64 (((Iz D).length : Int) + (c : Int)) = ((D.length + c : Nat) : Int) := by rw [Iz_length, w64 _ (by omega) (by omega)]; omega
  have hz : ∀ q, (List.replicate (D.length + c) (0 : F)).getD q 0 = 0 := fun q => by
    rw [List.getD_eq_getElem?_getD, List.getElem?_replicate]; split <;> rfl
  obtain ⟨o1, a1, a2⟩ : ∃ o1 : List F, o1.length = D.length + c ∧ (∀ q, o1.getD q 0 = if q < D.length then D.getD q 0 else 0) := by
    obtain ⟨o1, b1, b2, -⟩ := renc_lay0 D (c : Int) [] ([], 0) D.length 0 (List.replicate (D.length + c) 0) (by omega) (by omega) (by simp) (by simp; omega)
    refine ⟨o1, by rw [b1]; simp, fun q => ?_⟩
    rw [b2 q, hz]
    by_cases h : q < D.length
    · rw [if_pos (by omega), if_pos h]
    · rw [if_neg (by omega), if_neg h]
  obtain ⟨o2, b1, b2, b3, b4⟩ := renc_div (Iz D) c D.length (Iz_length D) hl D.length 0 o1 (by omega) (by omega) a1 (fun q hq => by omega)
  obtain ⟨w, c1, c2, c3⟩ := renc_lay3 D D.length 0 o2 (by omega) (by omega) (by omega) (by omega)
  refine ⟨w, ?_, by omega, ?_, fun j hj => ?_⟩
  · refine Ev.congr (f := fun k => (fareboxref34_Generator.f k (c : Int)).bind fun b => if b.2 = true then fareboxref34_Encode.j0 k (Iz D) (c : Int) b.1 (((Iz D).length : Int) == 0) else fareboxref34_Encode.j0 k (Iz D) (c : Int) b.1 true) (fun k => rfl) ?_
    refine Ev.bind (rgen_ev c h1 h2) ?_
    refine Ev.congr (f := fun k => fareboxref34_Encode.j0 k (Iz D) (c : Int) (Iz (linL (rootsL c))) false) (fun k => by rw [if_pos rfl, renc_flag D hD]) ?_
    refine Ev.step (f := fun k => fareboxref34_Encode.l0 k (Iz D) (c : Int) (Iz (linL (rootsL c))) (Iz (List.replicate (D.length + c) 0)) 0) (fun k => ?_) ?_
    · simp only [fareboxref34_Encode.j0]
      rw [if_neg (by simp), e0, if_neg (by omega), if_pos (by omega), Int.toNat_natCast, if_pos (by omega), Iz_replicate]
    · obtain ⟨o1', d1, d2, d3⟩ := renc_lay0 D (c : Int) (Iz (linL (rootsL c))) (Iz w, 0) D.length 0 (List.replicate (D.length + c) 0) (by omega) (by omega) (by simp) (by simp; omega)
      have e : o1' = o1 := getD_ext (by rw [d1, a1]; simp) fun q hq => by
        rw [d2 q, a2 q, hz]
        by_cases h : q < D.length
        · rw [if_pos (by omega), if_pos h]
        · rw [if_neg (by omega), if_neg h]
      rw [e] at d3
      exact d3 (b4 _ c3)
  · refine getD_ext (by rw [List.length_take]; omega) fun i hi => ?_
    rw [List.length_take] at hi
    have := c2 i
    rw [if_pos (by omega)] at this
    rw [← this, List.getD_eq_getElem?_getD, List.getD_eq_getElem?_getD, List.getElem?_take, if_pos (by omega)]
  · have h := syn_add (a := o1) (b := o2) (by omega) j
    rw [b3 j hj, F.add_self] at h
    rw [h]
    unfold syn
    rw [c1, b1, a1]
    refine msum_congr fun q hq => ?_
    rw [List.mem_range] at hq
    congr 1
    rw [c2 q, a2 q]
    by_cases h : q < D.length
    · rw [if_pos (by omega), if_pos h, b2 q h, F.add_zero]
    · rw [if_neg (by omega), if_neg h, F.zero_add]
theorem renc_no (D : List F) (c : Int) (h : c < 1 ∨ 64 < c ∨ D = []) : Ev (fun k => fareboxref34_Encode.f k (Iz D) c) ([], 2) := by
  have key : ∀ g, Ev (fun k => fareboxref34_Encode.j0 k (Iz D) c g true) ([], 2) := fun g => Ev.step (f := fun _ => some ([], 2)) (fun k => by simp only [fareboxref34_Encode.j0]; rw [if_pos trivial]) (Ev.now _)
  refine Ev.congr (f := fun k => (fareboxref34_Generator.f k c).bind fun b => if b.2 = true then fareboxref34_Encode.j0 k (Iz D) c b.1 (((Iz D).length : Int) == 0) else fareboxref34_Encode.j0 k (Iz D) c b.1 true) (fun k => rfl) ?_
  by_cases hc : c < 1 ∨ 64 < c
  · refine Ev.bind (rgen_no c hc) ?_
    exact Ev.congr (fun k => if_neg (by simp)) (key _)
  · obtain rfl : D = [] := by rcases h with h | h | h; exact absurd (.inl h) hc; exact absurd (.inr h) hc; exact h
    obtain ⟨n, rfl⟩ : ∃ n : Nat, c = (n : Int) := ⟨c.toNat, by omega⟩
    refine Ev.bind (rgen_ev n (by omega) (by omega)) ?_
    exact Ev.congr (fun k => if_pos rfl) (key _)
theorem enc_long (D : List F) (c : Nat) (hD : D ≠ []) (h1 : 1 ≤ c) (h2 : c ≤ 64) (hl : 255 < D.length + c) (hb : D.length ≤ 140737488355328) :
    Ev (fun k => H.rs_Encode.f k (Iz D) (c : Int)) ([], 1) ∧ Ev (fun k => fareboxref34_Encode.f k (Iz D) (c : Int)) ([], 1) := by
  have e0 : wrap64 (((Iz D).length : Int) + (c : Int)) = ((D.length + c : Nat) : Int) := by rw [Iz_length, w64 _ (by omega) (by omega)]; omega
  constructor
  · refine Ev.congr (f := fun k => (G.rs_Generator.f k (c : Int)).bind fun b => if b.2 = true then H.rs_Encode.j0 k (Iz D) (c : Int) b.1 (((Iz D).length : Int) == 0) else H.rs_Encode.j0 k (Iz D) (c : Int) b.1 true) (fun k => rfl) ?_
    refine Ev.bind (gen_ev c h1 h2) ?_
    refine Ev.congr (f := fun k => H.rs_Encode.j0 k (Iz D) (c : Int) (Iz (linL (rootsL c))) false) (fun k => by rw [if_pos rfl, renc_flag D hD]) ?_
    refine Ev.step (f := fun _ => some ([], 1)) (fun k => ?_) (Ev.now _)
    simp only [H.rs_Encode.j0]
    rw [if_neg (by simp), e0, if_pos (by omega)]
  · refine Ev.congr (f := fun k => (fareboxref34_Generator.f k (c : Int)).bind fun b => if b.2 = true then fareboxref34_Encode.j0 k (Iz D) (c : Int) b.1 (((Iz D).length : Int) == 0) else fareboxref34_Encode.j0 k (Iz D) (c : Int) b.1 true) (fun k => rfl) ?_
    refine Ev.bind (rgen_ev c h1 h2) ?_
    refine Ev.congr (f := fun k => fareboxref34_Encode.j0 k (Iz D) (c : Int) (Iz (linL (rootsL c))) false) (fun k => by rw [if_pos rfl, renc_flag D hD]) ?_
    refine Ev.step (f := fun _ => some ([], 1)) (fun k => ?_) (Ev.now _)
    simp only [fareboxref34_Encode.j0]
    rw [if_neg (by simp), e0, if_pos (by omega)]
theorem enc_both (D : List F) (c : Int) (hb : D.length ≤ 140737488355328) : ∃ (r : List F) (e : Int), r.length ≤ 255 ∧ Ev (fun k => H.rs_Encode.f k (Iz D) c) (Iz r, e) ∧ Ev (fun k => fareboxref34_Encode.f k (Iz D) c) (Iz r, e) := by
  by_cases h : c < 1 ∨ 64 < c ∨ D = []
  · exact ⟨[], 2, by simp, encode_no D c h, renc_no D c h⟩
  · obtain ⟨n, rfl⟩ : ∃ n : Nat, c = (n : Int) := ⟨c.toNat, by omega⟩
    have hD : D ≠ [] := fun e => h (.inr (.inr e))
    by_cases hl : D.length + n ≤ 255
    · obtain ⟨w, w1, w2, w3, w4⟩ := encode_ev D n hD (by omega) (by omega) hl
      obtain ⟨v, v1, v2, v3, v4⟩ := renc_ev D n hD (by omega) (by omega) hl
      obtain rfl : w = v := code_sys (c := n) (n := D.length) (by omega) w2 (by omega) w4 v4 (by rw [w3, v3])
      exact ⟨w, 0, by omega, w1, v1⟩
    · obtain ⟨a, b⟩ := enc_long D n hD (by omega) (by omega) (by omega) hb
      exact ⟨[], 1, by simp, a, b⟩
/-! ### Distance -/
theorem rdiffering_loop (a b : List F) (hl : a.length = b.length) (hb : a.length ≤ 17592186044415) (d : Nat) : ∀ i : Nat, a.length - i = d → i ≤ a.length →
    Ev (fun k => fareboxref34_differing.l0 k (Iz a) (Iz b) ((diffU a b i).map Int.ofNat) (i : Int)) ((diffU a b a.length).map Int.ofNat) := by
  induction d with
  | zero =>
    intro i h1 h2
    obtain rfl : i = a.length := by omega
    exact Ev.step (f := fun _ => some ((diffU a b a.length).map Int.ofNat)) (fun k => by simp only [fareboxref34_differing.l0]; rw [if_neg (by rw [Iz_length]; omega)]) (Ev.now _)
  | succ d ih =>
    intro i h1 h2
    have hn := ih (i + 1) (by omega) (by omega)
    have hdl := diffU_length a b i
    refine Ev.step (fun k => ?_) hn
    simp only [fareboxref34_differing.l0, Iz_length]
    rw [if_pos (by omega), if_pos (by omega), if_pos (by omega), rd_IzN, rd_IzN, show wrap64 ((i : Int) + 1) = ((i + 1 : Nat) : Int) by unfold wrap64; omega]
    by_cases h : a.getD i 0 = b.getD i 0
    · rw [if_pos (by rw [h]), diffU_no h]
    · rw [if_neg (fun e => h (zF_inj.1 e)), if_pos (by rw [List.length_map]; omega), diffU_yes h, List.map_append]
      rfl
theorem rdiffering_ev (a b : List F) (hl : a.length = b.length) (hb : a.length ≤ 17592186044415) : Ev (fun k => fareboxref34_differing.f k (Iz a) (Iz b)) ((diffU a b a.length).map Int.ofNat) :=
  rdiffering_loop a b hl hb a.length 0 (by omega) (by omega)
theorem dist_both (a b : List F) (hb : a.length ≤ 17592186044415) : ∃ (n : Int) (t : Bool), Ev (fun k => rs_Distance.f k (Iz a) (Iz b)) (n, t) ∧ Ev (fun k => fareboxref34_Distance.f k (Iz a) (Iz b)) (n, t) := by
  by_cases h : a.length = b.length
  · refine ⟨(dist a b a.length : Int), true, distance_ev a b h (by omega), ?_⟩
    refine Ev.congr (f := fun k => (fareboxref34_differing.f k (Iz a) (Iz b)).bind fun t => some ((t.length : Int), true)) (fun k => ?_) ?_
    · unfold fareboxref34_Distance.f
      rw [if_pos (by rw [Iz_length, Iz_length, h])]
    · refine Ev.bind (rdiffering_ev a b h hb) ?_
      rw [List.length_map, dist_eq]
      exact Ev.now _
  · refine ⟨0, false, Ev.congr (f := fun _ => some (0, false)) (fun k => ?_) (Ev.now _), Ev.congr (f := fun _ => some (0, false)) (fun k => ?_) (Ev.now _)⟩
    · unfold rs_Distance.f
      rw [if_neg (by rw [Iz_length, Iz_length]; omega)]
    · unfold fareboxref34_Distance.f
      rw [if_neg (by rw [Iz_length, Iz_length]; omega)]
/-! ### marked, turned -/
theorem marked_loop (l : List Int) (hl : l.length ≤ 140737488351232) (d : Nat) : ∀ i : Nat, 80 - i = d → i ≤ 80 → Ev (fun k => fareboxlaw34_marked.l0 k l (l ++ List.replicate i 165) (i : Int)) l := by
  induction d with
  | zero =>
    intro i h1 h2
    obtain rfl : i = 80 := by omega
    refine Ev.step (f := fun _ => some l) (fun k => ?_) (Ev.now _)
    simp only [fareboxlaw34_marked.l0]
    rw [if_neg (by omega), if_pos (by omega), if_pos (by rw [List.length_append]; omega), Int.toNat_natCast, List.take_left]
  | succ d ih =>
    intro i h1 h2
    refine Ev.step (fun k => ?_) (ih (i + 1) (by omega) (by omega))
    simp only [fareboxlaw34_marked.l0]
    rw [if_pos (by omega), if_pos (by rw [List.length_append, List.length_replicate]; omega), w64 _ (by omega) (by omega), List.append_assoc, ← List.replicate_succ']
    rfl
theorem marked_ev (l : List Int) (hl : l.length ≤ 140737488351232) : Ev (fun k => fareboxlaw34_marked.f k l) l := by
  refine Ev.congr (f := fun k => fareboxlaw34_marked.l0 k l l 0) (fun k => ?_) ?_
  · unfold fareboxlaw34_marked.f
    rw [if_pos (by rw [List.length_nil]; omega), List.nil_append]
  · have h := marked_loop l hl 80 0 (by omega) (by omega)
    rw [List.replicate_zero, List.append_nil] at h
    exact h
def sevF (i : Nat) : F := ⟨i % 7 + 1, by omega⟩
def turnP (D : List F) : List F := (List.range D.length).map fun i => D.getD i 0 + sevF i
theorem turnP_length (D : List F) : (turnP D).length = D.length := by unfold turnP; rw [List.length_map, List.length_range]
theorem turnP_getD (D : List F) (i : Nat) (h : i < D.length) : (turnP D).getD i 0 = D.getD i 0 + sevF i := by
  unfold turnP
  rw [List.getD_eq_getElem?_getD, List.getElem?_map, List.getElem?_range h]
  rfl
theorem turned_loop (D : List F) (hl : D.length ≤ 140737488351232) (d : Nat) : ∀ (i : Nat) (o : List F), D.length - i = d → i ≤ D.length → o.length = D.length → (∀ q, q < D.length → o.getD q 0 = if q < i then (turnP D).getD q 0 else D.getD q 0) →
    Ev (fun k => fareboxlaw34_turned.l0 k (Iz o) (Iz ((turnP D).take i)) (i : Int)) (Iz (turnP D), Iz (turnP D)) := by
  induction d with
  | zero =>
    intro i o h1 h2 h3 h4
    obtain rfl : i = D.length := by omega
    have e : o = turnP D := getD_ext (by rw [turnP_length, h3]) fun q hq => by rw [h4 q (by omega), if_pos (by omega)]
    rw [e, List.take_of_length_le (by rw [turnP_length]; omega)]
    exact Ev.step (f := fun _ => some (Iz (turnP D), Iz (turnP D))) (fun k => by simp only [fareboxlaw34_turned.l0]; rw [if_neg (by rw [Iz_length, turnP_length]; omega)]) (Ev.now _)
  | succ d ih =>
    intro i o h1 h2 h3 h4
    have hi : i < D.length := by omega
    have e1 : wrap64 (Int.tmod (i : Int) 7 + 1) % 256 = zF (sevF i) := by
      have : Int.tmod (i : Int) 7 = ((i % 7 : Nat) : Int) := by rw [Int.tmod_eq_emod_of_nonneg (by omega)]; omega
      rw [this, w64 _ (by omega) (by omega)]
      show _ = ((i % 7 + 1 : Nat) : Int)
      omega
    have e2 : o.getD i 0 + sevF i = (turnP D).getD i 0 := by rw [h4 i hi, if_neg (by omega), turnP_getD D i hi]
    refine Ev.step (fun k => ?_) (ih (i + 1) (o.set i ((turnP D).getD i 0)) (by omega) (by omega) (by simp; omega) (fun q hq => by
      rw [getD_set _ _ _ _ (by omega)]
      by_cases e : q = i
      · rw [if_pos e, if_pos (by omega), e]
      · rw [if_neg e, h4 q hq]
        by_cases e3 : q < i
        · rw [if_pos e3, if_pos (by omega)]
        · rw [if_neg e3, if_neg (by omega)]))
    simp only [fareboxlaw34_turned.l0]
    rw [if_pos (by rw [Iz_length]; omega), if_pos (by omega), Option.bind_some, if_pos (by rw [Iz_length, List.length_take]; omega), rd_IzN, e1, xor_zF, e2, Int.toNat_natCast, ← Iz_set, rd_IzN, getD_set _ _ _ _ (by omega), if_pos rfl, w64 _ (by omega) (by omega)]
    have e4 : Iz ((turnP D).take (i + 1)) = Iz ((turnP D).take i) ++ [zF ((turnP D).getD i 0)] := by
      rw [List.take_add_one, Iz_append]
      congr 1
      rw [List.getD_eq_getElem?_getD, List.getElem?_eq_getElem (by rw [turnP_length]; exact hi)]
      rfl
    rw [e4]
    rfl
theorem turned_ev (D : List F) (hl : D.length ≤ 140737488351232) : Ev (fun k => fareboxlaw34_turned.f k (Iz D)) (Iz (turnP D), Iz (turnP D)) :=
  turned_loop D hl D.length 0 D (by omega) (by omega) rfl (fun q hq => by rw [if_neg (by omega)])
theorem same_self (D : List F) (hl : D.length ≤ 140737488355328) : Ev (fun k => fareboxlaw34_same.f k (Iz D) (Iz D)) true := by
  have h := same_ev D D hl
  rw [decide_eq_true rfl] at h
  exact h
end Go.Proofs.YtgcibhbhbgoacaaDoor
