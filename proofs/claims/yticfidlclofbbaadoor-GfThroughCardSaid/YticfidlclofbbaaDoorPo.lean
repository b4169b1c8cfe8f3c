/- What the functions on polynomials come to, in plain lists: the program's. -/
import Derived.Test.YticfidlclofbbaaDoorEl
import Derived.Test.YticfidlclofbbaaDoorPadd
namespace Go.Proofs.YticfidlclofbbaaDoor.G
open Go.RowKit Go.Proofs.YticfidlclofbbaaDoorW.PrintWords FB

/-- a list of elements as the machine's numbers -/
def Iz (l : List F) : List Int := l.map zF
theorem Iz_length (l : List F) : (Iz l).length = l.length := List.length_map ..
theorem Iz_nil : Iz [] = [] := rfl
theorem Iz_append (l m : List F) : Iz (l ++ m) = Iz l ++ Iz m := List.map_append ..
theorem Iz_take (l : List F) (n : Nat) : Iz (l.take n) = (Iz l).take n := List.map_take ..
theorem Iz_drop (l : List F) (n : Nat) : Iz (l.drop n) = (Iz l).drop n := List.map_drop ..
theorem Iz_set (l : List F) (n : Nat) (a : F) : Iz (l.set n a) = (Iz l).set n (zF a) := List.map_set ..
theorem Iz_replicate (n : Nat) : Iz (List.replicate n 0) = List.replicate n 0 := by simp [Iz, zF_zero]
theorem rd_Iz (l : List F) (i : Int) : rd (Iz l) i = zF (l.getD i.toNat 0) := by
  unfold rd Iz
  rw [List.getD_eq_getElem?_getD, List.getElem?_map, List.getD_eq_getElem?_getD]
  cases l[i.toNat]? <;> rfl
theorem rd_IzN (l : List F) (i : Nat) : rd (Iz l) (i : Int) = zF (l.getD i 0) := by rw [rd_Iz]; rfl
theorem Iz_inj {l m : List F} : Iz l = Iz m ↔ l = m := by
  constructor
  · intro h
    exact (List.map_inj_right (fun a b e => zF_inj.1 e)).1 h
  · rintro rfl; rfl
theorem Iz_of {l : List Int} (h : ∀ x ∈ l, 0 ≤ x ∧ x < 256) : ∃ m : List F, l = Iz m := by
  induction l with
  | nil => exact ⟨[], rfl⟩
  | cons x l ih =>
    obtain ⟨m, rfl⟩ := ih (fun y hy => h y (List.mem_cons_of_mem _ hy))
    obtain ⟨a, rfl⟩ := zF_of (h x (List.mem_cons_self ..)).1 (h x (List.mem_cons_self ..)).2
    exact ⟨a :: m, rfl⟩
theorem w64 (n : Int) (h0 : -9223372036854775808 ≤ n) (h1 : n < 9223372036854775808) : wrap64 n = n := by unfold wrap64; omega

/-! ### the short form -/
theorem shortL_take : ∀ l : List F, shortL l = l.take (shortL l).length
  | [] => rfl
  | a :: l => by
    have ih := shortL_take l
    unfold shortL
    cases h : shortL l with
    | nil => by_cases ha : a = 0 <;> simp [ha]
    | cons b r =>
      rw [h] at ih
      simpa using ih
theorem shortL_snoc_zero (l : List F) : shortL (l ++ [0]) = shortL l := by
  refine shortL_eq _ _ ?_
  rw [of_snoc]
  apply PS.ext; intro n
  rw [PS.add_at, PS.mono_at]; split <;> rw [F.add_zero]
theorem shortL_snoc_ne (l : List F) (a : F) (h : a ≠ 0) : shortL (l ++ [a]) = l ++ [a] :=
  short_of_last (fun _ => by simpa using h)
theorem snoc_of_pos {l : List F} (h : 0 < l.length) : l = l.take (l.length - 1) ++ [l.getD (l.length - 1) 0] := by
  conv => lhs; rw [← List.take_append_drop (l.length - 1) l]
  congr 1
  apply List.ext_getElem?
  intro i
  rw [List.getElem?_drop]
  cases i with
  | zero =>
    have hl : l.length - 1 < l.length := by omega
    simp [List.getD_eq_getElem?_getD, List.getElem?_eq_getElem hl]
  | succ i => simp; omega
theorem short_ev (l : List F) (hl : l.length ≤ 140737488355328) : Ev (fun k => gf_short.f k (Iz l)) (Iz (shortL l)) := by
  show Ev (fun k => gf_short.l0 k (Iz l)) _
  generalize hn : l.length = n at hl
  induction n generalizing l with
  | zero =>
    obtain rfl := List.eq_nil_of_length_eq_zero hn
    exact Ev.step (f := fun _ => some []) (fun k => by simp [gf_short.l0, Iz]) (Ev.now _)
  | succ n ih =>
    have hs := snoc_of_pos (l := l) (by omega)
    have e1 : wrap64 (((Iz l).length : Int) - 1) = (n : Int) := by rw [Iz_length, hn, w64 _ (by omega) (by omega)]; omega
    by_cases hz : l.getD (l.length - 1) 0 = 0
    · rw [hz] at hs
      have hr : shortL l = shortL (l.take n) := by
        rw [hs, shortL_snoc_zero, show l.length - 1 = n by omega]
        congr 1
        rw [List.take_append_of_le_length (by simp; omega), List.take_take]; simp
      rw [hr]
      refine Ev.step (f := fun k => gf_short.l0 k (Iz (l.take n))) (fun k => ?_) (ih (l.take n) (by simp; omega) (by omega))
      simp only [gf_short.l0]
      rw [e1, rd_IzN, show n = l.length - 1 by omega, hz]
      rw [if_pos (by rw [Iz_length]; omega), if_pos (by omega), if_pos (by rw [Iz_length]; omega), if_pos zF_zero, if_pos (by rw [Iz_length]; omega), Iz_take]
      congr 2
    · have hr : shortL l = l := by rw [hs]; exact shortL_snoc_ne _ _ hz
      rw [hr]
      refine Ev.step (f := fun _ => some (Iz l)) (fun k => ?_) (Ev.now _)
      simp only [gf_short.l0]
      rw [e1, rd_IzN, show n = l.length - 1 by omega]
      rw [if_pos (by rw [Iz_length]; omega), if_pos (by omega), if_pos (by rw [Iz_length]; omega), if_neg (fun h => hz (zF_eq_zero.1 h))]

/-! ### same -/
theorem same_loop (l m : List F) (hl : l.length = m.length) (hb : l.length ≤ 140737488355328) (d : Nat) : ∀ i : Nat, l.length - i = d → i ≤ l.length → l.take i = m.take i → Ev (fun k => fareboxlaw32_same.l0 k (Iz l) (Iz m) (i : Int)) (decide (l = m)) := by
  induction d with
  | zero =>
    intro i hd hi ht
    have hi : i = l.length := by omega
    subst hi
    have : l = m := by rw [List.take_length, hl, List.take_length] at ht; exact ht
    refine Ev.step (f := fun _ => some true) (fun k => ?_) (by rw [decide_eq_true this]; exact Ev.now _)
    simp only [fareboxlaw32_same.l0]; rw [if_neg (by rw [Iz_length]; omega)]
  | succ d ih =>
    intro i hd hi ht
    have hlt : i < l.length := by omega
    · by_cases e : l.getD i 0 = m.getD i 0
      · refine Ev.step (f := fun k => fareboxlaw32_same.l0 k (Iz l) (Iz m) ((i + 1 : Nat) : Int)) (fun k => ?_) (ih (i + 1) (by omega) (by omega) ?_)
        · simp only [fareboxlaw32_same.l0]
          rw [if_pos (by rw [Iz_length]; omega), if_pos (by omega), if_pos (by rw [Iz_length]; omega), rd_IzN, rd_IzN, e, if_pos rfl, w64 _ (by omega) (by omega)]
          rfl
        · have hm : i < m.length := by omega
          rw [List.take_succ_eq_append_getElem hlt, List.take_succ_eq_append_getElem hm, ht]
          simp [List.getD_eq_getElem?_getD, hlt, hm] at e
          rw [e]
      · have hne : l ≠ m := fun h => e (by rw [h])
        refine Ev.step (f := fun _ => some false) (fun k => ?_) (by rw [decide_eq_false hne]; exact Ev.now _)
        simp only [fareboxlaw32_same.l0]
        rw [if_pos (by rw [Iz_length]; omega), if_pos (by omega), if_pos (by rw [Iz_length]; omega), rd_IzN, rd_IzN, if_neg (fun h => e (zF_inj.1 h))]
theorem same_ev (l m : List F) (hb : l.length ≤ 140737488355328) : Ev (fun k => fareboxlaw32_same.f k (Iz l) (Iz m)) (decide (l = m)) := by
  by_cases h : l.length = m.length
  · refine Ev.congr (fun k => ?_) (same_loop l m h hb l.length 0 (by omega) (by omega) rfl)
    unfold fareboxlaw32_same.f; rw [if_pos (by rw [Iz_length, Iz_length]; omega)]; rfl
  · have hne : l ≠ m := fun e => h (by rw [e])
    refine Ev.congr (f := fun _ => some false) (fun k => ?_) (by rw [decide_eq_false hne]; exact Ev.now _)
    unfold fareboxlaw32_same.f; rw [if_neg (by rw [Iz_length, Iz_length]; omega)]

/-! ### the sum -/
theorem padd_loop (q : List F) (hb : q.length ≤ 140737488355328) (d : Nat) : ∀ (i : Nat) (o : List F), q.length - i = d → i ≤ q.length → q.length ≤ o.length → o.length ≤ 140737488355328 →
    ∃ o' : List F, o'.length = o.length ∧ PS.of o' = PS.of o + PS.sh i (PS.of (q.drop i)) ∧ Ev (fun k => gf_PolyAdd.l0 k (Iz o) (Iz q) ((Iz q).length : Int) (i : Int)) (Iz (shortL o')) := by
  induction d with
  | zero =>
    intro i o hd hi ho hob
    have : i = q.length := by omega
    subst this
    refine ⟨o, rfl, ?_, ?_⟩
    · rw [List.drop_length, PS.of_nil]
      apply PS.ext; intro n
      rw [PS.add_at]; unfold PS.sh; split <;> simp [PS.zero_at, F.add_zero]
    · refine Ev.step (f := fun k => (gf_short.f k (Iz o)).bind fun t => some t) (fun k => ?_) ?_
      · simp only [gf_PolyAdd.l0]; rw [if_neg (by rw [Iz_length]; omega)]
      · exact Ev.bind (f := fun _ t => some t) (short_ev o hob) (Ev.now _)
  | succ d ih =>
    intro i o hd hi ho hob
    have hlt : i < q.length := by omega
    · obtain ⟨o', h1, h2, h3⟩ := ih (i + 1) (o.set i (o.getD i 0 + q.getD i 0)) (by omega) (by omega) (by simp; omega) (by simp; omega)
      refine ⟨o', by rw [h1]; simp, ?_, ?_⟩
      · rw [h2, of_set_add _ _ _ (by omega), List.drop_eq_getElem_cons hlt, of_cons, PS.sh_add, PS.add_assoc]
        congr 1
        have e1 : PS.sh i (PS.C q[i]) = PS.mono i (q.getD i 0) := by simp [PS.mono, List.getD_eq_getElem?_getD, hlt]
        have e2 : PS.sh i (PS.sh 1 (PS.of (q.drop (i + 1)))) = PS.sh (i + 1) (PS.of (q.drop (i + 1))) := by
          apply PS.ext; intro n
          unfold PS.sh
          by_cases ha : n < i
          · rw [if_pos ha, if_pos (by omega)]
          · rw [if_neg ha]
            by_cases hb2 : n - i < 1
            · rw [if_pos hb2, if_pos (by omega)]
            · rw [if_neg hb2, if_neg (by omega)]; congr 1
        rw [e1, e2]
      · refine Ev.step (fun k => ?_) h3
        simp only [gf_PolyAdd.l0]
        rw [if_pos (by rw [Iz_length]; omega), if_pos (by omega), if_pos (by rw [Iz_length]; omega), if_pos (by rw [Iz_length]; omega), rd_IzN, rd_IzN, xor_zF, w64 _ (by omega) (by omega), ← Iz_set]
        rfl
theorem PS.sh_zero_eq (p : PS) : PS.sh 0 p = p := PS.sh_zero p
theorem polyAdd_ev (p q : List F) (hp : p.length ≤ 140737488351232) (hq : q.length ≤ 140737488351232) :
    Ev (fun k => gf_PolyAdd.f k (Iz p) (Iz q)) (Iz (canon (PS.of p + PS.of q) (max p.length q.length))) := by
  obtain ⟨o', h1, h2, h3⟩ := padd_loop q (by omega) q.length 0 (p ++ List.replicate (q.length - p.length) 0) (by omega) (by omega) (by simp; omega) (by simp; omega)
  have hof : PS.of o' = PS.of p + PS.of q := by
    rw [h2, PS.sh_zero, List.drop_zero, of_append, of_replicate]
    congr 1
    apply PS.ext; intro n
    rw [PS.add_at]; unfold PS.sh; split <;> simp [PS.zero_at, F.add_zero]
  have hbel : (PS.of p + PS.of q).below (max p.length q.length) := ((PS.of_below p).mono (by omega)).add ((PS.of_below q).mono (by omega))
  rw [← shortL_eq_canon hbel hof]
  refine Ev.congr (fun k => ?_) h3
  unfold gf_PolyAdd.f
  rw [Iz_length, Iz_length, if_pos (by unfold mx; split <;> omega), Iz_append, Iz_replicate]
  rfl

/-! ### the value -/
theorem evL_drop_step (p : List F) (x : F) (i : Nat) (h : i < p.length) : evL (p.drop i) x = p.getD i 0 + x * evL (p.drop (i + 1)) x := by
  rw [List.drop_eq_getElem_cons h, evL_cons]
  simp [List.getD_eq_getElem?_getD, h]
theorem polyEval_loop (p : List F) (x : F) (hp : p.length ≤ 140737488355328) (n : Nat) : n ≤ p.length → Ev (fun k => gf_PolyEval.l0 k (Iz p) (zF x) (zF (evL (p.drop n) x)) ((n : Int) - 1)) (zF (evL p x)) := by
  induction n with
  | zero =>
    intro _
    refine Ev.step (f := fun _ => some (zF (evL p x))) (fun k => ?_) (Ev.now _)
    simp only [gf_PolyEval.l0]
    rw [if_neg (by omega), List.drop_zero]
  | succ n ih =>
    intro hn
    refine Ev.step (f := fun k => (gf_Mul.f k (zF (evL (p.drop (n + 1)) x)) (zF x)).bind fun t => gf_PolyEval.l0 k (Iz p) (zF x) (Go.bits .xor .u8 t (zF (p.getD n 0))) ((n : Int) - 1)) (fun k => ?_) ?_
    · simp only [gf_PolyEval.l0]
      rw [if_pos (by omega)]
      congr 1
      funext t
      rw [if_pos (by omega), if_pos (by rw [Iz_length]; omega), show ((n + 1 : Nat) : Int) - 1 = (n : Int) by omega, rd_IzN, w64 _ (by omega) (by omega)]
    · refine Ev.bind (mul_ev _ _) ?_
      rw [xor_zF, F.mul_comm, F.add_comm, ← evL_drop_step p x n (by omega)]
      exact ih (by omega)
theorem polyEval_ev (p : List F) (x : F) (hp : p.length ≤ 140737488355328) : Ev (fun k => gf_PolyEval.f k (Iz p) (zF x)) (zF (evL p x)) := by
  have := polyEval_loop p x hp p.length (Nat.le_refl _)
  rw [List.drop_length] at this
  refine Ev.congr (fun k => ?_) this
  unfold gf_PolyEval.f
  rw [Iz_length, w64 _ (by omega) (by omega)]
  rfl

/-! ### a multiple -/
theorem scaled_loop (p : List F) (c : F) (hp : p.length ≤ 140737488355328) (d : Nat) : ∀ (i : Nat) (o : List F), p.length - i = d → i ≤ p.length → o.length = p.length → o.take i = (p.map (· * c)).take i →
    Ev (fun k => gf_scaled.l0 k (zF c) (Iz o) (Iz p) ((Iz p).length : Int) (i : Int)) (Iz (p.map (· * c))) := by
  induction d with
  | zero =>
    intro i o hd hi ho ht
    have : i = p.length := by omega
    subst this
    have e : o = p.map (· * c) := by
      have h1 : o.take p.length = o := by rw [← ho, List.take_length]
      have h2 : (p.map (· * c)).take p.length = p.map (· * c) := by
        have hl2 : (p.map (· * c)).length = p.length := List.length_map _
        rw [← hl2, List.take_length]
      rw [← h1, ht, h2]
    rw [e]
    refine Ev.step (f := fun _ => some (Iz (p.map (· * c)))) (fun k => ?_) (Ev.now _)
    simp only [gf_scaled.l0]; rw [if_neg (by rw [Iz_length]; omega)]
  | succ d ih =>
    intro i o hd hi ho ht
    have hlt : i < p.length := by omega
    · refine Ev.step (f := fun k => (gf_Mul.f k (zF (p.getD i 0)) (zF c)).bind fun t => gf_scaled.l0 k (zF c) ((Iz o).set i t) (Iz p) ((Iz p).length : Int) ((i + 1 : Nat) : Int)) (fun k => ?_) ?_
      · simp only [gf_scaled.l0]
        rw [if_pos (by rw [Iz_length]; omega), if_pos (by omega), if_pos (by rw [Iz_length]; omega), rd_IzN]
        congr 1
        funext t
        rw [if_pos (by rw [Iz_length]; omega), w64 _ (by omega) (by omega)]
        rfl
      · refine Ev.bind (mul_ev _ _) ?_
        rw [← Iz_set]
        refine ih (i + 1) _ (by omega) (by omega) (by simp; exact ho) ?_
        have hio : i < (o.set i (p.getD i 0 * c)).length := by simp; omega
        have him : i < (p.map (· * c)).length := by simp; omega
        rw [List.take_succ_eq_append_getElem hio, List.take_succ_eq_append_getElem him]
        simp [ht, List.getD_eq_getElem?_getD, hlt, List.take_set_of_le]
theorem scaled_ev (p : List F) (c : F) (hp : p.length ≤ 140737488351232) : Ev (fun k => gf_scaled.f k (Iz p) (zF c)) (Iz (p.map (· * c))) := by
  have := scaled_loop p c (by omega) p.length 0 (List.replicate p.length 0) (by omega) (by omega) (by simp) rfl
  rw [Iz_replicate] at this
  refine Ev.congr (fun k => ?_) this
  unfold gf_scaled.f
  rw [Iz_length, if_pos (by omega), if_pos (by omega)]
  rfl
theorem of_map_mul (p : List F) (c : F) : PS.of (p.map (· * c)) = PS.sc c (PS.of p) := by
  apply PS.ext; intro n
  show (p.map (· * c)).getD n 0 = c * p.getD n 0
  rw [List.getD_eq_getElem?_getD, List.getElem?_map, List.getD_eq_getElem?_getD]
  cases p[n]? with
  | none => simp [F.mul_zero]
  | some a => simp [F.mul_comm]
end Go.Proofs.YticfidlclofbbaaDoor.G
