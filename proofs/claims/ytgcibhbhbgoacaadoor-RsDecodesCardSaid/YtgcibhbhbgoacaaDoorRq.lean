/- The document's answer (fareboxref34: Syndromes, Near, times, plus, holed, slope, ..): what it answers, over the field of 256. -/
import Derived.Test.YtgcibhbhbgoacaaDoorRd1
import Derived.Test.YtgcibhbhbgoacaaDoorRd2
import Derived.Test.YtgcibhbhbgoacaaDoorRd3
import Derived.Test.YtgcibhbhbgoacaaDoorRd4
import Derived.Test.YtgcibhbhbgoacaaDoorRd6
import Derived.Test.YtgcibhbhbgoacaaDoorPf
import Derived.Test.YtgcibhbhbgoacaaDoorSu
import Derived.Test.YtgcibhbhbgoacaaDoorLq
namespace Go.Proofs.YtgcibhbhbgoacaaDoor
open Go.Proofs.YtgcibhbhbgoacaaDoor.G Go.Proofs.YtgcibhbhbgoacaaDoor.Re Go.Proofs.YtgcibhbhbgoacaaDoor.Rd FB
open Go.RowKit Go.Proofs.YtgcibhbhbgoacaaDoorW.PrintWords
set_option linter.unusedVariables false
set_option linter.unusedSimpArgs false
theorem refused_ev (W : List F) (check : Int) : Ev (fun k => fareboxref34_refused.f k (Iz W) check) (chk W.length check) := by
  have key : ∀ b, Ev (fun k => fareboxref34_refused.j0 k (Iz W) b) (if b = true then 2 else if 255 < W.length then 1 else 0) := fun b =>
    Ev.step (f := fun _ => some (if b = true then 2 else if 255 < W.length then 1 else 0)) (fun k => by
      simp only [fareboxref34_refused.j0, Iz_length]
      by_cases hb : b = true
      · rw [if_pos hb, if_pos hb]
      · rw [if_neg hb, if_neg hb]
        by_cases h : 255 < W.length
        · rw [if_pos (by omega), if_pos h]
        · rw [if_neg (by omega), if_neg h]) (Ev.now _)
  unfold chk
  by_cases h1 : check < 1
  · rw [if_pos (.inl h1)]
    exact Ev.congr (fun k => by unfold fareboxref34_refused.f; rw [if_pos h1]) (key true)
  · by_cases h2 : 64 < check
    · rw [if_pos (.inr (.inl h2))]
      exact Ev.congr (fun k => by unfold fareboxref34_refused.f; rw [if_neg h1, if_pos h2]) (key true)
    · refine Ev.congr (f := fun k => fareboxref34_refused.j0 k (Iz W) (decide ((W.length : Int) ≤ check))) (fun k => by unfold fareboxref34_refused.f; rw [if_neg h1, if_neg (by omega), Iz_length]) ?_
      have h := key (decide ((W.length : Int) ≤ check))
      by_cases h3 : (W.length : Int) ≤ check
      · rw [if_pos (.inr (.inr h3))]
        rw [decide_eq_true h3, if_pos rfl] at h
        exact Ev.congr (fun k => by rw [decide_eq_true h3]) h
      · rw [if_neg (by omega)]
        rw [decide_eq_false h3, if_neg (by decide)] at h
        exact Ev.congr (fun k => by rw [decide_eq_false h3]) h
theorem syndrome_loop (W : List F) (x : F) (hW : W.length ≤ 140737488355328) (d : Nat) : ∀ (i : Nat) (a : F), W.length - i = d → i ≤ W.length → Ev (fun k => fareboxref34_syndrome.l0 k (Iz W) (zF x) (zF a) (i : Int)) (zF (hor x (W.drop i) a)) := by
  induction d with
  | zero =>
    intro i a h1 h2
    obtain rfl : i = W.length := by omega
    rw [List.drop_length]
    exact Ev.step (f := fun _ => some (zF a)) (fun k => by simp only [fareboxref34_syndrome.l0]; rw [if_neg (by rw [Iz_length]; omega)]) (Ev.now _)
  | succ d ih =>
    intro i a h1 h2
    have hi : i < W.length := by omega
    have hd : W.drop i = W.getD i 0 :: W.drop (i + 1) := by
      rw [List.drop_eq_getElem_cons hi]; simp [List.getD_eq_getElem?_getD, hi]
    refine Ev.step (f := fun k => (fareboxref32_Mul.f k (zF a) (zF x)).bind fun t => (fareboxref32_Add.f t (zF (W.getD i 0))).bind fun u => fareboxref34_syndrome.l0 k (Iz W) (zF x) u ((i + 1 : Nat) : Int)) (fun k => ?_) ?_
    · simp only [fareboxref34_syndrome.l0]
      rw [if_pos (by rw [Iz_length]; omega), w64 _ (by omega) (by omega), rd_IzN]
      simp only [if_pos (show (0 : Int) ≤ (i : Int) by omega)]
      rfl
    · refine Ev.bind (rmul_ev _ _) ?_
      refine Ev.bind (a := zF (a * x + W.getD i 0)) ⟨0, fun k _ => radd_at _ _⟩ ?_
      have h := ih (i + 1) (a * x + W.getD i 0) (by omega) (by omega)
      rw [hd]
      exact h
theorem syndrome_ev (W : List F) (j : Nat) (hj : j < 255) (hW : W.length ≤ 140737488355328) : Ev (fun k => fareboxref34_syndrome.f k (Iz W) (j : Int)) (zF (syn W j)) := by
  refine Ev.bind (rexp_ev j hj) ?_
  have h := syndrome_loop W (pw j) hW W.length 0 0 (by omega) (by omega)
  rw [List.drop_zero, hor_syn] at h
  exact h
theorem syndromes_loop (W : List F) (c : Nat) (hc : c ≤ 64) (hW : W.length ≤ 140737488355328) (d : Nat) : ∀ i : Nat, c - i = d → i ≤ c → Ev (fun k => fareboxref34_Syndromes.l0 k (Iz W) (c : Int) (Iz ((List.range i).map (syn W))) (i : Int)) (Iz ((List.range c).map (syn W)), 0) := by
  induction d with
  | zero =>
    intro i h1 h2
    obtain rfl : i = c := by omega
    exact Ev.step (f := fun _ => some (Iz ((List.range i).map (syn W)), 0)) (fun k => by simp only [fareboxref34_Syndromes.l0]; rw [if_neg (by omega)]) (Ev.now _)
  | succ d ih =>
    intro i h1 h2
    refine Ev.step (f := fun k => (fareboxref34_syndrome.f k (Iz W) (i : Int)).bind fun t => fareboxref34_Syndromes.l0 k (Iz W) (c : Int) (Iz ((List.range i).map (syn W)) ++ [t]) ((i + 1 : Nat) : Int)) (fun k => ?_) ?_
    · simp only [fareboxref34_Syndromes.l0]
      rw [if_pos (by omega), w64 _ (by omega) (by omega)]
      simp only [if_pos (show (Iz ((List.range i).map (syn W))).length < 140737488355328 by rw [Iz_length, List.length_map, List.length_range]; omega)]
      rfl
    · refine Ev.bind (syndrome_ev W i (by omega) hW) ?_
      have h := ih (i + 1) (by omega) (by omega)
      rw [List.range_succ, List.map_append, Iz_append] at h
      exact h
theorem rSyndromes_ev (W : List F) (check : Int) (hW : W.length ≤ 140737488355328) : Ev (fun k => fareboxref34_Syndromes.f k (Iz W) check) (if chk W.length check = 0 then (Iz ((List.range check.toNat).map (syn W)), 0) else ([], chk W.length check)) := by
  refine Ev.bind (refused_ev W check) ?_
  by_cases h : chk W.length check = 0
  · rw [if_pos h]
    obtain ⟨h1, h2, h3, h4⟩ := chk_zero h
    obtain ⟨c, rfl⟩ : ∃ c : Nat, check = (c : Int) := ⟨check.toNat, by omega⟩
    refine Ev.congr (f := fun k => fareboxref34_Syndromes.l0 k (Iz W) (c : Int) [] 0) (fun k => if_pos h) ?_
    rw [Int.toNat_natCast]
    exact syndromes_loop W c (by omega) hW c 0 (by omega) (by omega)
  · rw [if_neg h]
    exact Ev.congr (f := fun _ => some ([], chk W.length check)) (fun k => if_neg h) (Ev.now _)
theorem degree_ev (l : List F) (hl : l.length ≤ 140737488355328) : Ev (fun k => fareboxref34_degree.f k (Iz l)) (((shortL l).length : Int) - 1) := by
  have key : ∀ n : Nat, n ≤ l.length → shortL l = shortL (l.take n) → Ev (fun k => fareboxref34_degree.l0 k (Iz l) ((n : Int) - 1)) (((shortL l).length : Int) - 1) := by
    intro n
    induction n with
    | zero =>
      intro _ hs
      rw [hs]
      exact Ev.step (f := fun _ => some (-1)) (fun k => by simp only [fareboxref34_degree.l0]; rw [if_neg (by omega)]) (Ev.now _)
    | succ n ih =>
      intro hn hs
      have hi : n < l.length := by omega
      have hlt : (l.take (n + 1)) = l.take n ++ [l.getD n 0] := by
        rw [List.take_add_one]
        congr 1
        rw [List.getD_eq_getElem?_getD, List.getElem?_eq_getElem hi]
        rfl
      have e1 : (((n + 1 : Nat) : Int) - 1) = (n : Int) := by omega
      rw [e1]
      by_cases hz : l.getD n 0 = 0
      · rw [hlt, hz, shortL_snoc_zero] at hs
        refine Ev.step (f := fun k => fareboxref34_degree.l0 k (Iz l) ((n : Int) - 1)) (fun k => ?_) (ih (by omega) hs)
        simp only [fareboxref34_degree.l0]
        rw [if_pos (by omega), if_pos (by omega), if_pos (by rw [Iz_length]; omega), rd_IzN, hz, if_pos zF_zero, w64 _ (by omega) (by omega)]
      · rw [hlt, shortL_snoc_ne _ _ hz, ← hlt] at hs
        have hlen : ((shortL l).length : Int) - 1 = (n : Int) := by rw [hs, List.length_take]; omega
        rw [hlen]
        refine Ev.step (f := fun _ => some (n : Int)) (fun k => ?_) (Ev.now _)
        simp only [fareboxref34_degree.l0]
        rw [if_pos (by omega), if_pos (by omega), if_pos (by rw [Iz_length]; omega), rd_IzN, if_neg (fun e => hz (zF_eq_zero.1 e))]
  have h := key l.length (Nat.le_refl _) (by rw [List.take_length])
  refine Ev.congr (fun k => ?_) h
  unfold fareboxref34_degree.f
  rw [Iz_length, w64 _ (by omega) (by omega)]
theorem times_row (p q : List F) (i : Nat) (hi : i < p.length) (hb : p.length + q.length ≤ 100000) (d : Nat) : ∀ (j : Nat) (o : List F), q.length - j = d → j ≤ q.length → o.length = p.length + q.length →
    ∃ o' : List F, o'.length = o.length ∧ PS.of o' = PS.of o + PS.sh (i + j) (PS.sc (p.getD i 0) (PS.of (q.drop j))) ∧
      ∀ R, Ev (fun k => fareboxref34_times.l0 k (Iz p) (Iz q) (Iz o') ((i + 1 : Nat) : Int)) R → Ev (fun k => fareboxref34_times.l1 k (Iz p) (Iz q) (Iz o) (i : Int) (j : Int)) R := by
  induction d with
  | zero =>
    intro j o hd hj ho
    obtain rfl : j = q.length := by omega
    refine ⟨o, rfl, ?_, fun R hR => ?_⟩
    · rw [List.drop_length, PS.of_nil, PS.sc_zero', sh_zeroPS, PS.add_zero]
    · refine Ev.step (fun k => ?_) hR
      simp only [fareboxref34_times.l1]; rw [if_neg (by rw [Iz_length]; omega), w64 _ (by omega) (by omega)]; rfl
  | succ d ih =>
    intro j o hd hj ho
    have hlt : j < q.length := by omega
    obtain ⟨o', h1, h2, h3⟩ := ih (j + 1) (o.set (i + j) (o.getD (i + j) 0 + p.getD i 0 * q.getD j 0)) (by omega) (by omega) (by simp; omega)
    refine ⟨o', by rw [h1]; simp, ?_, fun R hR => ?_⟩
    · rw [h2, of_set_add _ _ _ (by omega), PS.add_assoc, sc_drop_step (p.getD i 0) q i j hlt]
    · have e1 : wrap64 ((i : Int) + (j : Int)) = ((i + j : Nat) : Int) := by rw [w64 _ (by omega) (by omega)]; omega
      refine Ev.step (f := fun k => (fareboxref32_Mul.f k (zF (p.getD i 0)) (zF (q.getD j 0))).bind fun t => (fareboxref32_Add.f (zF (o.getD (i + j) 0)) t).bind fun u => fareboxref34_times.l1 k (Iz p) (Iz q) ((Iz o).set (i + j) u) (i : Int) ((j + 1 : Nat) : Int)) (fun k => ?_) ?_
      · simp only [fareboxref34_times.l1]
        rw [if_pos (by rw [Iz_length]; omega), e1, if_pos (by omega), if_pos (by rw [Iz_length]; omega), if_pos (by omega), if_pos (by rw [Iz_length]; omega), if_pos (by omega), rd_IzN, rd_IzN, rd_IzN, w64 ((j : Int) + 1) (by omega) (by omega)]
        rfl
      · refine Ev.bind (rmul_ev _ _) ?_
        refine Ev.bind (a := zF (o.getD (i + j) 0 + p.getD i 0 * q.getD j 0)) ⟨0, fun k _ => radd_at _ _⟩ ?_
        rw [← Iz_set]
        exact h3 R hR
theorem times_loop (p q : List F) (hb : p.length + q.length ≤ 100000) (d : Nat) : ∀ (i : Nat) (o : List F), p.length - i = d → i ≤ p.length → o.length = p.length + q.length →
    ∃ o' : List F, o'.length = p.length + q.length ∧ PS.of o' = PS.of o + PS.sh i (PS.of (p.drop i) * PS.of q) ∧
      Ev (fun k => fareboxref34_times.l0 k (Iz p) (Iz q) (Iz o) (i : Int)) (Iz o') := by
  induction d with
  | zero =>
    intro i o hd hi ho
    obtain rfl : i = p.length := by omega
    refine ⟨o, ho, ?_, ?_⟩
    · rw [List.drop_length, PS.of_nil, PS.zero_mul, sh_zeroPS, PS.add_zero]
    · exact Ev.step (f := fun _ => some (Iz o)) (fun k => by simp only [fareboxref34_times.l0]; rw [if_neg (by rw [Iz_length]; omega)]) (Ev.now _)
  | succ d ih =>
    intro i o hd hi ho
    have hlt : i < p.length := by omega
    obtain ⟨o1, h1, h2, h3⟩ := times_row p q i hlt hb q.length 0 o (by omega) (by omega) (by omega)
    obtain ⟨o', g1, g2, g3⟩ := ih (i + 1) o1 (by omega) (by omega) (by omega)
    refine ⟨o', g1, ?_, ?_⟩
    · have hp : p.drop i = p.getD i 0 :: p.drop (i + 1) := by
        rw [List.drop_eq_getElem_cons hlt]; simp [List.getD_eq_getElem?_getD, hlt]
      have e : PS.of (p.drop i) * PS.of q = PS.sc (p.getD i 0) (PS.of q) + PS.sh 1 (PS.of (p.drop (i + 1)) * PS.of q) := by
        rw [hp, of_cons, PS.add_mul, PS.C_mul, PS.sh_mul]
      rw [g2, h2, List.drop_zero, e, PS.sh_add, sh_sh, PS.add_assoc, Nat.add_zero]
    · refine Ev.step (fun k => ?_) (h3 _ g3)
      simp only [fareboxref34_times.l0]
      rw [if_pos (by rw [Iz_length]; omega)]
      rfl
theorem times_ev (p q : List F) (hb : p.length + q.length ≤ 100000) : ∃ o : List F, o.length = p.length + q.length ∧ PS.of o = PS.of p * PS.of q ∧ Ev (fun k => fareboxref34_times.f k (Iz p) (Iz q)) (Iz o) := by
  obtain ⟨o', h1, h2, h3⟩ := times_loop p q hb p.length 0 (List.replicate (p.length + q.length) 0) (by omega) (by omega) (by simp)
  refine ⟨o', h1, by rw [h2, of_replicate, PS.zero_add, PS.sh_zero, List.drop_zero], ?_⟩
  refine Ev.congr (fun k => ?_) h3
  have e1 : wrap64 (((Iz p).length : Int) + ((Iz q).length : Int)) = ((p.length + q.length : Nat) : Int) := by rw [Iz_length, Iz_length, w64 _ (by omega) (by omega)]; omega
  unfold fareboxref34_times.f
  rw [e1, if_pos (by omega), Int.toNat_natCast, if_pos (by omega), Iz_replicate]
  rfl
theorem plus_loop1 (q : List F) (d : Nat) : ∀ (i : Nat) (o : List F), q.length - i = d → i ≤ q.length → q.length ≤ o.length → o.length ≤ 100000 →
    ∃ o' : List F, o'.length = o.length ∧ PS.of o' = PS.of o + PS.sh i (PS.of (q.drop i)) ∧ Ev (fun k => fareboxref34_plus.l1 k (Iz q) (Iz o) (i : Int)) (Iz o') := by
  induction d with
  | zero =>
    intro i o h1 h2 h3 h4
    obtain rfl : i = q.length := by omega
    refine ⟨o, rfl, by rw [List.drop_length, PS.of_nil, sh_zeroPS, PS.add_zero], ?_⟩
    exact Ev.step (f := fun _ => some (Iz o)) (fun k => by simp only [fareboxref34_plus.l1]; rw [if_neg (by rw [Iz_length]; omega)]) (Ev.now _)
  | succ d ih =>
    intro i o h1 h2 h3 h4
    have hi : i < q.length := by omega
    obtain ⟨o', g1, g2, g3⟩ := ih (i + 1) (o.set i (o.getD i 0 + q.getD i 0)) (by omega) (by omega) (by simp; omega) (by simp; omega)
    refine ⟨o', by rw [g1]; simp, ?_, ?_⟩
    · have hd : q.drop i = q.getD i 0 :: q.drop (i + 1) := by
        rw [List.drop_eq_getElem_cons hi]; simp [List.getD_eq_getElem?_getD, hi]
      rw [g2, of_set_add _ _ _ (by omega), PS.add_assoc, hd, of_cons, PS.sh_add, sh_sh]
      rfl
    · refine Ev.step (fun k => ?_) g3
      simp only [fareboxref34_plus.l1]
      rw [if_pos (by rw [Iz_length]; omega), if_pos (by omega), if_pos (by rw [Iz_length]; omega), rd_IzN, rd_IzN, radd_at, Option.bind_some, w64 _ (by omega) (by omega), Iz_set]
      rfl
theorem plus_loop0 (p : List F) (q : List Int) (R : List Int) (d : Nat) : ∀ (i : Nat) (o : List F), p.length - i = d → i ≤ p.length → p.length ≤ o.length → o.length ≤ 100000 → (∀ j, i ≤ j → o.getD j 0 = 0) →
    ∃ o' : List F, o'.length = o.length ∧ PS.of o' = PS.of o + PS.sh i (PS.of (p.drop i)) ∧ (Ev (fun k => fareboxref34_plus.l1 k q (Iz o') 0) R → Ev (fun k => fareboxref34_plus.l0 k (Iz p) q (Iz o) (i : Int)) R) := by
  induction d with
  | zero =>
    intro i o h1 h2 h3 h4 h5
    obtain rfl : i = p.length := by omega
    refine ⟨o, rfl, by rw [List.drop_length, PS.of_nil, sh_zeroPS, PS.add_zero], fun hR => ?_⟩
    exact Ev.step (fun k => by simp only [fareboxref34_plus.l0]; rw [if_neg (by rw [Iz_length]; omega)]) hR
  | succ d ih =>
    intro i o h1 h2 h3 h4 h5
    have hi : i < p.length := by omega
    have e0 : o.getD i 0 + p.getD i 0 = p.getD i 0 := by rw [h5 i (Nat.le_refl _), F.zero_add]
    obtain ⟨o', g1, g2, g3⟩ := ih (i + 1) (o.set i (o.getD i 0 + p.getD i 0)) (by omega) (by omega) (by simp; omega) (by simp; omega) (fun j hj => by
      rw [getD_set _ _ _ _ (by omega), if_neg (by omega), h5 j (by omega)])
    refine ⟨o', by rw [g1]; simp, ?_, fun hR => ?_⟩
    · have hd : p.drop i = p.getD i 0 :: p.drop (i + 1) := by
        rw [List.drop_eq_getElem_cons hi]; simp [List.getD_eq_getElem?_getD, hi]
      rw [g2, of_set_add _ _ _ (by omega), PS.add_assoc, hd, of_cons, PS.sh_add, sh_sh]
      rfl
    · refine Ev.step (fun k => ?_) (g3 hR)
      simp only [fareboxref34_plus.l0]
      rw [if_pos (by rw [Iz_length]; omega), if_pos (by omega), if_pos (by rw [Iz_length]; omega), rd_IzN, w64 _ (by omega) (by omega), Iz_set, e0]
      rfl
theorem plus_ev (p q : List F) (hp : p.length ≤ 100000) (hq : q.length ≤ 100000) : ∃ o : List F, o.length = max p.length q.length ∧ PS.of o = PS.of p + PS.of q ∧ Ev (fun k => fareboxref34_plus.f k (Iz p) (Iz q)) (Iz o) := by
  have hz : ∀ (n j : Nat), (List.replicate n (0 : F)).getD j 0 = 0 := fun n j => by
    rw [List.getD_eq_getElem?_getD, List.getElem?_replicate]; split <;> rfl
  obtain ⟨o1, a1, a2, -⟩ := plus_loop0 p [] [] p.length 0 (List.replicate (max p.length q.length) 0) (by omega) (by omega) (by simp; omega) (by simp; omega) (fun j _ => hz _ j)
  rw [List.length_replicate] at a1
  rw [of_replicate, PS.zero_add, PS.sh_zero, List.drop_zero] at a2
  obtain ⟨o2, b1, b2, b3⟩ := plus_loop1 q q.length 0 o1 (by omega) (by omega) (by omega) (by omega)
  rw [PS.sh_zero, List.drop_zero, a2] at b2
  refine ⟨o2, by rw [b1, a1], b2, ?_⟩
  have key : Ev (fun k => fareboxref34_plus.j0 k (Iz p) (Iz q) ((max p.length q.length : Nat) : Int)) (Iz o2) := by
    obtain ⟨o1', c1, c2, c3⟩ := plus_loop0 p (Iz q) (Iz o2) p.length 0 (List.replicate (max p.length q.length) 0) (by omega) (by omega) (by simp; omega) (by simp; omega) (fun j _ => hz _ j)
    rw [List.length_replicate] at c1
    rw [of_replicate, PS.zero_add, PS.sh_zero, List.drop_zero] at c2
    have e : o1' = o1 := (of_eq_iff (by rw [c1, a1])).1 (by rw [c2, a2])
    rw [e] at c3
    refine Ev.step (fun k => ?_) (c3 b3)
    simp only [fareboxref34_plus.j0]
    rw [if_pos (by omega), Int.toNat_natCast, if_pos (by omega), Iz_replicate]
    rfl
  refine Ev.congr (fun k => ?_) key
  unfold fareboxref34_plus.f
  rw [Iz_length, Iz_length]
  by_cases h : q.length > p.length
  · rw [if_pos (by omega), show max p.length q.length = q.length by omega]
  · rw [if_neg (by omega), show max p.length q.length = p.length by omega]
theorem locator_ev (N p : Nat) (hN : N ≤ 255) (hp : p < N) : Ev (fun k => fareboxref34_locator.f k (N : Int) (p : Int)) (zF (loc N p)) := by
  have e : wrap64 (wrap64 ((N : Int) - 1) - (p : Int)) = ((N - 1 - p : Nat) : Int) := by rw [w64 ((N : Int) - 1) (by omega) (by omega), w64 _ (by omega) (by omega)]; omega
  refine Ev.congr (f := fun k => (fareboxref32_Exp.f k ((N - 1 - p : Nat) : Int)).bind fun t => some t) (fun k => by unfold fareboxref34_locator.f; rw [e]) ?_
  exact Ev.bind (rexp_ev _ (by omega)) (Ev.now _)
theorem of_gx (a : F) : PS.of [1, a] = gx a := PS.ext fun n => by
  match n with
  | 0 => rfl
  | 1 => rfl
  | n + 2 => simp [PS.of, gx]
theorem lam_snoc (N : Nat) (Q : List Nat) (q : Nat) : lam N (Q ++ [q]) = lam N Q * gx (loc N q) := by
  rw [lam_append]
  show lam N Q * (gx (loc N q) * 1) = _
  rw [PS.mul_one]
theorem holed_loop (N : Nat) (hN : N ≤ 255) (H : List Nat) (hb : ∀ h ∈ H, h < N) (hl : H.length ≤ 1000) (d : Nat) : ∀ (i : Nat) (o : List F), H.length - i = d → i ≤ H.length → o.length = 1 + 2 * i → PS.of o = lam N (H.take i) →
    ∃ o' : List F, o'.length = 1 + 2 * H.length ∧ PS.of o' = lam N H ∧ Ev (fun k => fareboxref34_holed.l0 k (N : Int) (H.map Int.ofNat) (Iz o) (i : Int)) (Iz o') := by
  induction d with
  | zero =>
    intro i o h1 h2 h3 h4
    obtain rfl : i = H.length := by omega
    rw [List.take_length] at h4
    refine ⟨o, h3, h4, ?_⟩
    exact Ev.step (f := fun _ => some (Iz o)) (fun k => by simp only [fareboxref34_holed.l0]; rw [if_neg (by rw [List.length_map]; omega)]) (Ev.now _)
  | succ d ih =>
    intro i o h1 h2 h3 h4
    have hi : i < H.length := by omega
    have hg : H.getD i 0 < N := hb _ (by rw [List.getD_eq_getElem?_getD, List.getElem?_eq_getElem hi]; exact List.getElem_mem hi)
    obtain ⟨o1, a1, a2, a3⟩ := times_ev o [1, loc N (H.getD i 0)] (by simp; omega)
    have ht : H.take (i + 1) = H.take i ++ [H.getD i 0] := by
      rw [List.take_add_one]
      congr 1
      rw [List.getD_eq_getElem?_getD, List.getElem?_eq_getElem hi]
      rfl
    obtain ⟨o', b1, b2, b3⟩ := ih (i + 1) o1 (by omega) (by omega) (by rw [a1]; simp; omega) (by rw [a2, h4, of_gx, ht, lam_snoc])
    refine ⟨o', b1, b2, ?_⟩
    refine Ev.step (f := fun k => (fareboxref34_locator.f k (N : Int) ((H.getD i 0 : Nat) : Int)).bind fun t => (fareboxref34_times.f k (Iz o) [1, t]).bind fun u => fareboxref34_holed.l0 k (N : Int) (H.map Int.ofNat) u ((i + 1 : Nat) : Int)) (fun k => ?_) ?_
    · have er : rd (H.map Int.ofNat) (i : Int) = ((H.getD i 0 : Nat) : Int) := by
        unfold rd
        rw [Int.toNat_natCast, List.getD_eq_getElem?_getD, List.getElem?_map, List.getD_eq_getElem?_getD, List.getElem?_eq_getElem hi]
        rfl
      simp only [fareboxref34_holed.l0]
      rw [if_pos (by rw [List.length_map]; omega), if_pos (by omega), er, w64 _ (by omega) (by omega)]
      rfl
    · refine Ev.bind (locator_ev N _ hN hg) ?_
      exact Ev.bind a3 b3
theorem holed_ev (N : Nat) (hN : N ≤ 255) (H : List Nat) (hb : ∀ h ∈ H, h < N) (hl : H.length ≤ 1000) : ∃ o : List F, o.length = 1 + 2 * H.length ∧ PS.of o = lam N H ∧ Ev (fun k => fareboxref34_holed.f k (N : Int) (H.map Int.ofNat)) (Iz o) := by
  refine holed_loop N hN H hb hl H.length 0 [1] (by omega) (by omega) rfl ?_
  rw [List.take_zero]
  exact PS.ext fun n => by cases n <;> rfl
theorem rinv_loop (a : F) (ha : a ≠ 0) (d : Nat) : ∀ n : Nat, (F.inv a).n - n = d → n ≤ (F.inv a).n → Ev (fun k => fareboxref32_Inv.l0 k (zF a) (n : Int)) (zF (F.inv a), true) := by
  induction d with
  | zero =>
    intro n h1 h2
    obtain rfl : n = (F.inv a).n := by omega
    refine Ev.step (f := fun k => (fareboxref32_Mul.f k (zF a) (zF (F.inv a))).bind fun t => if t = 1 then some (zF (F.inv a), true) else fareboxref32_Inv.l0 k (zF a) (wrap64 (((F.inv a).n : Int) + 1))) (fun k => ?_) ?_
    · have hl := (F.inv a).lt
      have e : (((F.inv a).n : Int)) % 256 = zF (F.inv a) := by unfold zF; omega
      simp only [fareboxref32_Inv.l0]
      rw [if_pos (by omega), e]
    · refine Ev.bind (rmul_ev _ _) ?_
      rw [F.mul_inv ha]
      exact Ev.congr (fun k => if_pos rfl) (Ev.now _)
  | succ d ih =>
    intro n h1 h2
    have hl := (F.inv a).lt
    have hn : n < 256 := by omega
    refine Ev.step (f := fun k => (fareboxref32_Mul.f k (zF a) (zF ⟨n, hn⟩)).bind fun t => if t = 1 then some (zF ⟨n, hn⟩, true) else fareboxref32_Inv.l0 k (zF a) ((n + 1 : Nat) : Int)) (fun k => ?_) ?_
    · have e : ((n : Int)) % 256 = zF ⟨n, hn⟩ := by show _ = (n : Int); omega
      simp only [fareboxref32_Inv.l0]
      rw [if_pos (by omega), e, w64 _ (by omega) (by omega)]
      rfl
    · refine Ev.bind (rmul_ev _ _) ?_
      refine Ev.congr (fun k => if_neg (fun h => ?_)) (ih (n + 1) (by omega) (by omega))
      have h2 : a * ⟨n, hn⟩ = 1 := zF_inj.1 (h.trans zF_one.symm)
      have h3 := F.inv_unique h2
      rw [← h3] at h1
      simp at h1
theorem rinv_zero (d : Nat) : ∀ n : Nat, 256 - n = d → n ≤ 256 → Ev (fun k => fareboxref32_Inv.l0 k 0 (n : Int)) (0, false) := by
  induction d with
  | zero =>
    intro n h1 h2
    exact Ev.step (f := fun _ => some (0, false)) (fun k => by simp only [fareboxref32_Inv.l0]; rw [if_neg (by omega)]) (Ev.now _)
  | succ d ih =>
    intro n h1 h2
    have hn : n < 256 := by omega
    refine Ev.step (f := fun k => (fareboxref32_Mul.f k (zF 0) (zF ⟨n, hn⟩)).bind fun t => if t = 1 then some (zF ⟨n, hn⟩, true) else fareboxref32_Inv.l0 k 0 ((n + 1 : Nat) : Int)) (fun k => ?_) ?_
    · have e : ((n : Int)) % 256 = zF ⟨n, hn⟩ := by show _ = (n : Int); omega
      simp only [fareboxref32_Inv.l0]
      rw [if_pos (by omega), e, w64 _ (by omega) (by omega)]
      rfl
    · refine Ev.bind (rmul_ev _ _) ?_
      refine Ev.congr (fun k => if_neg (fun h => ?_)) (ih (n + 1) (by omega) (by omega))
      rw [F.zero_mul] at h
      exact absurd (zF_inj.1 (h.trans zF_one.symm)) (fun e => F.one_ne_zero e.symm)
theorem rinv_ev (a : F) : Ev (fun k => fareboxref32_Inv.f k (zF a)) (zF (F.inv a), !decide (a = 0)) := by
  by_cases h : a = 0
  · subst h
    have h1 := rinv_zero 255 1 (by omega) (by omega)
    rw [F.inv_zero, decide_eq_true rfl]
    exact h1
  · rw [decide_eq_false h]
    have hne : (F.inv a).n ≠ 0 := fun e => F.inv_ne_zero h (F.ext e)
    exact rinv_loop a h _ 1 rfl (by omega)
theorem rdiv_ev (a b : F) : Ev (fun k => fareboxref32_Div.f k (zF a) (zF b)) (zF (a * F.inv b), !decide (b = 0)) := by
  refine Ev.bind (rinv_ev b) ?_
  exact Ev.bind (rmul_ev a (F.inv b)) (Ev.now _)
theorem rpolyEval_loop (p : List F) (x : F) (hp : p.length ≤ 140737488355328) (d : Nat) : ∀ (i : Nat) (a : F), p.length - i = d → i ≤ p.length → Ev (fun k => fareboxref32_PolyEval.l0 k (Iz p) (zF x) (zF a) (zF (fp x i)) (i : Int)) (zF (a + fp x i * evL (p.drop i) x)) := by
  induction d with
  | zero =>
    intro i a h1 h2
    obtain rfl : i = p.length := by omega
    rw [List.drop_length, evL_nil, F.mul_zero, F.add_zero]
    exact Ev.step (f := fun _ => some (zF a)) (fun k => by simp only [fareboxref32_PolyEval.l0]; rw [if_neg (by rw [Iz_length]; omega)]) (Ev.now _)
  | succ d ih =>
    intro i a h1 h2
    have hi : i < p.length := by omega
    have hd : p.drop i = p.getD i 0 :: p.drop (i + 1) := by
      rw [List.drop_eq_getElem_cons hi]; simp [List.getD_eq_getElem?_getD, hi]
    refine Ev.step (f := fun k => (fareboxref32_Mul.f k (zF (p.getD i 0)) (zF (fp x i))).bind fun t => (fareboxref32_Mul.f k (zF (fp x i)) (zF x)).bind fun u => fareboxref32_PolyEval.l0 k (Iz p) (zF x) (Go.bits .xor .u8 (zF a) t) u ((i + 1 : Nat) : Int)) (fun k => ?_) ?_
    · simp only [fareboxref32_PolyEval.l0]
      rw [if_pos (by rw [Iz_length]; omega), if_pos (by omega), rd_IzN, w64 _ (by omega) (by omega)]
      rfl
    · refine Ev.bind (rmul_ev _ _) (Ev.bind (rmul_ev _ _) ?_)
      have h := ih (i + 1) (a + p.getD i 0 * fp x i) (by omega) (by omega)
      have e : fp x (i + 1) = fp x i * x := by rw [fp_succ, F.mul_comm]
      rw [xor_zF, ← e, hd, evL_cons]
      have e2 : a + fp x i * (p.getD i 0 + x * evL (p.drop (i + 1)) x) = a + p.getD i 0 * fp x i + fp x (i + 1) * evL (p.drop (i + 1)) x := by
        rw [F.mul_add, e, F.mul_assoc, F.add_assoc, F.mul_comm (fp x i) (p.getD i 0)]
      rw [e2]
      exact h
theorem rpolyEval_ev (p : List F) (x : F) (hp : p.length ≤ 100000) {d : Nat} (hd : (PS.of p).below d) (hd2 : d ≤ 1000) : Ev (fun k => fareboxref32_PolyEval.f k (Iz p) (zF x)) (zF (E (PS.of p) x)) := by
  have h := rpolyEval_loop p x (by omega) p.length 0 0 (by omega) (by omega)
  rw [List.drop_zero, F.zero_add, fp_zero, F.one_mul] at h
  have hm : (PS.of p).below (min d p.length) := fun n hn => by
    by_cases h2 : d ≤ n
    · exact hd n h2
    · exact PS.of_below p n (by omega)
  rw [E_of hm (by omega), ← PS.ev_more hm x p.length (by omega)]
  exact h
theorem rpower_loop (x : F) (n d : Nat) (hn : n ≤ 100000) : ∀ i : Nat, n - i = d → i ≤ n → Ev (fun k => fareboxref34_power.l0 k (zF x) (n : Int) (zF (fp x i)) (i : Int)) (zF (fp x n)) := by
  induction d with
  | zero =>
    intro i h1 h2
    obtain rfl : i = n := by omega
    exact Ev.step (f := fun _ => some (zF (fp x i))) (fun k => by simp only [fareboxref34_power.l0]; rw [if_neg (by omega)]) (Ev.now _)
  | succ d ih =>
    intro i h1 h2
    refine Ev.step (f := fun k => (fareboxref32_Mul.f k (zF (fp x i)) (zF x)).bind fun t => fareboxref34_power.l0 k (zF x) (n : Int) t ((i + 1 : Nat) : Int)) (fun k => ?_) ?_
    · simp only [fareboxref34_power.l0]
      rw [if_pos (by omega), w64 _ (by omega) (by omega)]
      rfl
    · refine Ev.bind (rmul_ev _ _) ?_
      have h := ih (i + 1) (by omega) (by omega)
      rw [fp_succ, F.mul_comm] at h
      exact h
theorem rpower_ev (x : F) (n : Nat) (hn : n ≤ 100000) : Ev (fun k => fareboxref34_power.f k (zF x) (n : Int)) (zF (fp x n)) := rpower_loop x n n hn 0 (by omega) (by omega)
theorem rslope_loop (p : List F) (x : F) (hp : p.length ≤ 100000) (d : Nat) : ∀ m : Nat, p.length / 2 - m = d → m ≤ p.length / 2 → Ev (fun k => fareboxref34_slope.l0 k (Iz p) (zF x) (zF (slp m (PS.of p) x)) ((2 * m + 1 : Nat) : Int)) (zF (slp (p.length / 2) (PS.of p) x)) := by
  induction d with
  | zero =>
    intro m h1 h2
    obtain rfl : m = p.length / 2 := by omega
    exact Ev.step (f := fun _ => some (zF (slp (p.length / 2) (PS.of p) x))) (fun k => by simp only [fareboxref34_slope.l0]; rw [if_neg (by rw [Iz_length]; omega)]) (Ev.now _)
  | succ d ih =>
    intro m h1 h2
    have e1 : wrap64 (((2 * m + 1 : Nat) : Int) - 1) = ((2 * m : Nat) : Int) := by rw [w64 _ (by omega) (by omega)]; omega
    have e2 : wrap64 (((2 * m + 1 : Nat) : Int) + 2) = ((2 * (m + 1) + 1 : Nat) : Int) := by rw [w64 _ (by omega) (by omega)]; omega
    refine Ev.step (f := fun k => (fareboxref34_power.f k (zF x) ((2 * m : Nat) : Int)).bind fun t => (fareboxref32_Mul.f k (zF (p.getD (2 * m + 1) 0)) t).bind fun u => (fareboxref32_Add.f (zF (slp m (PS.of p) x)) u).bind fun v => fareboxref34_slope.l0 k (Iz p) (zF x) v ((2 * (m + 1) + 1 : Nat) : Int)) (fun k => ?_) ?_
    · simp only [fareboxref34_slope.l0]
      rw [if_pos (by rw [Iz_length]; omega), if_pos (by omega), rd_IzN, e1, e2]
    · refine Ev.bind (rpower_ev x _ (by omega)) (Ev.bind (rmul_ev _ _) ?_)
      refine Ev.bind (a := zF (slp (m + 1) (PS.of p) x)) ⟨0, fun k _ => ?_⟩ (ih (m + 1) (by omega) (by omega))
      rw [radd_at]
      unfold slp
      rw [msum_range_succ]
      rfl
theorem rslope_ev (p : List F) (x : F) (hp : p.length ≤ 100000) : Ev (fun k => fareboxref34_slope.f k (Iz p) (zF x)) (zF (slp (p.length / 2) (PS.of p) x)) := rslope_loop p x hp (p.length / 2) 0 (by omega) (by omega)
end Go.Proofs.YtgcibhbhbgoacaaDoor
