import Derived.Test.YtgcibhbhbgoacaaDoorVa
import Derived.Test.YtgcibhbhbgoacaaDoorHe
/- rs.Generator, rs.Encode, rs.Distance: what they answer. -/
namespace Go.Proofs.YtgcibhbhbgoacaaDoor
open Go.Proofs.YtgcibhbhbgoacaaDoor.G Go.Proofs.YtgcibhbhbgoacaaDoor.H FB
open Go.RowKit Go.Proofs.YtgcibhbhbgoacaaDoorW.PrintWords
set_option linter.unusedVariables false
set_option linter.unusedSimpArgs false

def diffU (a b : List F) (n : Nat) : List Nat := (List.range n).filter fun i => decide (a.getD i 0 ≠ b.getD i 0)
theorem diffU_yes {a b : List F} {i : Nat} (h : a.getD i 0 ≠ b.getD i 0) : diffU a b (i + 1) = diffU a b i ++ [i] := by
  unfold diffU
  rw [List.range_succ, List.filter_append]
  simp only [List.filter_cons, h, ne_eq, not_false_eq_true, decide_true, if_true, List.filter_nil]
theorem diffU_no {a b : List F} {i : Nat} (h : a.getD i 0 = b.getD i 0) : diffU a b (i + 1) = diffU a b i := by
  unfold diffU
  rw [List.range_succ, List.filter_append]
  have : decide (a.getD i 0 ≠ b.getD i 0) = false := by rw [decide_eq_false_iff_not]; exact fun h2 => h2 h
  simp only [List.filter_cons, this, List.filter_nil]
  simp
theorem diffU_length (a b : List F) (i : Nat) : (diffU a b i).length ≤ i := by
  have := List.length_filter_le (fun i => decide (a.getD i 0 ≠ b.getD i 0)) (List.range i)
  rwa [List.length_range] at this
theorem of_two (a : F) : PS.of [a, 1] = PS.xa a := PS.ext fun n => by
  match n with
  | 0 => rfl
  | 1 => rfl
  | n + 2 => simp [PS.of, PS.xa]
/-- the code's roots -/
def rootsL : Nat → List F
  | 0 => []
  | c + 1 => pw c :: rootsL c
theorem rootsL_length : ∀ c, (rootsL c).length = c
  | 0 => rfl
  | c + 1 => by unfold rootsL; rw [List.length_cons, rootsL_length c]
theorem rootsL_mem : ∀ {c j : Nat}, j < c → pw j ∈ rootsL c
  | c + 1, j, h => by
    unfold rootsL
    by_cases e : j = c
    · subst e; exact List.mem_cons_self ..
    · exact List.mem_cons_of_mem _ (rootsL_mem (by omega))
theorem mulP_lin (rs : List F) (a : F) : mulP (linL rs) [a, 1] = linL (a :: rs) := by
  refine Short.eq (short_canon _ _) (short_linL _) ?_
  rw [of_mulP, of_linL, of_linL, of_two, PS.mul_comm]
  rfl
theorem gen_loop (c : Nat) (hc : c ≤ 64) (d : Nat) : ∀ j : Nat, c - j = d → j ≤ c → Ev (fun k => rs_Generator.l0 k (Iz (linL (rootsL j))) (c : Int) (j : Int)) (Iz (linL (rootsL c)), true) := by
  induction d with
  | zero =>
    intro j h1 h2
    obtain rfl : j = c := by omega
    exact Ev.step (f := fun _ => some (Iz (linL (rootsL j)), true)) (fun k => by simp only [rs_Generator.l0]; rw [if_neg (by omega)]) (Ev.now _)
  | succ d ih =>
    intro j h1 h2
    refine Ev.step (f := fun k => (gf_PolyMul.f k (Iz (linL (rootsL j))) (Iz [pw j, 1])).bind fun b => rs_Generator.l0 k b.1 (c : Int) (wrap64 ((j : Int) + 1))) (fun k => ?_) ?_
    · simp only [rs_Generator.l0]
      rw [if_pos (by omega), exp_nat j (by omega), Option.bind_some]
      rfl
    · refine Ev.bind (polyMul_ev _ _ (by rw [linL_length, rootsL_length]; simp; omega)) ?_
      have := ih (j + 1) (by omega) (by omega)
      rw [show wrap64 ((j : Int) + 1) = ((j + 1 : Nat) : Int) by unfold wrap64; omega]
      simp only [mulP_lin]
      exact this
theorem gen_ev (c : Nat) (h1 : 1 ≤ c) (h2 : c ≤ 64) : Ev (fun k => rs_Generator.f k (c : Int)) (Iz (linL (rootsL c)), true) := by
  refine Ev.congr (f := fun k => rs_Generator.j0 k (c : Int) (decide ((c : Int) > 64))) (fun k => by unfold rs_Generator.f; rw [if_neg (by omega)]) ?_
  refine Ev.step (f := fun k => rs_Generator.l0 k [1] (c : Int) 0) (fun k => ?_) ?_
  · simp only [rs_Generator.j0]
    rw [if_neg (by simp; omega)]
  · have h := gen_loop c h2 c 0 (by omega) (by omega)
    have e : Iz (linL (rootsL 0)) = [1] := by show Iz (linL []) = [1]; rw [linL_nil]; rfl
    rw [e] at h
    exact h
theorem gen_no (c : Int) (h : c < 1 ∨ 64 < c) : Ev (fun k => rs_Generator.f k c) ([], false) := by
  have key : Ev (fun k => rs_Generator.j0 k c true) ([], false) := Ev.step (f := fun _ => some ([], false)) (fun k => by simp only [rs_Generator.j0]; rw [if_pos trivial]) (Ev.now _)
  by_cases h1 : c < 1
  · exact Ev.congr (fun k => by unfold rs_Generator.f; rw [if_pos h1]) key
  · exact Ev.congr (fun k => by unfold rs_Generator.f; rw [if_neg h1, decide_eq_true (by omega)]) key
theorem clone_at (l : List Int) (h : l.length < 140737488355328) : slices_Clone_byte_byte.f l = some l := by
  unfold slices_Clone_byte_byte.f
  simp only [Option.bind_some, List.length_nil, Nat.zero_add, List.nil_append]
  rw [if_pos h]
/-! ### turned about -/
theorem getD_set (l : List F) (i q : Nat) (x : F) (h : i < l.length) : (l.set i x).getD q 0 = if q = i then x else l.getD q 0 := by
  simp only [List.getD_eq_getElem?_getD]
  by_cases e : q = i
  · subst e; rw [if_pos rfl, List.getElem?_set_self h]; rfl
  · rw [if_neg e, List.getElem?_set_ne (fun e2 => e e2.symm)]
theorem getD_rev (l : List F) (p : Nat) (h : p < l.length) : l.reverse.getD p 0 = l.getD (l.length - 1 - p) 0 := by
  rw [List.getD_eq_getElem?_getD, List.getD_eq_getElem?_getD, List.getElem?_reverse h]
theorem rev_loop (l : List F) (hl : l.length ≤ 140737488355328) (d : Nat) : ∀ (i : Nat) (o : List F), l.length - 2 * i = d → 2 * i ≤ l.length + 1 → o.length = l.length →
    (∀ p, p < l.length → o.getD p 0 = if p < i ∨ l.length - 1 - i < p then l.getD (l.length - 1 - p) 0 else l.getD p 0) →
    Ev (fun k => slices_Reverse_byte_byte.l0 k (Iz o) (i : Int) ((l.length : Int) - 1 - i)) (Iz l.reverse) := by
  induction d using Nat.strongRecOn with
  | _ d ih =>
    intro i o h1 h2 h3 h4
    by_cases hlt : i + 1 + i < l.length
    · have h5 := ih (d - 2) (by omega) (i + 1) ((o.set i (o.getD (l.length - 1 - i) 0)).set (l.length - 1 - i) (o.getD i 0)) (by omega) (by omega) (by simp [h3]) (fun p hp => by
        rw [getD_set _ _ _ _ (by simp; omega), getD_set _ _ _ _ (by omega)]
        by_cases e1 : p = l.length - 1 - i
        · rw [if_pos e1, if_pos (by omega), h4 i (by omega), if_neg (by omega)]; congr 1; omega
        · rw [if_neg e1]
          by_cases e2 : p = i
          · rw [if_pos e2, if_pos (by omega), h4 _ (by omega), if_neg (by omega), e2]
          · rw [if_neg e2, h4 p hp]
            by_cases e3 : p < i ∨ l.length - 1 - i < p
            · rw [if_pos e3, if_pos (by omega)]
            · rw [if_neg e3, if_neg (by omega)])
      refine Ev.step (fun k => ?_) h5
      simp only [slices_Reverse_byte_byte.l0, Iz_length, h3]
      have e1 : ((l.length : Int) - 1 - i) = ((l.length - 1 - i : Nat) : Int) := by omega
      rw [e1, if_pos (by omega), if_pos (by omega), if_pos (by omega), if_pos (by omega), if_pos (by omega), rd_IzN, rd_IzN, Int.toNat_natCast, Int.toNat_natCast, Iz_set, Iz_set,
        show wrap64 ((i : Int) + 1) = ((i + 1 : Nat) : Int) by unfold wrap64; omega, show wrap64 (((l.length - 1 - i : Nat) : Int) - 1) = (l.length : Int) - 1 - ((i + 1 : Nat) : Int) by unfold wrap64; omega]
    · have e : o = l.reverse := by
        refine getD_ext (by simp [h3]) fun p hp => ?_
        rw [h3] at hp
        rw [h4 p hp, getD_rev l p hp]
        by_cases e3 : p < i ∨ l.length - 1 - i < p
        · rw [if_pos e3]
        · rw [if_neg e3]; congr 1; omega
      rw [← e]
      exact Ev.step (f := fun _ => some (Iz o)) (fun k => by simp only [slices_Reverse_byte_byte.l0]; rw [if_neg (by omega)]) (Ev.now _)
theorem rev_ev (l : List F) (hl : l.length ≤ 140737488355328) : Ev (fun k => slices_Reverse_byte_byte.f k (Iz l)) (Iz l.reverse) := by
  have h := rev_loop l hl l.length 0 l (by omega) (by omega) rfl (fun p hp => by rw [if_neg (by omega)])
  refine Ev.congr (fun k => ?_) h
  unfold slices_Reverse_byte_byte.f
  rw [Iz_length, show wrap64 ((l.length : Int) - 1) = (l.length : Int) - 1 - ((0 : Nat) : Int) by unfold wrap64; omega]
  rfl
/-! ### Encode -/
theorem evL_hor (x : F) : ∀ r : List F, evL r x = hor x r.reverse 0
  | [] => rfl
  | a :: r => by
    rw [evL_cons, evL_hor x r, List.reverse_cons]
    unfold hor
    rw [List.foldl_append]
    show a + x * _ = _ * x + a
    rw [F.add_comm, F.mul_comm]
theorem syn_evL (w : List F) (j : Nat) : syn w j = evL w.reverse (pw j) := by rw [evL_hor, List.reverse_reverse, hor_syn]
theorem fill_loop (R : List F) (L : Nat) (hR : R.length ≤ L) (hL : L ≤ 140737488355328) (d : Nat) : ∀ (p : Nat) (o : List F), R.length - p = d → p ≤ R.length → o.length = L →
    ∃ w : List F, Ev (fun k => rs_Encode.l0 k (Iz o) (Iz R) (R.length : Int) (p : Int)) (Iz w, 0) ∧ w.length = L ∧ ∀ q, q < L → w.getD q 0 = if p ≤ L - 1 - q ∧ L - 1 - q < R.length then R.getD (L - 1 - q) 0 else o.getD q 0 := by
  induction d with
  | zero =>
    intro p o h1 h2 h3
    refine ⟨o, Ev.step (f := fun _ => some (Iz o, 0)) (fun k => by simp only [rs_Encode.l0]; rw [if_neg (by omega)]) (Ev.now _), h3, fun q hq => by rw [if_neg (by omega)]⟩
  | succ d ih =>
    intro p o h1 h2 h3
    obtain ⟨w, g1, g2, g3⟩ := ih (p + 1) (o.set (L - 1 - p) (R.getD p 0)) (by omega) (by omega) (by simp [h3])
    refine ⟨w, Ev.step (fun k => ?_) g1, g2, fun q hq => ?_⟩
    · simp only [rs_Encode.l0, Iz_length, h3]
      have e1 : wrap64 ((L : Int) - 1) = (L : Int) - 1 := by unfold wrap64; omega
      have e2 : wrap64 ((L : Int) - 1 - p) = ((L - 1 - p : Nat) : Int) := by unfold wrap64; omega
      rw [e1, e2, if_pos (by omega), if_pos (by omega), if_pos (by omega), if_pos (by omega), if_pos (by omega), rd_IzN, Int.toNat_natCast, Iz_set, show wrap64 ((p : Int) + 1) = ((p + 1 : Nat) : Int) by unfold wrap64; omega]
    · rw [g3 q hq, getD_set _ _ _ _ (by omega)]
      by_cases e1 : q = L - 1 - p
      · rw [if_neg (by omega), if_pos e1, if_pos (by omega)]; congr 1; omega
      · rw [if_neg e1]
        by_cases e2 : p + 1 ≤ L - 1 - q ∧ L - 1 - q < R.length
        · rw [if_pos e2, if_pos (by omega)]
        · rw [if_neg e2, if_neg (by omega)]
theorem of_eq_of_getD {l : List F} {p : PS} (h : ∀ n, l.getD n 0 = p n) : PS.of l = p := PS.ext h
theorem encode_ev (D : List F) (c : Nat) (hD : D ≠ []) (h1 : 1 ≤ c) (h2 : c ≤ 64) (hl : D.length + c ≤ 255) :
    ∃ w : List F, Ev (fun k => rs_Encode.f k (Iz D) (c : Int)) (Iz w, 0) ∧ w.length = D.length + c ∧ w.take D.length = D ∧ ∀ j, j < c → syn w j = 0 := by
  have hDp : 0 < D.length := List.length_pos_iff.2 hD
  have hsg : shortL (linL (rootsL c)) = linL (rootsL c) := short_linL _
  have hgl : (linL (rootsL c)).length = c + 1 := by rw [linL_length, rootsL_length]
  have hg0 : shortL (linL (rootsL c)) ≠ [] := by rw [hsg]; intro e; rw [e] at hgl; simp at hgl
  obtain ⟨Q, R, _, hRs, _, hRl, hPQ, hRb, hdiv⟩ := polyDiv_ev (D ++ List.replicate c 0).reverse (linL (rootsL c)) (by simp; omega) hg0
  rw [hsg, hgl] at hRb
  have hRc : R.length ≤ c := hRs.length_le (by simpa using hRb)
  obtain ⟨w, hw1, hw2, hw3⟩ := fill_loop R (D.length + c) (by omega) (by omega) R.length 0 (D ++ List.replicate c 0) (by omega) (by omega) (by simp)
  have hwq : ∀ q, q < D.length + c → w.getD q 0 = if D.length ≤ q then R.getD (D.length + c - 1 - q) 0 else D.getD q 0 := by
    intro q hq
    rw [hw3 q hq]
    have hz : ∀ p, R.length ≤ p → R.getD p 0 = 0 := fun p hp => by rw [List.getD_eq_getElem?_getD, List.getElem?_eq_none hp]; rfl
    by_cases hqD : D.length ≤ q
    · rw [if_pos hqD]
      by_cases h3 : D.length + c - 1 - q < R.length
      · rw [if_pos ⟨by omega, h3⟩]
      · rw [if_neg (fun h => h3 h.2), hz _ (by omega), List.getD_eq_getElem?_getD, List.getElem?_append_right hqD, List.getElem?_replicate]
        split <;> rfl
    · rw [if_neg hqD, if_neg (by omega), List.getD_eq_getElem?_getD, List.getElem?_append_left (by omega), List.getD_eq_getElem?_getD]
  refine ⟨w, ?_, hw2, ?_, fun j hj => ?_⟩
  · refine Ev.congr (f := fun k => (rs_Generator.f k (c : Int)).bind fun b => if b.2 = true then rs_Encode.j0 k (Iz D) (c : Int) b.1 (((Iz D).length : Int) == 0) else rs_Encode.j0 k (Iz D) (c : Int) b.1 true) (fun k => rfl) ?_
    refine Ev.bind (gen_ev c h1 h2) ?_
    refine Ev.congr (f := fun k => rs_Encode.j0 k (Iz D) (c : Int) (Iz (linL (rootsL c))) false) (fun k => ?_) ?_
    · rw [if_pos rfl]
      congr 1
      rw [Iz_length]
      simp
      intro e
      exact hD e
    · refine Ev.step (f := fun k => (slices_Reverse_byte_byte.f k (Iz (D ++ List.replicate c 0))).bind fun t118 => (gf_PolyDiv.f k t118 (Iz (linL (rootsL c)))).bind fun bt119 => rs_Encode.l0 k (Iz (D ++ List.replicate c 0)) bt119.2.1 (bt119.2.1.length : Int) 0) (fun k => ?_) ?_
      · simp only [rs_Encode.j0]
        rw [if_neg (by simp), Iz_length, show wrap64 ((D.length : Int) + (c : Int)) = ((D.length + c : Nat) : Int) by unfold wrap64; omega, if_neg (by omega), clone_at _ (by rw [Iz_length]; omega), Option.bind_some, if_pos (by omega), Int.toNat_natCast, Iz_length, if_pos (by omega), Option.bind_some]
        have e : Iz D ++ List.replicate c 0 = Iz (D ++ List.replicate c 0) := by rw [Iz_append, Iz_replicate]
        rw [e, clone_at _ (by rw [Iz_length]; simp; omega), Option.bind_some]
      · refine Ev.bind (rev_ev _ (by simp; omega)) ?_
        refine Ev.bind hdiv ?_
        simp only [Iz_length]
        exact hw1
  · refine getD_ext (by rw [List.length_take]; omega) fun i hi => ?_
    rw [List.length_take] at hi
    have := hwq i (by omega)
    rw [if_neg (by omega)] at this
    rw [← this, List.getD_eq_getElem?_getD, List.getD_eq_getElem?_getD, List.getElem?_take, if_pos (by omega)]
  · have hrev : PS.of w.reverse = PS.of Q * PS.of (linL (rootsL c)) := by
      have hsum : PS.of w.reverse = PS.of (D ++ List.replicate c 0).reverse + PS.of R := by
        refine of_eq_of_getD fun n => ?_
        rw [PS.add_at]
        show _ = (D ++ List.replicate c 0).reverse.getD n 0 + R.getD n 0
        have hz : ∀ p, R.length ≤ p → R.getD p 0 = 0 := fun p hp => by rw [List.getD_eq_getElem?_getD, List.getElem?_eq_none hp]; rfl
        by_cases hn : n < D.length + c
        · rw [getD_rev w n (by omega), hw2, hwq _ (by omega), getD_rev _ n (by simp; omega)]
          have hlen : (D ++ List.replicate c 0).length = D.length + c := by simp
          rw [hlen]
          by_cases hc : n < c
          · rw [if_pos (by omega), show D.length + c - 1 - (D.length + c - 1 - n) = n by omega, List.getD_eq_getElem?_getD (l := D ++ _), List.getElem?_append_right (by omega), List.getElem?_replicate]
            rw [if_pos (by omega)]
            show _ = 0 + _
            rw [F.zero_add]
          · rw [if_neg (by omega), hz n (by omega), F.add_zero, List.getD_eq_getElem?_getD (l := D ++ _), List.getElem?_append_left (by omega), List.getD_eq_getElem?_getD]
        · rw [hz n (by omega), F.add_zero, List.getD_eq_getElem?_getD, List.getElem?_eq_none (by rw [List.length_reverse]; omega), List.getD_eq_getElem?_getD, List.getElem?_eq_none (by rw [List.length_reverse]; simp; omega)]
      rw [hsum, hPQ, PS.add_assoc, PS.add_self, PS.add_zero]
    rw [syn_evL]
    have hroot : PS.ev (c + 1) (PS.of (linL (rootsL c))) (pw j) = 0 := by
      rw [of_linL]
      have := (PS.lin_root_iff (rootsL c) (pw j)).2 (rootsL_mem hj)
      rwa [rootsL_length] at this
    have hQb := PS.of_below Q
    have hGb : (PS.of (linL (rootsL c))).below (c + 1) := by have := PS.of_below (linL (rootsL c)); rwa [hgl] at this
    have hm := PS.ev_mul hQb hGb (pw j)
    rw [hroot, F.mul_zero, ← hrev] at hm
    have hb2 : (PS.of w.reverse).below (Q.length + (c + 1)) := by rw [hrev]; exact (hQb.mul hGb).mono (by omega)
    have hb1 := PS.of_below w.reverse
    unfold evL
    rw [← PS.ev_more hb1 (pw j) (w.reverse.length + (Q.length + (c + 1))) (by omega), PS.ev_more hb2 (pw j) _ (by omega), hm]
theorem encode_no (D : List F) (c : Int) (h : c < 1 ∨ 64 < c ∨ D = []) : Ev (fun k => rs_Encode.f k (Iz D) c) ([], 2) := by
  have key : ∀ g, Ev (fun k => rs_Encode.j0 k (Iz D) c g true) ([], 2) := fun g => Ev.step (f := fun _ => some ([], 2)) (fun k => by simp only [rs_Encode.j0]; rw [if_pos trivial]) (Ev.now _)
  by_cases hc : c < 1 ∨ 64 < c
  · refine Ev.congr (f := fun k => (rs_Generator.f k c).bind fun b => if b.2 = true then rs_Encode.j0 k (Iz D) c b.1 (((Iz D).length : Int) == 0) else rs_Encode.j0 k (Iz D) c b.1 true) (fun k => rfl) ?_
    refine Ev.bind (gen_no c hc) ?_
    exact Ev.congr (fun k => by rw [if_neg (by simp)]) (key [])
  · have hD : D = [] := by
      rcases h with h | h | h
      · exact absurd (.inl h) hc
      · exact absurd (.inr h) hc
      · exact h
    obtain ⟨n, rfl⟩ : ∃ n : Nat, c = (n : Int) := ⟨c.toNat, by omega⟩
    refine Ev.congr (f := fun k => (rs_Generator.f k (n : Int)).bind fun b => if b.2 = true then rs_Encode.j0 k (Iz D) (n : Int) b.1 (((Iz D).length : Int) == 0) else rs_Encode.j0 k (Iz D) (n : Int) b.1 true) (fun k => rfl) ?_
    refine Ev.bind (gen_ev n (by omega) (by omega)) ?_
    exact Ev.congr (fun k => by rw [if_pos rfl, hD]; rfl) (key (Iz (linL (rootsL n))))
/-! ### Distance -/
def dist (a b : List F) (n : Nat) : Nat := ((List.range n).filter fun i => decide (a.getD i 0 ≠ b.getD i 0)).length
end Go.Proofs.YtgcibhbhbgoacaaDoor


/- What the laws' own functions answer: two numbers' lists alike, the places where words differ, how many, works. -/
namespace Go.Proofs.YtgcibhbhbgoacaaDoor
open Go.Proofs.YtgcibhbhbgoacaaDoor.G Go.Proofs.YtgcibhbhbgoacaaDoor.H FB
open Go.RowKit Go.Proofs.YtgcibhbhbgoacaaDoorW.PrintWords
set_option linter.unusedVariables false
set_option linter.unusedSimpArgs false

theorem evT {α : Type} {c : Prop} [Decidable c] {f g : Nat → Option α} {r : α} (h : c) (e : Ev f r) : Ev (fun k => if c then f k else g k) r := Ev.congr (fun _ => if_pos h) e
theorem evF {α : Type} {c : Prop} [Decidable c] {f g : Nat → Option α} {r : α} (h : ¬ c) (e : Ev g r) : Ev (fun k => if c then f k else g k) r := Ev.congr (fun _ => if_neg h) e
theorem rd_list (l : List Int) (i : Nat) (h : i < l.length) : rd l (i : Int) = l[i] := by simp [rd, List.getD_eq_getElem?_getD, h]
theorem dist_succ (a b : List F) (i : Nat) : dist a b (i + 1) = dist a b i + if a.getD i 0 = b.getD i 0 then 0 else 1 := by
  unfold dist
  rw [List.range_succ, List.filter_append, List.length_append]
  by_cases h : a.getD i 0 = b.getD i 0
  · rw [if_pos h]
    have : decide (a.getD i 0 ≠ b.getD i 0) = false := by rw [decide_eq_false_iff_not]; exact fun h2 => h2 h
    simp only [List.filter_cons, this, List.filter_nil]
    simp
  · rw [if_neg h]
    simp only [List.filter_cons, h, ne_eq, not_false_eq_true, decide_true, if_true, List.filter_nil, List.length_cons, List.length_nil]
theorem dist_le (a b : List F) (n : Nat) : dist a b n ≤ n := by
  have := List.length_filter_le (fun i => decide (a.getD i 0 ≠ b.getD i 0)) (List.range n)
  rwa [List.length_range] at this
theorem dist_eq (a b : List F) (n : Nat) : dist a b n = (diffU a b n).length := rfl
theorem distance_loop (a b : List F) (hl : a.length = b.length) (hb : a.length ≤ 140737488355328) (d : Nat) : ∀ i : Nat, a.length - i = d → i ≤ a.length →
    Ev (fun k => rs_Distance.l0 k (Iz a) (Iz b) (dist a b i : Int) (a.length : Int) (i : Int)) ((dist a b a.length : Int), true) := by
  induction d with
  | zero =>
    intro i h1 h2
    obtain rfl : i = a.length := by omega
    exact Ev.step (f := fun _ => some ((dist a b a.length : Int), true)) (fun k => by simp only [rs_Distance.l0]; rw [if_neg (by omega)]) (Ev.now _)
  | succ d ih =>
    intro i h1 h2
    have hn := ih (i + 1) (by omega) (by omega)
    have hd := dist_le a b i
    refine Ev.step (fun k => ?_) hn
    simp only [rs_Distance.l0, Iz_length]
    rw [if_pos (by omega), if_pos (by omega), if_pos (by omega), if_pos (by omega), rd_IzN, rd_IzN, show wrap64 ((i : Int) + 1) = ((i + 1 : Nat) : Int) by unfold wrap64; omega, dist_succ]
    by_cases h : a.getD i 0 = b.getD i 0
    · rw [if_pos (by rw [h]), if_pos h]; rfl
    · rw [if_neg (fun e => h (zF_inj.1 e)), if_neg h, show wrap64 ((dist a b i : Int) + 1) = ((dist a b i + 1 : Nat) : Int) by unfold wrap64; omega]
theorem distance_ev (a b : List F) (hl : a.length = b.length) (hb : a.length ≤ 140737488355328) : Ev (fun k => rs_Distance.f k (Iz a) (Iz b)) ((dist a b a.length : Int), true) := by
  have h := distance_loop a b hl hb a.length 0 (by omega) (by omega)
  refine Ev.congr (fun k => ?_) h
  unfold rs_Distance.f
  rw [Iz_length, Iz_length, if_pos (by omega)]
  rfl
/-- two words of the code with the same data are one -/
theorem code_sys {a b : List F} {c n : Nat} (hl : a.length = b.length) (hn : a.length = n + c) (hN : a.length ≤ 255) (ha : ∀ j, j < c → syn a j = 0) (hb : ∀ j, j < c → syn b j = 0) (ht : a.take n = b.take n) : a = b := by
  refine code_unique hl hN ha hb ?_
  have : ((List.range a.length).filter fun p => decide (a.getD p 0 ≠ b.getD p 0)).length ≤ ((List.range c).map (n + ·)).length :=
    nodup_sub_length (nodup_filter _ List.nodup_range) (fun x hx => by
      obtain ⟨x1, x2⟩ := List.mem_filter.1 hx
      rw [List.mem_range] at x1
      simp only [decide_eq_true_eq] at x2
      by_cases hge : n ≤ x
      · exact List.mem_map.2 ⟨x - n, List.mem_range.2 (by omega), by omega⟩
      refine absurd ?_ x2
      have hx : x < n := by omega
      have e1 : a.getD x 0 = (a.take n).getD x 0 := by rw [List.getD_eq_getElem?_getD, List.getD_eq_getElem?_getD, List.getElem?_take, if_pos hx]
      have e2 : b.getD x 0 = (b.take n).getD x 0 := by rw [List.getD_eq_getElem?_getD, List.getD_eq_getElem?_getD, List.getElem?_take, if_pos hx]
      rw [e1, e2, ht])
  rwa [List.length_map, List.length_range] at this
def f2 : F := ⟨2, by decide⟩
def f9 : F := ⟨9, by decide⟩
end Go.Proofs.YtgcibhbhbgoacaaDoor
