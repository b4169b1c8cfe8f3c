/- What Interpolate comes to, in plain lists. -/
import Derived.Test.YticfidlclofbbaaDoorInterp
import Derived.Test.YticfidlclofbbaaDoorPo
import Derived.Test.YticfidlclofbbaaDoorNw
namespace Go.Proofs.YticfidlclofbbaaDoor.G
open Go.RowKit Go.Proofs.YticfidlclofbbaaDoorW.PrintWords FB

/-- which elements were met -/
def Met (sn : List Bool) (rs : List F) : Prop := sn.length = 256 ∧ ∀ a : F, sn.getD a.n false = true ↔ a ∈ rs
theorem Met.nil : Met (List.replicate 256 false) [] := by
  refine ⟨List.length_replicate, fun a => ?_⟩
  rw [List.getD_eq_getElem?_getD, List.getElem?_replicate, if_pos a.lt]; simp
theorem Met.cons {sn : List Bool} {rs : List F} (h : Met sn rs) (x : F) : Met (sn.set x.n true) (x :: rs) := by
  refine ⟨by rw [List.length_set]; exact h.1, fun a => ?_⟩
  rw [List.getD_eq_getElem?_getD, List.getElem?_set]
  by_cases e : x.n = a.n
  · rw [if_pos e, if_pos (by rw [h.1]; exact x.lt)]
    have : x = a := F.ext e
    simp [this]
  · rw [if_neg e, ← List.getD_eq_getElem?_getD, h.2]
    have : a ≠ x := fun e2 => e (by rw [e2])
    simp [this]
theorem rdOf_met {sn : List Bool} {rs : List F} (h : Met sn rs) (x : F) : rdOf false sn (zF x) = true ↔ x ∈ rs := by
  rw [← h.2 x]
  unfold rdOf zF
  rw [Int.toNat_natCast]
theorem take_succ_rev (xs : List F) (i : Nat) (h : i < xs.length) : (xs.take (i + 1)).reverse = xs.getD i 0 :: (xs.take i).reverse := by
  rw [List.take_succ_eq_append_getElem h]; simp [List.getD_eq_getElem?_getD, h]
theorem interp_loop (xs ys : List F) (hl : xs.length = ys.length) (hbig : xs.length ≤ 140737488355328) (d : Nat) : ∀ (i : Nat) (p : List F) (sn : List Bool), xs.length - i = d → i ≤ xs.length → (xs.take i).Nodup → Short p → p.length ≤ i →
    (∀ j, j < i → evL p (xs.getD j 0) = ys.getD j 0) → Met sn (xs.take i).reverse →
    (xs.Nodup → ∃ q : List F, Short q ∧ q.length ≤ xs.length ∧ (∀ j, j < xs.length → evL q (xs.getD j 0) = ys.getD j 0) ∧ Ev (fun k => gf_Interpolate.l0 k (Iz ys) (Iz p) (Iz (linL (xs.take i).reverse)) (Iz xs) ((Iz xs).length : Int) (i : Int) sn) (Iz q, true)) ∧
    (¬ xs.Nodup → Ev (fun k => gf_Interpolate.l0 k (Iz ys) (Iz p) (Iz (linL (xs.take i).reverse)) (Iz xs) ((Iz xs).length : Int) (i : Int) sn) ([], false)) := by
  induction d with
  | zero =>
    intro i p sn hd hi hn hp lp hv hm
    obtain rfl : i = xs.length := by omega
    rw [List.take_length] at hn
    refine ⟨fun _ => ⟨p, hp, lp, hv, ?_⟩, fun h => absurd hn h⟩
    refine Ev.step (f := fun _ => some (Iz p, true)) (fun k => ?_) (Ev.now _)
    simp only [gf_Interpolate.l0]; rw [if_neg (by rw [Iz_length]; omega)]
  | succ d ih =>
    intro i p sn hd hi hn hp lp hv hm
    have hlt : i < xs.length := by omega
    have h256 := F.nodup_length hn
    rw [List.length_take] at h256
    have hrd : rd (Iz xs) (i : Int) = zF (xs.getD i 0) := rd_IzN xs i
    have hlo := zF_lo (xs.getD i 0)
    have hhi := zF_hi (xs.getD i 0)
    have hrl : ((xs.take i).reverse).length = i := by rw [List.length_reverse, List.length_take]; omega
    by_cases hin : xs.getD i 0 ∈ (xs.take i).reverse
    · have hno : ¬ xs.Nodup := by
        intro h
        have h2 : (xs.take (i + 1)).Nodup := h.sublist (List.take_sublist _ _)
        rw [← nodup_rev, take_succ_rev xs i hlt] at h2
        exact (List.nodup_cons.1 h2).1 hin
      refine ⟨fun h => absurd h hno, fun _ => ?_⟩
      refine Ev.step (f := fun _ => some (([] : List Int), false)) (fun k => ?_) (Ev.now _)
      simp only [gf_Interpolate.l0]
      rw [hrd, if_pos (by rw [Iz_length]; omega), if_pos (by omega), if_pos (by rw [Iz_length]; omega), if_pos ⟨hlo, hhi, hm.1⟩, if_pos ((rdOf_met hm _).2 hin)]
    · have hn2 : (xs.take (i + 1)).Nodup := by
        rw [← nodup_rev, take_succ_rev xs i hlt]
        exact List.nodup_cons.2 ⟨hin, nodup_rev.2 hn⟩
      have lp2 : p.length ≤ ((xs.take i).reverse).length := by omega
      have hmet : Met (sn.set (xs.getD i 0).n true) (xs.take (i + 1)).reverse := by rw [take_succ_rev xs i hlt]; exact hm.cons _
      have ihh := ih (i + 1) (nwP p (xs.take i).reverse (xs.getD i 0) (ys.getD i 0)) (sn.set (xs.getD i 0).n true) (by omega) (by omega) hn2 (short_addP _ _) (by have := nwP_length (xs.getD i 0) (ys.getD i 0) lp2; omega) (fun j hj => by
        rcases Nat.lt_or_ge j i with h | h
        · rw [nwP_old _ _ (by
            rw [List.mem_reverse]
            have : xs.getD j 0 = (xs.take i)[j]'(by rw [List.length_take]; omega) := by simp [List.getD_eq_getElem?_getD, show j < xs.length by omega]
            rw [this]; exact List.getElem_mem _), hv j h]
        · obtain rfl : j = i := by omega
          exact nwP_new _ _ hin) hmet
      have hstep : ∀ r, Ev (fun k => gf_Interpolate.l0 k (Iz ys) (Iz (nwP p (xs.take i).reverse (xs.getD i 0) (ys.getD i 0))) (Iz (linL (xs.take (i + 1)).reverse)) (Iz xs) ((Iz xs).length : Int) ((i + 1 : Nat) : Int) (sn.set (xs.getD i 0).n true)) r →
          Ev (fun k => gf_Interpolate.l0 k (Iz ys) (Iz p) (Iz (linL (xs.take i).reverse)) (Iz xs) ((Iz xs).length : Int) (i : Int) sn) r := by
        intro r hr
        have hll := linL_length (xs.take i).reverse
        refine Ev.step (fun k => by
          simp only [gf_Interpolate.l0]
          rw [hrd, if_pos (by rw [Iz_length]; omega), if_pos (by omega), if_pos (by rw [Iz_length]; omega), if_pos ⟨hlo, hhi, hm.1⟩, if_neg (fun e => hin ((rdOf_met hm _).1 e)), if_pos (by rw [Iz_length]; omega), rd_IzN]) ?_
        refine Ev.bind (polyEval_ev p (xs.getD i 0) (by omega)) ?_
        refine Ev.bind (polyEval_ev (linL (xs.take i).reverse) (xs.getD i 0) (by omega)) ?_
        rw [xor_zF]
        refine Ev.bind (div_ev _ _) ?_
        refine Ev.bind (scaled_ev _ (nwC p (xs.take i).reverse (xs.getD i 0) (ys.getD i 0)) (by omega)) ?_
        have ha := polyAdd_ev p (scL (nwC p (xs.take i).reverse (xs.getD i 0) (ys.getD i 0)) (linL (xs.take i).reverse)) (by omega) (by rw [scL_length]; omega)
        refine Ev.bind ha ?_
        refine Ev.congr (fun k => by rw [Option.bind_some, if_pos (by rw [Iz_length]; simp; omega)]) ?_
        refine Ev.bind (scaled_ev _ (xs.getD i 0) (by omega)) ?_
        have hb := polyAdd_ev (0 :: linL (xs.take i).reverse) (scL (xs.getD i 0) (linL (xs.take i).reverse)) (by simp; omega) (by rw [scL_length]; omega)
        have hc := linL_cons (xs.getD i 0) (xs.take i).reverse
        unfold addP at hc
        rw [hc, ← take_succ_rev xs i hlt] at hb
        refine Ev.bind hb ?_
        refine Ev.congr (fun k => ?_) hr
        rw [w64 _ (by omega) (by omega)]
        rfl
      refine ⟨fun h => ?_, fun h => hstep _ (ihh.2 h)⟩
      obtain ⟨q, h1, h2, h3, h4⟩ := ihh.1 h
      exact ⟨q, h1, h2, h3, hstep _ h4⟩
theorem interp_ev (xs ys : List F) (hl : xs.length = ys.length) (hn : xs.Nodup) : ∃ q : List F, Short q ∧ q.length ≤ xs.length ∧ (∀ j, j < xs.length → evL q (xs.getD j 0) = ys.getD j 0) ∧ Ev (fun k => gf_Interpolate.f k (Iz xs) (Iz ys)) (Iz q, true) := by
  have h256 := F.nodup_length hn
  have h := (interp_loop xs ys hl (by omega) xs.length 0 [] (List.replicate 256 false) (by omega) (by omega) (by simp) short_nil (by simp) (fun j hj => by omega) Met.nil).1 hn
  obtain ⟨q, h1, h2, h3, h4⟩ := h
  refine ⟨q, h1, h2, h3, ?_⟩
  rw [List.take_zero, List.reverse_nil, linL_nil] at h4
  refine Ev.congr (fun k => ?_) h4
  unfold gf_Interpolate.f
  rw [if_pos (by rw [Iz_length, Iz_length]; omega)]
  rfl
theorem interp_twice (xs ys : List F) (hl : xs.length = ys.length) (hbig : xs.length ≤ 140737488355328) (hn : ¬ xs.Nodup) : Ev (fun k => gf_Interpolate.f k (Iz xs) (Iz ys)) ([], false) := by
  have h4 := (interp_loop xs ys hl hbig xs.length 0 [] (List.replicate 256 false) (by omega) (by omega) (by simp) short_nil (by simp) (fun j hj => by omega) Met.nil).2 hn
  rw [List.take_zero, List.reverse_nil, linL_nil] at h4
  refine Ev.congr (fun k => ?_) h4
  unfold gf_Interpolate.f
  rw [if_pos (by rw [Iz_length, Iz_length]; omega)]
  rfl
theorem interp_odd (xs ys : List F) (hl : xs.length ≠ ys.length) : Ev (fun k => gf_Interpolate.f k (Iz xs) (Iz ys)) ([], false) := by
  refine Ev.congr (fun k => ?_) (Ev.now _)
  unfold gf_Interpolate.f
  rw [if_neg (by rw [Iz_length, Iz_length]; omega)]
end Go.Proofs.YticfidlclofbbaaDoor.G
