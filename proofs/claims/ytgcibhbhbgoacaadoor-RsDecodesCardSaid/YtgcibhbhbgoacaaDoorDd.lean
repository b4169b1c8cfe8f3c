/- The document's Decode: holes, among, Near: what they answer. -/
import Derived.Test.YtgcibhbhbgoacaaDoorTp
namespace Go.Proofs.YtgcibhbhbgoacaaDoor
open Go.Proofs.YtgcibhbhbgoacaaDoor.G Go.Proofs.YtgcibhbhbgoacaaDoor.Re Go.Proofs.YtgcibhbhbgoacaaDoor.Rd FB
open Go.RowKit Go.Proofs.YtgcibhbhbgoacaaDoorW.PrintWords
set_option linter.unusedVariables false
set_option linter.unusedSimpArgs false
theorem among_ev (hs : List Int) (x : Int) (hl : hs.length ≤ 140737488355328) : Ev (fun k => fareboxref34_among.f k hs x) (decide (x ∈ hs)) := by
  have key : ∀ (d i : Nat), hs.length - i = d → i ≤ hs.length → (∀ j, j < i → hs.getD j 0 ≠ x) → Ev (fun k => fareboxref34_among.l0 k hs x (i : Int)) (decide (x ∈ hs)) := by
    intro d
    induction d with
    | zero =>
      intro i h1 h2 h3
      have : x ∉ hs := fun hm => by
        obtain ⟨j, hj, e⟩ := List.getElem_of_mem hm
        refine h3 j (by omega) ?_
        rw [List.getD_eq_getElem?_getD, List.getElem?_eq_getElem hj]
        exact e
      rw [decide_eq_false this]
      exact Ev.step (f := fun _ => some false) (fun k => by simp only [fareboxref34_among.l0]; rw [if_neg (by omega)]) (Ev.now _)
    | succ d ih =>
      intro i h1 h2 h3
      have hi : i < hs.length := by omega
      have er : rd hs (i : Int) = hs.getD i 0 := by unfold rd; rw [Int.toNat_natCast]
      by_cases e : hs.getD i 0 = x
      · have : x ∈ hs := by
          rw [← e, List.getD_eq_getElem?_getD, List.getElem?_eq_getElem hi]
          exact List.getElem_mem hi
        rw [decide_eq_true this]
        exact Ev.step (f := fun _ => some true) (fun k => by simp only [fareboxref34_among.l0]; rw [if_pos (by omega), if_pos (by omega), er, if_pos e]) (Ev.now _)
      · refine Ev.step (fun k => ?_) (ih (i + 1) (by omega) (by omega) (fun j hj => by
          by_cases ej : j = i
          · rw [ej]; exact e
          · exact h3 j (by omega)))
        simp only [fareboxref34_among.l0]
        rw [if_pos (by omega), if_pos (by omega), er, if_neg e, w64 _ (by omega) (by omega)]
        rfl
  exact key hs.length 0 (by omega) (by omega) (fun j hj => by omega)
theorem holes_step {N i : Nat} {hs : List Int} (hi : i < hs.length) (hJ : holesOk N hs [] = holesOk N (hs.drop i) ((hs.take i).map Int.toNat)) (hr : ∀ h ∈ hs.take i, 0 ≤ h ∧ h < (N : Int)) :
    (hs.getD i 0 < 0 → holesOk N hs [] = false) ∧ ((N : Int) ≤ hs.getD i 0 → holesOk N hs [] = false) ∧ (hs.getD i 0 ∈ hs.take i → holesOk N hs [] = false) ∧
      (0 ≤ hs.getD i 0 → hs.getD i 0 < (N : Int) → hs.getD i 0 ∉ hs.take i → holesOk N hs [] = holesOk N (hs.drop (i + 1)) ((hs.take (i + 1)).map Int.toNat) ∧ ∀ h ∈ hs.take (i + 1), 0 ≤ h ∧ h < (N : Int)) := by
  have hd : hs.drop i = hs.getD i 0 :: hs.drop (i + 1) := by
    rw [List.drop_eq_getElem_cons hi]; simp [List.getD_eq_getElem?_getD, hi]
  have ht : hs.take (i + 1) = hs.take i ++ [hs.getD i 0] := by
    rw [List.take_add_one]
    congr 1
    rw [List.getD_eq_getElem?_getD, List.getElem?_eq_getElem hi]
    rfl
  generalize hx : hs.getD i 0 = x at hd ht ⊢
  have hcons : ∀ seen, holesOk N (x :: hs.drop (i + 1)) seen = if x < 0 then false else if (N : Int) ≤ x then false else if seen.contains x.toNat then false else holesOk N (hs.drop (i + 1)) (seen ++ [x.toNat]) := fun seen => rfl
  rw [hd, hcons] at hJ
  have hlo : x < 0 → holesOk N hs [] = false := fun h => by rw [hJ, if_pos h]
  have hhi : (N : Int) ≤ x → holesOk N hs [] = false := fun h => by
    by_cases h0 : x < 0
    · exact hlo h0
    · rw [hJ, if_neg h0, if_pos h]
  refine ⟨hlo, hhi, fun hm => ?_, fun h0 h1 h2 => ⟨?_, fun h hh => ?_⟩⟩
  · by_cases h0 : x < 0
    · exact hlo h0
    · by_cases h1 : (N : Int) ≤ x
      · exact hhi h1
      · rw [hJ, if_neg h0, if_neg h1, if_pos (by rw [List.contains_iff_mem]; exact List.mem_map.2 ⟨x, hm, rfl⟩)]
  · rw [hJ, if_neg (by omega), if_neg (by omega), if_neg, ht, List.map_append]
    · rfl
    · rw [List.contains_iff_mem]
      intro hm
      obtain ⟨y, hy, e⟩ := List.mem_map.1 hm
      have := hr y hy
      exact h2 (by rwa [show x = y by omega])
  · rw [ht] at hh
    rcases List.mem_append.1 hh with hh | hh
    · exact hr h hh
    · rw [List.mem_singleton] at hh
      rw [hh]
      exact ⟨h0, h1⟩
theorem holes_ok (N : Nat) : ∀ (hs : List Int) (seen : List Nat), holesOk N hs seen = true → (∀ h ∈ hs, (0 ≤ h ∧ h < (N : Int))) ∧ (hs.map Int.toNat).Nodup ∧ (∀ h ∈ hs, h.toNat ∉ seen)
  | [], seen, _ => ⟨fun h hh => (by cases hh), List.nodup_nil, fun h hh => (by cases hh)⟩
  | x :: hs, seen, h => by
    unfold holesOk at h
    by_cases h1 : x < 0
    · rw [if_pos h1] at h; cases h
    · rw [if_neg h1] at h
      by_cases h2 : (N : Int) ≤ x
      · rw [if_pos h2] at h; cases h
      · rw [if_neg h2] at h
        by_cases h3 : seen.contains x.toNat = true
        · rw [if_pos h3] at h; cases h
        · rw [if_neg h3] at h
          obtain ⟨g1, g2, g3⟩ := holes_ok N hs _ h
          refine ⟨fun y hy => ?_, ?_, fun y hy => ?_⟩
          · rcases List.mem_cons.1 hy with rfl | hy
            · omega
            · exact g1 y hy
          · rw [List.map_cons]
            refine List.nodup_cons.2 ⟨fun hm => ?_, g2⟩
            obtain ⟨y, hy, e⟩ := List.mem_map.1 hm
            exact g3 y hy (by rw [e]; simp)
          · rcases List.mem_cons.1 hy with rfl | hy
            · simpa using h3
            · exact fun hm => g3 y hy (List.mem_append_left _ hm)
theorem nat_ints {hs : List Int} (h : ∀ x ∈ hs, 0 ≤ x) : (hs.map Int.toNat).map Int.ofNat = hs := by
  rw [List.map_map]
  conv => rhs; rw [← List.map_id hs]
  exact List.map_congr_left fun x hx => by have := h x hx; show ((x.toNat : Nat) : Int) = x; omega
def otherN (H P : List Nat) (i : Nat) : Nat := ((P.take i).filter fun p => !H.contains p).length
theorem otherN_succ (H P : List Nat) (i : Nat) (h : i < P.length) : otherN H P (i + 1) = otherN H P i + if P[i] ∈ H then 0 else 1 := by
  unfold otherN
  rw [List.take_add_one, List.getElem?_eq_getElem h, List.filter_append, List.length_append]
  congr 1
  by_cases hm : P[i] ∈ H
  · rw [if_pos hm]
    simp [hm]
  · rw [if_neg hm]
    simp [hm]
theorem otherN_le (H P : List Nat) (i : Nat) : otherN H P i ≤ i := by
  have h1 := List.length_filter_le (fun p => !H.contains p) (P.take i)
  rw [List.length_take] at h1
  unfold otherN
  omega
theorem near_loop (c : Nat) (H P : List Nat) (hc : c ≤ 64) (hH : H.length ≤ 1000) (hP : P.length ≤ 1000) (d : Nat) : ∀ i : Nat, P.length - i = d → i ≤ P.length →
    Ev (fun k => fareboxref34_Near.l0 k (c : Int) (H.map Int.ofNat) (otherN H P i : Int) (P.map Int.ofNat) (i : Int)) (decide (2 * otherN H P P.length + H.length ≤ c)) := by
  induction d with
  | zero =>
    intro i h1 h2
    obtain rfl : i = P.length := by omega
    have ho := otherN_le H P P.length
    refine Ev.step (f := fun _ => some (decide (2 * otherN H P P.length + H.length ≤ c))) (fun k => ?_) (Ev.now _)
    simp only [fareboxref34_Near.l0]
    rw [if_neg (by rw [List.length_map]; omega), List.length_map, w64 (2 * (otherN H P P.length : Int)) (by omega) (by omega), w64 _ (by omega) (by omega)]
    congr 1
    exact decide_eq_decide.2 (by omega)
  | succ d ih =>
    intro i h1 h2
    have hi : i < P.length := by omega
    have ho := otherN_le H P i
    have er : rd (P.map Int.ofNat) (i : Int) = ((P[i] : Nat) : Int) := by
      unfold rd
      rw [Int.toNat_natCast, List.getD_eq_getElem?_getD, List.getElem?_map, List.getElem?_eq_getElem hi]
      rfl
    have hmem : decide (((P[i] : Nat) : Int) ∈ H.map Int.ofNat) = decide (P[i] ∈ H) := decide_eq_decide.2 ⟨fun h => by
      obtain ⟨y, hy, e⟩ := List.mem_map.1 h
      have e2 : (y : Int) = ((P[i] : Nat) : Int) := e
      rwa [show P[i] = y by omega], fun h => List.mem_map.2 ⟨_, h, rfl⟩⟩
    refine Ev.step (f := fun k => (fareboxref34_among.f k (H.map Int.ofNat) ((P[i] : Nat) : Int)).bind fun t => (if t = true then fareboxref34_Near.l0 k (c : Int) (H.map Int.ofNat) (otherN H P i : Int) (P.map Int.ofNat) ((i + 1 : Nat) : Int) else fareboxref34_Near.l0 k (c : Int) (H.map Int.ofNat) ((otherN H P i + 1 : Nat) : Int) (P.map Int.ofNat) ((i + 1 : Nat) : Int))) (fun k => ?_) ?_
    · simp only [fareboxref34_Near.l0]
      rw [if_pos (by rw [List.length_map]; omega), if_pos (by omega), er, w64 ((i : Int) + 1) (by omega) (by omega), w64 ((otherN H P i : Int) + 1) (by omega) (by omega)]
      rfl
    · refine Ev.bind (among_ev _ _ (by rw [List.length_map]; omega)) ?_
      rw [hmem]
      have hn := ih (i + 1) (by omega) (by omega)
      rw [otherN_succ H P i hi] at hn
      by_cases hm : P[i] ∈ H
      · rw [if_pos hm, Nat.add_zero] at hn
        rw [decide_eq_true hm]
        exact Ev.congr (fun k => if_pos rfl) hn
      · rw [if_neg hm] at hn
        rw [decide_eq_false hm]
        exact Ev.congr (fun k => if_neg (by decide)) hn
theorem missed_len (W r : List F) (H : List Nat) : (missed W r H).length = otherN H (diffU W r W.length) (diffU W r W.length).length := by
  unfold missed otherN
  rw [List.take_length]
  unfold diffU
  rw [List.filter_filter]
  congr 1
  refine List.filter_congr fun p _ => ?_
  rw [Bool.and_comm]
theorem near_dec (W r : List F) (c : Nat) (H : List Nat) (h1 : 1 ≤ c) (h2 : c ≤ 64) (h3 : c < W.length) (h4 : W.length ≤ 255) (hH : H.length ≤ 1000) (hr : r.length = W.length) :
    ∃ b : Bool, (b = true ↔ Near W c H r) ∧ Ev (fun k => fareboxref34_Near.f k (Iz W) (Iz r) (c : Int) (H.map Int.ofNat)) b := by
  have hS := rSyndromes_ev r (c : Int) (by omega)
  rw [if_pos (by unfold chk; rw [if_neg (by omega), if_neg (by omega)]), Int.toNat_natCast] at hS
  have hdeg := degree_ev ((List.range c).map (syn r)) (by simp; omega)
  have key : ∀ b, Ev (fun k => fareboxref34_Near.j0 k (Iz W) (Iz r) (c : Int) (H.map Int.ofNat) true) b → Ev (fun k => fareboxref34_Near.j0 k (Iz W) (Iz r) (c : Int) (H.map Int.ofNat) true) b := fun b h => h
  by_cases hz : ∀ j, j < c → syn r j = 0
  · have hsh : shortL ((List.range c).map (syn r)) = [] := shortL_zero _ (PS.ext fun n => by
      show ((List.range c).map (syn r)).getD n 0 = 0
      rw [List.getD_eq_getElem?_getD, List.getElem?_map]
      by_cases hn : n < c
      · rw [List.getElem?_range hn]; exact hz n hn
      · rw [List.getElem?_eq_none (by rw [List.length_range]; omega)]; rfl)
    rw [hsh] at hdeg
    have hdl := diffU_length W r W.length
    refine ⟨decide (2 * otherN H (diffU W r W.length) (diffU W r W.length).length + H.length ≤ c), ?_, ?_⟩
    · rw [decide_eq_true_eq, ← missed_len]
      exact ⟨fun h => ⟨hr, hz, h⟩, fun h => h.few⟩
    · refine Ev.bind hS ?_
      refine Ev.congr (fun k => if_pos rfl) ?_
      refine Ev.bind hdeg ?_
      refine Ev.congr (f := fun k => fareboxref34_Near.j0 k (Iz W) (Iz r) (c : Int) (H.map Int.ofNat) false) (fun k => ?_) ?_
      · rw [if_neg (by simp), Iz_length, Iz_length, hr]
        simp
      · refine Ev.step (f := fun k => (fareboxref34_differing.f k (Iz W) (Iz r)).bind fun t => fareboxref34_Near.l0 k (c : Int) (H.map Int.ofNat) 0 t 0) (fun k => by simp only [fareboxref34_Near.j0]; rw [if_neg (by decide)]) ?_
        refine Ev.bind (rdiffering_ev W r hr.symm (by omega)) ?_
        exact near_loop c H (diffU W r W.length) h2 hH (by omega) _ 0 rfl (by omega)
  · refine ⟨false, ⟨fun h => (by cases h), fun h => absurd h.code hz⟩, ?_⟩
    have hpos : 0 < (shortL ((List.range c).map (syn r))).length := by
      apply Classical.byContradiction
      intro hc
      have he : shortL ((List.range c).map (syn r)) = [] := List.eq_nil_of_length_eq_zero (by omega)
      refine hz fun j hj => ?_
      have h1 : PS.of (shortL ((List.range c).map (syn r))) j = PS.of ((List.range c).map (syn r)) j := by rw [of_shortL]
      rw [he] at h1
      have h2 : PS.of ((List.range c).map (syn r)) j = syn r j := by
        show ((List.range c).map (syn r)).getD j 0 = syn r j
        rw [List.getD_eq_getElem?_getD, List.getElem?_map, List.getElem?_range hj]
        rfl
      rw [← h2, ← h1]
      rfl
    refine Ev.bind hS ?_
    refine Ev.congr (fun k => if_pos rfl) ?_
    refine Ev.bind hdeg ?_
    refine Ev.congr (f := fun k => fareboxref34_Near.j0 k (Iz W) (Iz r) (c : Int) (H.map Int.ofNat) true) (fun k => if_pos (by omega)) ?_
    exact Ev.step (f := fun _ => some false) (fun k => by simp only [fareboxref34_Near.j0]; rw [if_pos trivial]) (Ev.now _)
end Go.Proofs.YtgcibhbhbgoacaaDoor
