/- RsMends: what no more than 'check' holes and errors have spoilt (an error counted twice), Decode mends. -/
import Derived.Test.YtgcibhbhbgoacaaDoorLq
import Derived.Test.YtgcibhbhbgoacaaDoorSp
import Derived.Test.YtgcibhbhbgoacaaDoorLm
namespace Go.Proofs.YtgcibhbhbgoacaaDoor
open Go.Proofs.YtgcibhbhbgoacaaDoor.G Go.Proofs.YtgcibhbhbgoacaaDoor.Wk Go.Proofs.YtgcibhbhbgoacaaDoor.Sp Go.Proofs.YtgcibhbhbgoacaaDoor.Lm FB
open Go.Proofs.YtgcibhbhbgoacaaDoor.H hiding S75 k75 z75 rd_T75
open Go.RowKit Go.Proofs.YtgcibhbhbgoacaaDoorW.PrintWords
set_option linter.unusedVariables false
set_option linter.unusedSimpArgs false

theorem holesOk_of (N : Nat) : ∀ (H seen : List Nat), (∀ h ∈ H, h < N) → H.Nodup → (∀ h ∈ H, h ∉ seen) → holesOk N (H.map Int.ofNat) seen = true
  | [], _, _, _, _ => rfl
  | x :: H, seen, h1, h2, h3 => by
    have hx := h1 x List.mem_cons_self
    obtain ⟨g1, g2⟩ := List.nodup_cons.1 h2
    rw [List.map_cons]
    unfold holesOk
    rw [if_neg (by show ¬ ((x : Nat) : Int) < 0; omega), if_neg (by show ¬ (N : Int) ≤ ((x : Nat) : Int); omega)]
    have e : (Int.ofNat x).toNat = x := rfl
    rw [e, if_neg (by simpa using h3 x List.mem_cons_self)]
    refine holesOk_of N H _ (fun h hh => h1 h (List.mem_cons_of_mem _ hh)) g2 fun h hh => ?_
    intro hm
    rcases List.mem_append.1 hm with hm | hm
    · exact h3 h (List.mem_cons_of_mem _ hh) hm
    · rw [List.mem_singleton] at hm
      exact g1 (hm ▸ hh)
theorem map_ofNat_toNat (H : List Nat) : (H.map Int.ofNat).map Int.toNat = H := by
  rw [List.map_map]
  conv => rhs; rw [← List.map_id H]
  exact List.map_congr_left fun x _ => rfl
/-- where the word is spoilt so far: places, holes among them, the others; its cost -/
structure Spoil (w : List F) (n : Nat) (B : List F) (H P : List Nat) (cost : Nat) : Prop where
  len : B.length = w.length
  hn : H.Nodup
  hb : ∀ x ∈ P, x < w.length
  hp : ∀ x ∈ H, x ∈ P
  oth : ∃ O : List Nat, (∀ x ∈ P, x ∈ H ∨ x ∈ O) ∧ H.length + 2 * O.length = cost
  few : cost ≤ n
  dif : ∀ i, B.getD i 0 ≠ w.getD i 0 → i ∈ P
theorem Spoil.start (w : List F) (n : Nat) : Spoil w n w [] [] 0 :=
  ⟨rfl, List.nodup_nil, fun x hx => (by cases hx), fun x hx => (by cases hx), ⟨[], fun x hx => (by cases hx), rfl⟩, by omega, fun i h => absurd rfl h⟩
theorem Spoil.near {w B : List F} {n cost : Nat} {H P : List Nat} (h : Spoil w n B H P cost) (hs : ∀ j, j < n → syn w j = 0) : Near B n H w := by
  refine ⟨h.len.symm, hs, ?_⟩
  obtain ⟨O, g1, g2⟩ := h.oth
  have : (missed B w H).length ≤ O.length := by
    refine List.Nodup.length_le_of_subset (List.Nodup.sublist List.filter_sublist List.nodup_range) fun x hx => ?_
    unfold missed at hx
    rw [List.mem_filter, Bool.and_eq_true, decide_eq_true_iff, Bool.not_eq_true'] at hx
    obtain ⟨_, h1, h2⟩ := hx
    rcases g1 x (h.dif x h1) with h3 | h3
    · rw [List.contains_iff_mem.2 h3] at h2; cases h2
    · exact h3
  have := h.few
  omega
theorem Spoil.hole {w B : List F} {n cost : Nat} {H P : List Nat} (h : Spoil w n B H P cost) {p : Nat} (hp : p < w.length) (hnp : p ∉ P) (a : F) (hc : cost + 1 ≤ n) : Spoil w n (B.set p a) (H ++ [p]) (P ++ [p]) (cost + 1) := by
  obtain ⟨O, g1, g2⟩ := h.oth
  refine ⟨by rw [List.length_set, h.len], ?_, fun x hx => ?_, fun x hx => ?_, ⟨O, fun x hx => ?_, by rw [List.length_append, List.length_singleton]; omega⟩, hc, fun i hi => ?_⟩
  · refine List.nodup_append.2 ⟨h.hn, by simp, fun x hx y hy e => ?_⟩
    rw [List.mem_singleton] at hy
    exact hnp (by rw [← hy, ← e]; exact h.hp x hx)
  · rcases List.mem_append.1 hx with hx | hx
    · exact h.hb x hx
    · rw [List.mem_singleton] at hx; omega
  · rcases List.mem_append.1 hx with hx | hx
    · exact List.mem_append_left _ (h.hp x hx)
    · exact List.mem_append_right _ hx
  · rcases List.mem_append.1 hx with hx | hx
    · rcases g1 x hx with h1 | h1
      · exact .inl (List.mem_append_left _ h1)
      · exact .inr h1
    · exact .inl (List.mem_append_right _ hx)
  · by_cases e : i = p
    · exact List.mem_append_right _ (by rw [e]; exact List.mem_singleton.2 rfl)
    · refine List.mem_append_left _ (h.dif i ?_)
      rwa [List.getD_eq_getElem?_getD, List.getElem?_set_ne (by omega), ← List.getD_eq_getElem?_getD] at hi
theorem Spoil.error {w B : List F} {n cost : Nat} {H P : List Nat} (h : Spoil w n B H P cost) {p : Nat} (hp : p < w.length) (hnp : p ∉ P) (a : F) (hc : cost + 2 ≤ n) : Spoil w n (B.set p a) H (P ++ [p]) (cost + 2) := by
  obtain ⟨O, g1, g2⟩ := h.oth
  refine ⟨by rw [List.length_set, h.len], h.hn, fun x hx => ?_, fun x hx => List.mem_append_left _ (h.hp x hx), ⟨O ++ [p], fun x hx => ?_, by rw [List.length_append, List.length_singleton]; omega⟩, hc, fun i hi => ?_⟩
  · rcases List.mem_append.1 hx with hx | hx
    · exact h.hb x hx
    · rw [List.mem_singleton] at hx; omega
  · rcases List.mem_append.1 hx with hx | hx
    · rcases g1 x hx with h1 | h1
      · exact .inl h1
      · exact .inr (List.mem_append_left _ h1)
    · exact .inr (List.mem_append_right _ hx)
  · by_cases e : i = p
    · exact List.mem_append_right _ (by rw [e]; exact List.mem_singleton.2 rfl)
    · refine List.mem_append_left _ (h.dif i ?_)
      rwa [List.getD_eq_getElem?_getD, List.getElem?_set_ne (by omega), ← List.getD_eq_getElem?_getD] at hi
/-- the search among the places taken -/
theorem sp_inner (W0 : List Int) (n : Int) (S : List S75) (B : List Int) (Hs : List Int) (P : List Nat) (cost i c : Int) (v : Nat) (hP : P.length ≤ 1000) {res : List Int × List Int} (d : Nat) : ∀ j : Nat, P.length - j = d → j ≤ P.length →
    Ev (fun k => fareboxlaw34_spoilt.l1 k W0 n S B Hs (P.map Int.ofNat) cost i (v : Int) c (P.contains v) (P.length : Int)) res →
    Ev (fun k => fareboxlaw34_spoilt.l1 k W0 n S B Hs (P.map Int.ofNat) cost i (v : Int) c ((P.take j).contains v) (j : Int)) res := by
  induction d with
  | zero =>
    intro j g1 g2 h
    obtain rfl : j = P.length := by omega
    rw [List.take_length]
    exact h
  | succ d ih =>
    intro j g1 g2 h
    have hj : j < P.length := by omega
    have hn := ih (j + 1) (by omega) (by omega) h
    have ht : (P.take (j + 1)).contains v = ((P.take j).contains v || (P[j] == v)) := by
      rw [List.take_succ_eq_append_getElem hj, Bool.eq_iff_iff]
      simp only [List.contains_iff_mem, Bool.or_eq_true, beq_iff_eq, List.mem_append, List.mem_singleton]
      exact or_congr Iff.rfl eq_comm
    rw [ht] at hn
    refine Ev.step (fun k => ?_) hn
    simp only [fareboxlaw34_spoilt.l1, map_ofNat_length]
    rw [if_pos (by omega), show wrap64 ((j : Int) + 1) = ((j + 1 : Nat) : Int) by unfold wrap64; omega]
    cases hc : (P.take j).contains v with
    | true => rw [if_pos rfl, Bool.true_or]
    | false =>
      rw [if_neg (by simp), if_pos (by omega), rd_ofNat P j hj, Bool.false_or]
      congr 1
      rw [Bool.eq_iff_iff]
      simp only [beq_iff_eq]
      omega
theorem rd_ofNat_append (P : List Nat) (v : Nat) : P.map Int.ofNat ++ [(v : Int)] = (P ++ [v]).map Int.ofNat := by rw [List.map_append]; rfl
theorem sp_head (w B : List F) (n : Nat) (hw0 : w.length ≠ 0) (S : List S75) (H P : List Nat) (cost i : Nat) (s : S75) (hi : (i : Int) < (S.length : Int)) (hi0 : (0 : Int) ≤ (i : Int)) (hP : P.length ≤ 1000) (v : Nat) (hrd : rd_T75 S (i : Int) = s) (hv : Int.tmod (wrap64 s.f0) ((Iz w).length : Int) = (v : Int)) (c : Nat) (hole : Bool) (h1 : s.f2 = hole) (h2 : (c : Int) = if hole = true then 1 else 2)
    (res : List Int × List Int) (h : Ev (fun k => fareboxlaw34_spoilt.l1 k (Iz w) (n : Int) S (Iz B) (H.map Int.ofNat) (P.map Int.ofNat) (cost : Int) (i : Int) (v : Int) (c : Int) (P.contains v) (P.length : Int)) res) :
    Ev (fun k => fareboxlaw34_spoilt.l0 k (Iz w) (n : Int) S (Iz B) (H.map Int.ofNat) (P.map Int.ofNat) (cost : Int) (i : Int)) res := by
  have h3 := sp_inner (Iz w) (n : Int) S (Iz B) (H.map Int.ofNat) P (cost : Int) (i : Int) (c : Int) v hP P.length 0 rfl (Nat.zero_le _) h
  have e0 : ((P.take 0).contains v) = false := rfl
  rw [e0, Int.natCast_zero] at h3
  have h4 : Ev (fun k => fareboxlaw34_spoilt.j1 k (Iz w) (n : Int) S (Iz B) (H.map Int.ofNat) (P.map Int.ofNat) (cost : Int) (i : Int) (v : Int) (c : Int)) res := Ev.step (fun k => by simp only [fareboxlaw34_spoilt.j1]) h3
  have hne : ¬ ((Iz w).length : Int) = 0 := by rw [Iz_length]; exact fun e => hw0 (Int.ofNat_eq_zero.1 e)
  refine Ev.step (fun k => ?_) h4
  simp only [fareboxlaw34_spoilt.l0]
  rw [if_pos hi, if_pos hi0, if_neg hne, hrd, h1, hv]
  cases hole with
  | true => rw [if_pos rfl] at h2; rw [if_pos rfl, h2]
  | false => rw [if_neg (by decide)] at h2; rw [if_neg (by decide), h2]
theorem sp_turn (w B : List F) (n : Nat) (S : List S75) (H P : List Nat) (cost i : Nat) (s : S75) (hi : (i : Int) < (S.length : Int)) (hi0 : (0 : Int) ≤ (i : Int)) (hP : P.length < 17592186044416) (hH : H.length < 17592186044416) (v : Nat) (hvB : (v : Int) < (B.length : Int)) (hv0 : (0 : Int) ≤ (v : Int)) (hrd : rd_T75 S (i : Int) = s) (a : F) (ha : s.f1 = zF a) (c : Nat) (hole : Bool) (h1 : s.f2 = hole)
    (e1 : wrap64 ((i : Int) + 1) = ((i + 1 : Nat) : Int)) (e2 : wrap64 ((cost : Int) + (c : Int)) = ((cost + c : Nat) : Int)) (res : List Int × List Int)
    (h : Ev (fun k => fareboxlaw34_spoilt.l0 k (Iz w) (n : Int) S (Iz (B.set v (B.getD v 0 + a))) ((if hole = true then H ++ [v] else H).map Int.ofNat) ((P ++ [v]).map Int.ofNat) ((cost + c : Nat) : Int) ((i + 1 : Nat) : Int)) res) :
    Ev (fun k => fareboxlaw34_spoilt.j3 k (Iz w) (n : Int) S (Iz B) (H.map Int.ofNat) (P.map Int.ofNat) (cost : Int) (i : Int) (v : Int) (c : Int) false) res := by
  refine Ev.step (fun k => ?_) h
  simp only [fareboxlaw34_spoilt.j3, map_ofNat_length, Iz_length, Option.bind_some]
  rw [if_neg (by decide), if_pos hP, if_pos hv0, if_pos hvB, if_pos hi0, if_pos hi, hrd, ha, rd_IzN, gfAdd_at, Option.bind_some, e1, e2, h1, rd_ofNat_append, Int.toNat_natCast, ← Iz_set]
  cases hole with
  | true => rw [if_pos rfl, if_pos rfl, if_pos hH, rd_ofNat_append]
  | false => rw [if_neg (by decide), if_neg (by decide), rd_ofNat_append]
theorem sp_cost {n c cost : Nat} (h : n < cost + c) : (((cost + c : Nat) : Int) > (n : Int)) := by omega
theorem sp_cost' {n c cost : Nat} (h : ¬ n < cost + c) : ¬ (((cost + c : Nat) : Int) > (n : Int)) := by omega
theorem sp_wrap {a b : Nat} (h : a ≤ 9223372036854775700) (h2 : b ≤ 100) : wrap64 ((a : Int) + (b : Int)) = ((a + b : Nat) : Int) := by unfold wrap64; omega
theorem sp_loop (w : List F) (n : Nat) (hn : n ≤ 64) (hw0 : w.length ≠ 0) (hw : w.length ≤ 255) (S : List S75) (hS : S.length ≤ 9223372036854775807) (hwf : ∀ s ∈ S, (0 ≤ s.f0 ∧ s.f0 < 256) ∧ 0 ≤ s.f1 ∧ s.f1 < 256) (d : Nat) :
    ∀ (i : Nat) (B : List F) (H P : List Nat) (cost : Nat), S.length - i = d → i ≤ S.length → Spoil w n B H P cost → P.length ≤ cost →
    ∃ (B' : List F) (H' P' : List Nat) (cost' : Nat), Spoil w n B' H' P' cost' ∧ Ev (fun k => fareboxlaw34_spoilt.l0 k (Iz w) (n : Int) S (Iz B) (H.map Int.ofNat) (P.map Int.ofNat) (cost : Int) (i : Int)) (Iz B', H'.map Int.ofNat) := by
  induction d with
  | zero =>
    intro i B H P cost g1 g2 hsp g4
    obtain rfl : i = S.length := by omega
    exact ⟨B, H, P, cost, hsp, Ev.step (f := fun _ => some (Iz B, H.map Int.ofNat)) (fun k => by simp only [fareboxlaw34_spoilt.l0]; rw [if_neg (Int.lt_irrefl _)]) (Ev.now _)⟩
  | succ d ih =>
    intro i B H P cost g1 g2 hsp g4
    have hi : i < S.length := by omega
    have hfew := hsp.few
    have hPn : P.length ≤ 64 := by omega
    have hcost64 : cost ≤ 64 := by omega
    have hPb : P.length < 17592186044416 := by omega
    have hH : H.length ≤ P.length := List.Nodup.length_le_of_subset hsp.hn hsp.hp
    have hHb : H.length < 17592186044416 := by omega
    have s1 : S.length - (i + 1) = d := by omega
    have s2 : i + 1 ≤ S.length := by omega
    have e1 : wrap64 ((i : Int) + 1) = ((i + 1 : Nat) : Int) := by unfold wrap64; omega
    have hiI : (i : Int) < (S.length : Int) := Int.ofNat_lt.2 hi
    have hi0 : (0 : Int) ≤ (i : Int) := Int.natCast_nonneg i
    have hrd : rd_T75 S (i : Int) = S[i] := by unfold rd_T75; rw [Int.toNat_natCast]; simp [hi]
    have hwfi := hwf S[i] (List.getElem_mem hi)
    generalize S[i] = s at hrd hwfi
    obtain ⟨⟨b0, b1⟩, b2, b3⟩ := hwfi
    obtain ⟨a, ha⟩ := zF_of b2 b3
    obtain ⟨v, hv, hvl⟩ : ∃ v : Nat, Int.tmod (wrap64 s.f0) ((Iz w).length : Int) = (v : Int) ∧ v < w.length := by
      have q1 : wrap64 s.f0 = ((s.f0.toNat : Nat) : Int) := by unfold wrap64; omega
      rw [Iz_length, q1]
      exact ⟨s.f0.toNat % w.length, (Int.ofNat_tmod _ _).symm, Nat.mod_lt _ (Nat.pos_of_ne_zero hw0)⟩
    clear b0 b1 b2 b3 hwf
    have hPP : ∀ x : Nat, (P ++ [x]).length = P.length + 1 := fun x => by rw [List.length_append, List.length_singleton]
    -- the end of the search
    have last : ∀ (c : Nat) (hole : Bool), s.f2 = hole → c = (if hole = true then 1 else 2) →
        ∃ (B' : List F) (H' P' : List Nat) (cost' : Nat), Spoil w n B' H' P' cost' ∧ Ev (fun k => fareboxlaw34_spoilt.l1 k (Iz w) (n : Int) S (Iz B) (H.map Int.ofNat) (P.map Int.ofNat) (cost : Int) (i : Int) (v : Int) (c : Int) (P.contains v) (P.length : Int)) (Iz B', H'.map Int.ofNat) := by
      intro c hole h1 h2
      have hc2 : c ≤ 2 := by rw [h2]; split <;> decide
      have ew : wrap64 ((cost : Int) + (c : Int)) = ((cost + c : Nat) : Int) := sp_wrap (Nat.le_trans hcost64 (by decide)) (Nat.le_trans hc2 (by decide))
      have nothing : ∀ b, (∀ k, fareboxlaw34_spoilt.l1 (k + 1) (Iz w) (n : Int) S (Iz B) (H.map Int.ofNat) (P.map Int.ofNat) (cost : Int) (i : Int) (v : Int) (c : Int) (P.contains v) (P.length : Int) = fareboxlaw34_spoilt.j3 k (Iz w) (n : Int) S (Iz B) (H.map Int.ofNat) (P.map Int.ofNat) (cost : Int) (i : Int) (v : Int) (c : Int) b) → b = true →
          ∃ (B' : List F) (H' P' : List Nat) (cost' : Nat), Spoil w n B' H' P' cost' ∧ Ev (fun k => fareboxlaw34_spoilt.l1 k (Iz w) (n : Int) S (Iz B) (H.map Int.ofNat) (P.map Int.ofNat) (cost : Int) (i : Int) (v : Int) (c : Int) (P.contains v) (P.length : Int)) (Iz B', H'.map Int.ofNat) := by
        rintro b hb rfl
        obtain ⟨B', H', P', cost', q1, q2⟩ := ih (i + 1) B H P cost s1 s2 hsp g4
        have q3 : Ev (fun k => fareboxlaw34_spoilt.j3 k (Iz w) (n : Int) S (Iz B) (H.map Int.ofNat) (P.map Int.ofNat) (cost : Int) (i : Int) (v : Int) (c : Int) true) (Iz B', H'.map Int.ofNat) := Ev.step (fun k => by simp only [fareboxlaw34_spoilt.j3]; rw [if_pos trivial, e1]) q2
        exact ⟨B', H', P', cost', q1, Ev.step hb q3⟩
      by_cases hm : v ∈ P
      · refine nothing true (fun k => ?_) rfl
        simp only [fareboxlaw34_spoilt.l1, map_ofNat_length]
        rw [if_neg (Int.lt_irrefl _), List.contains_iff_mem.2 hm, if_pos rfl]
      · have hcf : P.contains v = false := by
          cases hx : P.contains v with
          | false => rfl
          | true => exact absurd (List.contains_iff_mem.1 hx) hm
        by_cases hcost : n < cost + c
        · refine nothing true (fun k => ?_) rfl
          simp only [fareboxlaw34_spoilt.l1, map_ofNat_length]
          rw [if_neg (Int.lt_irrefl _), hcf, if_neg (by decide), ew, if_pos (sp_cost hcost)]
        · have hvB : (v : Int) < (B.length : Int) := by rw [hsp.len]; exact Int.ofNat_lt.2 hvl
          have hv0 : (0 : Int) ≤ (v : Int) := Int.natCast_nonneg v
          cases hole with
          | true =>
            rw [if_pos rfl] at h2
            subst h2
            obtain ⟨B', H', P', cost', q1, q2⟩ := ih (i + 1) (B.set v (B.getD v 0 + a)) (H ++ [v]) (P ++ [v]) (cost + 1) s1 s2 (hsp.hole hvl hm _ (Nat.le_of_not_lt hcost)) (by rw [hPP]; exact Nat.succ_le_succ g4)
            refine ⟨B', H', P', cost', q1, Ev.step (fun k => ?_) (sp_turn w B n S H P cost i s hiI hi0 hPb hHb v hvB hv0 hrd a ha 1 true h1 e1 ew _ q2)⟩
            simp only [fareboxlaw34_spoilt.l1, map_ofNat_length]
            rw [if_neg (Int.lt_irrefl _), hcf, if_neg (by decide), ew, if_neg (sp_cost' hcost), if_pos hi0, if_pos hiI, hrd, h1, if_pos rfl]
          | false =>
            rw [if_neg (by decide)] at h2
            subst h2
            by_cases hz : s.f1 = 0
            · refine nothing (s.f1 == 0) (fun k => ?_) (by rw [hz]; rfl)
              simp only [fareboxlaw34_spoilt.l1, map_ofNat_length]
              rw [if_neg (Int.lt_irrefl _), hcf, if_neg (by decide), ew, if_neg (sp_cost' hcost), if_pos hi0, if_pos hiI, hrd, h1, if_neg (by decide)]
            · obtain ⟨B', H', P', cost', q1, q2⟩ := ih (i + 1) (B.set v (B.getD v 0 + a)) H (P ++ [v]) (cost + 2) s1 s2 (hsp.error hvl hm _ (Nat.le_of_not_lt hcost)) (by rw [hPP]; exact Nat.le_succ_of_le (Nat.succ_le_succ g4))
              refine ⟨B', H', P', cost', q1, Ev.step (fun k => ?_) (sp_turn w B n S H P cost i s hiI hi0 hPb hHb v hvB hv0 hrd a ha 2 false h1 e1 ew _ q2)⟩
              simp only [fareboxlaw34_spoilt.l1, map_ofNat_length]
              rw [if_neg (Int.lt_irrefl _), hcf, if_neg (by decide), ew, if_neg (sp_cost' hcost), if_pos hi0, if_pos hiI, hrd, h1, if_neg (by decide), show (s.f1 == 0) = false from beq_false_of_ne hz]
    cases hb : s.f2 with
    | true =>
      obtain ⟨B', H', P', cost', q1, q2⟩ := last 1 true hb rfl
      exact ⟨B', H', P', cost', q1, sp_head w B n hw0 S H P cost i s hiI hi0 (Nat.le_trans hPn (by decide)) v hrd hv 1 true hb rfl _ q2⟩
    | false =>
      obtain ⟨B', H', P', cost', q1, q2⟩ := last 2 false hb rfl
      exact ⟨B', H', P', cost', q1, sp_head w B n hw0 S H P cost i s hiI hi0 (Nat.le_trans hPn (by decide)) v hrd hv 2 false hb rfl _ q2⟩
theorem spoilt_ev (w : List F) (n : Nat) (hn : n ≤ 64) (hw0 : w.length ≠ 0) (hw : w.length ≤ 255) (S : List S75) (hS : S.length ≤ 9223372036854775807) (hwf : ∀ s ∈ S, (0 ≤ s.f0 ∧ s.f0 < 256) ∧ 0 ≤ s.f1 ∧ s.f1 < 256) :
    ∃ (B : List F) (H P : List Nat) (cost : Nat), Spoil w n B H P cost ∧ Ev (fun k => fareboxlaw34_spoilt.f k (Iz w) (n : Int) S) (Iz B, H.map Int.ofNat) := by
  obtain ⟨B, H, P, cost, q1, q2⟩ := sp_loop w n hn hw0 hw S hS hwf S.length 0 w [] [] 0 (by omega) (by omega) (Spoil.start w n) (by simp)
  refine ⟨B, H, P, cost, q1, Ev.congr (fun k => ?_) q2⟩
  unfold fareboxlaw34_spoilt.f
  rw [if_pos (by rw [Iz_length, List.length_nil]; omega)]
  rfl
theorem diffU_comm' (a b : List F) (n : Nat) : diffU a b n = diffU b a n := by
  unfold diffU
  exact filter_congr' fun i _ => by rw [decide_eq_decide]; exact ⟨fun h e => h e.symm, fun h e => h e.symm⟩
theorem mends_ev (D : List F) (c : Nat) (hc : c < 256) (hD : D.length ≤ 140737488355328) (S : List S75) (hS : S.length ≤ 9223372036854775807) (hwf : ∀ s ∈ S, (0 ≤ s.f0 ∧ s.f0 < 256) ∧ 0 ≤ s.f1 ∧ s.f1 < 256) :
    Ev (fun k => fareboxlaw34_RsMends.f k (Iz D) (c : Int) S) true := by
  obtain ⟨f1, f2⟩ := fitD_ne D c
  obtain ⟨w, hw1, hw2, hw3, hw4⟩ := encode_ev (fitD D c) (1 + c % 64) f1 (by omega) (by omega) f2
  have hD1 : 1 ≤ (fitD D c).length := by
    rcases Nat.eq_zero_or_pos (fitD D c).length with h | h
    · exact absurd (List.eq_nil_of_length_eq_zero h) f1
    · exact h
  obtain ⟨B, H, P, cost, hsp, hev⟩ := spoilt_ev w (1 + c % 64) (by omega) (by omega) (by omega) S hS hwf
  have hnear := hsp.near hw4
  have hHb : ∀ h ∈ H, h < B.length := fun h hh => by rw [hsp.len]; exact hsp.hb h (hsp.hp h hh)
  have hHc : H.length ≤ 1 + c % 64 := by have := hnear.few; omega
  have hd : decL B ((1 + c % 64 : Nat) : Int).toNat ((H.map Int.ofNat).map Int.toNat) = some w := by
    rw [map_ofNat_toNat, Int.toNat_natCast, decL_eq hHc]
    exact dec_found (by rw [hsp.len]; omega) hHb hsp.hn hnear
  have hdec := decR_some (W := B) (check := ((1 + c % 64 : Nat) : Int)) (hs := H.map Int.ofNat) (by unfold chk; rw [hsp.len, if_neg (by omega), if_neg (by omega)]) (holesOk_of _ H [] hHb hsp.hn (fun h _ => List.not_mem_nil)) (by rw [map_ofNat_length]; omega) hd
  have hat := rs_Decode.at B ((1 + c % 64 : Nat) : Int) (H.map Int.ofNat) (by rw [map_ofNat_length]; omega)
  rw [hdec, Int.toNat_natCast, show B.length - (1 + c % 64) = (fitD D c).length by rw [hsp.len]; omega, hw3] at hat
  refine Ev.congr (f := fun k => (rs_Encode.f k (Iz (fitD D c)) ((1 + c % 64 : Nat) : Int)).bind fun b => if b.2 = 0 then fareboxlaw34_RsMends.j0 k S (Iz (fitD D c)) ((1 + c % 64 : Nat) : Int) b.1 ((b.1.length : Int) == 0) else fareboxlaw34_RsMends.j0 k S (Iz (fitD D c)) ((1 + c % 64 : Nat) : Int) b.1 true)
    (fun k => by unfold fareboxlaw34_RsMends.f; rw [fitted_ev D c hc hD]; rfl) ?_
  refine Ev.bind hw1 (evT rfl ?_)
  have e0 : (((Iz w).length : Int) == 0) = false := by rw [Iz_length]; exact beq_false_of_ne (by omega)
  show Ev (fun k => fareboxlaw34_RsMends.j0 k S (Iz (fitD D c)) ((1 + c % 64 : Nat) : Int) (Iz w) (((Iz w).length : Int) == 0)) true
  rw [e0]
  refine Ev.step (fun k => by simp only [fareboxlaw34_RsMends.j0]; rw [if_neg (by decide)]) ?_
  refine Ev.bind hev ?_
  refine Ev.congr (fun k => by rw [hat, Option.bind_some]) ?_
  refine evT rfl ?_
  refine Ev.bind (same_ev (fitD D c) (fitD D c) (by omega)) ?_
  rw [decide_eq_true rfl]
  refine evT rfl ?_
  refine Ev.bind (differing_ev w B hsp.len.symm (by omega)) ?_
  refine Ev.bind (sameInts_ev ((diffU B w B.length).map Int.ofNat) ((diffU w B w.length).map Int.ofNat) (by rw [List.length_map]; have := diffU_length B w B.length; have := hsp.len; omega)) ?_
  rw [decide_eq_true (by rw [hsp.len, diffU_comm'])]
  refine evT rfl ?_
  exact Ev.bind works_ev (Ev.now _)
theorem u8_bd {x : Int} (h : (Lit.int .u8 x).wf = true) : 0 ≤ x ∧ x < 256 := by
  have h2 : 0 ≤ x ∧ x ≤ 255 := by simpa [Lit.wf, IntKind.min, IntKind.max, IntKind.signed, IntKind.bits] using h
  omega
theorem rsMends_walk (A0 : Option Addr) (c0 : Nat) (l0 : List Int) (a1 : Int) (A2 : Option Addr) (c2 : Nat) (l2 : List S75) (w : World) (hr0 : Kd.C (Kd.int .u8) w A0 l0.length l0) (hc0 : l0.length ≤ c0) (y0 : l0.length * 1 ≤ 140737488351232) (w0 : ∀ x ∈ l0, (Lit.int .u8 x).wf = true)
    (w1 : (Lit.int .u8 a1).wf = true) (hr2 : Kd.C k75 w A2 l2.length l2) (hc2 : l2.length ≤ c2) (w2 : ∀ s ∈ l2, (Lit.int .u8 s.f0).wf = true ∧ (Lit.int .u8 s.f1).wf = true) (ht : TabW w) :
    Calls Tryd.prog 5 #[.slice A0 l0.length c0, .int .u8 a1, .slice A2 l2.length c2] w fun e w' => e = .returned (.bool true) ∧ Below w.heap.size w w' := by
  obtain ⟨p, rfl⟩ := Iz_of (fun x hx => u8_bd (w0 x hx))
  have hb := u8_bd w1
  obtain ⟨c, rfl⟩ : ∃ c : Nat, a1 = (c : Int) := ⟨a1.toNat, by omega⟩
  obtain ⟨k, hk⟩ := (mends_ev p c (by omega) (by rw [Iz_length] at y0; omega) l2 hr2.2.1 (fun s hs => ⟨u8_bd (w2 s hs).1, u8_bd (w2 s hs).2⟩)).rounds
  exact fareboxlaw34_RsMends.calls k A0 c0 _ (c : Int) A2 c2 l2 true w hr0 hc0 hr2 hc2 hk ht
end Go.Proofs.YtgcibhbhbgoacaaDoor
