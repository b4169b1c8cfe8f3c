import Derived.Test.YtgcibhbhbgoacaaDoorGs
import Derived.Test.YtgcibhbhbgoacaaDoorEl
import Derived.Test.YtgcibhbhbgoacaaDoorG0
import Derived.Test.YtgcibhbhbgoacaaDoorG1
import Derived.Test.YtgcibhbhbgoacaaDoorG2
import Derived.Test.YtgcibhbhbgoacaaDoorTab
namespace FB
set_option linter.unusedVariables false
set_option linter.unusedSimpArgs false
theorem notmem_cons {α : Type} {a b : α} {l : List α} (h : a ∉ b :: l) : a ≠ b ∧ a ∉ l := ⟨fun e => h (by rw [e]; exact List.mem_cons_self ..), fun e => h (List.mem_cons_of_mem _ e)⟩
theorem nodup_filter {α : Type} {l : List α} (q : α → Bool) (h : l.Nodup) : (l.filter q).Nodup := List.Pairwise.filter q h

/-- the element of a place -/
def loc (N p : Nat) : F := pw (N - 1 - p)
theorem loc_inj {N p q : Nat} (hN : N ≤ 255) (hp : p < N) (hq : q < N) (h : loc N p = loc N q) : p = q := by
  have := pw_inj (by omega) (by omega) h
  omega
theorem loc_ne_zero (N p : Nat) : loc N p ≠ 0 := pw_ne_zero _
/-- the value of a word's polynomial at the j-th root -/
def syn (w : List F) (j : Nat) : F := msum (List.range w.length) fun p => w.getD p 0 * fp (loc w.length p) j
/-- the syndromes, turned by holes -/
def turnF (N : Nat) : List Nat → (Nat → F) → Nat → F
  | [], S => S
  | h :: hs, S => turnF N hs fun j => if j = 0 then S 0 else S j + loc N h * S (j - 1)
def hol (N : Nat) (hs : List Nat) (p : Nat) : F := hs.foldr (fun h v => (loc N p + loc N h) * v) 1
theorem hol_cons (N h : Nat) (hs : List Nat) (p : Nat) : hol N (h :: hs) p = (loc N p + loc N h) * hol N hs p := rfl
theorem hol_zero {N p : Nat} : ∀ {hs : List Nat}, p ∈ hs → hol N hs p = 0
  | [], h => by cases h
  | q :: hs, h => by
    rw [hol_cons]
    rcases List.mem_cons.1 h with rfl | h
    · rw [F.add_self, F.zero_mul]
    · rw [hol_zero h, F.mul_zero]
theorem hol_ne {N p : Nat} (hN : N ≤ 255) (hp : p < N) : ∀ {hs : List Nat}, (∀ h ∈ hs, h < N) → p ∉ hs → hol N hs p ≠ 0
  | [], _, _ => F.one_ne_zero
  | q :: hs, hb, h => by
    rw [hol_cons]
    have h' := notmem_cons h
    refine F.mul_ne_zero (fun e => h'.1 (loc_inj hN hp (hb q (List.mem_cons_self ..)) (F.add_eq_zero.1 e))) (hol_ne hN hp (fun x hx => hb x (List.mem_cons_of_mem _ hx)) h'.2)
theorem turnF_eq (N : Nat) (ps : List Nat) (a : Nat → F) (c : Nat) : ∀ (hs : List Nat) (S : Nat → F) (k : Nat), (∀ j, k ≤ j → j < c → S j = msum ps fun p => a p * fp (loc N p) (j - k)) →
    ∀ j, k + hs.length ≤ j → j < c → turnF N hs S j = msum ps fun p => a p * hol N hs p * fp (loc N p) (j - k - hs.length)
  | [], S, k, hS, j, h1, h2 => by
    show S j = _
    rw [hS j (by simpa using h1) h2]
    exact msum_congr fun p _ => by show _ = a p * 1 * _; rw [F.mul_one]; simp
  | h :: hs, S, k, hS, j, h1, h2 => by
    have ih := turnF_eq N ps (fun p => a p * (loc N p + loc N h)) c hs (fun j => if j = 0 then S 0 else S j + loc N h * S (j - 1)) (k + 1) (fun i hi1 hi2 => by
      simp only [show ¬ i = 0 by omega, if_false]
      rw [hS i (by omega) hi2, hS (i - 1) (by omega) (by omega), ← msum_mul, ← msum_add]
      refine msum_congr fun p _ => ?_
      rw [show i - k = (i - (k + 1)) + 1 by omega, show i - 1 - k = i - (k + 1) by omega, fp_succ, F.mul_add, F.add_mul]
      ac_rfl) j (by simp at h1; omega) h2
    show turnF N hs _ j = _
    rw [ih]
    refine msum_congr fun p _ => ?_
    rw [hol_cons, show j - (k + 1) - hs.length = j - k - (h :: hs).length by simp; omega]
    ac_rfl

def hankM (T : Nat → F) (f e : Nat) : Nat → Nat → F := fun r i => if i < e then T (f + e + r - (i + 1)) else T (f + e + r)
/-- the places that are no holes and may be spoilt -/
def placesL (N : Nat) (holes : List Nat) (poly : List F) : List Nat := (List.range N).filter fun p => decide (evL poly (F.inv (loc N p)) = 0) && !holes.contains p
def othersP (N : Nat) (T : Nat → F) (holes : List Nat) (e : Nat) : Option (List Nat) :=
  (solveM e e 0 (hankM T holes.length e)).bind fun M =>
    if (placesL N holes (1 :: (List.range e).map fun i => M i e)).length = e then some (placesL N holes (1 :: (List.range e).map fun i => M i e)) else none
def vanM (N : Nat) (S : Nat → F) (ps : List Nat) : Nat → Nat → F := fun j i => if i < ps.length then pw (j * (N - 1 - ps.getD i 0)) else S j
/-- amounts laid on a word at some places -/
def layOn : List Nat → List F → List F → List F
  | p :: ps, b :: bs, w => layOn ps bs (w.set p (w.getD p 0 + b))
  | _, _, w => w
def mendP (N : Nat) (w : List F) (check : Nat) (S : Nat → F) (ps : List Nat) : Option (List F) :=
  (solveM ps.length ps.length 0 (vanM N S ps)).bind fun M =>
    if ∀ j, j < check → syn (layOn ps ((List.range ps.length).map fun i => M i ps.length) w) j = 0 then some (layOn ps ((List.range ps.length).map fun i => M i ps.length) w) else none
def foundP (w : List F) (check : Nat) (holes : List Nat) (e : Nat) : Option (List F) :=
  (othersP w.length (turnF w.length holes (syn w)) holes e).bind fun pl => mendP w.length w check (syn w) (holes ++ pl)
def triesP (w : List F) (check : Nat) (holes : List Nat) : Nat → Option (List F)
  | 0 => foundP w check holes 0
  | e + 1 => match foundP w check holes (e + 1) with
    | some r => some r
    | none => triesP w check holes e
def decP (w : List F) (check : Nat) (holes : List Nat) : Option (List F) := triesP w check holes ((check - holes.length) / 2)
/-- the places where two words differ that are no holes -/
def missed (w r : List F) (holes : List Nat) : List Nat := (List.range w.length).filter fun p => decide (w.getD p 0 ≠ r.getD p 0) && !holes.contains p
structure Near (w : List F) (check : Nat) (holes : List Nat) (r : List F) : Prop where
  len : r.length = w.length
  code : ∀ j, j < check → syn r j = 0
  few : 2 * (missed w r holes).length + holes.length ≤ check

theorem layOn_length : ∀ (ps : List Nat) (bs w : List F), (layOn ps bs w).length = w.length
  | p :: ps, b :: bs, w => by unfold layOn; rw [layOn_length ps bs]; simp
  | [], _, w => by unfold layOn; rfl
  | _ :: _, [], w => by unfold layOn; rfl
theorem layOn_other : ∀ (ps : List Nat) (bs w : List F) (q : Nat), q ∉ ps → (layOn ps bs w).getD q 0 = w.getD q 0
  | p :: ps, b :: bs, w, q, h => by
    have h' := notmem_cons h
    unfold layOn
    rw [layOn_other ps bs _ q h'.2]
    simp only [List.getD_eq_getElem?_getD]
    rw [List.getElem?_set_ne (fun e => h'.1 e.symm)]
  | [], _, w, q, _ => by unfold layOn; rfl
  | _ :: _, [], w, q, _ => by unfold layOn; rfl
theorem layOn_same (e : Nat → F) : ∀ (ps : List Nat) (w : List F) (q : Nat), ps.Nodup → (∀ p ∈ ps, p < w.length) → q ∈ ps → (layOn ps (ps.map e) w).getD q 0 = w.getD q 0 + e q
  | [], w, q, _, _, h => by cases h
  | p :: ps, w, q, hn, hb, h => by
    have hn' := List.nodup_cons.1 hn
    rw [List.map_cons]
    unfold layOn
    by_cases hq : q ∈ ps
    · have hne : p ≠ q := fun e => hn'.1 (e ▸ hq)
      rw [layOn_same e ps _ q hn'.2 (fun x hx => by rw [List.length_set]; exact hb x (List.mem_cons_of_mem _ hx)) hq]
      congr 1
      simp only [List.getD_eq_getElem?_getD]
      rw [List.getElem?_set_ne hne]
    · obtain rfl : q = p := (List.mem_cons.1 h).resolve_right hq
      rw [layOn_other ps _ _ q hq]
      simp only [List.getD_eq_getElem?_getD]
      rw [List.getElem?_set_self (hb q (List.mem_cons_self ..))]
      rfl
theorem getD_ext {l m : List F} (h : l.length = m.length) (he : ∀ i, i < l.length → l.getD i 0 = m.getD i 0) : l = m := by
  apply List.ext_getElem h
  intro i h1 h2
  have := he i h1
  simpa [List.getD_eq_getElem?_getD, List.getElem?_eq_getElem h1, List.getElem?_eq_getElem h2] using this

theorem places_lt {N : Nat} {holes : List Nat} {poly : List F} : ∀ p ∈ placesL N holes poly, p < N ∧ p ∉ holes := by
  intro p hp
  obtain ⟨h1, h2⟩ := List.mem_filter.1 hp
  rw [List.mem_range] at h1
  simp only [Bool.and_eq_true, Bool.not_eq_true', List.contains_eq_mem, decide_eq_false_iff_not] at h2
  exact ⟨h1, h2.2⟩
theorem places_nodup (N : Nat) (holes : List Nat) (poly : List F) : (placesL N holes poly).Nodup := nodup_filter _ List.nodup_range
theorem others_some {N : Nat} {T : Nat → F} {holes : List Nat} {e : Nat} {pl : List Nat} (h : othersP N T holes e = some pl) : pl.length = e ∧ pl.Nodup ∧ ∀ p ∈ pl, p < N ∧ p ∉ holes := by
  unfold othersP at h
  cases hs : solveM e e 0 (hankM T holes.length e) with
  | none => rw [hs] at h; cases h
  | some M =>
    rw [hs, Option.bind_some] at h
    split at h
    · next hl =>
      cases h
      exact ⟨hl, places_nodup _ _ _, fun p hp => places_lt p hp⟩
    · cases h
theorem mend_some {N : Nat} {w : List F} {check : Nat} {S : Nat → F} {ps : List Nat} {r : List F} (h : mendP N w check S ps = some r) :
    r.length = w.length ∧ (∀ j, j < check → syn r j = 0) ∧ ∀ q, q ∉ ps → r.getD q 0 = w.getD q 0 := by
  unfold mendP at h
  cases hs : solveM ps.length ps.length 0 (vanM N S ps) with
  | none => rw [hs] at h; cases h
  | some M =>
    rw [hs, Option.bind_some] at h
    split at h
    · next hl =>
      cases h
      exact ⟨layOn_length _ _ _, hl, fun q hq => layOn_other _ _ _ q hq⟩
    · cases h
theorem nodup_sub_length {l m : List Nat} (hl : l.Nodup) (h : ∀ x ∈ l, x ∈ m) : l.length ≤ m.length := by
  induction l generalizing m with
  | nil => exact Nat.zero_le _
  | cons a l ih =>
    have hn := List.nodup_cons.1 hl
    have ham := h a (List.mem_cons_self ..)
    have := ih (m := m.erase a) hn.2 (fun x hx => (List.mem_erase_of_ne (fun e => hn.1 (by rw [← e]; exact hx))).2 (h x (List.mem_cons_of_mem _ hx)))
    have h1 := List.length_erase_of_mem ham
    have h2 := List.length_pos_of_mem ham
    rw [List.length_cons]
    omega
/-- what is found is near -/
theorem found_near {w : List F} {check : Nat} {holes : List Nat} {e : Nat} {r : List F} (he : 2 * e + holes.length ≤ check) (h : foundP w check holes e = some r) : Near w check holes r := by
  unfold foundP at h
  cases ho : othersP w.length (turnF w.length holes (syn w)) holes e with
  | none => rw [ho] at h; cases h
  | some pl =>
    rw [ho, Option.bind_some] at h
    obtain ⟨h1, h2, h3⟩ := others_some ho
    obtain ⟨m1, m2, m3⟩ := mend_some h
    refine ⟨m1, m2, ?_⟩
    have : (missed w r holes).length ≤ pl.length := nodup_sub_length (nodup_filter _ List.nodup_range) (fun x hx => by
      obtain ⟨x1, x2⟩ := List.mem_filter.1 hx
      simp only [Bool.and_eq_true, Bool.not_eq_true', List.contains_eq_mem, decide_eq_false_iff_not, decide_eq_true_eq] at x2
      apply Classical.byContradiction
      intro hn
      exact x2.1 (m3 x (by rw [List.mem_append]; exact fun hh => hh.elim x2.2 hn)).symm)
    omega
theorem tries_near {w : List F} {check : Nat} {holes : List Nat} {r : List F} : ∀ {e : Nat}, 2 * e + holes.length ≤ check → triesP w check holes e = some r → Near w check holes r
  | 0, he, h => found_near he h
  | e + 1, he, h => by
    unfold triesP at h
    cases hf : foundP w check holes (e + 1) with
    | some r' => rw [hf] at h; cases h; exact found_near he hf
    | none => rw [hf] at h; exact tries_near (by omega) h
/-- what is answered is near -/
theorem dec_near {w : List F} {check : Nat} {holes : List Nat} {r : List F} (hh : holes.length ≤ check) (h : decP w check holes = some r) : Near w check holes r :=
  tries_near (by omega) h

theorem syn_add {a b : List F} (h : a.length = b.length) (j : Nat) : syn a j + syn b j = msum (List.range a.length) fun p => (a.getD p 0 + b.getD p 0) * fp (loc a.length p) j := by
  unfold syn
  rw [← h, ← msum_add]
  exact msum_congr fun p _ => by rw [F.add_mul]
/-- two words of the code that differ at few places are one -/
theorem code_unique {a b : List F} (hl : a.length = b.length) (hN : a.length ≤ 255) {check : Nat} (ha : ∀ j, j < check → syn a j = 0) (hb : ∀ j, j < check → syn b j = 0)
    (hd : ((List.range a.length).filter fun p => decide (a.getD p 0 ≠ b.getD p 0)).length ≤ check) : a = b := by
  have hz := vand ((List.range a.length).filter fun p => decide (a.getD p 0 ≠ b.getD p 0)) (loc a.length) (fun p => a.getD p 0 + b.getD p 0) (nodup_filter _ List.nodup_range)
    (fun p hp q hq h => loc_inj hN (List.mem_range.1 (List.mem_filter.1 hp).1) (List.mem_range.1 (List.mem_filter.1 hq).1) h)
    (fun j hj => by
      rw [msum_filter _ _ _ (fun p _ hp => by
        have : a.getD p 0 = b.getD p 0 := by simpa using hp
        rw [this, F.add_self, F.zero_mul]), ← syn_add hl, ha j (by omega), hb j (by omega), F.add_zero])
  refine getD_ext hl fun i hi => ?_
  apply Classical.byContradiction
  intro hne
  exact hne (F.add_eq_zero.1 (hz i (List.mem_filter.2 ⟨List.mem_range.2 hi, by simpa using hne⟩)))
theorem near_unique {w : List F} (hN : w.length ≤ 255) {check : Nat} {holes : List Nat} {r r' : List F} (h : Near w check holes r) (h' : Near w check holes r') : r = r' := by
  refine code_unique (h.len.trans h'.len.symm) (by rw [h.len]; exact hN) h.code h'.code ?_
  have h1 := h.few
  have h2 := h'.few
  have : ((List.range r.length).filter fun p => decide (r.getD p 0 ≠ r'.getD p 0)).length ≤ (holes ++ missed w r holes ++ missed w r' holes).length :=
    nodup_sub_length (nodup_filter _ List.nodup_range) (fun x hx => by
      obtain ⟨x1, x2⟩ := List.mem_filter.1 hx
      rw [List.mem_range, h.len] at x1
      simp only [decide_eq_true_eq] at x2
      rw [List.mem_append, List.mem_append]
      by_cases hm : x ∈ holes
      · exact .inl (.inl hm)
      · by_cases hw : w.getD x 0 = r.getD x 0
        · refine .inr (List.mem_filter.2 ⟨List.mem_range.2 x1, ?_⟩)
          simp only [Bool.and_eq_true, Bool.not_eq_true', List.contains_eq_mem, decide_eq_false_iff_not, decide_eq_true_eq]
          exact ⟨fun e => x2 (hw.symm.trans e), hm⟩
        · refine .inl (.inr (List.mem_filter.2 ⟨List.mem_range.2 x1, ?_⟩))
          simp only [Bool.and_eq_true, Bool.not_eq_true', List.contains_eq_mem, decide_eq_false_iff_not, decide_eq_true_eq]
          exact ⟨hw, hm⟩)
  rw [List.length_append, List.length_append] at this
  omega

/-- Hankel's system: of as many terms as unknowns none but zero -/
theorem hank_ker {ps : List Nat} {X W : Nat → F} (hn : ps.Nodup) (hX : ∀ p ∈ ps, ∀ q ∈ ps, X p = X q → p = q) (hW : ∀ p ∈ ps, W p ≠ 0) {T : Nat → F} {e : Nat} (he : ps.length = e)
    (hT : ∀ k, k < 2 * e → T k = msum ps fun p => W p * fp (X p) k) (y : Nat → F) (hy : ∀ r, r < e → msum (List.range e) (fun i => T (e + r - (i + 1)) * y i) = 0) : ∀ i, i < e → y i = 0 := by
  have hL := vand ps X (fun p => W p * msum (List.range e) (fun i => y i * fp (X p) (e - 1 - i))) hn hX (fun r hr => by
    rw [he] at hr
    rw [← hy r hr]
    have e1 : msum (List.range e) (fun i => T (e + r - (i + 1)) * y i) = msum (List.range e) (fun i => msum ps fun p => W p * fp (X p) (e + r - (i + 1)) * y i) :=
      msum_congr fun i hi => by rw [List.mem_range] at hi; rw [hT _ (by omega), msum_mul']
    rw [e1, msum_swap]
    refine msum_congr fun p _ => ?_
    rw [F.mul_assoc, ← msum_mul', ← msum_mul]
    refine msum_congr fun i hi => ?_
    rw [List.mem_range] at hi
    rw [show e + r - (i + 1) = r + (e - 1 - i) by omega, fp_add]
    ac_rfl)
  have hz : (fun n => if n < e then y (e - 1 - n) else 0 : PS) = 0 := by
    refine PS.zero_of_roots (rs := ps.map X) ?_ (d := e) (fun n hn => if_neg (by omega)) (fun x hx => ?_) (by simp [he])
    · exact List.pairwise_map.2 (List.Pairwise.imp_of_mem (fun ha hb hne e => hne (hX _ ha _ hb e)) hn)
    · obtain ⟨p, hp, rfl⟩ := List.mem_map.1 hx
      have h1 := (F.mul_eq_zero.1 (hL p hp)).resolve_left (hW p hp)
      rw [ev_msum, ← h1, msum_range_rev e (fun i => y i * fp (X p) (e - 1 - i))]
      refine msum_congr fun i hi => ?_
      rw [List.mem_range] at hi
      rw [if_pos hi, show e - 1 - (e - 1 - i) = i by omega]
  intro i hi
  have := congrFun hz (e - 1 - i)
  simp only [show e - 1 - i < e by omega, if_true] at this
  rw [show e - 1 - (e - 1 - i) = i by omega] at this
  exact this
theorem hank_sol {ps : List Nat} {X W : Nat → F} {T : Nat → F} {e : Nat} (he : ps.length = e)
    (hT : ∀ k, k < 2 * e → T k = msum ps fun p => W p * fp (X p) k) (r : Nat) (hr : r < e) : msum (List.range (e + 1)) (fun i => T (e + r - i) * PS.lin (ps.map X) (e - i)) = 0 := by
  have e1 : msum (List.range (e + 1)) (fun i => T (e + r - i) * PS.lin (ps.map X) (e - i)) = msum (List.range (e + 1)) (fun i => msum ps fun p => W p * fp (X p) (e + r - i) * PS.lin (ps.map X) (e - i)) :=
    msum_congr fun i hi => by rw [List.mem_range] at hi; rw [hT _ (by omega), msum_mul']
  rw [e1, msum_swap]
  refine msum_zero fun p hp => ?_
  have h0 : PS.ev (e + 1) (PS.lin (ps.map X)) (X p) = 0 := by
    have := (PS.lin_root_iff (ps.map X) (X p)).2 (List.mem_map.2 ⟨p, hp, rfl⟩)
    rwa [List.length_map, he] at this
  rw [ev_msum, msum_range_rev] at h0
  have e2 : msum (List.range (e + 1)) (fun i => W p * fp (X p) (e + r - i) * PS.lin (ps.map X) (e - i)) = W p * fp (X p) r * msum (List.range (e + 1)) (fun i => PS.lin (ps.map X) (e + 1 - 1 - i) * fp (X p) (e + 1 - 1 - i)) := by
    rw [← msum_mul]
    refine msum_congr fun i hi => ?_
    rw [List.mem_range] at hi
    rw [show e + r - i = r + (e - i) by omega, fp_add, show e + 1 - 1 - i = e - i by omega]
    ac_rfl
  rw [e2, h0, F.mul_zero]
/-- the locator turned about -/
theorem ev_rev (rs : List F) (x : F) (hx : x ≠ 0) : evL ((List.range (rs.length + 1)).map fun i => PS.lin rs (rs.length - i)) (F.inv x) = 0 ↔ x ∈ rs := by
  rw [← PS.lin_root_iff]
  have e1 : evL ((List.range (rs.length + 1)).map fun i => PS.lin rs (rs.length - i)) (F.inv x) = msum (List.range (rs.length + 1)) fun i => PS.lin rs (rs.length - i) * fp (F.inv x) i := by
    unfold evL
    rw [ev_msum, List.length_map, List.length_range]
    refine msum_congr fun i hi => ?_
    rw [List.mem_range] at hi
    simp [PS.of, hi]
  have hpp : ∀ n, fp x n * fp (F.inv x) n = 1 := by
    intro n
    induction n with
    | zero => exact F.one_mul 1
    | succ n ih => rw [fp_succ, fp_succ, show x * fp x n * (F.inv x * fp (F.inv x) n) = x * F.inv x * (fp x n * fp (F.inv x) n) by ac_rfl, ih, F.mul_inv hx, F.one_mul]
  have e2 : PS.ev (rs.length + 1) (PS.lin rs) x = fp x rs.length * evL ((List.range (rs.length + 1)).map fun i => PS.lin rs (rs.length - i)) (F.inv x) := by
    rw [e1, ev_msum, msum_range_rev, ← msum_mul]
    refine msum_congr fun i hi => ?_
    rw [List.mem_range] at hi
    rw [show rs.length + 1 - 1 - i = rs.length - i by omega]
    have : fp x rs.length = fp x (rs.length - i) * fp x i := by rw [← fp_add]; congr 1; omega
    rw [this, show fp x (rs.length - i) * fp x i * (PS.lin rs (rs.length - i) * fp (F.inv x) i) = PS.lin rs (rs.length - i) * fp x (rs.length - i) * (fp x i * fp (F.inv x) i) by ac_rfl, hpp, F.mul_one]
  rw [e2, F.mul_eq_zero]
  exact ⟨fun h => .inr h, fun h => h.resolve_left (fp_ne_zero hx _)⟩
theorem map_range_succ' {α : Type} (n : Nat) (f : Nat → α) : (List.range (n + 1)).map f = f 0 :: (List.range n).map fun i => f (i + 1) := by
  rw [List.range_succ_eq_map, List.map_cons, List.map_map]; rfl
theorem filter_congr' {α : Type} {l : List α} {p q : α → Bool} (h : ∀ a ∈ l, p a = q a) : l.filter p = l.filter q := by
  induction l with
  | nil => rfl
  | cons a l ih => rw [List.filter_cons, List.filter_cons, h a (List.mem_cons_self ..), ih (fun b hb => h b (List.mem_cons_of_mem _ hb))]
/-- where a word is near, its places are found -/
theorem others_found {w r : List F} (hN : w.length ≤ 255) {check : Nat} {holes : List Nat} (hb : ∀ h ∈ holes, h < w.length) (h : Near w check holes r) :
    othersP w.length (turnF w.length holes (syn w)) holes (missed w r holes).length = some (missed w r holes) := by
  have hlen : w.length = r.length := h.len.symm
  have hS : ∀ j, 0 ≤ j → j < check → syn w j = msum (List.range w.length) fun p => (w.getD p 0 + r.getD p 0) * fp (loc w.length p) (j - 0) := by
    intro j _ hj
    have := syn_add hlen j
    rw [h.code j hj, F.add_zero] at this
    exact this
  have hfew := h.few
  have hT0 := turnF_eq w.length (List.range w.length) (fun p => w.getD p 0 + r.getD p 0) check holes (syn w) 0 hS
  have hmem : ∀ p, p ∈ missed w r holes ↔ p < w.length ∧ w.getD p 0 ≠ r.getD p 0 ∧ p ∉ holes := by
    intro p
    unfold missed
    rw [List.mem_filter, List.mem_range]
    simp only [Bool.and_eq_true, Bool.not_eq_true', List.contains_eq_mem, decide_eq_false_iff_not, decide_eq_true_eq]
  have hnd : (missed w r holes).Nodup := nodup_filter _ List.nodup_range
  have hX : ∀ p ∈ missed w r holes, ∀ q ∈ missed w r holes, loc w.length p = loc w.length q → p = q := fun p hp q hq => loc_inj hN ((hmem p).1 hp).1 ((hmem q).1 hq).1
  have hW : ∀ p ∈ missed w r holes, (w.getD p 0 + r.getD p 0) * hol w.length holes p ≠ 0 := fun p hp =>
    F.mul_ne_zero (fun e => ((hmem p).1 hp).2.1 (F.add_eq_zero.1 e)) (hol_ne hN ((hmem p).1 hp).1 hb ((hmem p).1 hp).2.2)
  have hT : ∀ k, k < 2 * (missed w r holes).length → (fun k => turnF w.length holes (syn w) (holes.length + k)) k = msum (missed w r holes) fun p => (w.getD p 0 + r.getD p 0) * hol w.length holes p * fp (loc w.length p) k := by
    intro k hk
    simp only []
    rw [hT0 (holes.length + k) (by omega) (by omega)]
    unfold missed
    rw [msum_filter _ _ _ (fun p _ hp => by
      rw [Bool.and_eq_false_iff] at hp
      rcases hp with hp | hp
      · have : w.getD p 0 = r.getD p 0 := by simpa using hp
        rw [this, F.add_self, F.zero_mul, F.zero_mul]
      · have : p ∈ holes := by simpa using hp
        rw [hol_zero this, F.mul_zero, F.zero_mul])]
    exact msum_congr fun p _ => by rw [show holes.length + k - 0 - holes.length = k by omega]
  generalize hm : (missed w r holes).length = e at *
  have hk := hank_ker hnd hX hW hm hT
  have hs := fun a ha => hank_sol (X := loc w.length) (W := fun p => (w.getD p 0 + r.getD p 0) * hol w.length holes p) hm hT a ha
  obtain ⟨M', hM1, hM2⟩ := solveM_sol e (fun i => if i < e then PS.lin ((missed w r holes).map (loc w.length)) (e - (i + 1)) else 1) (by simp) e 0 (hankM (turnF w.length holes (syn w)) holes.length e) (by omega) (fun a b _ hb => by omega)
    (fun z hz hsol => hk z (fun a ha => by
      have := hsol a ha
      rw [msum_range_succ, hz, F.mul_zero, F.add_zero] at this
      rw [← this]
      refine msum_congr fun i hi => ?_
      rw [List.mem_range] at hi
      unfold hankM
      rw [if_pos hi, show holes.length + e + a - (i + 1) = holes.length + (e + a - (i + 1)) by omega]))
    (fun a ha => by
      have := hs a ha
      have hlin : PS.lin ((missed w r holes).map (loc w.length)) e = 1 := by
        have := PS.lin_top ((missed w r holes).map (loc w.length))
        rwa [List.length_map, hm] at this
      rw [msum_range_succ', Nat.sub_zero, Nat.sub_zero, hlin, F.mul_one] at this
      rw [msum_range_succ, F.add_comm]
      unfold hankM
      simp only [Nat.lt_irrefl, if_false, F.mul_one]
      rw [show holes.length + e + a = holes.length + (e + a) by omega]
      rw [← this]
      congr 1
      refine msum_congr fun i hi => ?_
      rw [List.mem_range] at hi
      rw [if_pos hi, if_pos hi, show holes.length + (e + a) - (i + 1) = holes.length + (e + a - (i + 1)) by omega])
  have hpoly : (1 :: (List.range e).map fun i => M' i e) = (List.range (e + 1)).map fun i => PS.lin ((missed w r holes).map (loc w.length)) (e - i) := by
    rw [map_range_succ']
    have hlin : PS.lin ((missed w r holes).map (loc w.length)) (e - 0) = 1 := by
      have := PS.lin_top ((missed w r holes).map (loc w.length))
      rwa [List.length_map, hm] at this
    rw [hlin]
    congr 1
    refine List.map_congr_left fun i hi => ?_
    rw [List.mem_range] at hi
    rw [hM2 i hi, if_pos hi]
  have hpl : placesL w.length holes (1 :: (List.range e).map fun i => M' i e) = missed w r holes := by
    rw [hpoly]
    unfold placesL
    conv => rhs; unfold missed
    refine filter_congr' fun p hp => ?_
    rw [List.mem_range] at hp
    have hev := ev_rev ((missed w r holes).map (loc w.length)) (loc w.length p) (loc_ne_zero _ _)
    rw [List.length_map, hm] at hev
    by_cases hh : p ∈ holes
    · simp [hh]
    · simp only [show holes.contains p = false by simpa using hh, Bool.not_false, Bool.and_true]
      rw [decide_eq_decide, hev, List.mem_map]
      constructor
      · rintro ⟨q, hq, e1⟩
        have := loc_inj hN ((hmem q).1 hq).1 hp e1
        subst this
        exact ((hmem q).1 hq).2.1
      · intro hne
        exact ⟨p, (hmem p).2 ⟨hp, hne, hh⟩, rfl⟩
  unfold othersP
  rw [hM1, Option.bind_some, hpl, if_pos hm]
theorem mend_found {w r : List F} (hN : w.length ≤ 255) {check : Nat} {holes : List Nat} (hb : ∀ h ∈ holes, h < w.length) (hd : holes.Nodup) (h : Near w check holes r) :
    mendP w.length w check (syn w) (holes ++ missed w r holes) = some r := by
  have hlen : w.length = r.length := h.len.symm
  have hfew := h.few
  have hmem : ∀ p, p ∈ missed w r holes ↔ p < w.length ∧ w.getD p 0 ≠ r.getD p 0 ∧ p ∉ holes := by
    intro p
    unfold missed
    rw [List.mem_filter, List.mem_range]
    simp only [Bool.and_eq_true, Bool.not_eq_true', List.contains_eq_mem, decide_eq_false_iff_not, decide_eq_true_eq]
  have hnd : (holes ++ missed w r holes).Nodup := by
    refine List.nodup_append.2 ⟨hd, nodup_filter _ List.nodup_range, ?_⟩
    intro a ha b hb' e
    subst e
    exact ((hmem a).1 hb').2.2 ha
  have hbd : ∀ p ∈ holes ++ missed w r holes, p < w.length := fun p hp => (List.mem_append.1 hp).elim (hb p) (fun h => ((hmem p).1 h).1)
  have hzero : ∀ p, p < w.length → p ∉ holes ++ missed w r holes → w.getD p 0 = r.getD p 0 := by
    intro p hp hne
    rw [List.mem_append, not_or] at hne
    apply Classical.byContradiction
    intro hh
    exact hne.2 ((hmem p).2 ⟨hp, hh, hne.1⟩)
  have hml : (holes ++ missed w r holes).length ≤ check := by rw [List.length_append]; omega
  generalize hps : holes ++ missed w r holes = ps at *
  have hget : ∀ i, i < ps.length → ps.getD i 0 ∈ ps := by
    intro i hi
    rw [List.getD_eq_getElem?_getD, List.getElem?_eq_getElem hi]
    exact List.getElem_mem hi
  have hgi : ∀ i, i < ps.length → ∀ k, k < ps.length → ps.getD i 0 = ps.getD k 0 → i = k := by
    intro i hi k hk e
    rw [List.getD_eq_getElem?_getD, List.getElem?_eq_getElem hi, List.getD_eq_getElem?_getD, List.getElem?_eq_getElem hk] at e
    exact (List.getElem_inj hnd).1 e
  have hpw : ∀ (z : Nat → F) (j : Nat), msum (List.range ps.length) (fun i => vanM w.length (syn w) ps j i * z i) = msum (List.range ps.length) (fun i => z i * fp (loc w.length (ps.getD i 0)) j) := by
    intro z j
    refine msum_congr fun i hi => ?_
    rw [List.mem_range] at hi
    unfold vanM loc
    rw [if_pos hi, fp_pw, F.mul_comm]
  have hSj : ∀ j, j < check → syn w j = msum (List.range ps.length) (fun i => (w.getD (ps.getD i 0) 0 + r.getD (ps.getD i 0) 0) * fp (loc w.length (ps.getD i 0)) j) := by
    intro j hj
    have h1 := syn_add hlen j
    rw [h.code j hj, F.add_zero] at h1
    rw [h1]
    have e1 : msum (List.range ps.length) (fun i => (w.getD (ps.getD i 0) 0 + r.getD (ps.getD i 0) 0) * fp (loc w.length (ps.getD i 0)) j) = msum ps fun p => (w.getD p 0 + r.getD p 0) * fp (loc w.length p) j := by
      have : ps = (List.range ps.length).map fun i => ps.getD i 0 := by
        apply List.ext_getElem (by simp)
        intro i h1 h2
        simp [List.getD_eq_getElem?_getD, List.getElem?_eq_getElem h1]
      conv => rhs; rw [this]
      rw [msum_map]
    rw [e1]
    have e2 : msum (List.range w.length) (fun p => (w.getD p 0 + r.getD p 0) * fp (loc w.length p) j) = msum ((List.range w.length).filter fun p => ps.contains p) (fun p => (w.getD p 0 + r.getD p 0) * fp (loc w.length p) j) :=
      (msum_filter _ _ _ (fun p hp hq => by
        rw [List.mem_range] at hp
        rw [hzero p hp (by simpa using hq), F.add_self, F.zero_mul])).symm
    rw [e2]
    exact msum_perm ((List.perm_ext_iff_of_nodup (nodup_filter _ List.nodup_range) hnd).2 (fun p => by
      rw [List.mem_filter, List.mem_range]
      simp only [List.contains_eq_mem, decide_eq_true_eq]
      exact ⟨fun hh => hh.2, fun hh => ⟨hbd p hh, hh⟩⟩)) _
  obtain ⟨M', hM1, hM2⟩ := solveM_sol ps.length (fun i => if i < ps.length then w.getD (ps.getD i 0) 0 + r.getD (ps.getD i 0) 0 else 1) (by simp) ps.length 0 (vanM w.length (syn w) ps) (by omega) (fun a b _ hb => by omega)
    (fun z hz hsol => fun i hi => by
      refine vand (List.range ps.length) (fun i => loc w.length (ps.getD i 0)) z List.nodup_range (fun p hp q hq e => ?_) (fun j hj => ?_) i (List.mem_range.2 hi)
      · rw [List.mem_range] at hp hq
        exact hgi p hp q hq (loc_inj hN (hbd _ (hget p hp)) (hbd _ (hget q hq)) e)
      · rw [List.length_range] at hj
        have := hsol j hj
        rw [msum_range_succ, hz, F.mul_zero, F.add_zero, hpw] at this
        exact this)
    (fun j hj => by
      rw [msum_range_succ]
      simp only [Nat.lt_irrefl, if_false, F.mul_one]
      rw [hpw]
      have : vanM w.length (syn w) ps j ps.length = syn w j := if_neg (by omega)
      rw [this, F.add_eq_zero, hSj j (by omega)]
      refine msum_congr fun i hi => ?_
      rw [List.mem_range] at hi
      rw [if_pos hi])
  have hout : layOn ps ((List.range ps.length).map fun i => M' i ps.length) w = r := by
    have e1 : (List.range ps.length).map (fun i => M' i ps.length) = ps.map fun p => w.getD p 0 + r.getD p 0 := by
      apply List.ext_getElem (by simp)
      intro i h1 h2
      have hi : i < ps.length := by simpa using h1
      simp only [List.getElem_map, List.getElem_range]
      rw [hM2 i hi, if_pos hi]
      have e2 : ps.getD i 0 = ps[i] := by rw [List.getD_eq_getElem?_getD, List.getElem?_eq_getElem hi]; rfl
      rw [e2]
    rw [e1]
    refine getD_ext (by rw [layOn_length]; exact hlen) fun q hq => ?_
    rw [layOn_length] at hq
    by_cases hqp : q ∈ ps
    · rw [layOn_same _ ps w q hnd hbd hqp, F.add_cancel]
    · rw [layOn_other _ _ _ q hqp, hzero q hq hqp]
  unfold mendP
  rw [hM1, Option.bind_some, hout, if_pos h.code]
/-- where a word is near, it is answered -/
theorem dec_found {w r : List F} (hN : w.length ≤ 255) {check : Nat} {holes : List Nat} (hb : ∀ h ∈ holes, h < w.length) (hd : holes.Nodup) (h : Near w check holes r) : decP w check holes = some r := by
  have hf : foundP w check holes (missed w r holes).length = some r := by
    unfold foundP
    rw [others_found hN hb h, Option.bind_some, mend_found hN hb hd h]
  have hfew := h.few
  have key : ∀ e, (missed w r holes).length ≤ e → 2 * e + holes.length ≤ check → triesP w check holes e = some r := by
    intro e he hce
    induction e with
    | zero =>
      rw [show (missed w r holes).length = 0 by omega] at hf
      exact hf
    | succ e ih =>
      unfold triesP
      cases hfe : foundP w check holes (e + 1) with
      | some r' => rw [near_unique hN (found_near (by omega) hfe) h]
      | none =>
        rcases Nat.lt_or_ge e (missed w r holes).length with hlt | hge
        · rw [show e + 1 = (missed w r holes).length by omega, hf] at hfe
          cases hfe
        · exact ih hge (by omega)
  exact key _ (by omega) (by omega)
end FB

namespace Go.Proofs.YtgcibhbhbgoacaaDoor.G
open Go.RowKit Go.Proofs.YtgcibhbhbgoacaaDoorW.PrintWords FB

/-- a list of elements as the machine's numbers -/
def Iz (l : List F) : List Int := l.map zF
theorem Iz_length (l : List F) : (Iz l).length = l.length := List.length_map ..
theorem Iz_append (l m : List F) : Iz (l ++ m) = Iz l ++ Iz m := List.map_append ..
theorem Iz_take (l : List F) (n : Nat) : Iz (l.take n) = (Iz l).take n := List.map_take ..
theorem Iz_set (l : List F) (n : Nat) (a : F) : Iz (l.set n a) = (Iz l).set n (zF a) := List.map_set ..
theorem Iz_replicate (n : Nat) : Iz (List.replicate n 0) = List.replicate n 0 := by simp [Iz, zF_zero]
theorem rd_Iz (l : List F) (i : Int) : rd (Iz l) i = zF (l.getD i.toNat 0) := by
  unfold rd Iz
  rw [List.getD_eq_getElem?_getD, List.getElem?_map, List.getD_eq_getElem?_getD]
  cases l[i.toNat]? <;> rfl
theorem rd_IzN (l : List F) (i : Nat) : rd (Iz l) (i : Int) = zF (l.getD i 0) := by rw [rd_Iz]; rfl
theorem Iz_of {l : List Int} (h : ∀ x ∈ l, 0 ≤ x ∧ x < 256) : ∃ m : List F, l = Iz m := by
  induction l with
  | nil => exact ⟨[], rfl⟩
  | cons x l ih =>
    obtain ⟨m, rfl⟩ := ih (fun y hy => h y (List.mem_cons_of_mem _ hy))
    obtain ⟨a, rfl⟩ := zF_of (h x (List.mem_cons_self ..)).1 (h x (List.mem_cons_self ..)).2
    exact ⟨a :: m, rfl⟩
theorem w64 (n : Int) (h0 : -9223372036854775808 ≤ n) (h1 : n < 9223372036854775808) : wrap64 n = n := by unfold wrap64; omega

theorem shortL_snoc_zero (l : List F) : shortL (l ++ [0]) = shortL l := by
  refine shortL_eq _ _ ?_
  rw [of_snoc]
  apply PS.ext; intro n
  rw [PS.add_at, PS.mono_at]; split <;> rw [F.add_zero]
theorem shortL_snoc_ne (l : List F) (a : F) (h : a ≠ 0) : shortL (l ++ [a]) = l ++ [a] :=
  short_of_last (fun _ => by simpa using h)
theorem same_loop (l m : List F) (hl : l.length = m.length) (hb : l.length ≤ 140737488355328) (d : Nat) : ∀ i : Nat, l.length - i = d → i ≤ l.length → l.take i = m.take i → Ev (fun k => fareboxlaw34_same.l0 k (Iz l) (Iz m) (i : Int)) (decide (l = m)) := by
  induction d with
  | zero =>
    intro i hd hi ht
    have hi : i = l.length := by omega
    subst hi
    have : l = m := by rw [List.take_length, hl, List.take_length] at ht; exact ht
    refine Ev.step (f := fun _ => some true) (fun k => ?_) (by rw [decide_eq_true this]; exact Ev.now _)
    simp only [fareboxlaw34_same.l0]; rw [if_neg (by rw [Iz_length]; omega)]
  | succ d ih =>
    intro i hd hi ht
    have hlt : i < l.length := by omega
    · by_cases e : l.getD i 0 = m.getD i 0
      · refine Ev.step (f := fun k => fareboxlaw34_same.l0 k (Iz l) (Iz m) ((i + 1 : Nat) : Int)) (fun k => ?_) (ih (i + 1) (by omega) (by omega) ?_)
        · simp only [fareboxlaw34_same.l0]
          rw [if_pos (by rw [Iz_length]; omega), if_pos (by omega), if_pos (by rw [Iz_length]; omega), rd_IzN, rd_IzN, e, if_pos rfl, w64 _ (by omega) (by omega)]
          rfl
        · have hm : i < m.length := by omega
          rw [List.take_succ_eq_append_getElem hlt, List.take_succ_eq_append_getElem hm, ht]
          simp [List.getD_eq_getElem?_getD, hlt, hm] at e
          rw [e]
      · have hne : l ≠ m := fun h => e (by rw [h])
        refine Ev.step (f := fun _ => some false) (fun k => ?_) (by rw [decide_eq_false hne]; exact Ev.now _)
        simp only [fareboxlaw34_same.l0]
        rw [if_pos (by rw [Iz_length]; omega), if_pos (by omega), if_pos (by rw [Iz_length]; omega), rd_IzN, rd_IzN, if_neg (fun h => e (zF_inj.1 h))]
theorem same_ev (l m : List F) (hb : l.length ≤ 140737488355328) : Ev (fun k => fareboxlaw34_same.f k (Iz l) (Iz m)) (decide (l = m)) := by
  by_cases h : l.length = m.length
  · refine Ev.congr (fun k => ?_) (same_loop l m h hb l.length 0 (by omega) (by omega) rfl)
    unfold fareboxlaw34_same.f; rw [if_pos (by rw [Iz_length, Iz_length]; omega)]; rfl
  · have hne : l ≠ m := fun e => h (by rw [e])
    refine Ev.congr (f := fun _ => some false) (fun k => ?_) (by rw [decide_eq_false hne]; exact Ev.now _)
    unfold fareboxlaw34_same.f; rw [if_neg (by rw [Iz_length, Iz_length]; omega)]

theorem evL_drop_step (p : List F) (x : F) (i : Nat) (h : i < p.length) : evL (p.drop i) x = p.getD i 0 + x * evL (p.drop (i + 1)) x := by
  rw [List.drop_eq_getElem_cons h, evL_cons]
  simp [List.getD_eq_getElem?_getD, h]
theorem polyEval_loop (p : List F) (x : F) (hp : p.length ≤ 140737488355328) (n : Nat) : n ≤ p.length → Ev (fun k => gf_PolyEval.l0 k (Iz p) (zF x) (zF (evL (p.drop n) x)) ((n : Int) - 1)) (zF (evL p x)) := by
  induction n with
  | zero =>
    intro _
    refine Ev.step (f := fun _ => some (zF (evL p x))) (fun k => ?_) (Ev.now _)
    simp only [gf_PolyEval.l0]
    rw [if_neg (by omega), List.drop_zero]
  | succ n ih =>
    intro hn
    refine Ev.step (f := fun k => (gf_Mul.f k (zF (evL (p.drop (n + 1)) x)) (zF x)).bind fun t => gf_PolyEval.l0 k (Iz p) (zF x) (Go.bits .xor .u8 t (zF (p.getD n 0))) ((n : Int) - 1)) (fun k => ?_) ?_
    · simp only [gf_PolyEval.l0]
      rw [if_pos (by omega)]
      congr 1
      funext t
      rw [if_pos (by omega), if_pos (by rw [Iz_length]; omega), show ((n + 1 : Nat) : Int) - 1 = (n : Int) by omega, rd_IzN, w64 _ (by omega) (by omega)]
    · refine Ev.bind (mul_ev _ _) ?_
      rw [xor_zF, F.mul_comm, F.add_comm, ← evL_drop_step p x n (by omega)]
      exact ih (by omega)
theorem polyEval_ev (p : List F) (x : F) (hp : p.length ≤ 140737488355328) : Ev (fun k => gf_PolyEval.f k (Iz p) (zF x)) (zF (evL p x)) := by
  have := polyEval_loop p x hp p.length (Nat.le_refl _)
  rw [List.drop_length] at this
  refine Ev.congr (fun k => ?_) this
  unfold gf_PolyEval.f
  rw [Iz_length, w64 _ (by omega) (by omega)]
  rfl

end Go.Proofs.YtgcibhbhbgoacaaDoor.G

namespace Go.Proofs.YtgcibhbhbgoacaaDoor.G
open Go.RowKit Go.Proofs.YtgcibhbhbgoacaaDoorW.PrintWords FB

theorem sh_sh (i j : Nat) (p : PS) : PS.sh i (PS.sh j p) = PS.sh (i + j) p := by
  apply PS.ext; intro n
  unfold PS.sh
  by_cases ha : n < i
  · rw [if_pos ha, if_pos (by omega)]
  · rw [if_neg ha]
    by_cases hb : n - i < j
    · rw [if_pos hb, if_pos (by omega)]
    · rw [if_neg hb, if_neg (by omega)]; congr 1; omega
theorem sh_zeroPS (i : Nat) : PS.sh i 0 = 0 := by
  apply PS.ext; intro n
  unfold PS.sh; split <;> rfl
theorem sc_of_cons (c a : F) (l : List F) : PS.sc c (PS.of (a :: l)) = PS.C (c * a) + PS.sh 1 (PS.sc c (PS.of l)) := by
  apply PS.ext; intro n
  rw [PS.add_at]
  cases n with
  | zero => rw [PS.C_zero, PS.sh_succ_zero, F.add_zero]; rfl
  | succ n => rw [PS.C_succ, PS.sh_succ_at, PS.sh_zero, F.zero_add]; rfl
theorem sc_drop_step (c : F) (q : List F) (i j : Nat) (h : j < q.length) :
    PS.sh (i + j) (PS.sc c (PS.of (q.drop j))) = PS.mono (i + j) (c * q.getD j 0) + PS.sh (i + (j + 1)) (PS.sc c (PS.of (q.drop (j + 1)))) := by
  have hq : q.drop j = q.getD j 0 :: q.drop (j + 1) := by
    rw [List.drop_eq_getElem_cons h]; simp [List.getD_eq_getElem?_getD, h]
  rw [hq, sc_of_cons, PS.sh_add, sh_sh]; rfl

end Go.Proofs.YtgcibhbhbgoacaaDoor.G

namespace Go.Proofs.YtgcibhbhbgoacaaDoor
open Go.Proofs.YtgcibhbhbgoacaaDoor.G FB
open Go.RowKit Go.Proofs.YtgcibhbhbgoacaaDoorW.PrintWords
set_option linter.unusedVariables false
set_option linter.unusedSimpArgs false

def hor (x : F) (l : List F) (acc : F) : F := l.foldl (fun a c => a * x + c) acc
theorem hor_cons (x c acc : F) (l : List F) : hor x (c :: l) acc = hor x l (acc * x + c) := rfl
theorem hor_eq (x : F) : ∀ (l : List F) (acc : F), hor x l acc = acc * fp x l.length + msum (List.range l.length) fun p => l.getD p 0 * fp x (l.length - 1 - p)
  | [], acc => by simp [hor, fp_zero, msum_nil, F.mul_one, F.add_zero]
  | c :: l, acc => by
    rw [hor_cons, hor_eq x l, List.length_cons, msum_range_succ', fp_succ, F.add_mul]
    have e : msum (List.range l.length) (fun i => (c :: l).getD (i + 1) 0 * fp x (l.length + 1 - 1 - (i + 1))) = msum (List.range l.length) (fun p => l.getD p 0 * fp x (l.length - 1 - p)) :=
      msum_congr fun i hi => by rw [List.mem_range] at hi; rw [List.getD_cons_succ]; congr 2; omega
    rw [e, List.getD_cons_zero, show l.length + 1 - 1 - 0 = l.length by omega, show acc * (x * fp x l.length) = acc * x * fp x l.length by ac_rfl]
    ac_rfl
theorem hor_syn (w : List F) (j : Nat) : hor (pw j) w 0 = syn w j := by
  rw [hor_eq, F.zero_mul, F.zero_add]
  unfold syn loc
  refine msum_congr fun p hp => ?_
  rw [fp_pw, fp_pw, Nat.mul_comm]
theorem exp_nat (n : Nat) (h : n < 9223372036854775807) : gf_Exp.f (n : Int) = some (zF (pw n)) := by
  rw [exp_at _ (by simp [Lit.wf, IntKind.min, IntKind.max, IntKind.signed, IntKind.bits]; omega)]
  unfold expF
  rw [show ((n : Int) % 255).toNat = n % 255 by omega, pw_mod]
theorem val_inner (w : List F) (hw : w.length ≤ 140737488355328) (n j : Nat) (hj : j < n) (R : List Int) (d : Nat) : ∀ (i : Nat) (o : List F), w.length - i = d → i ≤ w.length → o.length = n →
    Ev (fun k => rs_values.l0 k (Iz w) (Iz (o.set j (hor (pw j) (w.drop i) (o.getD j 0)))) (n : Int) (wrap64 ((j : Int) + 1))) R →
    Ev (fun k => rs_values.l1 k (Iz w) (Iz o) (j : Int) (zF (pw j)) (n : Int) (j : Int) (Iz w) (w.length : Int) (i : Int)) R := by
  induction d with
  | zero =>
    intro i o h1 h2 h3 h
    refine Ev.step (fun k => ?_) h
    simp only [rs_values.l1]
    rw [if_neg (by omega), List.drop_of_length_le (by omega)]
    have : o.set j (hor (pw j) [] (o.getD j 0)) = o := by
      apply List.ext_getElem (by simp)
      intro q h4 h5
      rw [List.getElem_set]
      by_cases hq : j = q
      · subst hq; rw [if_pos rfl]; simp [hor, List.getD_eq_getElem?_getD, List.getElem?_eq_getElem h5]
      · rw [if_neg hq]
    rw [this]
  | succ d ih =>
    intro i o h1 h2 h3 h
    have hi : i < w.length := by omega
    have hdr : w.drop i = w[i] :: w.drop (i + 1) := List.drop_eq_getElem_cons hi
    have hgi : w.getD i 0 = w[i] := by rw [List.getD_eq_getElem?_getD, List.getElem?_eq_getElem hi]; rfl
    have hnext := ih (i + 1) (o.set j (o.getD j 0 * pw j + w[i])) (by omega) (by omega) (by simp [h3]) (by
      rw [hdr, hor_cons] at h
      have e1 : (o.set j (o.getD j 0 * pw j + w[i])).getD j 0 = o.getD j 0 * pw j + w[i] := by
        rw [List.getD_eq_getElem?_getD, List.getElem?_set_self (by omega)]; rfl
      rw [e1, List.set_set]
      exact h)
    refine Ev.step (f := fun k => (gf_Mul.f k (zF (o.getD j 0)) (zF (pw j))).bind fun t126 => (gf_Add.f t126 (zF w[i])).bind fun t127 => rs_values.l1 k (Iz w) ((Iz o).set j t127) (j : Int) (zF (pw j)) (n : Int) (j : Int) (Iz w) (w.length : Int) ((i + 1 : Nat) : Int)) (fun k => ?_) ?_
    · simp only [rs_values.l1, Iz_length, h3]
      rw [if_pos (by omega), if_pos (by omega), if_pos (by omega), if_pos (by omega), if_pos (by omega), rd_IzN, rd_IzN, hgi, Int.toNat_natCast, show wrap64 ((i : Int) + 1) = ((i + 1 : Nat) : Int) by unfold wrap64; omega]
    · refine Ev.bind (mul_ev _ _) ?_
      refine Ev.congr (fun k => by rw [gfAdd_at, Option.bind_some, ← Iz_set]) hnext
theorem val_outer (w : List F) (hw : w.length ≤ 140737488355328) (n : Nat) (hn : n ≤ 140737488355328) (d : Nat) : ∀ (j : Nat) (o : List F), n - j = d → j ≤ n → o.length = n → (∀ i, i < j → o.getD i 0 = syn w i) → (∀ i, j ≤ i → i < n → o.getD i 0 = 0) →
    Ev (fun k => rs_values.l0 k (Iz w) (Iz o) (n : Int) (j : Int)) (Iz ((List.range n).map (syn w))) := by
  induction d with
  | zero =>
    intro j o h1 h2 h3 h4 h5
    have : o = (List.range n).map (syn w) := by
      refine getD_ext (by simp [h3]) fun i hi => ?_
      rw [h4 i (by omega), List.getD_eq_getElem?_getD, List.getElem?_map, List.getElem?_range (by omega)]; rfl
    rw [← this]
    exact Ev.step (f := fun _ => some (Iz o)) (fun k => by simp only [rs_values.l0]; rw [if_neg (by omega)]) (Ev.now _)
  | succ d ih =>
    intro j o h1 h2 h3 h4 h5
    have hj : j < n := by omega
    have hj0 := h5 j (Nat.le_refl _) hj
    refine Ev.step (f := fun k => rs_values.l1 k (Iz w) (Iz o) (j : Int) (zF (pw j)) (n : Int) (j : Int) (Iz w) (w.length : Int) ((0 : Nat) : Int)) (fun k => ?_) ?_
    · simp only [rs_values.l0]
      rw [if_pos (by omega), exp_nat j (by omega), Option.bind_some, Iz_length]
      rfl
    · refine val_inner w hw n j hj _ _ 0 o rfl (by omega) h3 ?_
      rw [List.drop_zero, hj0, hor_syn, show wrap64 ((j : Int) + 1) = ((j + 1 : Nat) : Int) by unfold wrap64; omega]
      refine ih (j + 1) _ (by omega) (by omega) (by simp [h3]) (fun i hi => ?_) (fun i hi hin => ?_)
      · simp only [List.getD_eq_getElem?_getD]
        by_cases e : i = j
        · subst e; rw [List.getElem?_set_self (by omega)]; rfl
        · rw [List.getElem?_set_ne (fun e2 => e e2.symm)]
          have := h4 i (by omega)
          rwa [List.getD_eq_getElem?_getD] at this
      · simp only [List.getD_eq_getElem?_getD]
        rw [List.getElem?_set_ne (by omega)]
        have := h5 i (by omega) hin
        rwa [List.getD_eq_getElem?_getD] at this
theorem values_ev (w : List F) (hw : w.length ≤ 140737488355328) (n : Nat) (hn : n ≤ 140737488355328) : Ev (fun k => rs_values.f k (Iz w) (n : Int)) (Iz ((List.range n).map (syn w))) := by
  refine Ev.congr (f := fun k => rs_values.l0 k (Iz w) (Iz (List.replicate n 0)) (n : Int) ((0 : Nat) : Int)) (fun k => ?_) (val_outer w hw n hn _ 0 _ rfl (by omega) (by simp) (fun i hi => by omega) (fun i _ hi => by
    rw [List.getD_eq_getElem?_getD, List.getElem?_replicate]; split <;> rfl))
  unfold rs_values.f
  rw [if_pos (by omega), if_pos (by omega), Option.bind_some, Int.toNat_natCast, Iz_replicate, List.length_replicate]
  rfl
theorem valuesF.calls {A : Option Addr} {c : Nat} {l : List F} {w : World} (hr : (Kd.int .u8).C w A l.length (Iz l)) (hc : l.length ≤ c) (hl : l.length ≤ 140737488355328) (n : Nat) (hn : n ≤ 140737488355328) (ht : TabW w) :
    Calls Tryd.prog 45 #[.slice A l.length c, .int .i64 n] w fun e w' => ∃ v0 : Value, e = .returned v0 ∧ (Kd.int .u8).R 5 w' w.heap.size (fun _ => True) v0 (Iz ((List.range n).map (syn l))) ∧ Below w.heap.size w w' := by
  obtain ⟨k, hk⟩ := (values_ev l hl n hn).rounds
  have := rs_values.calls k A c (Iz l) n _ w (by rw [Iz_length]; exact hr) (by rw [Iz_length]; exact hc) hk ht
  rw [Iz_length] at this
  exact this
end Go.Proofs.YtgcibhbhbgoacaaDoor
