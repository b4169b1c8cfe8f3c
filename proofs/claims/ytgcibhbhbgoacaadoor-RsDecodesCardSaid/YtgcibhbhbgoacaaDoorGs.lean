/- Plain mathematics: sums over lists of places, Vandermonde's matrix, Gauss and Jordan's way on a matrix over the field of 256 elements. -/
import Derived.Test.YtgcibhbhbgoacaaDoorLst
namespace FB
set_option linter.unusedVariables false
set_option linter.unusedSimpArgs false

/-- a power -/
def fp (x : F) : Nat → F
  | 0 => 1
  | n + 1 => x * fp x n
theorem fp_zero (x : F) : fp x 0 = 1 := rfl
theorem fp_succ (x : F) (n : Nat) : fp x (n + 1) = x * fp x n := rfl
theorem fp_pw (a : Nat) : ∀ n : Nat, fp (pw a) n = pw (n * a)
  | 0 => by simp [fp, pw_zero]
  | n + 1 => by rw [fp_succ, fp_pw a n, ← pw_add]; congr 1; rw [Nat.succ_mul]; omega
theorem fp_add (x : F) : ∀ m n : Nat, fp x (m + n) = fp x m * fp x n
  | 0, n => by rw [Nat.zero_add, fp_zero, F.one_mul]
  | m + 1, n => by rw [show m + 1 + n = (m + n) + 1 by omega, fp_succ, fp_succ, fp_add x m n, F.mul_assoc]
theorem fp_ne_zero {x : F} (h : x ≠ 0) : ∀ n, fp x n ≠ 0
  | 0 => F.one_ne_zero
  | n + 1 => F.mul_ne_zero h (fp_ne_zero h n)
/-- a sum over a list -/
def msum {α : Type} (l : List α) (f : α → F) : F := l.foldr (fun a s => f a + s) 0
section
variable {α : Type}
theorem msum_nil (f : α → F) : msum [] f = 0 := rfl
theorem msum_cons (a : α) (l : List α) (f : α → F) : msum (a :: l) f = f a + msum l f := rfl
theorem msum_append (l m : List α) (f : α → F) : msum (l ++ m) f = msum l f + msum m f := by
  induction l with
  | nil => rw [List.nil_append, msum_nil, F.zero_add]
  | cons a l ih => rw [List.cons_append, msum_cons, msum_cons, ih, F.add_assoc]
theorem msum_add (l : List α) (f g : α → F) : msum l (fun a => f a + g a) = msum l f + msum l g := by
  induction l with
  | nil => exact (F.add_zero 0).symm
  | cons a l ih => rw [msum_cons, msum_cons, msum_cons, ih]; ac_rfl
theorem msum_mul (l : List α) (c : F) (f : α → F) : msum l (fun a => c * f a) = c * msum l f := by
  induction l with
  | nil => exact (F.mul_zero c).symm
  | cons a l ih => rw [msum_cons, msum_cons, ih, F.mul_add]
theorem msum_mul' (l : List α) (c : F) (f : α → F) : msum l (fun a => f a * c) = msum l f * c := by
  induction l with
  | nil => exact (F.zero_mul c).symm
  | cons a l ih => rw [msum_cons, msum_cons, ih, F.add_mul]
theorem msum_congr {l : List α} {f g : α → F} (h : ∀ a ∈ l, f a = g a) : msum l f = msum l g := by
  induction l with
  | nil => rfl
  | cons a l ih => rw [msum_cons, msum_cons, h a (List.mem_cons_self ..), ih (fun b hb => h b (List.mem_cons_of_mem _ hb))]
theorem msum_zero {l : List α} {f : α → F} (h : ∀ a ∈ l, f a = 0) : msum l f = 0 := by
  induction l with
  | nil => rfl
  | cons a l ih => rw [msum_cons, h a (List.mem_cons_self ..), ih (fun b hb => h b (List.mem_cons_of_mem _ hb)), F.add_zero]
theorem msum_map {β : Type} (l : List β) (g : β → α) (f : α → F) : msum (l.map g) f = msum l (fun b => f (g b)) := by
  induction l with
  | nil => rfl
  | cons a l ih => rw [List.map_cons, msum_cons, msum_cons, ih]
theorem msum_filter (l : List α) (q : α → Bool) (f : α → F) (h : ∀ a ∈ l, q a = false → f a = 0) : msum (l.filter q) f = msum l f := by
  induction l with
  | nil => rfl
  | cons a l ih =>
    have ih := ih (fun b hb => h b (List.mem_cons_of_mem _ hb))
    rw [List.filter_cons]
    by_cases ha : q a = true
    · rw [if_pos ha, msum_cons, msum_cons, ih]
    · rw [if_neg ha, msum_cons, ih, h a (List.mem_cons_self ..) (by simpa using ha), F.zero_add]
theorem msum_swap {β : Type} (l : List α) (m : List β) (f : α → β → F) : msum l (fun a => msum m (fun b => f a b)) = msum m (fun b => msum l (fun a => f a b)) := by
  induction l with
  | nil => exact (msum_zero fun _ _ => rfl).symm
  | cons a l ih =>
    rw [msum_cons, ih, ← msum_add]
    exact msum_congr fun b _ => rfl
theorem msum_perm {l m : List α} (h : l.Perm m) (f : α → F) : msum l f = msum m f := by
  induction h with
  | nil => rfl
  | cons a _ ih => rw [msum_cons, msum_cons, ih]
  | swap a b l => rw [msum_cons, msum_cons, msum_cons, msum_cons, F.add_left_comm]
  | trans _ _ ih1 ih2 => exact ih1.trans ih2
theorem msum_single {l : List α} (hn : l.Nodup) {a : α} (ha : a ∈ l) {f : α → F} (h : ∀ b ∈ l, b ≠ a → f b = 0) : msum l f = f a := by
  induction l with
  | nil => cases ha
  | cons b l ih =>
    have hn' := List.nodup_cons.1 hn
    rw [msum_cons]
    rcases List.mem_cons.1 ha with rfl | ha
    · rw [msum_zero (fun c hc => h c (List.mem_cons_of_mem _ hc) (fun e => hn'.1 (e ▸ hc))), F.add_zero]
    · rw [h b (List.mem_cons_self ..) (fun e => hn'.1 (e ▸ ha)), F.zero_add]
      exact ih hn'.2 ha (fun c hc => h c (List.mem_cons_of_mem _ hc))
end
theorem msum_range_succ (n : Nat) (f : Nat → F) : msum (List.range (n + 1)) f = msum (List.range n) f + f n := by
  rw [List.range_succ, msum_append, msum_cons, msum_nil, F.add_zero]
theorem msum_range_succ' (n : Nat) (f : Nat → F) : msum (List.range (n + 1)) f = f 0 + msum (List.range n) (fun i => f (i + 1)) := by
  rw [List.range_succ_eq_map, msum_cons, msum_map]
theorem msum_range_rev (n : Nat) (f : Nat → F) : msum (List.range n) f = msum (List.range n) (fun i => f (n - 1 - i)) := by
  induction n with
  | zero => rfl
  | succ n ih =>
    rw [msum_range_succ, msum_range_succ', ih, F.add_comm]
    congr 1
    exact msum_congr fun i hi => by rw [List.mem_range] at hi; congr 1; omega
theorem ev_msum (d : Nat) (x : F) : ∀ p : PS, PS.ev d p x = msum (List.range d) (fun i => p i * fp x i) := by
  induction d with
  | zero => intro p; rfl
  | succ d ih =>
    intro p
    rw [PS.ev, msum_range_succ', ih, fp_zero, F.mul_one, ← msum_mul]
    congr 1
    exact msum_congr fun i _ => by rw [fp_succ, PS.tail_at, F.mul_left_comm]
/-- Vandermonde: few terms with unlike bases, whose first moments are zero, are zero. -/
theorem vand : ∀ (ps : List Nat) (X e : Nat → F), ps.Nodup → (∀ p ∈ ps, ∀ q ∈ ps, X p = X q → p = q) → (∀ j, j < ps.length → msum ps (fun p => e p * fp (X p) j) = 0) → ∀ p ∈ ps, e p = 0
  | [], _, _, _, _, _ => fun _ h => by cases h
  | p0 :: t, X, e, hn, hX, hm => by
    have hn' := List.nodup_cons.1 hn
    have ht : ∀ p ∈ t, e p = 0 := by
      have ih := vand t X (fun p => e p * (X p + X p0)) hn'.2 (fun p hp q hq => hX p (List.mem_cons_of_mem _ hp) q (List.mem_cons_of_mem _ hq)) (fun j hj => by
        have h1 := hm (j + 1) (by simp; omega)
        have h0 := hm j (by simp; omega)
        have h2 : msum (p0 :: t) (fun p => e p * (X p + X p0) * fp (X p) j) = 0 := by
          have : msum (p0 :: t) (fun p => e p * (X p + X p0) * fp (X p) j) = msum (p0 :: t) (fun p => e p * fp (X p) (j + 1)) + X p0 * msum (p0 :: t) (fun p => e p * fp (X p) j) := by
            rw [← msum_mul, ← msum_add]
            exact msum_congr fun p _ => by rw [fp_succ, F.mul_add, F.add_mul]; ac_rfl
          rw [this, h1, h0, F.mul_zero, F.add_zero]
        rw [msum_cons, F.add_self, F.mul_zero, F.zero_mul, F.zero_add] at h2
        exact h2)
      intro p hp
      rcases F.mul_eq_zero.1 (ih p hp) with h | h
      · exact h
      · exfalso
        have := hX p (List.mem_cons_of_mem _ hp) p0 (List.mem_cons_self ..) (F.add_eq_zero.1 h)
        exact hn'.1 (this ▸ hp)
    intro p hp
    rcases List.mem_cons.1 hp with rfl | hp
    · have h0 := hm 0 (by simp)
      rw [msum_cons, msum_zero (fun q hq => by rw [ht q hq, F.zero_mul]), F.add_zero, fp_zero, F.mul_one] at h0
      exact h0
    · exact ht p hp

def swp (i k a : Nat) : Nat := if a = i then k else if a = k then i else a
theorem swp_lt {n i k a : Nat} (hi : i < n) (hk : k < n) (ha : a < n) : swp i k a < n := by unfold swp; split <;> (try split) <;> assumption
theorem swp_swp (i k a : Nat) : swp i k (swp i k a) = a := by unfold swp; split <;> (try split) <;> (try split) <;> (try split) <;> omega
theorem swp_inj {i k a b : Nat} (e : swp i k a = swp i k b) : a = b := by rw [← swp_swp i k a, e, swp_swp]
def scl (M : Nat → Nat → F) (c : Nat) : Nat → Nat → F := fun a b => if a = c then M c b * F.inv (M c c) else M a b
def elm (M : Nat → Nat → F) (c : Nat) : Nat → Nat → F := fun a b => if a = c then M c b else M a b + M a c * M c b
/-- the first row from c on whose entry in column c is not zero; n: none -/
def pvt (n : Nat) (M : Nat → Nat → F) (c : Nat) : Option Nat := (List.range (n - c)).find? fun i => decide (M (c + i) c ≠ 0)
def stepM (M : Nat → Nat → F) (c p : Nat) : Nat → Nat → F := elm (scl (fun a => M (swp c (c + p) a)) c) c
def solveM (n : Nat) : Nat → Nat → (Nat → Nat → F) → Option (Nat → Nat → F)
  | 0, _, M => some M
  | k + 1, c, M => match pvt n M c with
    | none => none
    | some p => solveM n k (c + 1) (stepM M c p)
def Sol (n : Nat) (M : Nat → Nat → F) (y : Nat → F) : Prop := ∀ a, a < n → msum (List.range (n + 1)) (fun j => M a j * y j) = 0
theorem pvt_some {n : Nat} {M : Nat → Nat → F} {c p : Nat} (h : pvt n M c = some p) : c + p < n ∧ M (c + p) c ≠ 0 := by
  have h1 := List.find?_some h
  have h2 := List.mem_of_find?_eq_some h
  rw [List.mem_range] at h2
  exact ⟨by omega, by simpa using h1⟩
theorem pvt_none {n : Nat} {M : Nat → Nat → F} {c : Nat} (h : pvt n M c = none) : ∀ a, c ≤ a → a < n → M a c = 0 := by
  intro a h1 h2
  have := List.find?_eq_none.1 h (a - c) (List.mem_range.2 (by omega))
  rw [show c + (a - c) = a by omega] at this
  simpa using this
theorem sol_swap {n : Nat} {M : Nat → Nat → F} {y : Nat → F} {i k : Nat} (hi : i < n) (hk : k < n) : Sol n (fun a => M (swp i k a)) y ↔ Sol n M y := by
  constructor
  · intro h a ha
    have := h (swp i k a) (swp_lt hi hk ha)
    simp only [swp_swp] at this
    exact this
  · intro h a ha
    exact h (swp i k a) (swp_lt hi hk ha)
theorem sol_scl {n : Nat} {M : Nat → Nat → F} {y : Nat → F} {c : Nat} (hc : c < n) (h0 : M c c ≠ 0) : Sol n (scl M c) y ↔ Sol n M y := by
  have key : ∀ a, msum (List.range (n + 1)) (fun j => scl M c a j * y j) = if a = c then F.inv (M c c) * msum (List.range (n + 1)) (fun j => M c j * y j) else msum (List.range (n + 1)) (fun j => M a j * y j) := by
    intro a
    by_cases h : a = c
    · rw [if_pos h, ← msum_mul]
      exact msum_congr fun j _ => by unfold scl; rw [if_pos h]; ac_rfl
    · rw [if_neg h]
      exact msum_congr fun j _ => by unfold scl; rw [if_neg h]
  constructor
  · intro h a ha
    have := h a ha
    rw [key] at this
    by_cases e : a = c
    · rw [if_pos e] at this
      rw [e]
      exact (F.mul_eq_zero.1 this).resolve_left (F.inv_ne_zero h0)
    · rwa [if_neg e] at this
  · intro h a ha
    rw [key]
    by_cases e : a = c
    · rw [if_pos e, h c hc, F.mul_zero]
    · rw [if_neg e]; exact h a ha
theorem sol_elm {n : Nat} {M : Nat → Nat → F} {y : Nat → F} {c : Nat} (hc : c < n) : Sol n (elm M c) y ↔ Sol n M y := by
  have key : ∀ a, msum (List.range (n + 1)) (fun j => elm M c a j * y j) = if a = c then msum (List.range (n + 1)) (fun j => M c j * y j) else msum (List.range (n + 1)) (fun j => M a j * y j) + M a c * msum (List.range (n + 1)) (fun j => M c j * y j) := by
    intro a
    by_cases h : a = c
    · rw [if_pos h]
      exact msum_congr fun j _ => by unfold elm; rw [if_pos h]
    · rw [if_neg h, ← msum_mul, ← msum_add]
      exact msum_congr fun j _ => by unfold elm; rw [if_neg h, F.add_mul]; ac_rfl
  constructor
  · intro h a ha
    have h1 := h a ha
    rw [key] at h1
    have h2 := h c hc
    rw [key, if_pos rfl] at h2
    by_cases e : a = c
    · rw [e]; exact h2
    · rwa [if_neg e, h2, F.mul_zero, F.add_zero] at h1
  · intro h a ha
    rw [key]
    by_cases e : a = c
    · rw [if_pos e]; exact h c hc
    · rw [if_neg e, h a ha, h c hc, F.mul_zero, F.add_zero]
theorem sol_step {n : Nat} {M : Nat → Nat → F} {y : Nat → F} {c p : Nat} (hc : c < n) (h : pvt n M c = some p) : Sol n (stepM M c p) y ↔ Sol n M y := by
  obtain ⟨h1, h2⟩ := pvt_some h
  unfold stepM
  rw [sol_elm hc, sol_scl hc (by show M (swp c (c + p) c) c ≠ 0; unfold swp; rw [if_pos rfl]; exact h2), sol_swap hc h1]
def Unit_ (n : Nat) (M : Nat → Nat → F) (c : Nat) : Prop := ∀ a b, a < n → b < c → M a b = if a = b then 1 else 0
theorem unit_step {n : Nat} {M : Nat → Nat → F} {c p : Nat} (hc : c < n) (hU : Unit_ n M c) (h : pvt n M c = some p) : Unit_ n (stepM M c p) (c + 1) := by
  obtain ⟨h1, h2⟩ := pvt_some h
  have hs : ∀ a b, a < n → b < c → M (swp c (c + p) a) b = if a = b then 1 else 0 := by
    intro a b ha hb
    rw [hU _ b (swp_lt hc h1 ha) hb]
    have : (swp c (c + p) a = b) = (a = b) := by
      unfold swp
      by_cases e1 : a = c
      · rw [if_pos e1]; exact propext ⟨fun e => by omega, fun e => by omega⟩
      · rw [if_neg e1]
        by_cases e2 : a = c + p
        · rw [if_pos e2]; exact propext ⟨fun e => by omega, fun e => by omega⟩
        · rw [if_neg e2]
    simp only [this]
  have hpv : M (swp c (c + p) c) c ≠ 0 := by unfold swp; rw [if_pos rfl]; exact h2
  intro a b ha hb
  unfold stepM elm scl
  by_cases hbc : b = c
  · subst hbc
    by_cases e : a = b
    · simp only [e, if_true]
      exact F.mul_inv hpv
    · simp only [if_neg e, if_true]
      rw [F.mul_inv hpv, F.mul_one, F.add_self]
  · have hb' : b < c := by omega
    have hcb : M (swp c (c + p) c) b = 0 := by rw [hs c b hc hb', if_neg (by omega)]
    by_cases e : a = c
    · subst e
      simp only [if_true]
      rw [hcb, F.zero_mul, if_neg (by omega)]
    · simp only [if_neg e, if_true]
      rw [hcb, F.zero_mul, F.mul_zero, F.add_zero, hs a b ha hb']
/-- Gauss and Jordan's way comes to the solution wherever there is one and the system without sums has none but zero. -/
theorem solveM_sol (n : Nat) (y : Nat → F) (hy : y n = 1) : ∀ (k c : Nat) (M : Nat → Nat → F), c + k = n → Unit_ n M c → (∀ z : Nat → F, z n = 0 → Sol n M z → ∀ i, i < n → z i = 0) → Sol n M y →
    ∃ M', solveM n k c M = some M' ∧ ∀ i, i < n → M' i n = y i
  | 0, c, M, hk, hU, hZ, hS => by
    refine ⟨M, rfl, fun i hi => ?_⟩
    have h := hS i hi
    rw [msum_range_succ, hy, F.mul_one, msum_single List.nodup_range (List.mem_range.2 hi) (fun b hb hne => by
      rw [List.mem_range] at hb
      rw [hU i b hi (by omega), if_neg (fun e => hne e.symm), F.zero_mul]), hU i i hi (by omega), if_pos rfl, F.one_mul] at h
    exact (F.add_eq_zero.1 h).symm
  | k + 1, c, M, hk, hU, hZ, hS => by
    have hc : c < n := by omega
    unfold solveM
    cases hp : pvt n M c with
    | none =>
      exfalso
      have h0 := pvt_none hp
      have hz : (fun j => if j < c then M j c else if j = c then (1 : F) else 0) c = 0 := by
        refine hZ (fun j => if j < c then M j c else if j = c then 1 else 0) (by rw [if_neg (by omega), if_neg (by omega)]) (fun a ha => ?_) c hc
        have hsplit : msum (List.range (n + 1)) (fun j => M a j * (if j < c then M j c else if j = c then 1 else 0)) = msum (List.range (c + 1)) (fun j => M a j * (if j < c then M j c else if j = c then 1 else 0)) := by
          have hr : List.range (n + 1) = List.range (c + 1) ++ (List.range (n - c)).map (c + 1 + ·) := by
            rw [show n + 1 = (c + 1) + (n - c) by omega, List.range_add]
          rw [hr, msum_append, msum_map, msum_zero (l := List.range (n - c)) (fun i _ => by rw [if_neg (by omega), if_neg (by omega), F.mul_zero]), F.add_zero]
        rw [hsplit, msum_range_succ, if_neg (by omega), if_pos rfl, F.mul_one]
        by_cases hac : a < c
        · rw [msum_single List.nodup_range (List.mem_range.2 hac) (fun b hb hne => by
            rw [List.mem_range] at hb
            rw [hU a b ha hb, if_neg (fun e => hne e.symm), F.zero_mul]), hU a a ha hac, if_pos rfl, if_pos hac, F.one_mul, F.add_self]
        · rw [h0 a (by omega) ha, F.add_zero]
          exact msum_zero fun b hb => by
            rw [List.mem_range] at hb
            rw [hU a b ha hb, if_neg (by omega), F.zero_mul]
      simp only [Nat.lt_irrefl, if_false, if_true] at hz
      exact F.one_ne_zero hz
    | some p =>
      obtain ⟨M', h1, h2⟩ := solveM_sol n y hy k (c + 1) (stepM M c p) (by omega) (unit_step hc hU hp) (fun z hz hs => hZ z hz ((sol_step hc hp).1 hs)) ((sol_step hc hp).2 hS)
      exact ⟨M', h1, h2⟩
end FB
