namespace FB

structure F where
  n : Nat
  lt : n < 256
deriving DecidableEq

theorem F.ext {a b : F} (h : a.n = b.n) : a = b := by
  cases a; cases b; simp at h; subst h; rfl

instance : Zero F := ⟨⟨0, by decide⟩⟩
instance : One F := ⟨⟨1, by decide⟩⟩
instance : Add F := ⟨fun a b => ⟨a.n ^^^ b.n, Nat.xor_lt_two_pow (n := 8) a.lt b.lt⟩⟩
instance : Inhabited F := ⟨0⟩

theorem F.add_comm (a b : F) : a + b = b + a := F.ext (Nat.xor_comm _ _)
theorem F.add_assoc (a b c : F) : a + b + c = a + (b + c) := F.ext (Nat.xor_assoc _ _ _)
theorem F.add_self (a : F) : a + a = 0 := F.ext (Nat.xor_self _)
theorem F.add_zero (a : F) : a + 0 = a := F.ext (Nat.xor_zero _)
theorem F.zero_add (a : F) : 0 + a = a := F.ext (Nat.zero_xor _)
theorem F.add_left_comm (a b c : F) : a + (b + c) = b + (a + c) := by
  rw [← F.add_assoc, F.add_comm a b, F.add_assoc]
theorem F.add_cancel (a b : F) : a + (a + b) = b := by rw [← F.add_assoc, F.add_self, F.zero_add]
theorem F.add_eq_zero {a b : F} : a + b = 0 ↔ a = b := by
  constructor
  · intro h
    have := congrArg (fun x => x + b) h
    simpa [F.add_assoc, F.add_self, F.add_zero, F.zero_add] using this
  · rintro rfl; exact F.add_self _
instance : Std.Associative (α := F) (· + ·) := ⟨F.add_assoc⟩
instance : Std.Commutative (α := F) (· + ·) := ⟨F.add_comm⟩

def xtn (a : Nat) : Nat := (2 * a) ^^^ (285 * (a / 128))
theorem xtn_lt (a : Nat) (h : a < 256) : xtn a < 256 := by
  have : ∀ a, a < 256 → xtn a < 256 := by decide +kernel
  exact this a h
/-- times z -/
def xt (a : F) : F := ⟨xtn a.n, xtn_lt _ a.lt⟩

theorem two_mul_xor (a b : Nat) : 2 * (a ^^^ b) = (2 * a) ^^^ (2 * b) := by
  have := Nat.shiftLeft_xor_distrib (a := a) (b := b) (i := 1)
  simpa [Nat.shiftLeft_eq, Nat.mul_comm] using this
theorem top_xor (a b : Nat) (ha : a < 256) (hb : b < 256) : 285 * ((a ^^^ b) / 128) = (285 * (a / 128)) ^^^ (285 * (b / 128)) := by
  have h : (a ^^^ b) / 128 = (a / 128) ^^^ (b / 128) := Nat.xor_div_two_pow (n := 7)
  rw [h]
  have h1 : a / 128 = 0 ∨ a / 128 = 1 := by omega
  have h2 : b / 128 = 0 ∨ b / 128 = 1 := by omega
  rcases h1 with h1 | h1 <;> rcases h2 with h2 | h2 <;> rw [h1, h2] <;> decide
theorem xt_add (a b : F) : xt (a + b) = xt a + xt b := by
  apply F.ext
  show xtn (a.n ^^^ b.n) = xtn a.n ^^^ xtn b.n
  unfold xtn
  rw [two_mul_xor, top_xor _ _ a.lt b.lt]
  ac_rfl
theorem xt_zero : xt 0 = 0 := rfl

def mulA : Nat → F → Nat → F → F
  | 0, _, _, o => o
  | k + 1, a, b, o => mulA k (xt a) (b / 2) (if b % 2 = 1 then o + a else o)
instance : Mul F := ⟨fun a b => mulA 8 a b.n 0⟩
theorem mulA_add_left : ∀ k a a' b o o', mulA k (a + a') b (o + o') = mulA k a b o + mulA k a' b o'
  | 0, _, _, _, _, _ => rfl
  | k + 1, a, a', b, o, o' => by
    unfold mulA
    rw [xt_add]
    by_cases h : b % 2 = 1
    · simp only [h, if_true]
      rw [← mulA_add_left]
      congr 1
      ac_rfl
    · simp only [h, if_false]
      rw [← mulA_add_left]
theorem mulA_add_right : ∀ k a b b' o o', mulA k a (b ^^^ b') (o + o') = mulA k a b o + mulA k a b' o'
  | 0, _, _, _, _, _ => rfl
  | k + 1, a, b, b', o, o' => by
    unfold mulA
    have h2 : (b ^^^ b') / 2 = (b / 2) ^^^ (b' / 2) := Nat.xor_div_two_pow (n := 1)
    have h3 : (b ^^^ b') % 2 = (b % 2) ^^^ (b' % 2) := Nat.xor_mod_two_pow (n := 1)
    rw [h2]
    have h1 : b % 2 = 0 ∨ b % 2 = 1 := by omega
    have h1' : b' % 2 = 0 ∨ b' % 2 = 1 := by omega
    rw [← mulA_add_right]
    congr 1
    rcases h1 with h1 | h1 <;> rcases h1' with h1' | h1' <;> rw [h3, h1, h1'] <;> simp
    · ac_rfl
    · ac_rfl
    · rw [show o + a + (o' + a) = o + o' + (a + a) by ac_rfl, F.add_self, F.add_zero]
theorem F.add_mul (a b c : F) : (a + b) * c = a * c + b * c := by
  have := mulA_add_left 8 a b c.n 0 0
  rwa [F.add_zero] at this
theorem F.mul_add (a b c : F) : a * (b + c) = a * b + a * c := by
  have := mulA_add_right 8 a b.n c.n 0 0
  rwa [F.add_zero] at this
theorem F.zero_mul (a : F) : 0 * a = 0 := by
  have := F.add_mul 0 0 a
  rw [F.add_zero] at this
  have h := congrArg (fun x => x + 0 * a) this
  simpa [F.add_assoc, F.add_self, F.add_zero, F.zero_add] using h.symm
theorem F.mul_zero (a : F) : a * 0 = 0 := by
  have := F.mul_add a 0 0
  rw [F.add_zero] at this
  have h := congrArg (fun x => x + a * 0) this
  simpa [F.add_assoc, F.add_self, F.add_zero, F.zero_add] using h.symm

instance (P : F → Prop) [DecidablePred P] : Decidable (∀ a, P a) :=
  decidable_of_iff (∀ n (hn : n < 256), P ⟨n, hn⟩) ⟨fun h a => h a.n a.lt, fun h n hn => h ⟨n, hn⟩⟩

theorem mul_two (a : F) : a * ⟨2, by decide⟩ = xt a := by
  have : ∀ a : F, a * ⟨2, by decide⟩ = xt a := by decide +kernel
  exact this a
theorem F.mul_one (a : F) : a * 1 = a := by
  have : ∀ a : F, a * 1 = a := by decide +kernel
  exact this a
theorem F.one_mul (a : F) : 1 * a = a := by
  have : ∀ a : F, 1 * a = a := by decide +kernel
  exact this a

def b2 (i : Nat) : F := ⟨2 ^ i % 256, Nat.mod_lt _ (by decide)⟩
def part (a : F) (i : Nat) : F := if a.n.testBit i then b2 i else 0
theorem F.parts (a : F) : a = part a 0 + part a 1 + part a 2 + part a 3 + part a 4 + part a 5 + part a 6 + part a 7 := by
  have : ∀ a : F, a = part a 0 + part a 1 + part a 2 + part a 3 + part a 4 + part a 5 + part a 6 + part a 7 := by decide +kernel
  exact this a
theorem F.ind {P : F → Prop} (h0 : P 0) (hadd : ∀ a b, P a → P b → P (a + b)) (hb : ∀ i, i < 8 → P (b2 i)) (a : F) : P a := by
  have hp : ∀ i, i < 8 → P (part a i) := by
    intro i hi
    unfold part
    by_cases h : a.n.testBit i
    · rw [if_pos h]; exact hb i hi
    · rw [if_neg h]; exact h0
  rw [F.parts a]
  exact hadd _ _ (hadd _ _ (hadd _ _ (hadd _ _ (hadd _ _ (hadd _ _ (hadd _ _ (hp 0 (by decide)) (hp 1 (by decide))) (hp 2 (by decide))) (hp 3 (by decide))) (hp 4 (by decide))) (hp 5 (by decide))) (hp 6 (by decide))) (hp 7 (by decide))

theorem mul_xt_b2 : ∀ i, i < 8 → ∀ a : F, a * xt (b2 i) = xt (a * b2 i) := by decide +kernel
theorem mul_xt (a b : F) : a * xt b = xt (a * b) := by
  revert a
  refine F.ind (P := fun b => ∀ a, a * xt b = xt (a * b)) ?_ ?_ ?_ b
  · intro a; rw [xt_zero, F.mul_zero, xt_zero]
  · intro b c hb hc a; rw [xt_add, F.mul_add, F.mul_add, hb, hc, xt_add]
  · exact mul_xt_b2

/-- 2 to the power of n -/
def pw : Nat → F
  | 0 => 1
  | n + 1 => xt (pw n)
theorem pw_zero : pw 0 = 1 := rfl
theorem pw_succ (n : Nat) : pw (n + 1) = xt (pw n) := rfl
theorem pw_add (m n : Nat) : pw (m + n) = pw m * pw n := by
  induction n with
  | zero => rw [pw_zero, F.mul_one]; rfl
  | succ n ih => rw [← Nat.add_assoc, pw_succ, ih, pw_succ, mul_xt]
/-- the powers as a list: n-th is 2 to the power of n -/
def expList : Nat → Nat → List Nat
  | 0, _ => []
  | k + 1, a => a :: expList k (xtn a)
def logOf (a : Nat) : Nat := (expList 255 1).idxOf a
theorem expList_get : ∀ k n (a : F), n < k → (expList k a.n)[n]? = some ((pw n) * a).n
  | 0, _, _, h => absurd h (Nat.not_lt_zero _)
  | k + 1, 0, a, _ => by simp [expList, pw_zero, F.one_mul]
  | k + 1, n + 1, a, h => by
    have := expList_get k n (xt a) (Nat.lt_of_succ_lt_succ h)
    show (expList k (xt a).n)[n]? = _
    rw [this, mul_xt, pw_succ]
    have e : xt (pw n * a) = xt (pw n) * a := by
      have h1 := mul_xt
      have h2 : ∀ b a : F, xt (b * a) = xt b * a := by
        intro b a
        refine F.ind (P := fun b => xt (b * a) = xt b * a) ?_ ?_ ?_ b
        · rw [F.zero_mul, xt_zero, F.zero_mul]
        · intro b c hb hc; rw [F.add_mul, xt_add, hb, hc, xt_add, F.add_mul]
        · have : ∀ i, i < 8 → ∀ a : F, xt (b2 i * a) = xt (b2 i) * a := by decide +kernel
          intro i hi; exact this i hi a
      exact h2 _ _
    rw [e]
theorem pw_n (n : Nat) (h : n < 255) : (expList 255 1)[n]? = some (pw n).n := by
  have := expList_get 255 n 1 h
  rw [F.mul_one] at this
  exact this
theorem logs : ∀ a, a < 256 → a ≠ 0 → (expList 255 1).contains a := by decide +kernel
theorem exp_nodup : (expList 255 1).Nodup := by decide +kernel
theorem pw_255 : pw 255 = 1 := by
  have h := expList_get 256 255 1 (by decide)
  rw [F.mul_one] at h
  have h2 : (expList 256 1)[255]? = some 1 := by decide +kernel
  have : some (pw 255).n = some 1 := h.symm.trans h2
  exact F.ext (Option.some.inj this)
theorem logOf_lt (a : F) (h : a ≠ 0) : logOf a.n < 255 := by
  have h1 := logs a.n a.lt (fun e => h (F.ext e))
  have := List.idxOf_lt_length_iff.2 (List.contains_iff_mem.1 h1)
  have hl : (expList 255 1).length = 255 := by decide +kernel
  rw [hl] at this
  exact this
theorem pw_logOf (a : F) (h : a ≠ 0) : pw (logOf a.n) = a := by
  have h1 := logs a.n a.lt (fun e => h (F.ext e))
  have h2 := pw_n _ (logOf_lt a h)
  have h3 : (expList 255 1)[logOf a.n]? = some a.n := by
    have hlt := List.idxOf_lt_length_iff.2 (List.contains_iff_mem.1 h1)
    exact (List.getElem?_eq_getElem hlt).trans (congrArg some (List.getElem_idxOf hlt))
  have : some a.n = some (pw (logOf a.n)).n := h3.symm.trans h2
  exact (F.ext (Option.some.inj this)).symm
theorem pw_inj {m n : Nat} (hm : m < 255) (hn : n < 255) (h : pw m = pw n) : m = n := by
  have h1 := pw_n m hm
  have h2 := pw_n n hn
  rw [h, ← h2] at h1
  have hl : (expList 255 1).length = 255 := by decide +kernel
  exact (List.getElem?_inj (by rw [hl]; exact hm) exp_nodup).1 h1
theorem pw_mod (n : Nat) : pw (n % 255) = pw n := by
  have h : ∀ k, pw (255 * k) = 1 := by
    intro k
    induction k with
    | zero => rfl
    | succ k ih => rw [Nat.mul_succ, pw_add, ih, pw_255, F.mul_one]
  have := Nat.div_add_mod n 255
  rw [← this, pw_add, h, F.one_mul, this]
theorem pw_ne_zero (n : Nat) : pw n ≠ 0 := by
  induction n with
  | zero => decide
  | succ n ih =>
    rw [pw_succ]
    have : ∀ a : F, a ≠ 0 → xt a ≠ 0 := by decide +kernel
    exact this _ ih

theorem F.eq_pw {a : F} (h : a ≠ 0) : ∃ n, n < 255 ∧ a = pw n := ⟨logOf a.n, logOf_lt a h, (pw_logOf a h).symm⟩
theorem F.mul_comm (a b : F) : a * b = b * a := by
  by_cases ha : a = 0
  · rw [ha, F.zero_mul, F.mul_zero]
  by_cases hb : b = 0
  · rw [hb, F.zero_mul, F.mul_zero]
  obtain ⟨m, _, rfl⟩ := F.eq_pw ha
  obtain ⟨n, _, rfl⟩ := F.eq_pw hb
  rw [← pw_add, ← pw_add, Nat.add_comm]
theorem F.mul_assoc (a b c : F) : a * b * c = a * (b * c) := by
  by_cases ha : a = 0
  · rw [ha, F.zero_mul, F.zero_mul, F.zero_mul]
  by_cases hb : b = 0
  · rw [hb, F.mul_zero, F.zero_mul, F.mul_zero]
  by_cases hc : c = 0
  · rw [hc, F.mul_zero, F.mul_zero, F.mul_zero]
  obtain ⟨m, _, rfl⟩ := F.eq_pw ha
  obtain ⟨n, _, rfl⟩ := F.eq_pw hb
  obtain ⟨k, _, rfl⟩ := F.eq_pw hc
  rw [← pw_add, ← pw_add, ← pw_add, ← pw_add, Nat.add_assoc]
theorem F.mul_left_comm (a b c : F) : a * (b * c) = b * (a * c) := by
  rw [← F.mul_assoc, F.mul_comm a b, F.mul_assoc]
instance : Std.Associative (α := F) (· * ·) := ⟨F.mul_assoc⟩
instance : Std.Commutative (α := F) (· * ·) := ⟨F.mul_comm⟩
theorem F.one_ne_zero : (1 : F) ≠ 0 := by decide
theorem F.mul_ne_zero {a b : F} (ha : a ≠ 0) (hb : b ≠ 0) : a * b ≠ 0 := by
  obtain ⟨m, _, rfl⟩ := F.eq_pw ha
  obtain ⟨n, _, rfl⟩ := F.eq_pw hb
  rw [← pw_add]
  exact pw_ne_zero _
theorem F.mul_eq_zero {a b : F} : a * b = 0 ↔ a = 0 ∨ b = 0 := by
  constructor
  · intro h
    by_cases ha : a = 0
    · exact .inl ha
    by_cases hb : b = 0
    · exact .inr hb
    exact absurd h (F.mul_ne_zero ha hb)
  · rintro (h | h)
    · rw [h, F.zero_mul]
    · rw [h, F.mul_zero]
/-- the inverse; of 0: 0 -/
def F.inv (a : F) : F := if a = 0 then 0 else pw (255 - logOf a.n)
theorem F.inv_zero : F.inv 0 = 0 := rfl
theorem F.mul_inv {a : F} (h : a ≠ 0) : a * F.inv a = 1 := by
  have hl := logOf_lt a h
  rw [F.inv, if_neg h]
  have e : a * pw (255 - logOf a.n) = pw (logOf a.n) * pw (255 - logOf a.n) := by rw [pw_logOf a h]
  rw [e, ← pw_add, show logOf a.n + (255 - logOf a.n) = 255 by omega, pw_255]
theorem F.inv_mul {a : F} (h : a ≠ 0) : F.inv a * a = 1 := by rw [F.mul_comm, F.mul_inv h]
theorem F.mul_left_cancel {a b c : F} (h : a ≠ 0) (e : a * b = a * c) : b = c := by
  have := congrArg (fun x => F.inv a * x) e
  simpa only [← F.mul_assoc, F.inv_mul h, F.one_mul] using this
theorem F.mul_right_cancel {a b c : F} (h : a ≠ 0) (e : b * a = c * a) : b = c := by
  rw [F.mul_comm b, F.mul_comm c] at e; exact F.mul_left_cancel h e
theorem F.inv_ne_zero {a : F} (h : a ≠ 0) : F.inv a ≠ 0 := by
  intro e
  have := F.mul_inv h
  rw [e, F.mul_zero] at this
  exact F.one_ne_zero this.symm
theorem F.inv_unique {a b : F} (h : a * b = 1) : b = F.inv a := by
  have ha : a ≠ 0 := by
    rintro rfl
    rw [F.zero_mul] at h
    exact F.one_ne_zero h.symm
  exact F.mul_left_cancel ha (h.trans (F.mul_inv ha).symm)
theorem F.inv_inv {a : F} (h : a ≠ 0) : F.inv (F.inv a) = a := (F.inv_unique (F.inv_mul h)).symm
end FB
