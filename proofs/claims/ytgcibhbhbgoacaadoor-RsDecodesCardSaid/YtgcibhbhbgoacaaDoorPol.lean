import Derived.Test.YtgcibhbhbgoacaaDoorFld
namespace FB

/-- a polynomial (or a power series): its coefficients -/
abbrev PS := Nat → F
theorem PS.ext {p q : PS} (h : ∀ n, p n = q n) : p = q := funext h
instance : Zero PS := ⟨fun _ => 0⟩
instance : Add PS := ⟨fun p q n => p n + q n⟩
def PS.C (a : F) : PS := fun n => if n = 0 then a else 0
instance : One PS := ⟨PS.C 1⟩
def PS.tail (p : PS) : PS := fun n => p (n + 1)
def PS.sc (a : F) (p : PS) : PS := fun n => a * p n
def PS.mulN (p q : PS) : Nat → F
  | 0 => p 0 * q 0
  | n + 1 => PS.mulN p.tail q n + p 0 * q (n + 1)
instance : Mul PS := ⟨PS.mulN⟩
/-- times x to the power of k -/
def PS.sh (k : Nat) (p : PS) : PS := fun n => if n < k then 0 else p (n - k)

theorem PS.zero_at (n : Nat) : (0 : PS) n = 0 := rfl
theorem PS.add_at (p q : PS) (n : Nat) : (p + q) n = p n + q n := rfl
theorem PS.C_zero (a : F) : PS.C a 0 = a := rfl
theorem PS.C_succ (a : F) (n : Nat) : PS.C a (n + 1) = 0 := rfl
theorem PS.tail_at (p : PS) (n : Nat) : p.tail n = p (n + 1) := rfl
theorem PS.sc_at (a : F) (p : PS) (n : Nat) : PS.sc a p n = a * p n := rfl
theorem PS.mul_zero_at (p q : PS) : (p * q) 0 = p 0 * q 0 := rfl
theorem PS.mul_succ_at (p q : PS) (n : Nat) : (p * q) (n + 1) = (p.tail * q) n + p 0 * q (n + 1) := rfl

theorem PS.add_comm (p q : PS) : p + q = q + p := PS.ext fun _ => F.add_comm _ _
theorem PS.add_assoc (p q r : PS) : p + q + r = p + (q + r) := PS.ext fun _ => F.add_assoc _ _ _
theorem PS.add_self (p : PS) : p + p = 0 := PS.ext fun _ => F.add_self _
theorem PS.add_zero (p : PS) : p + 0 = p := PS.ext fun _ => F.add_zero _
theorem PS.zero_add (p : PS) : 0 + p = p := PS.ext fun _ => F.zero_add _
instance : Std.Associative (α := PS) (· + ·) := ⟨PS.add_assoc⟩
instance : Std.Commutative (α := PS) (· + ·) := ⟨PS.add_comm⟩

theorem PS.tail_add (p q : PS) : (p + q).tail = p.tail + q.tail := rfl
theorem PS.tail_zero : (0 : PS).tail = 0 := rfl
theorem PS.tail_C (a : F) : (PS.C a).tail = 0 := rfl
theorem PS.tail_sc (a : F) (p : PS) : (PS.sc a p).tail = PS.sc a p.tail := rfl
theorem PS.sc_sc (a b : F) (p : PS) : PS.sc a (PS.sc b p) = PS.sc (a * b) p := PS.ext fun _ => (F.mul_assoc _ _ _).symm
theorem PS.sc_one (p : PS) : PS.sc 1 p = p := PS.ext fun _ => F.one_mul _
theorem PS.sc_zero' (a : F) : PS.sc a 0 = 0 := PS.ext fun _ => F.mul_zero _

theorem PS.add_mul (p q r : PS) : (p + q) * r = p * r + q * r := by
  apply PS.ext; intro n
  induction n generalizing p q with
  | zero => exact F.add_mul _ _ _
  | succ n ih =>
    rw [PS.mul_succ_at, PS.tail_add, ih, PS.add_at, PS.add_at, F.add_mul, PS.add_at, PS.mul_succ_at, PS.mul_succ_at]
    ac_rfl
theorem PS.mul_add (p q r : PS) : p * (q + r) = p * q + p * r := by
  apply PS.ext; intro n
  induction n generalizing p with
  | zero => exact F.mul_add _ _ _
  | succ n ih =>
    rw [PS.mul_succ_at, ih, PS.add_at, PS.add_at, F.mul_add, PS.add_at, PS.mul_succ_at, PS.mul_succ_at]
    ac_rfl
theorem PS.zero_mul (p : PS) : 0 * p = 0 := by
  apply PS.ext; intro n
  induction n with
  | zero => exact F.zero_mul _
  | succ n ih => rw [PS.mul_succ_at, PS.tail_zero, ih, PS.zero_at, PS.zero_at, F.zero_mul, F.add_zero]; rfl
theorem PS.mul_zero (p : PS) : p * 0 = 0 := by
  apply PS.ext; intro n
  induction n generalizing p with
  | zero => exact F.mul_zero _
  | succ n ih => rw [PS.mul_succ_at, ih, PS.zero_at, PS.zero_at, F.mul_zero, F.add_zero]
theorem PS.sc_mul (a : F) (p q : PS) : PS.sc a p * q = PS.sc a (p * q) := by
  apply PS.ext; intro n
  induction n generalizing p with
  | zero => exact F.mul_assoc _ _ _
  | succ n ih => rw [PS.mul_succ_at, PS.tail_sc, ih, PS.sc_at, PS.sc_at, PS.sc_at, PS.mul_succ_at, F.mul_add, F.mul_assoc]
theorem PS.mul_sc (a : F) (p q : PS) : p * PS.sc a q = PS.sc a (p * q) := by
  apply PS.ext; intro n
  induction n generalizing p with
  | zero => exact F.mul_left_comm _ _ _
  | succ n ih => rw [PS.mul_succ_at, ih, PS.sc_at, PS.sc_at, PS.sc_at, PS.mul_succ_at, F.mul_add, F.mul_left_comm]
theorem PS.C_mul (a : F) (p : PS) : PS.C a * p = PS.sc a p := by
  apply PS.ext; intro n
  cases n with
  | zero => rfl
  | succ n => rw [PS.mul_succ_at, PS.tail_C, PS.zero_mul, PS.zero_at, F.zero_add]; rfl
theorem PS.one_mul (p : PS) : 1 * p = p := (PS.C_mul 1 p).trans (PS.sc_one p)
/-- the product, cut at its other end -/
theorem PS.mul_succ_at' (p q : PS) (n : Nat) : (p * q) (n + 1) = (p * q.tail) n + p (n + 1) * q 0 := by
  induction n generalizing p with
  | zero => rw [PS.mul_succ_at, PS.mul_zero_at, PS.mul_zero_at, PS.tail_at, PS.tail_at]; ac_rfl
  | succ n ih =>
    rw [PS.mul_succ_at, ih, PS.mul_succ_at, PS.tail_at, PS.tail_at]
    ac_rfl
theorem PS.mul_comm (p q : PS) : p * q = q * p := by
  apply PS.ext; intro n
  induction n generalizing p q with
  | zero => exact F.mul_comm _ _
  | succ n ih => rw [PS.mul_succ_at, PS.mul_succ_at', ih, F.mul_comm (p 0)]
theorem PS.mul_one (p : PS) : p * 1 = p := by rw [PS.mul_comm, PS.one_mul]
theorem PS.tail_mul (p q : PS) : (p * q).tail = p.tail * q + PS.sc (p 0) q.tail := PS.ext fun _ => rfl
theorem PS.mul_assoc (p q r : PS) : p * q * r = p * (q * r) := by
  apply PS.ext; intro n
  induction n generalizing p q r with
  | zero => exact F.mul_assoc _ _ _
  | succ n ih =>
    rw [PS.mul_succ_at, PS.tail_mul, PS.add_mul, PS.add_at, ih, PS.sc_mul, PS.sc_at, PS.mul_succ_at p, PS.mul_succ_at q, F.mul_add, PS.mul_zero_at, F.mul_assoc]
    ac_rfl
theorem PS.mul_left_comm (p q r : PS) : p * (q * r) = q * (p * r) := by rw [← PS.mul_assoc, PS.mul_comm p, PS.mul_assoc]
instance : Std.Associative (α := PS) (· * ·) := ⟨PS.mul_assoc⟩
instance : Std.Commutative (α := PS) (· * ·) := ⟨PS.mul_comm⟩

/-- x + a -/
def PS.xa (a : F) : PS := fun n => if n = 0 then a else if n = 1 then 1 else 0
theorem PS.xa_tail (a : F) : (PS.xa a).tail = 1 := by
  apply PS.ext; intro n
  cases n <;> simp [PS.xa, PS.tail, One.one, OfNat.ofNat, PS.C]
theorem PS.xa_mul_succ (a : F) (p : PS) (n : Nat) : (PS.xa a * p) (n + 1) = p n + a * p (n + 1) := by
  rw [PS.mul_succ_at, PS.xa_tail, PS.one_mul]; rfl
theorem PS.xa_mul_zero (a : F) (p : PS) : (PS.xa a * p) 0 = a * p 0 := rfl

theorem PS.sh_zero (p : PS) : PS.sh 0 p = p := PS.ext fun n => by simp [PS.sh]
theorem PS.sh_succ_at (k : Nat) (p : PS) (n : Nat) : PS.sh (k + 1) p (n + 1) = PS.sh k p n := by
  unfold PS.sh
  by_cases h : n < k
  · rw [if_pos h, if_pos (by omega)]
  · rw [if_neg h, if_neg (by omega), show n + 1 - (k + 1) = n - k by omega]
theorem PS.sh_succ_zero (k : Nat) (p : PS) : PS.sh (k + 1) p 0 = 0 := by simp [PS.sh]
theorem PS.sh_tail (k : Nat) (p : PS) : (PS.sh (k + 1) p).tail = PS.sh k p := PS.ext fun n => PS.sh_succ_at k p n
theorem PS.sh_mul (k : Nat) (p q : PS) : PS.sh k p * q = PS.sh k (p * q) := by
  induction k with
  | zero => rw [PS.sh_zero, PS.sh_zero]
  | succ k ih =>
    apply PS.ext; intro n
    cases n with
    | zero => rw [PS.mul_zero_at, PS.sh_succ_zero, PS.sh_succ_zero, F.zero_mul]
    | succ n => rw [PS.mul_succ_at, PS.sh_tail, ih, PS.sh_succ_zero, F.zero_mul, F.add_zero, PS.sh_succ_at]
theorem PS.sh_add (k : Nat) (p q : PS) : PS.sh k (p + q) = PS.sh k p + PS.sh k q := PS.ext fun n => by
  rw [PS.add_at]
  unfold PS.sh
  by_cases h : n < k
  · simp [h, F.add_zero]
  · simp [h, PS.add_at]

/-- no coefficient from d on -/
def PS.below (p : PS) (d : Nat) : Prop := ∀ n, d ≤ n → p n = 0
theorem PS.below.mono {p : PS} {d d' : Nat} (h : p.below d) (hd : d ≤ d') : p.below d' := fun n hn => h n (Nat.le_trans hd hn)
theorem PS.below_zero (d : Nat) : (0 : PS).below d := fun _ _ => rfl
theorem PS.eq_zero_of_below {p : PS} (h : p.below 0) : p = 0 := PS.ext fun n => h n (Nat.zero_le _)
theorem PS.below.add {p q : PS} {d : Nat} (hp : p.below d) (hq : q.below d) : (p + q).below d := fun n hn => by
  rw [PS.add_at, hp n hn, hq n hn, F.add_zero]
theorem PS.below.sc {p : PS} {d : Nat} (hp : p.below d) (a : F) : (PS.sc a p).below d := fun n hn => by
  rw [PS.sc_at, hp n hn, F.mul_zero]
theorem PS.below.tail {p : PS} {d : Nat} (hp : p.below (d + 1)) : p.tail.below d := fun n hn => hp (n + 1) (by omega)
theorem PS.below_C (a : F) : (PS.C a).below 1 := fun n hn => by
  cases n with
  | zero => omega
  | succ n => rfl
theorem PS.below_one : (1 : PS).below 1 := PS.below_C 1
theorem PS.below_xa (a : F) : (PS.xa a).below 2 := fun n hn => by
  unfold PS.xa; rw [if_neg (by omega), if_neg (by omega)]
theorem PS.below.mul {p q : PS} {m n : Nat} (hp : p.below m) (hq : q.below n) : (p * q).below (m + n - 1) := by
  intro k hk
  induction m generalizing p k with
  | zero => rw [PS.eq_zero_of_below hp, PS.zero_mul]; rfl
  | succ m ih =>
    cases k with
    | zero =>
      rw [PS.mul_zero_at]
      rw [hq 0 (by omega), F.mul_zero]
    | succ k =>
      rw [PS.mul_succ_at, hq (k + 1) (by omega), F.mul_zero, F.add_zero]
      exact ih hp.tail k (by omega)
/-- the highest coefficient of a product -/
theorem PS.mul_top {p q : PS} {m n : Nat} (hp : p.below (m + 1)) (hq : q.below (n + 1)) : (p * q) (m + n) = p m * q n := by
  induction m generalizing p with
  | zero =>
    cases n with
    | zero => rfl
    | succ n =>
      rw [show 0 + (n + 1) = n + 1 by omega, PS.mul_succ_at, PS.eq_zero_of_below hp.tail, PS.zero_mul, PS.zero_at, F.zero_add]
  | succ m ih =>
    rw [show m + 1 + n = m + n + 1 by omega, PS.mul_succ_at, ih hp.tail, hq (m + n + 1) (by omega), F.mul_zero, F.add_zero]
    rfl

/-- the value of the first d coefficients -/
def PS.ev : Nat → PS → F → F
  | 0, _, _ => 0
  | d + 1, p, x => p 0 + x * PS.ev d p.tail x
theorem PS.ev_zero (d : Nat) (x : F) : PS.ev d 0 x = 0 := by
  induction d with
  | zero => rfl
  | succ d ih => rw [PS.ev, PS.tail_zero, ih, F.mul_zero]; rfl
theorem PS.ev_add (d : Nat) (p q : PS) (x : F) : PS.ev d (p + q) x = PS.ev d p x + PS.ev d q x := by
  induction d generalizing p q with
  | zero => exact (F.add_zero 0).symm
  | succ d ih => rw [PS.ev, PS.tail_add, ih, PS.add_at, F.mul_add, PS.ev, PS.ev]; ac_rfl
theorem PS.ev_sc (d : Nat) (a : F) (p : PS) (x : F) : PS.ev d (PS.sc a p) x = a * PS.ev d p x := by
  induction d generalizing p with
  | zero => exact (F.mul_zero _).symm
  | succ d ih => rw [PS.ev, PS.tail_sc, ih, PS.sc_at, PS.ev, F.mul_add, F.mul_left_comm]
theorem PS.ev_more {p : PS} {d : Nat} (hp : p.below d) (x : F) (d' : Nat) (h : d ≤ d') : PS.ev d' p x = PS.ev d p x := by
  induction d generalizing p d' with
  | zero => rw [PS.eq_zero_of_below hp, PS.ev_zero, PS.ev_zero]
  | succ d ih =>
    obtain ⟨d', rfl⟩ : ∃ k, d' = k + 1 := ⟨d' - 1, by omega⟩
    rw [PS.ev, PS.ev, ih hp.tail d' (by omega)]
theorem PS.ev_mul {p q : PS} {m n : Nat} (hp : p.below m) (hq : q.below n) (x : F) : PS.ev (m + n) (p * q) x = PS.ev m p x * PS.ev n q x := by
  induction m generalizing p with
  | zero => rw [PS.eq_zero_of_below hp, PS.zero_mul, PS.ev_zero, PS.ev_zero, F.zero_mul]
  | succ m ih =>
    have e : PS.ev n q x = q 0 + x * PS.ev (m + n) q.tail x := by
      rw [← PS.ev_more hq x (m + n + 1) (by omega), PS.ev]
    have e2 : PS.ev (m + 1 + n) (p * q) x = p 0 * q 0 + x * (PS.ev m p.tail x * PS.ev n q x + p 0 * PS.ev (m + n) q.tail x) := by
      rw [show m + 1 + n = (m + n) + 1 by omega, PS.ev, PS.tail_mul, PS.ev_add, ih hp.tail, PS.ev_sc, PS.mul_zero_at]
    have e3 : PS.ev (m + 1) p x = p 0 + x * PS.ev m p.tail x := by rw [PS.ev]
    rw [e2, e3, F.add_mul, F.mul_add, F.mul_left_comm x (p 0), F.mul_assoc, show p 0 * PS.ev n q x = p 0 * q 0 + p 0 * (x * PS.ev (m + n) q.tail x) by rw [e, F.mul_add]]
    ac_rfl
theorem PS.ev_C (a x : F) : PS.ev 1 (PS.C a) x = a := by
  show PS.C a 0 + x * 0 = a
  rw [F.mul_zero, F.add_zero]; rfl
theorem PS.ev_one (x : F) : PS.ev 1 1 x = 1 := PS.ev_C 1 x
theorem PS.ev_xa (a x : F) : PS.ev 2 (PS.xa a) x = x + a := by
  rw [PS.ev, PS.xa_tail, PS.ev_one, F.mul_one, F.add_comm]; rfl

/-- what is left of p behind a factor x + r -/
def PS.quo (d : Nat) (p : PS) (r : F) : PS := fun n => PS.ev d (fun i => p (i + n + 1)) r
theorem PS.quo_below {p : PS} {d : Nat} (hp : p.below (d + 1)) (r : F) : (PS.quo (d + 1) p r).below d := by
  intro n hn
  have : (fun i => p (i + n + 1)) = (0 : PS) := PS.ext fun i => hp _ (by omega)
  unfold PS.quo; rw [this, PS.ev_zero]
theorem PS.quo_mul {p : PS} {d : Nat} (hp : p.below d) (r : F) (h : PS.ev d p r = 0) : PS.xa r * PS.quo d p r = p := by
  have key : ∀ n, PS.ev d (fun i => p (i + n)) r = p n + r * PS.ev d (fun i => p (i + n + 1)) r := by
    intro n
    have hb : PS.below (fun i => p (i + n)) d := fun i hi => hp _ (by omega)
    rw [← PS.ev_more hb r (d + 1) (by omega), PS.ev]
    have e : PS.tail (fun i => p (i + n)) = (fun i => p (i + n + 1)) := PS.ext fun i => by
      show p (i + 1 + n) = p (i + n + 1)
      rw [show i + 1 + n = i + n + 1 by omega]
    rw [e, Nat.zero_add]
  apply PS.ext; intro n
  cases n with
  | zero =>
    rw [PS.xa_mul_zero]
    have := key 0
    rw [show (fun i => p (i + 0)) = p from rfl, h] at this
    exact (F.add_eq_zero.1 this.symm).symm
  | succ n =>
    rw [PS.xa_mul_succ]
    show PS.ev d (fun i => p (i + n + 1)) r + r * PS.ev d (fun i => p (i + (n + 1) + 1)) r = p (n + 1)
    have := key (n + 1)
    rw [show (fun i => p (i + (n + 1))) = (fun i => p (i + n + 1)) from rfl] at this
    rw [this, F.add_assoc, F.add_self, F.add_zero]
/-- the product of the x + r -/
def PS.lin : List F → PS
  | [] => 1
  | r :: rs => PS.xa r * PS.lin rs
theorem PS.lin_below : ∀ rs : List F, (PS.lin rs).below (rs.length + 1)
  | [] => PS.below_one
  | r :: rs => by
    have := (PS.below_xa r).mul (PS.lin_below rs)
    exact this.mono (by simp; omega)
theorem PS.lin_top : ∀ rs : List F, PS.lin rs rs.length = 1
  | [] => rfl
  | r :: rs => by
    have := PS.mul_top (m := 1) (n := rs.length) (PS.below_xa r) (PS.lin_below rs)
    show (PS.xa r * PS.lin rs) (rs.length + 1) = 1
    rw [Nat.add_comm, this, PS.lin_top rs, F.mul_one]; rfl
theorem PS.ev_lin : ∀ (rs : List F) (x : F), PS.ev (rs.length + 1) (PS.lin rs) x = rs.foldr (fun r v => (x + r) * v) 1
  | [], x => PS.ev_one x
  | r :: rs, x => by
    show PS.ev (rs.length + 1 + 1) (PS.xa r * PS.lin rs) x = (x + r) * rs.foldr (fun r v => (x + r) * v) 1
    rw [← PS.ev_lin rs x, ← PS.ev_xa, ← PS.ev_mul (PS.below_xa r) (PS.lin_below rs)]
    have hb := ((PS.below_xa r).mul (PS.lin_below rs))
    rw [PS.ev_more hb x (2 + (rs.length + 1)) (by omega), PS.ev_more hb x (rs.length + 1 + 1) (by omega)]
theorem PS.lin_root_iff (rs : List F) (x : F) : PS.ev (rs.length + 1) (PS.lin rs) x = 0 ↔ x ∈ rs := by
  rw [PS.ev_lin]
  induction rs with
  | nil => simp [F.one_ne_zero]
  | cons r rs ih =>
    rw [List.foldr_cons, F.mul_eq_zero, ih, F.add_eq_zero, List.mem_cons]
/-- roots split off -/
theorem PS.split_roots : ∀ (rs : List F), rs.Nodup → ∀ (p : PS) (d : Nat), p.below d → (∀ r, r ∈ rs → PS.ev d p r = 0) → ∃ q : PS, q.below (d - rs.length) ∧ PS.lin rs * q = p
  | [], _, p, d, hp, _ => ⟨p, hp, PS.one_mul p⟩
  | r :: rs, hn, p, d, hp, hr => by
    cases d with
    | zero => exact ⟨0, PS.below_zero _, by rw [PS.mul_zero, PS.eq_zero_of_below hp]⟩
    | succ d =>
      have hq := PS.quo_mul hp r (hr r (List.mem_cons_self ..))
      have hb := PS.quo_below hp r
      have hn' := List.nodup_cons.1 hn
      obtain ⟨q, hqb, hqe⟩ := PS.split_roots rs hn'.2 (PS.quo (d + 1) p r) d hb (by
        intro r' hr'
        have h1 := hr r' (List.mem_cons_of_mem _ hr')
        have hb2 := (PS.below_xa r).mul hb
        rw [hq] at hb2
        have h2 := PS.ev_mul (PS.below_xa r) hb r'
        rw [hq, PS.ev_more hp r' (2 + d) (by omega), h1, PS.ev_xa] at h2
        rcases F.mul_eq_zero.1 h2.symm with h3 | h3
        · exact absurd (F.add_eq_zero.1 h3) (fun e => hn'.1 (e ▸ hr'))
        · exact h3)
      refine ⟨q, hqb.mono (by simp), ?_⟩
      show PS.xa r * PS.lin rs * q = p
      rw [PS.mul_assoc, hqe, hq]
/-- a polynomial with as many roots as it may have coefficients is zero -/
theorem PS.zero_of_roots {rs : List F} (hn : rs.Nodup) {p : PS} {d : Nat} (hp : p.below d) (hr : ∀ r, r ∈ rs → PS.ev d p r = 0) (hd : d ≤ rs.length) : p = 0 := by
  obtain ⟨q, hq, rfl⟩ := PS.split_roots rs hn p d hp hr
  rw [PS.eq_zero_of_below (hq.mono (by omega)), PS.mul_zero]

/-- of a list of coefficients -/
def PS.of (l : List F) : PS := fun n => l.getD n 0
theorem PS.of_nil : PS.of [] = 0 := rfl
theorem PS.of_below (l : List F) : (PS.of l).below l.length := fun n hn => by
  simp [PS.of, List.getD_eq_getElem?_getD, List.getElem?_eq_none hn]
def evL (l : List F) (x : F) : F := PS.ev l.length (PS.of l) x
theorem evL_nil (x : F) : evL [] x = 0 := rfl
theorem evL_cons (a : F) (l : List F) (x : F) : evL (a :: l) x = a + x * evL l x := rfl
end FB
