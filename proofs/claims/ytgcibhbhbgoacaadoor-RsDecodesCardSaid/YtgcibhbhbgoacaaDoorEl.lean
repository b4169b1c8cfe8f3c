import Derived.Test.YtgcibhbhbgoacaaDoorG0
import Derived.Test.YtgcibhbhbgoacaaDoorG1
import Derived.Test.YtgcibhbhbgoacaaDoorG2
import Derived.Test.YtgcibhbhbgoacaaDoorTab
import Derived.Test.YtgcibhbhbgoacaaDoorLst
namespace Go.Proofs.YtgcibhbhbgoacaaDoor.G
open Go.RowKit Go.Proofs.YtgcibhbhbgoacaaDoorW.PrintWords FB

/-- an element as the machine's number -/
def zF (a : F) : Int := (a.n : Int)
theorem zF_lo (a : F) : 0 ≤ zF a := Int.natCast_nonneg _
theorem zF_hi (a : F) : zF a < 256 := by have := a.lt; unfold zF; omega
theorem zF_inj {a b : F} : zF a = zF b ↔ a = b := ⟨fun h => F.ext (by unfold zF at h; omega), fun h => h ▸ rfl⟩
theorem zF_zero : zF 0 = 0 := rfl
theorem zF_one : zF 1 = 1 := rfl
theorem zF_eq_zero {a : F} : zF a = 0 ↔ a = 0 := ⟨fun h => zF_inj.1 (h.trans zF_zero.symm), fun h => by rw [h]; rfl⟩
theorem zF_of {x : Int} (h0 : 0 ≤ x) (h1 : x < 256) : ∃ a : F, x = zF a := ⟨⟨x.toNat, by omega⟩, by unfold zF; show x = (x.toNat : Int); omega⟩
theorem xor_u8 (a b : Nat) (ha : a < 256) (hb : b < 256) : Go.bits .xor .u8 (a : Int) (b : Int) = ((a ^^^ b : Nat) : Int) := by
  have h : a ^^^ b < 256 := Nat.xor_lt_two_pow (n := 8) ha hb
  simp only [bits, BitVec.ofInt_natCast, BitVec.toNat_xor, BitVec.toNat_ofNat]
  rw [show IntKind.u8.bits = 8 from rfl, Nat.mod_eq_of_lt (show a < 2 ^ 8 by omega), Nat.mod_eq_of_lt (show b < 2 ^ 8 by omega), IntKind.wrap_u8]
  omega
theorem xor_i64 (a b : Nat) (ha : a < 65536) (hb : b < 65536) : Go.bits .xor .i64 (a : Int) (b : Int) = ((a ^^^ b : Nat) : Int) := by
  have h : a ^^^ b < 65536 := Nat.xor_lt_two_pow (n := 16) ha hb
  simp only [bits, BitVec.ofInt_natCast, BitVec.toNat_xor, BitVec.toNat_ofNat]
  rw [show IntKind.i64.bits = 64 from rfl, Nat.mod_eq_of_lt (show a < 2 ^ 64 by omega), Nat.mod_eq_of_lt (show b < 2 ^ 64 by omega), IntKind.wrap_i64]
  omega
theorem and_u8_one (b : Nat) (hb : b < 256) : Go.bits .and .u8 (b : Int) 1 = ((b % 2 : Nat) : Int) := by
  have := (bits_nat .u8 8 (by decide) wraps_u8 b 1 (by omega) (by omega)).1
  rw [show ((1 : Nat) : Int) = 1 from rfl] at this
  rw [this, show b &&& 1 = b % 2 from Nat.and_one_is_mod b]
theorem xor_zF (a b : F) : Go.bits .xor .u8 (zF a) (zF b) = zF (a + b) := xor_u8 a.n b.n a.lt b.lt

theorem power_at (n : Nat) (h : n < 255) : gf_power.f (n : Int) = some (zF (pw n)) := by
  unfold gf_power.f
  rw [if_pos (by omega), if_pos (by omega)]
  rfl
theorem log_none (a : F) (ha : a = 0) (n : Nat) (hn : n ≤ 255) (d : Nat) (hd : 255 - n ≤ d) : Ev (fun k => gf_Log.l0 k (zF a) (n : Int)) (0, false) := by
  induction d generalizing n with
  | zero => exact Ev.step (f := fun _ => some (0, false)) (fun k => by simp only [gf_Log.l0]; rw [if_neg (by omega)]) (Ev.now _)
  | succ d ih =>
    by_cases h : n < 255
    · refine Ev.step (f := fun k => gf_Log.l0 k (zF a) ((n + 1 : Nat) : Int)) (fun k => ?_) (ih (n + 1) (by omega) (by omega))
      simp only [gf_Log.l0]
      rw [if_pos (by omega), power_at n h, Option.bind_some, if_neg (by rw [zF_inj, ha]; exact pw_ne_zero n), show wrap64 ((n : Int) + 1) = ((n + 1 : Nat) : Int) by unfold wrap64; omega]
    · exact Ev.step (f := fun _ => some (0, false)) (fun k => by simp only [gf_Log.l0]; rw [if_neg (by omega)]) (Ev.now _)
theorem log_some (a : F) (ha : a ≠ 0) (n : Nat) (hn : n ≤ logOf a.n) (d : Nat) (hd : logOf a.n - n ≤ d) : Ev (fun k => gf_Log.l0 k (zF a) (n : Int)) ((logOf a.n : Int), true) := by
  have hl := logOf_lt a ha
  induction d generalizing n with
  | zero =>
    obtain rfl : n = logOf a.n := by omega
    refine Ev.step (f := fun _ => some ((logOf a.n : Int), true)) (fun k => ?_) (Ev.now _)
    simp only [gf_Log.l0]
    rw [if_pos (by omega), power_at _ hl, Option.bind_some, pw_logOf a ha, if_pos rfl]
  | succ d ih =>
    by_cases h : n = logOf a.n
    · subst h
      refine Ev.step (f := fun _ => some ((logOf a.n : Int), true)) (fun k => ?_) (Ev.now _)
      simp only [gf_Log.l0]
      rw [if_pos (by omega), power_at _ hl, Option.bind_some, pw_logOf a ha, if_pos rfl]
    · refine Ev.step (f := fun k => gf_Log.l0 k (zF a) ((n + 1 : Nat) : Int)) (fun k => ?_) (ih (n + 1) (by omega) (by omega))
      simp only [gf_Log.l0]
      have hne : ¬ zF (pw n) = zF a := by
        rw [zF_inj]
        intro e
        exact h (pw_inj (by omega) hl (e.trans (pw_logOf a ha).symm))
      rw [if_pos (by omega), power_at n (by omega), Option.bind_some, if_neg hne, show wrap64 ((n : Int) + 1) = ((n + 1 : Nat) : Int) by unfold wrap64; omega]
/-- Log -/
def logP (a : F) : Int × Bool := if a = 0 then (0, false) else ((logOf a.n : Int), true)
theorem log_ev (a : F) : Ev (fun k => gf_Log.f k (zF a)) (logP a) := by
  unfold logP
  by_cases h : a = 0
  · rw [if_pos h]; exact log_none a h 0 (by omega) 255 (by omega)
  · rw [if_neg h]; exact log_some a h 0 (by omega) 255 (by have := logOf_lt a h; omega)
/-- Inv -/
def invP (a : F) : Int × Bool := (zF (F.inv a), !decide (a = 0))
theorem inv_ev (a : F) : Ev (fun k => gf_Inv.f k (zF a)) (invP a) := by
  unfold invP
  by_cases h : a = 0
  · refine Ev.congr (f := fun _ => some (0, false)) (fun k => ?_) ?_
    · unfold gf_Inv.f; rw [if_pos (zF_eq_zero.2 h)]
    · subst h; exact Ev.now _
  · have hl := logOf_lt a h
    refine Ev.congr (f := fun k => (gf_Log.f k (zF a)).bind fun b => (gf_power.f (Int.tmod (wrap64 (255 - b.1)) 255)).bind fun t => some (t, true)) (fun k => ?_) ?_
    · unfold gf_Inv.f; rw [if_neg (fun e => h (zF_eq_zero.1 e))]
    · refine Ev.bind (log_ev a) ?_
      unfold logP; rw [if_neg h]
      refine Ev.congr (f := fun _ => some (zF (F.inv a), true)) (fun k => ?_) ?_
      · have e1 : wrap64 (255 - (logOf a.n : Int)) = ((255 - logOf a.n : Nat) : Int) := by unfold wrap64; omega
        have e2 : Int.tmod ((255 - logOf a.n : Nat) : Int) 255 = (((255 - logOf a.n) % 255 : Nat) : Int) := by
          rw [Int.tmod_eq_emod_of_nonneg (by omega)]; omega
        simp only [e1, e2]
        rw [power_at _ (Nat.mod_lt _ (by decide)), Option.bind_some, pw_mod, F.inv, if_neg h]
      · simp only [h, decide_false, Bool.not_false]; exact Ev.now _
/-- Exp -/
def expF (n : Int) : F := pw (n % 255).toNat
theorem exp_at (n : Int) (h : (Lit.int .i64 n).wf = true) : gf_Exp.f n = some (zF (expF n)) := by
  have hb : -9223372036854775808 ≤ n ∧ n ≤ 9223372036854775807 := by
    simpa [Lit.wf, IntKind.min, IntKind.max, IntKind.signed, IntKind.bits] using h
  have e0 : -255 < Int.tmod n 255 ∧ Int.tmod n 255 < 255 := ⟨by have := Int.lt_tmod_of_pos n (show (0 : Int) < 255 by decide); omega, Int.tmod_lt_of_pos n (by decide)⟩
  have e1 : wrap64 (Int.tmod n 255 + 255) = Int.tmod n 255 + 255 := by unfold wrap64; omega
  have e2 : Int.tmod (Int.tmod n 255 + 255) 255 = ((n % 255).toNat : Int) := by
    rw [Int.tmod_eq_emod_of_nonneg (by omega)]
    have h3 := Int.emod_nonneg n (show (255 : Int) ≠ 0 by decide)
    have h4 : Int.tmod n 255 % 255 = n % 255 := by
      have := Int.tmod_add_mul_tdiv n 255
      omega
    omega
  unfold gf_Exp.f
  rw [e1, e2, power_at _ (by have := Int.emod_lt_of_pos n (show (0 : Int) < 255 by decide); have h3 := Int.emod_nonneg n (show (255 : Int) ≠ 0 by decide); omega), Option.bind_some]
  rfl

theorem xt_z (a : F) : Go.bits .xor .u8 ((zF a * 2) % 256) ((29 * (zF a / 128)) % 256) = zF (xt a) := by
  have h : ∀ a : Nat, a < 256 → ((a * 2) % 256) ^^^ ((29 * (a / 128)) % 256) = xtn a := by decide +kernel
  have e1 : (zF a * 2) % 256 = (((a.n * 2) % 256 : Nat) : Int) := by unfold zF; omega
  have e2 : (29 * (zF a / 128)) % 256 = (((29 * (a.n / 128)) % 256 : Nat) : Int) := by unfold zF; omega
  rw [e1, e2, xor_u8 _ _ (Nat.mod_lt _ (by decide)) (Nat.mod_lt _ (by decide)), h a.n a.lt]; rfl
theorem mulA_zero_b : ∀ k (a o : F), mulA k a 0 o = o
  | 0, _, _ => rfl
  | k + 1, a, o => by unfold mulA; simpa using mulA_zero_b k (xt a) o
theorem mul_loop (k : Nat) : ∀ (a o : F) (b : Nat), b < 2 ^ k → b < 256 → Ev (fun j => gf_Mul.l0 j (zF a) (b : Int) (zF o)) (zF (mulA k a b o)) := by
  induction k with
  | zero =>
    intro a o b hb _
    obtain rfl : b = 0 := by simpa using hb
    exact Ev.step (f := fun _ => some (zF o)) (fun j => by simp only [gf_Mul.l0]; rw [if_neg (by omega)]) (Ev.now _)
  | succ k ih =>
    intro a o b hb hb2
    by_cases h0 : b = 0
    · subst h0
      rw [mulA_zero_b]
      exact Ev.step (f := fun _ => some (zF o)) (fun j => by simp only [gf_Mul.l0]; rw [if_neg (by omega)]) (Ev.now _)
    · refine Ev.step (f := fun j => gf_Mul.l0 j (zF (xt a)) ((b / 2 : Nat) : Int) (zF (if b % 2 = 1 then o + a else o))) (fun j => ?_) (ih (xt a) (if b % 2 = 1 then o + a else o) (b / 2) (by rw [Nat.pow_succ] at hb; omega) (by omega))
      simp only [gf_Mul.l0]
      rw [if_pos (by omega), xt_z, and_u8_one b hb2]
      have e : Go.bits .xor .u8 (zF o) ((zF a * ((b % 2 : Nat) : Int)) % 256) = zF (if b % 2 = 1 then o + a else o) := by
        rcases Nat.mod_two_eq_zero_or_one b with h | h
        · rw [h, if_neg (by decide)]
          have : (zF a * ((0 : Nat) : Int)) % 256 = zF 0 := by simp [zF_zero]
          rw [this, xor_zF, F.add_zero]
        · rw [h, if_pos rfl]
          have : (zF a * ((1 : Nat) : Int)) % 256 = zF a := by have := zF_lo a; have := zF_hi a; omega
          rw [this, xor_zF]
      rw [e, show (b : Int) / 2 = ((b / 2 : Nat) : Int) by omega]
/-- Mul -/
theorem mul_ev (a b : F) : Ev (fun k => gf_Mul.f k (zF a) (zF b)) (zF (a * b)) := mul_loop 8 a 0 b.n b.lt b.lt
/-- Add -/
theorem gfAdd_at (a b : F) : gf_Add.f (zF a) (zF b) = some (zF (a + b)) := by unfold gf_Add.f; rw [xor_zF]
end Go.Proofs.YtgcibhbhbgoacaaDoor.G
