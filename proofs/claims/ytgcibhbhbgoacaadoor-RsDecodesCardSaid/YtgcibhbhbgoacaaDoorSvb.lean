/- rs.solve: the words of its walk. -/
import Derived.Test.YtgcibhbhbgoacaaDoorCm
import Derived.Test.YtgcibhbhbgoacaaDoorMt
import Derived.Test.YtgcibhbhbgoacaaDoorSt
import Derived.StillTailTactics
import Derived.Deep.QuietTactic
import Derived.BigQuiet
import Derived.Deep.RegionHeld3
import Derived.Deep.DrawnRows
namespace Go.Proofs.YtgcibhbhbgoacaaDoor
open Go.Proofs.YtgcibhbhbgoacaaDoor.G FB
open Go.RowKit Go.Proofs.YtgcibhbhbgoacaaDoorW.PrintWords Go.Proofs.YtgcibhbhbgoacaaDoorW.PrintLast Go.Proofs.YtgcibhbhbgoacaaDoorW.PrintMore
set_option linter.unusedVariables false
set_option linter.unusedSimpArgs false

def zM (M : Nat → Nat → F) : Nat → Nat → Int := fun i j => zF (M i j)
/-- the pivot's row, counted from c, as the machine tells it -/
def pvI (n : Nat) (M : Nat → Nat → F) (c : Nat) : Int := idxNZ ((List.range (n - c)).map fun i => zF (M (c + i) c)) 0
theorem idxNZ_find (f : Nat → F) : ∀ (m s : Nat), idxNZ ((List.range' s m).map fun i => zF (f i)) s = match (List.range' s m).find? (fun i => decide (f i ≠ 0)) with | none => -1 | some p => (p : Int)
  | 0, s => rfl
  | m + 1, s => by
    rw [List.range'_succ, List.map_cons, idxNZ_cons, List.find?_cons]
    by_cases h : f s = 0
    · rw [if_pos (zF_eq_zero.2 h)]
      have := idxNZ_find f m (s + 1)
      simp only [h, ne_eq, not_true_eq_false, decide_false]
      rw [← this]; rfl
    · rw [if_neg (fun e => h (zF_eq_zero.1 e))]
      simp only [ne_eq, h, not_false_eq_true, decide_true]
theorem pvI_eq (n : Nat) (M : Nat → Nat → F) (c : Nat) : pvI n M c = match pvt n M c with | none => -1 | some p => (p : Int) := by
  have := idxNZ_find (fun i => M (c + i) c) (n - c) 0
  rw [← List.range_eq_range'] at this
  exact this
theorem solveM_neg {n : Nat} {M : Nat → Nat → F} {c : Nat} (hc : c < n) (h : pvt n M c = none) : solveM n (n - c) c M = none := by
  rw [show n - c = (n - c - 1) + 1 by omega]; unfold solveM; rw [h]
theorem solveM_pos {n : Nat} {M : Nat → Nat → F} {c p : Nat} (hc : c < n) (h : pvt n M c = some p) : solveM n (n - c) c M = solveM n (n - (c + 1)) (c + 1) (stepM M c p) := by
  rw [show n - c = (n - (c + 1)) + 1 by omega]
  conv => lhs; unfold solveM
  rw [h]
theorem Mat.drewN {w : World} {ad : Addr} {bs : Nat → Addr} {cc : Nat → Nat} {n m : Nat} {M : Nat → Nat → Int} (h : Mat w ad bs cc n m M) (k : Nat) : Mat (w.drewN k) ad bs cc n m M := ⟨h.hdr, h.cell, h.spot, h.spots, h.ne, h.inj, h.thaw⟩
theorem Mat.drew {w : World} {ad : Addr} {bs : Nat → Addr} {cc : Nat → Nat} {n m : Nat} {M : Nat → Nat → Int} (h : Mat w ad bs cc n m M) : Mat w.drew ad bs cc n m M := ⟨h.hdr, h.cell, h.spot, h.spots, h.ne, h.inj, h.thaw⟩
/-- row c times its pivot's inverse, as far as column k -/
def sclU (M : Nat → Nat → F) (c k : Nat) : Nat → Nat → F := fun a b => if a = c ∧ b < k then M c b * F.inv (M c c) else M a b
theorem sclU_zero (M : Nat → Nat → F) (c : Nat) : sclU M c 0 = M := by funext a b; unfold sclU; rw [if_neg (by omega)]
theorem sclU_put (M : Nat → Nat → F) (c k : Nat) : mput (zM (sclU M c k)) c k (zF (M c k * F.inv (M c c))) = zM (sclU M c (k + 1)) := by
  funext a b
  unfold mput zM sclU
  by_cases h : a = c ∧ b = k
  · obtain ⟨rfl, rfl⟩ := h
    rw [if_pos ⟨rfl, rfl⟩, if_pos ⟨rfl, by omega⟩]
  · rw [if_neg h]
    congr 1
    by_cases h2 : a = c ∧ b < k
    · rw [if_pos h2, if_pos ⟨h2.1, by omega⟩]
    · rw [if_neg h2, if_neg (fun h3 => by
        rcases Nat.lt_or_ge b k with h4 | h4
        · exact h2 ⟨h3.1, h4⟩
        · exact h ⟨h3.1, by omega⟩)]
theorem sclU_at (M : Nat → Nat → F) (c k : Nat) : sclU M c k c k = M c k := by unfold sclU; rw [if_neg (by omega)]
theorem Mat.congr {w : World} {ad : Addr} {bs : Nat → Addr} {cc : Nat → Nat} {n m : Nat} {M M' : Nat → Nat → Int} (h : Mat w ad bs cc n m M) (e : ∀ i j, i < n → j < m → M i j = M' i j) : Mat w ad bs cc n m M' :=
  { h with cell := fun i j hi hj => by rw [← e i j hi hj]; exact h.cell i j hi hj }
/-- the other rows plus a multiple of row c, as far as row r -/
def elmR (M : Nat → Nat → F) (c r : Nat) : Nat → Nat → F := fun a b => if a < r ∧ a ≠ c then M a b + M a c * M c b else M a b
/-- row r as far as column k -/
def elmK (M : Nat → Nat → F) (c r k : Nat) : Nat → Nat → F := fun a b => if a = r ∧ b < k then M r b + M r c * M c b else elmR M c r a b
theorem elmR_zero (M : Nat → Nat → F) (c : Nat) : elmR M c 0 = M := by funext a b; unfold elmR; rw [if_neg (by omega)]
theorem elmK_zero (M : Nat → Nat → F) (c r : Nat) : elmK M c r 0 = elmR M c r := by funext a b; unfold elmK; rw [if_neg (by omega)]
theorem elmR_row (M : Nat → Nat → F) (c r b : Nat) : elmR M c r r b = M r b := by unfold elmR; rw [if_neg (by omega)]
theorem elmK_at (M : Nat → Nat → F) (c r k : Nat) : elmK M c r k r k = M r k := by unfold elmK; rw [if_neg (by omega), elmR_row]
theorem elmK_c (M : Nat → Nat → F) (c r k b : Nat) (h : r ≠ c) : elmK M c r k c b = M c b := by unfold elmK elmR; rw [if_neg (fun e => h e.1.symm), if_neg (by omega)]
theorem elmK_put (M : Nat → Nat → F) (c r k : Nat) : mput (zM (elmK M c r k)) r k (zF (M r k + M r c * M c k)) = zM (elmK M c r (k + 1)) := by
  funext a b
  unfold mput zM elmK
  by_cases h : a = r ∧ b = k
  · obtain ⟨rfl, rfl⟩ := h
    rw [if_pos ⟨rfl, rfl⟩, if_pos ⟨rfl, by omega⟩]
  · rw [if_neg h]
    congr 1
    by_cases h2 : a = r ∧ b < k
    · rw [if_pos h2, if_pos ⟨h2.1, by omega⟩]
    · rw [if_neg h2, if_neg (fun h3 => by
        rcases Nat.lt_or_ge b k with h4 | h4
        · exact h2 ⟨h3.1, h4⟩
        · exact h ⟨h3.1, by omega⟩)]
theorem elmK_end (M : Nat → Nat → F) (c r m i j : Nat) (h : r ≠ c) (hj : j < m) : elmK M c r m i j = elmR M c (r + 1) i j := by
  unfold elmK elmR
  by_cases e : i = r
  · subst e; rw [if_pos ⟨rfl, hj⟩, if_pos ⟨by omega, h⟩]
  · rw [if_neg (fun e2 => e e2.1)]
    by_cases h2 : i < r ∧ i ≠ c
    · rw [if_pos h2, if_pos ⟨by omega, h2.2⟩]
    · rw [if_neg h2, if_neg (fun h3 => h2 ⟨by omega, h3.2⟩)]
theorem elmR_skip (M : Nat → Nat → F) (c r i j : Nat) (h : r = c ∨ M r c = 0) : elmR M c r i j = elmR M c (r + 1) i j := by
  unfold elmR
  by_cases h2 : i < r ∧ i ≠ c
  · rw [if_pos h2, if_pos ⟨by omega, h2.2⟩]
  · rw [if_neg h2]
    by_cases h3 : i < r + 1 ∧ i ≠ c
    · obtain rfl : i = r := by omega
      rw [if_pos h3, (h.resolve_left h3.2), F.zero_mul, F.add_zero]
    · rw [if_neg h3]
theorem elmR_end (M : Nat → Nat → F) (c n i j : Nat) (hi : i < n) : elmR M c n i j = elm M c i j := by
  unfold elmR elm
  by_cases h : i = c
  · subst h; rw [if_neg (by omega), if_pos rfl]
  · rw [if_pos ⟨hi, h⟩, if_neg h]
theorem sclU_end (M : Nat → Nat → F) (c m i j : Nat) (hj : j < m) : sclU M c m i j = scl M c i j := by
  unfold sclU scl
  by_cases h : i = c
  · rw [if_pos ⟨h, hj⟩, if_pos h]
  · rw [if_neg (fun e => h e.1), if_neg h]
theorem TabW.kept {w w' : World} {S : Nat → Prop} (h : TabW w) (hk : Kept w w' S) (hs : ∀ k, S k → 2 ≤ k) : TabW w' := by
  have hsz := h.size
  have key : ∀ a : Addr, a.block < 2 → ∀ v, w.cell? a = some v → w'.cell? a = some v := fun a ha v hv => cell_kept hv hk (fun hS => by have := hs _ hS; omega)
  exact ⟨fun i hi => key _ (by show 0 < 2; omega) _ (h.low i hi), fun i hi => key _ (by show 1 < 2; omega) _ (h.high i hi), by have := hk.1; omega⟩
/-- beside what Kept says: nothing before w0 has turned -/
structure KB (w0 w w' : World) (S : Nat → Prop) : Prop where
  kept : Kept w w' S
  bel : Below w0.heap.size w0 w'
  le : w0.heap.size ≤ w.heap.size
  lo : ∀ k, S k → w0.heap.size ≤ k
section
variable {w0 w w' : World} {S : Nat → Prop}
theorem KB.alloc (h : KB w0 w w' S) (o : Obj) : KB w0 w (w'.alloc o) S := ⟨h.kept.alloc o, below_alloc h.bel o, h.le, h.lo⟩
theorem KB.drew (h : KB w0 w w' S) : KB w0 w w'.drew S := ⟨h.kept.drew, below_drew h.bel, h.le, h.lo⟩
theorem KB.drewN (h : KB w0 w w' S) (m : Nat) : KB w0 w (w'.drewN m) S := ⟨h.kept.drewN m, pw_below_drewN h.bel m, h.le, h.lo⟩
theorem KB.setCell (h : KB w0 w w' S) {p : Addr} (hp : S p.block ∨ w.heap.size ≤ p.block) (u : Value) : KB w0 w (w'.setCell p u) S :=
  ⟨h.kept.setCell hp u, h.bel.setCell (hp.elim (h.lo _) (fun h2 => Nat.le_trans h.le h2)) u, h.le, h.lo⟩
theorem KB.of_grown {row : Option Nat} {W2 : World} (hg : w'.grownBy W2 row) (h : KB w0 w w' S) (hr : ∀ k, row = some k → S k ∨ w.heap.size ≤ k) : KB w0 w W2 S :=
  ⟨Kept.of_grown hg h.kept hr, h.bel.grown hg h.bel.size (fun k hk => (hr k hk).elim (h.lo k) (fun h2 => Nat.le_trans h.le h2)), h.le, h.lo⟩
end
end Go.Proofs.YtgcibhbhbgoacaaDoor
