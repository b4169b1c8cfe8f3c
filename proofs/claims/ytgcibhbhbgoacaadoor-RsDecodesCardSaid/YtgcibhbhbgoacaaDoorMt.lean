/- A matrix of bytes in memory: a row of slices, each in a block of its own. -/
import Derived.Test.YtgcibhbhbgoacaaDoorG0
import Derived.Test.YtgcibhbhbgoacaaDoorGs
namespace Go.Proofs.YtgcibhbhbgoacaaDoor
open FB Go.RowKit Go.Proofs.YtgcibhbhbgoacaaDoorW.PrintWords

theorem addr_inj {a : Addr} (_h : a.spot = none) {i j : Nat} (e : a.add i = a.add j) : i = j := by
  have := congrArg Addr.off e
  unfold Addr.add at this
  split at this <;> split at this <;> simp_all
theorem setCell_other {w : World} {a b : Addr} {v : Value} (h : a ≠ b) : (w.setCell a v).cell? b = w.cell? b := World.cell?_setCell_other _ _ _ _ h
theorem setCell_same {w : World} {a : Addr} {u v : Value} (h : w.cell? a = some u) : (w.setCell a v).cell? a = some v := World.cell?_setCell_same _ _ _ h
theorem thaw_setCell (w : World) (p : Addr) (v : Value) (a : Addr) : (w.setCell p v).frozen? a = w.frozen? a := by
  simp only [World.setCell, World.frozen?, Array.getElem?_modify]
  by_cases h : p.block = a.block
  · rw [if_pos h]
    cases w.heap[a.block]? with
    | none => rfl
    | some o => cases o <;> rfl
  · rw [if_neg h]
structure Mat (w : World) (ad : Addr) (bs : Nat → Addr) (cc : Nat → Nat) (n m : Nat) (M : Nat → Nat → Int) : Prop where
  hdr : ∀ i, i < n → w.cell? (ad.add i) = some (.slice (some (bs i)) m (cc i))
  cell : ∀ i j, i < n → j < m → w.cell? ((bs i).add j) = some (.int .u8 (M i j))
  spot : ad.spot = none
  spots : ∀ i, i < n → (bs i).spot = none
  ne : ∀ i, i < n → (bs i).block ≠ ad.block
  inj : ∀ i j, i < n → j < n → (bs i).block = (bs j).block → i = j
  thaw : ∀ a : Addr, (a.block = ad.block ∨ ∃ i, i < n ∧ a.block = (bs i).block) → w.frozen? a = false
theorem Mat.move {w w' : World} {ad : Addr} {bs : Nat → Addr} {cc : Nat → Nat} {n m : Nat} {M : Nat → Nat → Int} (h : Mat w ad bs cc n m M)
    (hk : ∀ a v, w.cell? a = some v → (a.block = ad.block ∨ ∃ i, i < n ∧ a.block = (bs i).block) → w'.cell? a = some v) (hf : ∀ a : Addr, (a.block = ad.block ∨ ∃ i, i < n ∧ a.block = (bs i).block) → w'.frozen? a = false) : Mat w' ad bs cc n m M :=
  { h with
    thaw := hf
    hdr := fun i hi => hk _ _ (h.hdr i hi) (.inl (add_block _ _))
    cell := fun i j hi hj => hk _ _ (h.cell i j hi hj) (.inr ⟨i, hi, add_block _ _⟩) }
def mput (M : Nat → Nat → Int) (i j : Nat) (v : Int) : Nat → Nat → Int := fun a b => if a = i ∧ b = j then v else M a b
theorem Mat.put {w : World} {ad : Addr} {bs : Nat → Addr} {cc : Nat → Nat} {n m : Nat} {M : Nat → Nat → Int} (h : Mat w ad bs cc n m M) {i j : Nat} (hi : i < n) (hj : j < m) (v : Int) :
    Mat (w.setCell ((bs i).add j) (.int .u8 v)) ad bs cc n m (mput M i j v) :=
  { h with
    thaw := fun a ha => by rw [thaw_setCell]; exact h.thaw a ha
    hdr := fun a ha => by
      rw [setCell_other (fun e => h.ne i hi (by have := congrArg Addr.block e; rwa [add_block, add_block] at this))]
      exact h.hdr a ha
    cell := fun a b ha hb => by
      unfold mput
      by_cases hab : a = i ∧ b = j
      · obtain ⟨rfl, rfl⟩ := hab
        rw [if_pos ⟨rfl, rfl⟩]
        exact setCell_same (h.cell a b ha hb)
      · rw [if_neg hab, setCell_other (fun e => hab ?_)]
        · exact h.cell a b ha hb
        · have hb1 := congrArg Addr.block e
          rw [add_block, add_block] at hb1
          have hai := h.inj i a hi ha hb1
          subst hai
          exact ⟨rfl, (addr_inj (h.spots i hi) e).symm⟩ }
theorem Mat.half {w : World} {ad : Addr} {bs : Nat → Addr} {cc : Nat → Nat} {n m : Nat} {M : Nat → Nat → Int} (h : Mat w ad bs cc n m M) {i k : Nat} (hi : i < n) (hk : k < n) :
    (w.setCell (ad.add i) (.slice (some (bs k)) m (cc k))).cell? (ad.add k) = some (.slice (some (bs k)) m (cc k)) := by
  by_cases e : i = k
  · subst e; exact setCell_same (h.hdr i hi)
  · rw [setCell_other (fun e2 => e (addr_inj h.spot e2))]; exact h.hdr k hk
theorem Mat.swap {w : World} {ad : Addr} {bs : Nat → Addr} {cc : Nat → Nat} {n m : Nat} {M : Nat → Nat → Int} (h : Mat w ad bs cc n m M) {i k : Nat} (hi : i < n) (hk : k < n) :
    Mat ((w.setCell (ad.add i) (.slice (some (bs k)) m (cc k))).setCell (ad.add k) (.slice (some (bs i)) m (cc i))) ad (fun a => bs (swp i k a)) (fun a => cc (swp i k a)) n m (fun a => M (swp i k a)) where
  thaw := fun a ha => by
    rw [thaw_setCell, thaw_setCell]
    refine h.thaw a (ha.imp id ?_)
    rintro ⟨j, hj, e⟩
    exact ⟨swp i k j, swp_lt hi hk hj, e⟩
  spot := h.spot
  spots := fun a ha => h.spots _ (swp_lt hi hk ha)
  ne := fun a ha => h.ne _ (swp_lt hi hk ha)
  inj := fun a b ha hb e => swp_inj (h.inj _ _ (swp_lt hi hk ha) (swp_lt hi hk hb) e)
  cell := fun a b ha hb => by
    have h1 := h.cell (swp i k a) b (swp_lt hi hk ha) hb
    rw [setCell_other (fun e => h.ne _ (swp_lt hi hk ha) (by have := congrArg Addr.block e; rw [add_block, add_block] at this; exact this.symm)),
      setCell_other (fun e => h.ne _ (swp_lt hi hk ha) (by have := congrArg Addr.block e; rw [add_block, add_block] at this; exact this.symm))]
    exact h1
  hdr := fun a ha => by
    have hik : (w.setCell (ad.add i) (.slice (some (bs k)) m (cc k))).cell? (ad.add k) = some (.slice (some (bs k)) m (cc k)) := by
      by_cases e : i = k
      · subst e; exact setCell_same (h.hdr i hi)
      · rw [setCell_other (fun e2 => e (addr_inj h.spot e2))]; exact h.hdr k hk
    by_cases hak : a = k
    · subst hak
      rw [setCell_same hik]
      unfold swp
      by_cases e : a = i
      · rw [if_pos e, e]
      · rw [if_neg e, if_pos rfl]
    · rw [setCell_other (fun e2 => hak (addr_inj h.spot e2).symm)]
      by_cases hai : a = i
      · subst hai
        rw [setCell_same (h.hdr a ha)]
        unfold swp; rw [if_pos rfl]
      · rw [setCell_other (fun e2 => hai (addr_inj h.spot e2).symm), h.hdr a ha]
        unfold swp; rw [if_neg hai, if_neg hak]
end Go.Proofs.YtgcibhbhbgoacaaDoor
