import Derived.Test.YtgcibhbhbgoacaaDoorG0
import Derived.Test.YtgcibhbhbgoacaaDoorFld
namespace Go.Proofs.YtgcibhbhbgoacaaDoor
open Go.RowKit Go.Proofs.YtgcibhbhbgoacaaDoorW.PrintWords
def powT (n : Nat) : Int := (FB.pw n).n
/-- the tables lie as the program's text lays them -/
structure TabW (w : World) : Prop where
  low : ∀ i, i < 128 → w.cell? ⟨0, i, none⟩ = some (.int .u8 (powT i))
  high : ∀ i, i < 127 → w.cell? ⟨1, i, none⟩ = some (.int .u8 (powT (i + 128)))
  size : 2 ≤ w.heap.size
theorem TabW.below {w w' : World} (h : TabW w) (hb : Below w.heap.size w w') : TabW w' :=
  ⟨fun i hi => (hb.cell (p := ⟨0, i, none⟩) (by have := h.size; show 0 < _; omega)).trans (h.low i hi),
   fun i hi => (hb.cell (p := ⟨1, i, none⟩) (by have := h.size; show 1 < _; omega)).trans (h.high i hi),
   Nat.le_trans h.size hb.size⟩
theorem TabW.drewN {w : World} (h : TabW w) (n : Nat) : TabW (w.drewN n) := h.below (pw_below_drewN (Below.refl _ _) n)
theorem TabW.drew {w : World} (h : TabW w) : TabW w.drew := h.below (below_drew (Below.refl _ _))
theorem TabW.alloc {w : World} (h : TabW w) (o : Obj) : TabW (w.alloc o) := h.below (below_alloc (Below.refl _ _) o)
def gf_power.f (a0 : Int) : Option Int := if 0 ≤ a0 then (if a0 < 255 then some (powT a0.toNat) else none) else none
theorem gf_power.calls (a0 : Int) (r : Int) (w : World) (h : gf_power.f a0 = some r) (ht : TabW w) :
    Calls Tryd.prog 59 #[.int .i64 a0] w fun e w' => e = .returned (.int .u8 r) ∧ Drawn0 w w' := by
  unfold gf_power.f at h
  by_cases h0 : 0 ≤ a0
  · rw [if_pos h0] at h
    by_cases h1 : a0 < 255
    · rw [if_pos h1] at h
      obtain rfl := Option.some.inj h
      by_cases h2 : a0 < 128
      · have hc := ht.low a0.toNat (by omega)
        have hlt : a0.toNat < 128 := by omega
        clear ht h
        go_enter Tryd.func59, Tryd.ntmps59
        go_wp2
        go_ret
        exact ⟨rfl, Drawn0.refl _⟩
      · have hc := ht.high (a0 - 128).toNat (by omega)
        rw [show (a0 - 128).toNat + 128 = a0.toNat by omega] at hc
        clear ht h
        go_enter Tryd.func59, Tryd.ntmps59
        go_wp2
        go_ret
        exact ⟨rfl, Drawn0.refl _⟩
    · rw [if_neg h1] at h; cases h
  · rw [if_neg h0] at h; cases h
end Go.Proofs.YtgcibhbhbgoacaaDoor
