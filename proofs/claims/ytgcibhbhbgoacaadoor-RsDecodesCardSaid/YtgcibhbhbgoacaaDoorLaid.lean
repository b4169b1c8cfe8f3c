import Derived.Test.YtgcibhbhbgoacaaDoorRows
import Derived.Test.YtgcibhbhbgoacaaDoorTab
import Derived.Lib.LaidTab
import Derived.LaidMore
import Derived.Stop.Joined
import Derived.Stop.LaidErr
import Derived.ProofKit
namespace Go.Proofs.YtgcibhbhbgoacaaDoor
open Go.RowKit

def lowZ : List Int := ((FB.expList 255 1).take 128).map Int.ofNat
def highZ : List Int := ((FB.expList 255 1).drop 128).map Int.ofNat
theorem low_data : (Rows.laid_farebox_gf_low : DataW Unit) = Lib.tabData .u8 lowZ := by kernel_rfl
theorem high_data : (Rows.laid_farebox_gf_high : DataW Unit) = Lib.tabData .u8 highZ := by kernel_rfl
theorem gLow : Tryd.prog.globalNamed "farebox/gf.low" = some 0 := by kernel_rfl
theorem gHigh : Tryd.prog.globalNamed "farebox/gf.high" = some 1 := by kernel_rfl
theorem lowZ_at (i : Nat) (h : i < 128) : lowZ.getD i 0 = powT i := by
  have := FB.pw_n i (by omega)
  simp [lowZ, List.getD_eq_getElem?_getD, List.getElem?_map, h, this, powT]
theorem highZ_at (i : Nat) (h : i < 127) : highZ.getD i 0 = powT (i + 128) := by
  have := FB.pw_n (128 + i) (by omega)
  rw [Nat.add_comm i 128]
  simp [highZ, List.getD_eq_getElem?_getD, List.getElem?_map, List.getElem?_drop, this, powT]
theorem tab_of_laid {W : World} (h : laidMetH Tryd.prog [("farebox/gf.low", Rows.laid_farebox_gf_low), ("farebox/gf.high", Rows.laid_farebox_gf_high)] W) : TabW W := by
  rw [MakeChecks.laidMetH_plain _ _ _ (by kernel_rfl)] at h
  have h2 := laidMet.tail h
  rw [low_data] at h
  rw [high_data] at h2
  have t1 := Lib.tabIs_of_head gLow (show (Tryd.prog.globals[0]?).map (·.type) = some 92 by kernel_rfl) Tryd.underlying92 Tryd.underlying5 (by kernel_rfl) (by kernel_rfl) h
  have t2 := Lib.tabIs_of_head gHigh (show (Tryd.prog.globals[1]?).map (·.type) = some 93 by kernel_rfl) Tryd.underlying93 Tryd.underlying5 (by kernel_rfl) (by kernel_rfl) h2
  have l1 : lowZ.length = 128 := by decide +kernel
  have l2 : highZ.length = 127 := by decide +kernel
  have c1 : ∀ i, i < 128 → W.cell? ⟨0, i, none⟩ = some (.int .u8 (powT i)) := fun i hi => by rw [t1.cell gLow i (by rw [l1]; exact hi), lowZ_at i hi]
  have c2 : ∀ i, i < 127 → W.cell? ⟨1, i, none⟩ = some (.int .u8 (powT (i + 128))) := fun i hi => by rw [t2.cell gHigh i (by rw [l2]; exact hi), highZ_at i hi]
  exact ⟨c1, c2, World.block_lt_of_cell? W ⟨1, 0, none⟩ (c2 0 (by omega))⟩
end Go.Proofs.YtgcibhbhbgoacaaDoor
