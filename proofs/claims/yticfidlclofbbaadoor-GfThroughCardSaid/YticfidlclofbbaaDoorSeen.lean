/- A variable of the call's own that is an array of 256 bools, in the words of the printed walks. -/
import Derived.Test.YticfidlclofbbaaDoorG0
namespace Go.Proofs.YticfidlclofbbaaDoor
open Go.RowKit Go.Proofs.YticfidlclofbbaaDoorW.PrintWords Go.Proofs.YticfidlclofbbaaDoorW.PrintMore
/-- the world w, and one block more: the array -/
def seenW (w : World) (sn : List Bool) : World := w.alloc (.cells (sn.map Value.bool).toArray 53)
theorem seenW_size (w : World) (sn : List Bool) : (seenW w sn).heap.size = w.heap.size + 1 := by unfold seenW; simp
theorem seenW_below (w : World) (sn : List Bool) : Below w.heap.size w (seenW w sn) := below_alloc (Below.refl _ _) _
theorem seenW_blk (w : World) (sn : List Bool) : (seenW w sn).heap[w.heap.size]? = some (.cells (sn.map Value.bool).toArray 53 (0, 0)) := heap_alloc_new w _
theorem seenW_cell (w : World) (sn : List Bool) (x : Int) (h0 : 0 ≤ x) (h1 : x < sn.length) : (seenW w sn).cell? ⟨w.heap.size, x.toNat, none⟩ = some (.bool (rdOf false sn x)) := by
  rw [blk_cell (seenW_blk w sn)]
  have h2 : x.toNat < sn.length := by omega
  simp [rdOf, List.getD_eq_getElem?_getD, h2]
theorem seen_cell {w W : World} {sn : List Bool} (hb : Below (seenW w sn).heap.size (seenW w sn) W) (x : Int) (h0 : 0 ≤ x) (h1 : x < sn.length) :
    W.cell? ⟨w.heap.size, x.toNat, none⟩ = some (.bool (rdOf false sn x)) ∧ W.frozen? ⟨w.heap.size, x.toNat, none⟩ = false := by
  have hlt : w.heap.size < (seenW w sn).heap.size := by rw [seenW_size]; omega
  refine ⟨(hb.cell (p := ⟨w.heap.size, x.toNat, none⟩) hlt).trans (seenW_cell w sn x h0 h1), ?_⟩
  exact blk_frozen ((hb.block _ hlt).trans (seenW_blk w sn)) _
theorem seen_store {w W : World} {sn : List Bool} (hb : Below (seenW w sn).heap.size (seenW w sn) W) (x : Nat) :
    Below (seenW w (sn.set x true)).heap.size (seenW w (sn.set x true)) (W.setCell ⟨w.heap.size, x, none⟩ (.bool true)) := by
  have hlt : w.heap.size < (seenW w sn).heap.size := by rw [seenW_size]; omega
  have hblk := blk_set ((hb.block _ hlt).trans (seenW_blk w sn)) x (.bool true)
  have hs := (Below.refl 0 W).setCell (p := ⟨w.heap.size, x, none⟩) (Nat.zero_le _) (.bool true)
  have h1 := seenW_below w sn
  have h2 := seenW_below w (sn.set x true)
  refine ⟨hs.os.trans (hb.os.trans (h1.os.trans h2.os.symm)), hs.tape.trans (hb.tape.trans (h1.tape.trans h2.tape.symm)), hs.output.trans (hb.output.trans (h1.output.trans h2.output.symm)), ?_, fun k hk => ?_⟩
  · rw [seenW_size, ← seenW_size w sn]; exact Nat.le_trans hb.size hs.size
  · rw [seenW_size] at hk
    by_cases e : k = w.heap.size
    · subst e
      rw [hblk, seenW_blk, List.map_set]
      simp
    · rw [Below.heap_setCell _ _ _ _ (by exact e)]
      have h2 := hb.block k (by rw [seenW_size]; omega)
      rw [h2]
      have h3 := (seenW_below w sn).block k (by omega)
      have h4 := (seenW_below w (sn.set x true)).block k (by omega)
      rw [h3, h4]
theorem seen_far {w W : World} (x : Nat) (v : Value) {a : Addr} (ha : a.block < w.heap.size) : (W.setCell ⟨w.heap.size, x, none⟩ v).cell? a = W.cell? a := by
  apply World.cell?_setCell_other
  intro e
  subst e
  simp at ha
theorem seen_V {w W : World} {B : Nat} {v : Value} {l : List Int} (x : Nat) (u : Value) (h : Kd.V (Kd.int .u8) 5 W B (fun k_ => (B ≤ k_)) v l) (hB : w.heap.size < B) :
    Kd.V (Kd.int .u8) 5 (W.setCell ⟨w.heap.size, x, none⟩ u) B (fun k_ => (B ≤ k_)) v l :=
  Kd.V_far h (fun k_ hk_ => by show k_ ≠ w.heap.size; omega) _
end Go.Proofs.YticfidlclofbbaaDoor
