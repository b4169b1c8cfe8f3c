/- An argument that is a slice of spots (structs of two bytes and a bool), opened to what the walk asks. -/
import Derived.Test.YtgcibhbhbgoacaaDoorSp
import Derived.Deep.Slices
import Derived.Deep.Fields
import Derived.ChangeSame
namespace Go.Proofs.YtgcibhbhbgoacaaDoor
open Go.Proofs.YtgcibhbhbgoacaaDoor.Sp Go.Proofs.YtgcibhbhbgoacaaDoorW.PrintWords
open Go.RowKit Go.ChangeShapes Go.WideShapes Go.Deep
theorem cells3 {cs : List Value} (h : cs.length = 3) : ∃ x y z, cs = [x, y, z] := by
  match cs, h with
  | [x, y, z], _ => exact ⟨x, y, z, rfl⟩
theorem open_spots {H : Type} {enc : TypeId × Value → H} {P : Program} {w : World} {base : Nat} {spare : Nat → Bool} {held : Bool} {t e : TypeId} {f0 f1 f2 : Field} {fuel : Nat} {cs : List Value} {x : DataW H × List MemPlace}
    (ht : P.underlying t = some (.slice e)) (he : P.underlying e = some (.struct #[f0, f1, f2])) (hC : P.cellsOf e = 3) (o0 : f0.offset = 0) (o1 : f1.offset = 1) (o2 : f2.offset = 2) (z0 : P.cellsOf f0.type = 1) (z1 : P.cellsOf f1.type = 1) (z2 : P.cellsOf f2.type = 1)
    (u0 : P.underlying f0.type = some (.int .u8)) (u1 : P.underlying f1.type = some (.int .u8)) (u2 : P.underlying f2.type = some .bool) (h : DataW.trod enc P w base spare held fuel t cs = some x) :
    ∃ (A : Option Addr) (cap : Nat) (zs : List S75), cs = [.slice A zs.length cap] ∧ zs.length ≤ cap ∧ Kd.C k75 w A zs.length zs ∧ ∀ s ∈ zs, (Lit.int .u8 s.f0).wf = true ∧ (Lit.int .u8 s.f1).wf = true := by
  rcases open_slice ht h with ⟨rfl, _⟩ | ⟨a, len, cap, m, n, D, Pl, rfl, hb, hl, hm, hmm, hx, hi⟩
  · exact ⟨none, 0, [], rfl, Nat.le_refl _, ⟨rfl, by decide, fun hh => absurd hh (by decide)⟩, fun s hs => (by cases hs)⟩
  · have hlm : len ≤ m := by rw [hmm]; split <;> omega
    have each : ∀ i, ∃ s : S75, i < len → (∀ (j : Nat) (u : Value), [Value.int .u8 s.f0, .int .u8 s.f1, .bool s.f2][j]? = some u → w.cell? (a.add (i * 3 + j)) = some u) ∧ (Lit.int .u8 s.f0).wf = true ∧ (Lit.int .u8 s.f1).wf = true := by
      intro i
      by_cases hil : i < len
      · obtain ⟨cs', hc, ht'⟩ := hi i (by omega)
        rw [hC] at hc
        obtain ⟨ys, n', hn', hy, hlen, hyl, hf⟩ := DataW.trod_struct he ht'
        obtain ⟨_, hcl, hat⟩ := World.cells?_some hc
        obtain ⟨c0, c1, c2, rfl⟩ := cells3 (hlen.trans hC)
        have hyl3 : ys.length = 3 := hyl
        have g0 := hf 0 f0 rfl
        have g1 := hf 1 f1 rfl
        have g2 := hf 2 f2 rfl
        rw [o0, z0, List.getElem?_eq_getElem (by omega)] at g0
        rw [o1, z1, List.getElem?_eq_getElem (by omega)] at g1
        rw [o2, z2, List.getElem?_eq_getElem (by omega)] at g2
        obtain ⟨x0, e0, _, q0⟩ := DataW.trod_int u0 g0
        obtain ⟨x1, e1, _, q1⟩ := DataW.trod_int u1 g1
        obtain ⟨x2, e2, _⟩ := DataW.trod_bool u2 g2
        have e0' : c0 = .int .u8 x0 := by simpa using e0
        have e1' : c1 = .int .u8 x1 := by simpa using e1
        have e2' : c2 = .bool x2 := by simpa using e2
        subst e0' e1' e2'
        refine ⟨⟨x0, x1, x2⟩, fun _ => ⟨fun j u hu => ?_, q0, q1⟩⟩
        have hj : j < 3 := by
          have := (List.getElem?_eq_some_iff.1 hu).1
          simpa using this
        rw [← Go.Deep.add_add, hat j hj]
        exact hu
      · exact ⟨z75, fun hh => absurd hh hil⟩
    have hch : ∀ i, i < len → _ := fun i hi2 => (Classical.choose_spec (each i)) hi2
    refine ⟨some a, cap, (List.range len).map fun i => Classical.choose (each i), by simp, by simpa using hl, ?_, fun s hs => ?_⟩
    · refine ⟨by simp, by rw [List.length_map, List.length_range]; exact Nat.le_trans hl (Nat.le_trans hm (by decide)), fun _ => ⟨a, rfl, fun j p hp => ?_⟩⟩
      have hj : j < len := by
        have := (List.getElem?_eq_some_iff.1 hp).1
        simpa using this
      rw [List.getElem?_map, List.getElem?_range hj] at hp
      obtain rfl := Option.some.inj hp
      exact ⟨_, rfl, k75_mk w _, fun i u hu => (hch j hj).1 i u hu⟩
    · obtain ⟨i, hi2, rfl⟩ := List.mem_map.1 hs
      rw [List.mem_range] at hi2
      exact (hch i hi2).2
end Go.Proofs.YtgcibhbhbgoacaaDoor
