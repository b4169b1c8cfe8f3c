import Derived.Below
import Derived.Deep.Draws
import Derived.Deep.AppendLies
import Derived.Maps.AppendAt
import Derived.OwnWalk
import Derived.Laws.BytesArg
import Derived.Laws.MakeOwn
import Derived.Laws.OwnMore
import Derived.Deep.OwnRows
import Derived.Tactics
import Derived.Lib.ConvBytes
import Derived.Laws.Slices
import Derived.WalkKit
import Derived.KernelRfl
import Derived.RowKit3
import Derived.Deep.LoopGhost
import Derived.Deep.QuietTactic
import Derived.BigQuiet
import Derived.WideLaws
import Derived.Deep.DeepCutAuto
import Derived.Deep.CutBlock
import Derived.Deep.RegionHeld3
import Derived.Laws.Rows
import Derived.Lib.AppendStr
import Derived.ArgAppend
import Derived.Laws.IdiomCopy
import Derived.OrdersHeld
import Derived.Laws.BitsLemmas
import Derived.RowKit
import Derived.Test.YtgcibhbhbgoacaaDoorTl
import Derived.Test.YtgcibhbhbgoacaaDoorG0
import Derived.Test.YtgcibhbhbgoacaaDoorG1
import Derived.Test.YtgcibhbhbgoacaaDoorTab
import Derived.Test.YtgcibhbhbgoacaaDoorProg
import Derived.Test.YtgcibhbhbgoacaaDoorWWords
import Derived.Test.YtgcibhbhbgoacaaDoorWLast
import Derived.Test.YtgcibhbhbgoacaaDoorWTab
import Derived.Test.YtgcibhbhbgoacaaDoorWApart
import Derived.Test.YtgcibhbhbgoacaaDoorWKept
import Derived.Test.YtgcibhbhbgoacaaDoorWShare
import Derived.Test.YtgcibhbhbgoacaaDoorWRepsOne
import Derived.Test.YtgcibhbhbgoacaaDoorWMore
import Derived.Test.YtgcibhbhbgoacaaDoorG2
namespace Go.Proofs.YtgcibhbhbgoacaaDoor
open Go.Proofs.YtgcibhbhbgoacaaDoor.G
open Go.RowKit Go.Proofs.YtgcibhbhbgoacaaDoorW.PrintWords Go.Proofs.YtgcibhbhbgoacaaDoorW.PrintLast Go.Proofs.YtgcibhbhbgoacaaDoorW.PrintMore
/-- a row that is read -/
def Rd (w : World) (v : Value) (xs : List Int) : Prop := ∃ A c, v = .slice A xs.length c ∧ xs.length ≤ c ∧ Kd.C (Kd.int .u8) w A xs.length xs
/-- a row of the call's own, in a block between lo and hi -/
def Rw (w0 w : World) (lo hi : Nat) (v : Value) (xs : List Int) : Prop := Kd.R (Kd.int .u8) 5 w w0.heap.size (fun k => lo ≤ k ∧ k < hi) v xs
/-- a marked row, in a block between lo and hi -/
def Tr (w0 w : World) (lo hi : Nat) (v : Value) (xs : List Int) : Prop := Tl w w0.heap.size (fun k => lo ≤ k ∧ k < hi) marks v xs
set_option linter.unusedVariables false
section
variable {w0 w w1 : World} {lo hi lo2 hi2 nb base : Nat} {v u : Value} {xs ys : List Int} {ok S : Nat → Prop}
theorem Rd.of_R (h : Kd.R (Kd.int .u8) 5 w base ok v xs) : Rd w v xs := by
  obtain ⟨A, c, rfl⟩ := Kd.R_slice h
  exact ⟨A, c, rfl, (Kd.R_reads' h).2.1, (Kd.R_reads' h).2.2⟩
theorem Rw.rd (h : Rw w0 w lo hi v xs) : Rd w v xs := Rd.of_R h
theorem Tr.rd (h : Tr w0 w lo hi v xs) : Rd w v xs := Rd.of_R (Tl.R h)
theorem Rd.below (h : Rd w v xs) (hb : Below w.heap.size w w1) : Rd w1 v xs := by
  obtain ⟨A, c, rfl, hc, hC⟩ := h
  exact ⟨A, c, rfl, hc, Kd.C_below hC hb⟩
theorem Rw.below (h : Rw w0 w lo hi v xs) (hb : Below w.heap.size w w1) : Rw w0 w1 lo hi v xs := Kd.R_below h hb
theorem Tr.below (h : Tr w0 w lo hi v xs) (hb : Below w.heap.size w w1) : Tr w0 w1 lo hi v xs := Tl.below h hb
theorem Rw.kept (h : Rw w0 w lo hi v xs) (hk : Kept w w1 S) (hs : ∀ k, S k → k < lo ∨ hi ≤ k) : Rw w0 w1 lo hi v xs := Kd.R_kept h hk fun k hk2 hS => by have := hs k hS; omega
theorem Tr.kept (h : Tr w0 w lo hi v xs) (hk : Kept w w1 S) (hs : ∀ k, S k → k < lo ∨ hi ≤ k) : Tr w0 w1 lo hi v xs := Tl.kept h hk fun k hk2 hS => by have := hs k hS; omega
theorem Tl.lower {base2 : Nat} {tl : List Int} (h : Tl w base ok tl v xs) (hb : base2 ≤ base) : Tl w base2 ok tl v xs := by
  obtain ⟨A, c, rfl, hl, hR⟩ := h
  exact ⟨A, c, rfl, hl, Kd.R_lower hR hb⟩
theorem Tr.of_new (h : Tl w1 w.heap.size (fun _ => True) marks v xs) (hb : Below w.heap.size w w1) (h0 : w0.heap.size ≤ w.heap.size) (hn : nb ≤ w.heap.size) : ∃ nb2, nb ≤ nb2 ∧ nb2 ≤ w1.heap.size ∧ Tr w0 w1 nb nb2 v xs :=
  ⟨w1.heap.size, Nat.le_trans hn hb.size, Nat.le_refl _, Tl.lower (h.map fun _ _ _ hR => Kd.R_mono (Kd.R_bound hR) fun k hk => ⟨Nat.le_trans hn hk.2.1, hk.2.2.1⟩) h0⟩
theorem mark_w (k : Nat) (r : List Int) (hd : Rd w u xs) (h : Re.fareboxlaw34_marked.f k xs = some r) (h0 : w0.heap.size ≤ w.heap.size) (hn : nb ≤ w.heap.size) :
    Calls Tryd.prog 12 #[u] w fun e w' => ∃ v nb2, e = .returned v ∧ Below w.heap.size w w' ∧ nb ≤ nb2 ∧ nb2 ≤ w'.heap.size ∧ Tr w0 w' nb nb2 v r := by
  obtain ⟨A, c, rfl, hc, hC⟩ := hd
  refine (fareboxlaw34_marked.full k A c xs r w hC hc h).mono fun e w' ⟨v, he, ho, hb⟩ => ?_
  obtain ⟨nb2, h1, h2, h3⟩ := Tr.of_new ho hb h0 hn
  exact ⟨v, nb2, he, hb, h1, h2, h3⟩
theorem same_w (k : Nat) (r : Bool) (ha : Rd w v xs) (hb : Rd w u ys) (h : fareboxlaw34_same.f k xs ys = some r) :
    Calls Tryd.prog 11 #[v, u] w fun e w' => e = .returned (.bool r) ∧ Below w.heap.size w w' := by
  obtain ⟨A, c, rfl, hc, hC⟩ := ha
  obtain ⟨B, d, rfl, hd, hD⟩ := hb
  exact (fareboxlaw34_same.calls k A c xs B d ys r w hC hc hD hd h).mono fun e w' ⟨he, hb⟩ => ⟨he, hb.below⟩
theorem left_w (k : Nat) (r : Bool) (ha : Tr w0 w lo hi v xs) (hb : Rd w u ys) (hl : ys.length = xs.length) (hbd : xs.length ≤ 140737488351232) (h : fareboxlaw34_same.f k xs ys = some r) :
    Calls Tryd.prog 15 #[v, u] w fun e w' => e = .returned (.bool r) ∧ Below w.heap.size w w' := by
  obtain ⟨B, d, rfl, hd, hD⟩ := hb
  exact (fareboxlaw34_left.full k v xs ys B d _ _ r w ha hD hd hl hbd h).mono fun e w' ⟨he, hb⟩ => ⟨he, hb.below⟩
end
end Go.Proofs.YtgcibhbhbgoacaaDoor

namespace Go.Proofs.YtgcibhbhbgoacaaDoor
open Go.Proofs.YtgcibhbhbgoacaaDoor.G
open Go.RowKit Go.Proofs.YtgcibhbhbgoacaaDoorW.PrintWords Go.Proofs.YtgcibhbhbgoacaaDoorW.PrintLast Go.Proofs.YtgcibhbhbgoacaaDoorW.PrintMore
set_option linter.unusedVariables false
set_option linter.unusedSimpArgs false
end Go.Proofs.YtgcibhbhbgoacaaDoor

namespace Go.Proofs.YtgcibhbhbgoacaaDoor
open Go.Proofs.YtgcibhbhbgoacaaDoor.G
open Go.RowKit Go.Proofs.YtgcibhbhbgoacaaDoorW.PrintWords Go.Proofs.YtgcibhbhbgoacaaDoorW.PrintLast Go.Proofs.YtgcibhbhbgoacaaDoorW.PrintMore
set_option linter.unusedVariables false
set_option linter.unusedSimpArgs false
end Go.Proofs.YtgcibhbhbgoacaaDoor
