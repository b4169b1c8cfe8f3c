import Derived.Test.YtgcibhbhbgoacaaDoorVa
import Derived.Test.YtgcibhbhbgoacaaDoorRe
import Derived.Below
import Derived.Deep.Draws
import Derived.Deep.AppendLies
import Derived.Maps.AppendAt
import Derived.OwnWalk
import Derived.Laws.BytesArg
import Derived.Laws.MakeOwn
import Derived.Laws.OwnMore
import Derived.Deep.OwnRows
import Derived.Tactics
import Derived.Lib.ConvBytes
import Derived.Laws.Slices
import Derived.WalkKit
import Derived.KernelRfl
import Derived.RowKit3
import Derived.Deep.LoopGhost
import Derived.Deep.QuietTactic
import Derived.BigQuiet
import Derived.WideLaws
import Derived.Deep.DeepCutAuto
import Derived.Deep.CutBlock
import Derived.Deep.RegionHeld3
import Derived.Laws.Rows
import Derived.Lib.AppendStr
import Derived.ArgAppend
import Derived.Laws.IdiomCopy
import Derived.OrdersHeld
import Derived.Laws.BitsLemmas
import Derived.RowKit
import Derived.Test.YtgcibhbhbgoacaaDoorLqe
import Derived.Test.YtgcibhbhbgoacaaDoorG0
import Derived.Test.YtgcibhbhbgoacaaDoorG1
import Derived.Test.YtgcibhbhbgoacaaDoorTab
import Derived.Test.YtgcibhbhbgoacaaDoorProg
import Derived.Test.YtgcibhbhbgoacaaDoorWWords
import Derived.Test.YtgcibhbhbgoacaaDoorWLast
import Derived.Test.YtgcibhbhbgoacaaDoorWTab
import Derived.Test.YtgcibhbhbgoacaaDoorWApart
import Derived.Test.YtgcibhbhbgoacaaDoorWKept
import Derived.Test.YtgcibhbhbgoacaaDoorWShare
import Derived.Test.YtgcibhbhbgoacaaDoorWRepsOne
import Derived.Test.YtgcibhbhbgoacaaDoorWMore
import Derived.Test.YtgcibhbhbgoacaaDoorG2
/- The document's answer (fareboxref32: Mul, Exp, Short, Times, PolyMul): what it answers, in the field of 256. -/
namespace Go.Proofs.YtgcibhbhbgoacaaDoor
open Go.Proofs.YtgcibhbhbgoacaaDoor.G Go.Proofs.YtgcibhbhbgoacaaDoor.Re FB
open Go.RowKit Go.Proofs.YtgcibhbhbgoacaaDoorW.PrintWords
set_option linter.unusedVariables false
set_option linter.unusedSimpArgs false
theorem xt_i64 (a : F) : (if wrap64 (2 * zF a) > 255 then Go.bits .xor .i64 (wrap64 (2 * zF a)) 285 else wrap64 (2 * zF a)) = zF (xt a) := by
  have h0 := zF_lo a
  have h1 := zF_hi a
  have e : wrap64 (2 * zF a) = ((2 * a.n : Nat) : Int) := by rw [w64 _ (by omega) (by omega)]; unfold zF; omega
  have ha := a.lt
  rw [e]
  show _ = ((xtn a.n : Nat) : Int)
  by_cases h : 2 * a.n > 255
  · rw [if_pos (by omega), show (285 : Int) = ((285 : Nat) : Int) from rfl, xor_i64 _ _ (by omega) (by decide)]
    unfold xtn
    rw [show a.n / 128 = 1 by omega]
  · rw [if_neg (by omega)]
    unfold xtn
    rw [show a.n / 128 = 0 by omega]
    simp
theorem rmul_loop (n : Nat) : ∀ (a o : F) (b : Nat), b < 2 ^ n → b < 256 → Ev (fun k => fareboxref32_Mul.l0 k (zF a) (zF o) (b : Int)) (zF (mulA n a b o)) := by
  induction n with
  | zero =>
    intro a o b hb _
    obtain rfl : b = 0 := by simpa using hb
    refine Ev.step (f := fun _ => some (zF o)) (fun k => ?_) (Ev.now _)
    simp only [fareboxref32_Mul.l0]
    have h0 := zF_lo o
    have h1 := zF_hi o
    rw [if_neg (by omega), show zF o % 256 = zF o by omega]
  | succ n ih =>
    intro a o b hb hb2
    by_cases h0 : b = 0
    · subst h0
      rw [mulA_zero_b]
      refine Ev.step (f := fun _ => some (zF o)) (fun k => ?_) (Ev.now _)
      simp only [fareboxref32_Mul.l0]
      have h0 := zF_lo o
      have h1 := zF_hi o
      rw [if_neg (by omega), show zF o % 256 = zF o by omega]
    · refine Ev.step (f := fun k => fareboxref32_Mul.l0 k (zF (xt a)) (zF (if b % 2 = 1 then o + a else o)) ((b / 2 : Nat) : Int)) (fun k => ?_) (ih (xt a) (if b % 2 = 1 then o + a else o) (b / 2) (by rw [Nat.pow_succ] at hb; omega) (by omega))
      simp only [fareboxref32_Mul.l0]
      have e1 : Int.tmod (b : Int) 2 = ((b % 2 : Nat) : Int) := by rw [Int.tmod_eq_emod_of_nonneg (by omega)]; omega
      have e2 : wrap64 (Int.tdiv (b : Int) 2) = ((b / 2 : Nat) : Int) := by rw [Int.tdiv_eq_ediv_of_nonneg (by omega), w64 _ (by omega) (by omega)]; omega
      have e3 : Go.bits .xor .i64 (zF o) (zF a) = zF (o + a) := xor_i64 o.n a.n (by have := o.lt; omega) (by have := a.lt; omega)
      rw [if_pos (by omega), e1, e2, e3, ← xt_i64 a]
      by_cases hp : b % 2 = 1
      · rw [if_pos (by omega), if_pos hp]
        by_cases hc : wrap64 (2 * zF a) > 255
        · rw [if_pos hc, if_pos hc]
        · rw [if_neg hc, if_neg hc]
      · rw [if_neg (by omega), if_neg hp]
        by_cases hc : wrap64 (2 * zF a) > 255
        · rw [if_pos hc, if_pos hc]
        · rw [if_neg hc, if_neg hc]
theorem zF_w64 (a : F) : wrap64 (zF a) = zF a := w64 _ (by have := zF_lo a; omega) (by have := zF_hi a; omega)
theorem rmul_ev (a b : F) : Ev (fun k => fareboxref32_Mul.f k (zF a) (zF b)) (zF (a * b)) := by
  refine Ev.congr (fun k => ?_) (rmul_loop 8 a 0 b.n b.lt b.lt)
  unfold fareboxref32_Mul.f
  rw [zF_w64, zF_w64]
  rfl
theorem radd_at (a b : F) : fareboxref32_Add.f (zF a) (zF b) = some (zF (a + b)) := by unfold fareboxref32_Add.f; rw [xor_zF]
theorem rexp_loop (m d : Nat) (hm : m < 255) : ∀ i : Nat, m - i = d → i ≤ m → Ev (fun k => fareboxref32_Exp.l0 k (m : Int) (zF (pw i)) (i : Int)) (zF (pw m)) := by
  induction d with
  | zero =>
    intro i h1 h2
    obtain rfl : i = m := by omega
    exact Ev.step (f := fun _ => some (zF (pw i))) (fun k => by simp only [fareboxref32_Exp.l0]; rw [if_neg (by omega)]) (Ev.now _)
  | succ d ih =>
    intro i h1 h2
    refine Ev.step (f := fun k => (fareboxref32_Mul.f k (zF (pw i)) 2).bind fun t => fareboxref32_Exp.l0 k (m : Int) t ((i + 1 : Nat) : Int)) (fun k => ?_) ?_
    · simp only [fareboxref32_Exp.l0]
      rw [if_pos (by omega), w64 _ (by omega) (by omega)]
      rfl
    · have h := rmul_ev (pw i) ⟨2, by decide⟩
      rw [mul_two] at h
      exact Ev.bind h (ih (i + 1) (by omega) (by omega))
theorem rexp_ev (m : Nat) (hm : m < 255) : Ev (fun k => fareboxref32_Exp.f k (m : Int)) (zF (pw m)) := by
  refine Ev.congr (f := fun k => fareboxref32_Exp.j0 k (m : Int)) (fun k => ?_) ?_
  · have e : Int.tmod (m : Int) 255 = (m : Int) := by rw [Int.tmod_eq_emod_of_nonneg (by omega)]; omega
    unfold fareboxref32_Exp.f
    rw [e, if_neg (by omega)]
  · refine Ev.step (f := fun k => fareboxref32_Exp.l0 k (m : Int) 1 0) (fun k => by simp only [fareboxref32_Exp.j0]) ?_
    exact rexp_loop m m hm 0 (by omega) (by omega)
end Go.Proofs.YtgcibhbhbgoacaaDoor


/- The document's answer (fareboxref34: Generator, Encode, Distance), and what marked and turned answer: the same as the program's. -/
namespace Go.Proofs.YtgcibhbhbgoacaaDoor
open Go.Proofs.YtgcibhbhbgoacaaDoor.G Go.Proofs.YtgcibhbhbgoacaaDoor.Re FB
open Go.RowKit Go.Proofs.YtgcibhbhbgoacaaDoorW.PrintWords
set_option linter.unusedVariables false
set_option linter.unusedSimpArgs false
theorem rdiffering_loop (a b : List F) (hl : a.length = b.length) (hb : a.length ≤ 17592186044415) (d : Nat) : ∀ i : Nat, a.length - i = d → i ≤ a.length →
    Ev (fun k => fareboxref34_differing.l0 k (Iz a) (Iz b) ((diffU a b i).map Int.ofNat) (i : Int)) ((diffU a b a.length).map Int.ofNat) := by
  induction d with
  | zero =>
    intro i h1 h2
    obtain rfl : i = a.length := by omega
    exact Ev.step (f := fun _ => some ((diffU a b a.length).map Int.ofNat)) (fun k => by simp only [fareboxref34_differing.l0]; rw [if_neg (by rw [Iz_length]; omega)]) (Ev.now _)
  | succ d ih =>
    intro i h1 h2
    have hn := ih (i + 1) (by omega) (by omega)
    have hdl := diffU_length a b i
    refine Ev.step (fun k => ?_) hn
    simp only [fareboxref34_differing.l0, Iz_length]
    rw [if_pos (by omega), if_pos (by omega), if_pos (by omega), rd_IzN, rd_IzN, show wrap64 ((i : Int) + 1) = ((i + 1 : Nat) : Int) by unfold wrap64; omega]
    by_cases h : a.getD i 0 = b.getD i 0
    · rw [if_pos (by rw [h]), diffU_no h]
    · rw [if_neg (fun e => h (zF_inj.1 e)), if_pos (by rw [List.length_map]; omega), diffU_yes h, List.map_append]
      rfl
theorem rdiffering_ev (a b : List F) (hl : a.length = b.length) (hb : a.length ≤ 17592186044415) : Ev (fun k => fareboxref34_differing.f k (Iz a) (Iz b)) ((diffU a b a.length).map Int.ofNat) :=
  rdiffering_loop a b hl hb a.length 0 (by omega) (by omega)
theorem marked_loop (l : List Int) (hl : l.length ≤ 140737488351232) (d : Nat) : ∀ i : Nat, 80 - i = d → i ≤ 80 → Ev (fun k => fareboxlaw34_marked.l0 k l (l ++ List.replicate i 165) (i : Int)) l := by
  induction d with
  | zero =>
    intro i h1 h2
    obtain rfl : i = 80 := by omega
    refine Ev.step (f := fun _ => some l) (fun k => ?_) (Ev.now _)
    simp only [fareboxlaw34_marked.l0]
    rw [if_neg (by omega), if_pos (by omega), if_pos (by rw [List.length_append]; omega), Int.toNat_natCast, List.take_left]
  | succ d ih =>
    intro i h1 h2
    refine Ev.step (fun k => ?_) (ih (i + 1) (by omega) (by omega))
    simp only [fareboxlaw34_marked.l0]
    rw [if_pos (by omega), if_pos (by rw [List.length_append, List.length_replicate]; omega), w64 _ (by omega) (by omega), List.append_assoc, ← List.replicate_succ']
    rfl
theorem marked_ev (l : List Int) (hl : l.length ≤ 140737488351232) : Ev (fun k => fareboxlaw34_marked.f k l) l := by
  refine Ev.congr (f := fun k => fareboxlaw34_marked.l0 k l l 0) (fun k => ?_) ?_
  · unfold fareboxlaw34_marked.f
    rw [if_pos (by rw [List.length_nil]; omega), List.nil_append]
  · have h := marked_loop l hl 80 0 (by omega) (by omega)
    rw [List.replicate_zero, List.append_nil] at h
    exact h
def sevF (i : Nat) : F := ⟨i % 7 + 1, by omega⟩
def turnP (D : List F) : List F := (List.range D.length).map fun i => D.getD i 0 + sevF i
theorem turnP_length (D : List F) : (turnP D).length = D.length := by unfold turnP; rw [List.length_map, List.length_range]
theorem turnP_getD (D : List F) (i : Nat) (h : i < D.length) : (turnP D).getD i 0 = D.getD i 0 + sevF i := by
  unfold turnP
  rw [List.getD_eq_getElem?_getD, List.getElem?_map, List.getElem?_range h]
  rfl
theorem turned_loop (D : List F) (hl : D.length ≤ 140737488351232) (d : Nat) : ∀ (i : Nat) (o : List F), D.length - i = d → i ≤ D.length → o.length = D.length → (∀ q, q < D.length → o.getD q 0 = if q < i then (turnP D).getD q 0 else D.getD q 0) →
    Ev (fun k => fareboxlaw34_turned.l0 k (Iz o) (Iz ((turnP D).take i)) (i : Int)) (Iz (turnP D), Iz (turnP D)) := by
  induction d with
  | zero =>
    intro i o h1 h2 h3 h4
    obtain rfl : i = D.length := by omega
    have e : o = turnP D := getD_ext (by rw [turnP_length, h3]) fun q hq => by rw [h4 q (by omega), if_pos (by omega)]
    rw [e, List.take_of_length_le (by rw [turnP_length]; omega)]
    exact Ev.step (f := fun _ => some (Iz (turnP D), Iz (turnP D))) (fun k => by simp only [fareboxlaw34_turned.l0]; rw [if_neg (by rw [Iz_length, turnP_length]; omega)]) (Ev.now _)
  | succ d ih =>
    intro i o h1 h2 h3 h4
    have hi : i < D.length := by omega
    have e1 : wrap64 (Int.tmod (i : Int) 7 + 1) % 256 = zF (sevF i) := by
      have : Int.tmod (i : Int) 7 = ((i % 7 : Nat) : Int) := by rw [Int.tmod_eq_emod_of_nonneg (by omega)]; omega
      rw [this, w64 _ (by omega) (by omega)]
      show _ = ((i % 7 + 1 : Nat) : Int)
      omega
    have e2 : o.getD i 0 + sevF i = (turnP D).getD i 0 := by rw [h4 i hi, if_neg (by omega), turnP_getD D i hi]
    refine Ev.step (fun k => ?_) (ih (i + 1) (o.set i ((turnP D).getD i 0)) (by omega) (by omega) (by simp; omega) (fun q hq => by
      rw [getD_set _ _ _ _ (by omega)]
      by_cases e : q = i
      · rw [if_pos e, if_pos (by omega), e]
      · rw [if_neg e, h4 q hq]
        by_cases e3 : q < i
        · rw [if_pos e3, if_pos (by omega)]
        · rw [if_neg e3, if_neg (by omega)]))
    simp only [fareboxlaw34_turned.l0]
    rw [if_pos (by rw [Iz_length]; omega), if_pos (by omega), Option.bind_some, if_pos (by rw [Iz_length, List.length_take]; omega), rd_IzN, e1, xor_zF, e2, Int.toNat_natCast, ← Iz_set, rd_IzN, getD_set _ _ _ _ (by omega), if_pos rfl, w64 _ (by omega) (by omega)]
    have e4 : Iz ((turnP D).take (i + 1)) = Iz ((turnP D).take i) ++ [zF ((turnP D).getD i 0)] := by
      rw [List.take_add_one, Iz_append]
      congr 1
      rw [List.getD_eq_getElem?_getD, List.getElem?_eq_getElem (by rw [turnP_length]; exact hi)]
      rfl
    rw [e4]
    rfl
theorem turned_ev (D : List F) (hl : D.length ≤ 140737488351232) : Ev (fun k => fareboxlaw34_turned.f k (Iz D)) (Iz (turnP D), Iz (turnP D)) :=
  turned_loop D hl D.length 0 D (by omega) (by omega) rfl (fun q hq => by rw [if_neg (by omega)])
theorem same_self (D : List F) (hl : D.length ≤ 140737488355328) : Ev (fun k => fareboxlaw34_same.f k (Iz D) (Iz D)) true := by
  have h := same_ev D D hl
  rw [decide_eq_true rfl] at h
  exact h
end Go.Proofs.YtgcibhbhbgoacaaDoor
