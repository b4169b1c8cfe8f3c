import Derived.Test.YtgcibhbhbgoacaaDoorG0
/- Calls through function values: slices.IndexFunc, slices.ContainsFunc over bytes with mend's test. -/
namespace Go.Proofs.YtgcibhbhbgoacaaDoor
open Go.Proofs.YtgcibhbhbgoacaaDoor.G
open Go.RowKit Go.Proofs.YtgcibhbhbgoacaaDoorW.PrintWords Go.Proofs.YtgcibhbhbgoacaaDoorW.PrintLast Go.Proofs.YtgcibhbhbgoacaaDoorW.PrintMore
set_option linter.unusedVariables false
set_option linter.unusedSimpArgs false

def idxNZ : List Int → Int → Int
  | [], _ => -1
  | x :: l, i => if x = 0 then idxNZ l (i + 1) else i
theorem idxNZ_cons (x : Int) (l : List Int) (i : Int) : idxNZ (x :: l) i = if x = 0 then idxNZ l (i + 1) else i := rfl
set_option maxHeartbeats 8000000 in
set_option maxRecDepth 100000 in
theorem index81.calls (A0 : Option Addr) (c0 : Nat) (l0 : List Int) (w : World) (hr0 : Kd.C (Kd.int .u8) w A0 l0.length l0) (hb : l0.length ≤ 140737488355328) :
    Calls Tryd.prog 81 #[.slice A0 l0.length c0, .func (.func 68) #[] #[]] w fun e w' => e = .returned (.int .i64 (idxNZ l0 0)) ∧ w' = w := by
  go_enter Tryd.func81, Tryd.ntmps81
  go_wp2
  go_loopg [8] (l0.length + 1) (fun kq v8 w' => ∃ x : Int, v8 = .int .i64 x ∧ 0 ≤ x ∧ x ≤ l0.length ∧ kq + x.toNat = l0.length + 1 ∧ idxNZ (l0.drop x.toNat) x = idxNZ l0 0 ∧ w' = w)
  case atStart => exact ⟨0, rfl, Int.le_refl _, by omega, rfl, rfl, rfl⟩
  case round =>
    obtain ⟨i, rfl, hi0, hi, hk, hx, rfl⟩ := hrel
    by_cases hlt : i < (l0.length : Int)
    · have h1 : decide (i < (l0.length : Int)) = true := decide_eq_true hlt
      obtain ⟨ad, e1, hx1⟩ := Kd.at_int hr0 i hi0 hlt
      cases e1
      have hnx : (IntKind.i64.wrap (i + 1)) = i + 1 := by rw [IntKind.wrap_i64]; omega
      have hdr : l0.drop i.toNat = rd l0 i :: l0.drop (i + 1).toNat := by
        have hl : i.toNat < l0.length := by omega
        rw [List.drop_eq_getElem_cons hl, show (i + 1).toNat = i.toNat + 1 by omega]; simp [rd, List.getD_eq_getElem?_getD, hl]
      rw [hdr, idxNZ_cons] at hx
      have hi0' := eq_true hi0
      have hlt' := eq_true hlt
      by_cases hz : rd l0 i = 0
      · rw [if_pos hz] at hx
        have HX := Aside0.mk hx
        clear hx
        have hz1 : (rd l0 i != 0) = false := by simp [hz]
        clear hz
        go_wp2
        cases gk with
        | zero => omega
        | succ k1 =>
          go_roundg k1
          case measure => omega
          case rel => exact ⟨i + 1, rfl, by omega, by omega, by omega, HX.out, rfl⟩
      · rw [if_neg hz] at hx
        have HX := Aside0.mk hx
        clear hx
        have hz1 : (rd l0 i != 0) = true := by simp [hz]
        clear hz
        go_wp2
        go_ret
        exact ⟨by rw [← HX.out]; rfl, rfl⟩
    · have h1 : decide (i < (l0.length : Int)) = false := decide_eq_false hlt
      go_wp2
      go_ret
      have hil : i.toNat = l0.length := by omega
      rw [hil, List.drop_length] at hx
      exact ⟨by rw [← hx]; rfl, rfl⟩
theorem idxNZ_ge (l : List Int) : ∀ i : Int, 0 ≤ i → (0 ≤ idxNZ l i ↔ ∃ x ∈ l, x ≠ 0) := by
  induction l with
  | nil => intro i hi; simp [idxNZ]
  | cons x l ih =>
    intro i hi
    rw [idxNZ_cons]
    by_cases h : x = 0
    · rw [if_pos h, ih (i + 1) (by omega)]; simp [h]
    · rw [if_neg h]; simp [h, hi]
set_option maxHeartbeats 8000000 in
theorem contains67.calls (A0 : Option Addr) (c0 : Nat) (l0 : List Int) (w : World) (hr0 : Kd.C (Kd.int .u8) w A0 l0.length l0) (hb : l0.length ≤ 140737488355328) :
    Calls Tryd.prog 67 #[.slice A0 l0.length c0, .func (.func 68) #[] #[]] w fun e w' => e = .returned (.bool (decide (0 ≤ idxNZ l0 0))) ∧ w' = w := by
  go_enter Tryd.func67, Tryd.ntmps67
  go_wp2_with (first | ((with_reducible refine gate_callee (f := 81) rfl ?_); refine goesL_ (some 7) rfl rfl Tryd.func81 (by kernel_rfl) rfl #[.slice A0 l0.length c0, .func (.func 68) #[] #[]] rfl (by (try simp only [List.map_toArray, List.map_cons, List.map_nil]); first | done | rfl | (simp only [List.length_drop, List.length_take]; rfl)) ?_; refine (index81.calls A0 c0 l0 w hr0 hb).mono ?_; rintro e w' ⟨rfl, rfl⟩; refine ⟨_, rfl, ?_⟩))
  go_ret
  exact ⟨rfl, rfl⟩
end Go.Proofs.YtgcibhbhbgoacaaDoor


/- Calls through function values: slices.IndexFunc over rows with solve's test. -/
namespace Go.Proofs.YtgcibhbhbgoacaaDoor
open Go.Proofs.YtgcibhbhbgoacaaDoor.G
open Go.RowKit Go.Proofs.YtgcibhbhbgoacaaDoorW.PrintWords Go.Proofs.YtgcibhbhbgoacaaDoorW.PrintLast Go.Proofs.YtgcibhbhbgoacaaDoorW.PrintMore
set_option linter.unusedVariables false
set_option linter.unusedSimpArgs false

set_option maxHeartbeats 8000000 in
set_option maxRecDepth 100000 in
theorem index79.calls (ad B : Addr) (n c0 m : Nat) (bs : Nat → Addr) (cc : Nat → Nat) (V : Nat → Int) (col : Int) (w : World) (hn : n ≤ 140737488355328) (h0 : 0 ≤ col) (h1 : col < (m : Int)) (hB : w.cell? B = some (.int .i64 col))
    (hdr : ∀ i, i < n → w.cell? (ad.add i) = some (.slice (some (bs i)) m (cc i))) (hV : ∀ i, i < n → w.cell? ((bs i).add col.toNat) = some (.int .u8 (V i))) :
    Calls Tryd.prog 79 #[.slice (some ad) n c0, .func (.func 80) #[] #[.pointer (some B)]] w fun e w' => e = .returned (.int .i64 (idxNZ ((List.range n).map V) 0)) ∧ w' = w := by
  have h0' := eq_true h0
  have h1' := eq_true h1
  have HD := Aside0.mk hdr
  have HV := Aside0.mk hV
  clear hdr hV
  go_enter Tryd.func79, Tryd.ntmps79
  go_wp2
  go_loopg [8] (n + 1) (fun kq v8 w' => ∃ x : Int, v8 = .int .i64 x ∧ 0 ≤ x ∧ x ≤ n ∧ kq + x.toNat = n + 1 ∧ Aside0 (idxNZ (((List.range n).map V).drop x.toNat) x = idxNZ ((List.range n).map V) 0) ∧ w' = w)
  case atStart => exact ⟨0, rfl, Int.le_refl _, by omega, rfl, ⟨rfl⟩, rfl⟩
  case round =>
    obtain ⟨i, rfl, hi0, hi, hk, HX, rfl⟩ := hrel
    by_cases hlt : i < (n : Int)
    · have hd1 : decide (i < (n : Int)) = true := decide_eq_true hlt
      have hx1 := HD.out i.toNat (by omega)
      have hx2 := HV.out i.toNat (by omega)
      have hnx : (IntKind.i64.wrap (i + 1)) = i + 1 := by rw [IntKind.wrap_i64]; omega
      have hdr : ((List.range n).map V).drop i.toNat = V i.toNat :: ((List.range n).map V).drop (i + 1).toNat := by
        have hl : i.toNat < ((List.range n).map V).length := by simp; omega
        rw [List.drop_eq_getElem_cons hl, show (i + 1).toNat = i.toNat + 1 by omega]; simp
      have hx := HX.out
      clear HX
      rw [hdr, idxNZ_cons] at hx
      clear hdr
      have hi0' := eq_true hi0
      have hlt' := eq_true hlt
      generalize V i.toNat = v at hx hx2
      generalize bs i.toNat = bd at hx1 hx2
      generalize cc i.toNat = cd at hx1
      by_cases hz : v = 0
      · rw [if_pos hz] at hx
        have HX := Aside0.mk hx
        clear hx
        have hz1 : (v != 0) = false := by simp [hz]
        clear hz
        go_wp2
        cases gk with
        | zero => omega
        | succ k1 =>
          go_roundg k1
          case measure => omega
          case rel => exact ⟨i + 1, rfl, by omega, by omega, by omega, ⟨HX.out⟩, rfl⟩
      · rw [if_neg hz] at hx
        have HX := Aside0.mk hx
        clear hx
        have hz1 : (v != 0) = true := by simp [hz]
        clear hz
        go_wp2
        go_ret
        exact ⟨by rw [← HX.out]; rfl, rfl⟩
    · have hd1 : decide (i < (n : Int)) = false := decide_eq_false hlt
      go_wp2
      go_ret
      have hil : i.toNat = n := by omega
      have hx := HX.out
      rw [hil, List.drop_of_length_le (by simp)] at hx
      exact ⟨by rw [← hx]; rfl, rfl⟩
end Go.Proofs.YtgcibhbhbgoacaaDoor
