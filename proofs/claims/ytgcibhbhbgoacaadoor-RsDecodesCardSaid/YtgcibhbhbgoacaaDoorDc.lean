import Derived.Test.YtgcibhbhbgoacaaDoorLqe
import Derived.Test.YtgcibhbhbgoacaaDoorSr
import Derived.Test.YtgcibhbhbgoacaaDoorH
import Derived.StillTailTactics
import Derived.Test.YtgcibhbhbgoacaaDoorVa
import Derived.Test.YtgcibhbhbgoacaaDoorCm
import Derived.Deep.DeepCutAuto
import Derived.WalkMore
namespace Go.Proofs.YtgcibhbhbgoacaaDoor
open Go.Proofs.YtgcibhbhbgoacaaDoor.G Go.Proofs.YtgcibhbhbgoacaaDoor.H FB
open Go.RowKit Go.Proofs.YtgcibhbhbgoacaaDoorW.PrintWords Go.Proofs.YtgcibhbhbgoacaaDoorW.PrintLast Go.Proofs.YtgcibhbhbgoacaaDoorW.PrintMore
set_option linter.unusedVariables false
set_option linter.unusedSimpArgs false

theorem map_ofNat_length (H : List Nat) : (H.map Int.ofNat).length = H.length := List.length_map ..
theorem rd_ofNat (H : List Nat) (i : Nat) (h : i < H.length) : rd (H.map Int.ofNat) (i : Int) = (H[i] : Int) := by
  simp [rd, List.getD_eq_getElem?_getD, h]
theorem index_loop (H : List Nat) (p : Nat) (hl : H.length ≤ 140737488355328) (d : Nat) : ∀ i : Nat, H.length - i = d → i ≤ H.length →
    ∃ r : Int, Ev (fun k => slices_Index_int_int.l0 k (H.map Int.ofNat) (p : Int) (H.length : Int) (i : Int)) r ∧ (0 ≤ r ↔ p ∈ H.drop i) := by
  induction d with
  | zero =>
    intro i h1 h2
    refine ⟨-1, Ev.step (f := fun _ => some (-1)) (fun k => by simp only [slices_Index_int_int.l0]; rw [if_neg (by omega)]) (Ev.now _), ?_⟩
    rw [List.drop_of_length_le (by omega)]
    simp
  | succ d ih =>
    intro i h1 h2
    have hi : i < H.length := by omega
    have hdr : H.drop i = H[i] :: H.drop (i + 1) := List.drop_eq_getElem_cons hi
    by_cases he : H[i] = p
    · refine ⟨(i : Int), Ev.step (f := fun _ => some (i : Int)) (fun k => ?_) (Ev.now _), ?_⟩
      · simp only [slices_Index_int_int.l0, map_ofNat_length]
        rw [if_pos (by omega), if_pos (by omega), if_pos (by omega), rd_ofNat H i hi, if_pos (by rw [he])]
      · rw [hdr, he]; simp
    · obtain ⟨r, hr1, hr2⟩ := ih (i + 1) (by omega) (by omega)
      refine ⟨r, Ev.step (f := fun k => slices_Index_int_int.l0 k (H.map Int.ofNat) (p : Int) (H.length : Int) ((i + 1 : Nat) : Int)) (fun k => ?_) hr1, ?_⟩
      · simp only [slices_Index_int_int.l0, map_ofNat_length]
        rw [if_pos (by omega), if_pos (by omega), if_pos (by omega), rd_ofNat H i hi, if_neg (by omega), show wrap64 ((i : Int) + 1) = ((i + 1 : Nat) : Int) by unfold wrap64; omega]
      · rw [hr2, hdr, List.mem_cons]
        exact ⟨fun h => .inr h, fun h => h.resolve_left (fun e => he e.symm)⟩
theorem contains_ev (H : List Nat) (p : Nat) (hl : H.length ≤ 140737488355328) : Ev (fun k => slices_Contains_int_int.f k (H.map Int.ofNat) (p : Int)) (H.contains p) := by
  obtain ⟨r, h1, h2⟩ := index_loop H p hl _ 0 rfl (Nat.zero_le _)
  have e : H.contains p = decide (r ≥ 0) := by
    rw [List.drop_zero] at h2
    rw [Bool.eq_iff_iff]
    simp [h2]
  rw [e]
  refine Ev.congr (f := fun k => (slices_Index_int_int.f k (H.map Int.ofNat) (p : Int)).bind fun t => some (decide (t ≥ 0))) (fun k => rfl) ?_
  have h3 : Ev (fun k => slices_Index_int_int.f k (H.map Int.ofNat) (p : Int)) r := Ev.congr (fun k => by unfold slices_Index_int_int.f; rw [map_ofNat_length]; rfl) h1
  exact Ev.bind h3 (Ev.now _)
theorem containsN.calls {A : Option Addr} {c : Nat} {H : List Nat} {w : World} (hr : (Kd.int .i64).C w A H.length (H.map Int.ofNat)) (hc : H.length ≤ c) (hl : H.length ≤ 140737488355328) (p : Nat) :
    Calls Tryd.prog 48 #[.slice A H.length c, .int .i64 p] w fun e w' => e = .returned (.bool (H.contains p)) ∧ Drawn0 w w' := by
  obtain ⟨k, hk⟩ := (contains_ev H p hl).rounds
  have := slices_Contains_int_int.calls k A c (H.map Int.ofNat) p _ w (by rw [map_ofNat_length]; exact hr) (by rw [map_ofNat_length]; exact hc) hk
  rw [map_ofNat_length] at this
  exact this
theorem invF.calls (a : F) {w : World} (ht : TabW w) : Calls Tryd.prog 62 #[.int .u8 (zF a)] w fun e w' => e = .returned (.tuple #[.int .u8 (zF (F.inv a)), .bool (!decide (a = 0))]) ∧ Drawn0 w w' := by
  obtain ⟨k, hk⟩ := (inv_ev a).rounds
  exact gf_Inv.calls k _ _ _ _ hk ht
theorem evalF.calls {A : Option Addr} {c : Nat} {p : List F} {w : World} (hr : (Kd.int .u8).C w A p.length (Iz p)) (hc : p.length ≤ c) (hl : p.length ≤ 140737488355328) (x : F) :
    Calls Tryd.prog 66 #[.slice A p.length c, .int .u8 (zF x)] w fun e w' => e = .returned (.int .u8 (zF (evL p x))) ∧ Drawn0 w w' := by
  obtain ⟨k, hk⟩ := (polyEval_ev p x hl).rounds
  have := gf_PolyEval.calls k A c (Iz p) (zF x) _ w (by rw [Iz_length]; exact hr) (by rw [Iz_length]; exact hc) hk
  rw [Iz_length] at this
  exact this
end Go.Proofs.YtgcibhbhbgoacaaDoor

namespace Go.Proofs.YtgcibhbhbgoacaaDoor
open Go.Proofs.YtgcibhbhbgoacaaDoor.G Go.Proofs.YtgcibhbhbgoacaaDoor.H FB
open Go.RowKit Go.Proofs.YtgcibhbhbgoacaaDoorW.PrintWords Go.Proofs.YtgcibhbhbgoacaaDoorW.PrintLast Go.Proofs.YtgcibhbhbgoacaaDoorW.PrintMore
set_option linter.unusedVariables false
set_option linter.unusedSimpArgs false

theorem cloneF.calls {A : Option Addr} {c : Nat} {l : List F} {w : World} (hr : (Kd.int .u8).C w A l.length (Iz l)) (hc : l.length ≤ c) (hl : l.length < 140737488355328) :
    Calls Tryd.prog 38 #[.slice A l.length c] w fun e w' => ∃ v0 : Value, e = .returned v0 ∧ (Kd.int .u8).R 5 w' w.heap.size (fun _ => True) v0 (Iz l) ∧ Below w.heap.size w w' := by
  have := slices_Clone_byte_byte.calls A c (Iz l) (Iz l) w (by rw [Iz_length]; exact hr) (by rw [Iz_length]; exact hc) (by
    unfold slices_Clone_byte_byte.f
    simp only [Option.bind_some, List.length_nil, Nat.zero_add, List.nil_append, Iz_length]
    rw [if_pos hl])
  rw [Iz_length] at this
  exact this
theorem cloneN.calls {A : Option Addr} {c : Nat} {l : List Nat} {w : World} (hr : (Kd.int .i64).C w A l.length (l.map Int.ofNat)) (hc : l.length ≤ c) (hl : l.length < 17592186044416) :
    Calls Tryd.prog 53 #[.slice A l.length c] w fun e w' => ∃ v0 : Value, e = .returned v0 ∧ (Kd.int .i64).R 3 w' w.heap.size (fun _ => True) v0 (l.map Int.ofNat) ∧ Below w.heap.size w w' := by
  have := slices_Clone_int_int.calls A c (l.map Int.ofNat) (l.map Int.ofNat) w (by rw [map_ofNat_length]; exact hr) (by rw [map_ofNat_length]; exact hc) (by
    unfold slices_Clone_int_int.f
    simp only [Option.bind_some, List.length_nil, Nat.zero_add, List.nil_append, map_ofNat_length]
    rw [if_pos hl])
  rw [map_ofNat_length] at this
  exact this
theorem C_cellN {w : World} {A : Option Addr} {L : List Nat} (h : (Kd.int .i64).C w A L.length (L.map Int.ofNat)) {i : Nat} (hi : i < L.length) : ∃ ad, A = some ad ∧ w.cell? (ad.add i) = some (.int .i64 (L[i] : Int)) := by
  have h' : (Kd.int .i64).C w A (L.map Int.ofNat).length (L.map Int.ofNat) := by rw [map_ofNat_length]; exact h
  obtain ⟨ad, e, hc⟩ := Kd.at_int h' (i : Int) (by omega) (by rw [map_ofNat_length]; omega)
  refine ⟨ad, e, ?_⟩
  rw [Int.toNat_natCast, rd_ofNat L i hi] at hc
  exact hc
def fnL (n : Nat) (f : Nat → F) : List Int := (List.range n).map fun i => zF (f i)
theorem fnL_length (n : Nat) (f : Nat → F) : (fnL n f).length = n := by simp [fnL]
theorem fnL_set {n : Nat} (f : Nat → F) (j : Nat) (x : F) : (fnL n f).set j (zF x) = fnL n (fun i => if i = j then x else f i) := by
  unfold fnL
  apply List.ext_getElem (by simp)
  intro i h1 h2
  rw [List.getElem_set]
  simp only [List.getElem_map, List.getElem_range]
  by_cases h : j = i
  · rw [if_pos h, if_pos h.symm]
  · rw [if_neg h, if_neg (fun e => h e.symm)]
theorem fnL_congr {n : Nat} {f g : Nat → F} (h : ∀ i, i < n → f i = g i) : fnL n f = fnL n g := List.map_congr_left fun i hi => by rw [h i (List.mem_range.1 hi)]
theorem fnL_Iz (l : List F) : Iz l = fnL l.length (fun i => l.getD i 0) := by
  unfold Iz fnL
  apply List.ext_getElem (by simp)
  intro i h1 h2
  have hi : i < l.length := by simpa using h1
  simp [List.getD_eq_getElem?_getD, hi]
theorem fnL_rd (n : Nat) (f : Nat → F) (i : Nat) (h : i < n) : rdOf 0 (fnL n f) (i : Int) = zF (f i) := by
  simp [rdOf, fnL, h]
/-- the row's cell, as the machine reads it -/
theorem R_cellF {w : World} {base g cap n : Nat} {ok : Nat → Prop} {f : Nat → F} (h : (Kd.int .u8).R 5 w base ok (.slice (some ⟨g, 0, none⟩) n cap) (fnL n f)) {i : Nat} (hi : i < n) :
    w.cell? ⟨g, i, none⟩ = some (.int .u8 (zF (f i))) ∧ w.frozen? ⟨g, i, none⟩ = false := by
  have := Kd.R_celln 0 h (i : Int) (by omega) (by omega)
  rw [Int.toNat_natCast, fnL_rd n f i hi] at this
  exact this
theorem R_putF {w : World} {base g cap n : Nat} {ok : Nat → Prop} {f : Nat → F} (h : (Kd.int .u8).R 5 w base ok (.slice (some ⟨g, 0, none⟩) n cap) (fnL n f)) (i : Nat) (x : F) :
    (Kd.int .u8).R 5 (w.setCell ⟨g, i, none⟩ (.int .u8 (zF x))) base ok (.slice (some ⟨g, 0, none⟩) n cap) (fnL n fun j => if j = i then x else f j) := by
  have := (Kd.R_putg h (i : Int) (zF x)).1
  rw [Int.toNat_natCast, fnL_set] at this
  exact this
def pfT (x : F) (f : Nat → F) (j : Nat) : Nat → F := fun i => if j < i then f i + x * f (i - 1) else f i
theorem pfT_at (x : F) (f : Nat → F) (j i : Nat) (h : i ≤ j) : pfT x f j i = f i := if_neg (by omega)
set_option maxHeartbeats 8000000 in
set_option maxRecDepth 100000 in
theorem turned.calls {w : World} {D : Nat} {Aw : Option Addr} {cw : Nat} {W : List F} {check : Nat} {Ah : Option Addr} {ch : Nat} {H : List Nat} {As : Option Addr} {cs : Nat} {S : List F}
    (hd : DecW w D Aw cw W check Ah ch H As cs S) (hW : W.length ≤ 255) (hS : 0 < S.length) (hS2 : S.length ≤ 64) (hH : H.length ≤ 64) (hhb : ∀ h ∈ H, h < W.length) (ht : TabW w) :
    Calls Tryd.prog 49 #[.pointer (some ⟨D, 0, none⟩)] w fun en w' => ∃ v0 : Value, en = .returned v0 ∧ (Kd.int .u8).R 5 w' w.heap.size (fun _ => True) v0 (fnL S.length (turnF W.length H fun j => S.getD j 0)) ∧ Below w.heap.size w w' := by
  have HT := Aside0.mk ht
  have HD := Aside0.mk hd
  have hx3 := hd.c3
  have hx2 := hd.c2
  have HHB := Aside0.mk hhb
  have HCL := Aside0.mk (cloneF.calls hd.rS hd.kS (by omega))
  clear ht hd hhb
  go_enter Tryd.func49, Tryd.ntmps49
  go_wp2_with (go_at_call 38; (with_reducible refine HCL.out.mono ?_); rintro en w1 ⟨v0, rfl, hr1, hb1⟩; rw [fnL_Iz] at hr1; obtain ⟨g, cg, e1, hgb, hgl, hgc⟩ := Kd.R_form hr1 (by rw [fnL_length]; exact hS); rw [fnL_length] at e1; subst e1; clear hgc; have hx2 := (HD.out.below hb1).c2; have HR1 := Aside0.mk hr1; have HB1 := Aside0.mk hb1; clear hr1 hb1)
  clear hx2 hx3
  go_loopg [18] (H.length + 1) (fun kq v18 w' => ∃ (i : Nat) (f : Nat → F), v18 = .int .i64 (i : Int) ∧ i ≤ H.length ∧ kq + i = H.length + 1 ∧ Aside0 (turnF W.length (H.drop i) f = turnF W.length H fun j => S.getD j 0) ∧
    Aside0 ((Kd.int .u8).R 5 w' w.heap.size (fun _ => True) (.slice (some ⟨g, 0, none⟩) S.length cg) (fnL S.length f)) ∧ Aside0 (Below w.heap.size w w'))
  case atStart => exact ⟨0, _, rfl, by omega, by omega, ⟨rfl⟩, ⟨HR1.out⟩, ⟨HB1.out⟩⟩
  case round =>
    clear HR1 HB1
    obtain ⟨i, f, rfl, hiH, hik, HF, HR, HB⟩ := hrel
    obtain ⟨gI, rfl⟩ : ∃ g, gk = g + 1 := ⟨gk - 1, by omega⟩
    have HDr := Aside0.mk (HD.out.below HB.out)
    by_cases hil : i < H.length
    · have hd1 : decide ((i : Int) < (H.length : Int)) = true := decide_eq_true (by omega)
      have hi0 := eq_true (show (0 : Int) ≤ (i : Int) by omega)
      have hi1 := eq_true (show (i : Int) < (H.length : Int) by omega)
      obtain ⟨ah, hah, hxh⟩ := C_cellN HDr.out.rH hil
      have hf2 : turnF W.length (H.drop (i + 1)) (fun j => if j = 0 then f 0 else f j + loc W.length H[i] * f (j - 1)) = turnF W.length H fun j => S.getD j 0 := by
        rw [← HF.out, List.drop_eq_getElem_cons hil]; rfl
      have HF2 := Aside0.mk hf2
      clear hf2 HF
      have hhi : H[i] < W.length := HHB.out _ (List.getElem_mem hil)
      generalize H[i] = h at *
      subst hah
      have HL := Aside0.mk (locator.calls (p := h) HDr.out.c0 hhi hW (HT.out.below HB.out))
      go_wp2_with (go_at_call 64; (with_reducible refine HL.out.mono ?_); rintro en w' ⟨rfl, ⟨n1, rfl⟩⟩)
      have hR0 : (Kd.int .u8).R 5 wr w.heap.size (fun _ => True) (.slice (some ⟨g, 0, none⟩) S.length cg) (fnL S.length (pfT (loc W.length h) f (S.length - 1))) := by
        have e := fnL_congr (n := S.length) (f := f) (g := pfT (loc W.length h) f (S.length - 1)) (fun i hi => (pfT_at _ _ _ _ (by omega)).symm)
        rw [← e]; exact HR.out
      have HR0 := Aside0.mk hR0
      clear hR0 HR
      go_loopg [7] S.length (fun kq v7 w' => ∃ j : Nat, v7 = .int .i64 (j : Int) ∧ j < S.length ∧ j + 1 ≤ kq ∧
        Aside0 ((Kd.int .u8).R 5 w' w.heap.size (fun _ => True) (.slice (some ⟨g, 0, none⟩) S.length cg) (fnL S.length (pfT (loc W.length h) f j))) ∧ Aside0 (Below w.heap.size w w'))
      case atStart => exact ⟨S.length - 1, by first | rfl | (congr 1; omega), by omega, by omega, ⟨Kd.R_drewN HR0.out _⟩, ⟨pw_below_drewN HB.out _⟩⟩
      case round =>
        clear HR0 HB HL HDr
        obtain ⟨j, rfl, hjn, hjk, HR, HB⟩ := hrel
        obtain ⟨gJ, rfl⟩ : ∃ g, gk = g + 1 := ⟨gk - 1, by omega⟩
        cases j with
        | succ j =>
          have hd2 : decide ((0 : Int) < (j : Int) + 1) = true := decide_eq_true (by omega)
          have hj0 := eq_true (show (0 : Int) ≤ (j : Int) + 1 by omega)
          have hj1 := eq_true (show (j : Int) + 1 < (S.length : Int) by omega)
          have hj2 := eq_true (show (0 : Int) ≤ (j : Int) by omega)
          have hj3 := eq_true (show (j : Int) < (S.length : Int) by omega)
          have hjn2 : ((j : Int) + 1).toNat = j + 1 := by omega
          have hjw : IntKind.i64.wrap (j : Int) = j := by rw [IntKind.wrap_i64]; omega
          obtain ⟨ha1, ha2⟩ := R_cellF HR.out (i := j + 1) (by omega)
          obtain ⟨hb1, hb2⟩ := R_cellF HR.out (i := j) (by omega)
          rw [pfT_at _ _ _ _ (by omega)] at ha1 hb1
          have HP := Aside0.mk (R_putF HR.out (j + 1) (f (j + 1) + loc W.length h * f j))
          go_upto_region 9 with (fail)
          refine wp_region_still_tail 15 (by kernel_rfl) (by kernel_rfl) ?_
          simp only [List.take_succ_cons, List.take_zero, List.drop_succ_cons, List.drop_zero]
          repeat still_step
          still_call (mulF _ _ _)
          still_call (addF _ _ _)
          repeat still_step
          refine wpStill_nil ?_
          change wpList _ _ _ _ _ wr.drew
          go_wp2
          clear hjw hjn2
          go_roundg gJ
          case measure => omega
          case rel =>
            refine ⟨j, by first | rfl | go_num, by omega, by omega, ⟨?_⟩, ⟨below_drew (HB.out.setCell hgb _)⟩⟩
            have e := fnL_congr (n := S.length) (f := fun i => if i = j + 1 then f (j + 1) + loc W.length h * f j else pfT (loc W.length h) f (j + 1) i) (g := pfT (loc W.length h) f j) (fun i hi => by
              unfold pfT
              by_cases h0 : i = j + 1
              · subst h0; rw [if_pos rfl, if_pos (by omega)]; rfl
              · rw [if_neg h0]
                by_cases h1 : j + 1 < i
                · rw [if_pos h1, if_pos (by omega)]
                · rw [if_neg h1, if_neg (by omega)])
            have h := Kd.R_drew HP.out
            rw [e] at h
            exact h
        | zero =>
          have hd2 : decide ((0 : Int) < (0 : Int)) = false := rfl
          go_wp2
          go_roundg gI
          case measure => omega
          case rel =>
            refine ⟨i + 1, _, by first | rfl | go_num, by omega, by omega, ⟨HF2.out⟩, ⟨?_⟩, ⟨HB.out⟩⟩
            have e := fnL_congr (n := S.length) (f := pfT (loc W.length h) f 0) (g := fun j => if j = 0 then f 0 else f j + loc W.length h * f (j - 1)) (fun i hi => by
              unfold pfT
              by_cases h0 : i = 0
              · subst h0; rw [if_neg (by omega)]; simp
              · rw [if_pos (by omega)]; simp only [h0, if_false])
            rw [← e]; exact HR.out
    · obtain rfl : i = H.length := by omega
      have hd1 : decide ((H.length : Int) < (H.length : Int)) = false := decide_eq_false (by omega)
      go_wp2
      go_ret
      refine ⟨_, rfl, ?_, HB.out⟩
      have h := HF.out
      rw [List.drop_of_length_le (Nat.le_refl _)] at h
      have h2 : f = turnF W.length H fun j => S.getD j 0 := h
      rw [← h2]; exact HR.out
end Go.Proofs.YtgcibhbhbgoacaaDoor

namespace Go.Proofs.YtgcibhbhbgoacaaDoor
open Go.Proofs.YtgcibhbhbgoacaaDoor.G Go.Proofs.YtgcibhbhbgoacaaDoor.H FB
open Go.RowKit Go.Proofs.YtgcibhbhbgoacaaDoorW.PrintWords Go.Proofs.YtgcibhbhbgoacaaDoorW.PrintLast Go.Proofs.YtgcibhbhbgoacaaDoorW.PrintMore
set_option linter.unusedVariables false
set_option linter.unusedSimpArgs false

def placesU (N : Nat) (holes : List Nat) (poly : List F) (p : Nat) : List Nat := (List.range p).filter fun q => decide (evL poly (F.inv (loc N q)) = 0) && !holes.contains q
theorem placesU_yes {N : Nat} {holes : List Nat} {poly : List F} {p : Nat} (h1 : evL poly (F.inv (loc N p)) = 0) (h2 : holes.contains p = false) : placesU N holes poly (p + 1) = placesU N holes poly p ++ [p] := by
  unfold placesU
  rw [List.range_succ, List.filter_append]
  simp only [List.filter_cons, h1, h2, decide_true, Bool.not_false, Bool.and_self, if_true, List.filter_nil]
theorem placesU_no {N : Nat} {holes : List Nat} {poly : List F} {p : Nat} (h : evL poly (F.inv (loc N p)) ≠ 0 ∨ holes.contains p = true) : placesU N holes poly (p + 1) = placesU N holes poly p := by
  unfold placesU
  rw [List.range_succ, List.filter_append]
  have : (decide (evL poly (F.inv (loc N p)) = 0) && !holes.contains p) = false := by
    rcases h with h | h
    · simp [h]
    · rw [h]; simp
  simp only [List.filter_cons, this, List.filter_nil]
  simp
theorem placesU_length (N : Nat) (holes : List Nat) (poly : List F) (p : Nat) : (placesU N holes poly p).length ≤ p := by
  have := List.length_filter_le (fun q => decide (evL poly (F.inv (loc N q)) = 0) && !holes.contains q) (List.range p)
  rwa [List.length_range] at this
set_option maxHeartbeats 8000000 in
set_option maxRecDepth 100000 in
theorem others.calls {w : World} {D : Nat} {Aw : Option Addr} {cw : Nat} {W : List F} {check : Nat} {Ah : Option Addr} {ch : Nat} {H : List Nat} {As : Option Addr} {cs : Nat} {S : List F} {At : Option Addr} {ct : Nat} {T : List F}
    (hd : DecW w D Aw cw W check Ah ch H As cs S) (htn : TurnW w D At ct T) (e : Nat) (hW : W.length ≤ 255) (hT : T.length ≤ 64) (hb : H.length + 2 * e ≤ T.length) (ht : TabW w) :
    Calls Tryd.prog 51 #[.pointer (some ⟨D, 0, none⟩), .int .i64 e] w fun en w' => ∃ v0 : Value, en = .returned (.tuple #[v0, .bool (othersP W.length (fun i => T.getD i 0) H e).isSome]) ∧
      (∃ l, Kd.R (Kd.int .i64) 3 w' w.heap.size (fun _ => True) v0 l ∧ ∀ pl, othersP W.length (fun i => T.getD i 0) H e = some pl → l = pl.map Int.ofNat) ∧ Below w.heap.size w w' := by
  have HT := Aside0.mk ht
  have HD := Aside0.mk hd
  have HTN := Aside0.mk htn
  have hc2 := hd.c2
  obtain ⟨f, hf⟩ : ∃ f, f = H.length := ⟨_, rfl⟩
  rw [← hf] at hc2 hb
  have HF := Aside0.mk hf
  obtain ⟨M, hM⟩ : ∃ M : Nat → Nat → F, M = hankM (fun i => T.getD i 0) f e := ⟨_, rfl⟩
  have HMM := Aside0.mk hM
  clear ht hd htn hf hM
  go_enter Tryd.func51, Tryd.ntmps51
  go_wp2
  go_loopg [23, 7] (e + 1) (fun kq v23 v7 w' => ∃ (r : Nat) (x7 : Value) (bs cc : Nat → Nat), v23 = .int .i64 (r : Int) ∧ x7 = v7 ∧ r ≤ e ∧ kq + r = e + 1 ∧ Aside0 (RowsW w' w.heap.size x7 r (e + 1) bs cc M) ∧ Aside0 (r = 0 → x7 = .slice none 0 0) ∧ Aside0 (Below w.heap.size w w'))
  case atStart => exact ⟨0, _, fun _ => 0, fun _ => 0, rfl, rfl, by omega, by omega, ⟨RowsW.nil _ _ _ _ _ _⟩, ⟨fun _ => rfl⟩, ⟨Below.refl _ _⟩⟩
  case round =>
    obtain ⟨r, x7, bs, cc, rfl, rfl, hre, hrk, HR, HR0, HB⟩ := hrel
    obtain ⟨gR, rfl⟩ : ∃ g, gk = g + 1 := ⟨gk - 1, by omega⟩
    by_cases hrl : r < e
    · have hd1 : decide ((r : Int) < (e : Int)) = true := decide_eq_true (by omega)
      go_wp2
      generalize wr = wo at *
      go_loopg [10, 9] (e + 2) (fun kq v10 v9 w' => ∃ (i : Nat) (x9 : Value), v10 = .int .i64 ((i : Int) + 1) ∧ x9 = v9 ∧ i ≤ e ∧ kq + i = e + 2 ∧ Aside0 (Kd.R (Kd.int .u8) 5 w' wo.heap.size (fun _ => True) x9 ((List.range i).map fun j => zF (M r j))) ∧ Aside0 (Below wo.heap.size wo w'))
      case atStart => exact ⟨0, _, rfl, rfl, by omega, by omega, ⟨Kd.R_nil _ _ _ _ _⟩, ⟨Below.refl _ _⟩⟩
      case round =>
        obtain ⟨i, x9, rfl, rfl, hie, hik, HRi, HBi⟩ := hrel
        obtain ⟨gI, rfl⟩ : ∃ g, gk = g + 1 := ⟨gk - 1, by omega⟩
        have HBw := Aside0.mk (HB.out.trans (HBi.out.mono HB.out.size))
        have hx4 := (HTN.out.below HBw.out).c4
        by_cases hil : i < e
        · have hd2 : decide ((i : Int) + 1 ≤ (e : Int)) = true := decide_eq_true (by omega)
          obtain ⟨ta, hta, hxc⟩ := C_cellF (HTN.out.below HBw.out).rT (i := f + e + r - (i + 1)) (by omega)
          have e1 : T.getD (f + e + r - (i + 1)) 0 = M r i := by rw [HMM.out]; unfold hankM; rw [if_pos hil]
          rw [e1] at hxc
          clear e1
          rw [hta] at hx4
          have HTA := Aside0.mk hta
          clear hta
          have hq0 := eq_true (show 0 ≤ (f : Int) + e + r - ((i : Int) + 1) by omega)
          have hq1 := eq_true (show (f : Int) + e + r - ((i : Int) + 1) < (T.length : Int) by omega)
          have hqn : ((f : Int) + e + r - ((i : Int) + 1)).toNat = f + e + r - (i + 1) := by omega
          go_wp2_with ((with_reducible refine gate_builtin (b := .append) (xs := #[.tmp 31, .tmp 45]) rfl ?_); at_builtin; refine Kd.R_append (Kd.int .u8) (w0 := wo) wo.heap.size rfl (.tmp 31) (.tmp 45) 22 5 (.int .u8 0) 1 rfl Tryd.underlying22 G.info5 rfl (by decide) (by omega) x9 ((List.range i).map fun j => zF (M r j)) (zF (M r i)) [.int .u8 (zF (M r i))] (fun _ => True) (fun _ => False) rfl rfl ?aP (fun _ hk => hk.elim) ?aF HRi.out HBi.out HBi.out.size ?aL ?_; (case aP => exact rfl); (case aF => exact (fun _ _ => trivial)); (case aL => simp; omega); intro v1 w1 ho hb1 hg hat; have HO := Aside0.mk ho; have HB1 := Aside0.mk hb1; clear ho hb1 hg hat)
          go_roundg gI
          case measure => omega
          case rel => exact ⟨i + 1, v1, by first | rfl | go_num, rfl, by omega, by omega, ⟨by have h := HO.out; rw [show (List.range i).map (fun j => zF (M r j)) ++ [zF (M r i)] = (List.range (i + 1)).map fun j => zF (M r j) by rw [List.range_succ, List.map_append]; rfl] at h; exact h⟩, ⟨HB1.out⟩⟩
        · obtain rfl : e = i := by omega
          have hd2 : decide ((e : Int) + 1 ≤ (e : Int)) = false := decide_eq_false (by omega)
          obtain ⟨ta, hta, hxc⟩ := C_cellF (HTN.out.below HBw.out).rT (i := f + e + r) (by omega)
          have e1 : T.getD (f + e + r) 0 = M r e := by rw [HMM.out]; unfold hankM; rw [if_neg (by omega)]
          rw [e1] at hxc
          clear e1
          rw [hta] at hx4
          have HTA := Aside0.mk hta
          clear hta
          have hq0 := eq_true (show 0 ≤ (f : Int) + e + r by omega)
          have hq1 := eq_true (show (f : Int) + e + r < (T.length : Int) by omega)
          have hqn : ((f : Int) + e + r).toNat = f + e + r := by omega
          go_wp2_with (first
            | ((with_reducible refine gate_builtin (b := .append) (xs := #[.tmp 48, .tmp 60]) rfl ?_); at_builtin; refine Kd.R_append (Kd.int .u8) (w0 := wo) wo.heap.size rfl (.tmp 48) (.tmp 60) 22 5 (.int .u8 0) 1 rfl Tryd.underlying22 G.info5 rfl (by decide) (by omega) x9 ((List.range e).map fun j => zF (M r j)) (zF (M r e)) [.int .u8 (zF (M r e))] (fun _ => True) (fun _ => False) rfl rfl ?aP (fun _ hk => hk.elim) ?aF HRi.out HBi.out HBi.out.size ?aL ?_; (case aP => exact rfl); (case aF => exact (fun _ _ => trivial)); (case aL => simp; omega); intro v1 w1 ho hb1 hg hat; rw [show (List.range e).map (fun j => zF (M r j)) ++ [zF (M r e)] = (List.range (e + 1)).map fun j => zF (M r j) by rw [List.range_succ, List.map_append]; rfl] at ho; obtain ⟨g, cg, e1, hgb, hgl, hgc⟩ := Kd.R_form ho (by simp); rw [List.length_map, List.length_range] at e1; subst e1; clear hgc; have HO := Aside0.mk ho; have HB1 := Aside0.mk hb1; have HR1 := Aside0.mk (HR.out.below HB1.out); have HB2 := Aside0.mk (HB.out.trans (HB1.out.mono HB.out.size)); clear ho hb1 hg hat hgb hgl)
            | ((with_reducible refine gate_builtin (b := .append) (xs := #[.tmp 47, .tmp 62]) rfl ?_); at_builtin; refine print_append_cells (w0 := w) w.heap.size rfl (.tmp 47) (.tmp 62) 80 22 (.slice none 0 0) 1 24 rfl Tryd.underlying80 info22 rfl (by omega) (by omega) x7 r ((List.range r).map fun i => Value.slice (some ⟨bs i, 0, none⟩) (e + 1) (cc i)) [.slice (some ⟨g, 0, none⟩) (e + 1) cg] rfl rfl rfl (by simp [Value.oneCell']) HR1.out.own HB2.out HB2.out.size (by omega) ?_; intro v2 w2 ho2 hb2 hg2 hat2; have HR2 := Aside0.mk (HR1.out.push (by omega) HO.out HR.out.lt HB.out.size ho2 hg2); have HB3 := Aside0.mk hb2; clear ho2 hb2 hg2 hat2))
          go_roundg gR
          case measure => omega
          case rel => exact ⟨r + 1, v2, _, _, by first | rfl | go_num, rfl, by omega, by omega, ⟨HR2.out⟩, ⟨fun h => by omega⟩, ⟨HB3.out⟩⟩
    · obtain rfl : e = r := by omega
      have hd1 : decide ((e : Int) < (e : Int)) = false := decide_eq_false (by omega)
      have hop : othersP W.length (fun i => T.getD i 0) H e = (solveM e e 0 M).bind fun M' => if (placesL W.length H (1 :: (List.range e).map fun i => M' i e)).length = e then some (placesL W.length H (1 :: (List.range e).map fun i => M' i e)) else none := by rw [HMM.out, HF.out]; rfl
      have hs2 : 2 ≤ w.heap.size := HT.out.size
      have hsolve := solveR.calls w HR.out HR0.out (by omega) (HT.out.below HB.out) hs2 HB.out
      clear hs2
      cases hsv : solveM e e 0 M with
      | none =>
        rw [hsv] at hop hsolve
        have HOP := Aside0.mk hop
        have HSV := Aside0.mk hsolve
        clear hop hsolve hsv
        go_wp2_with (go_at_call 65; (with_reducible refine HSV.out.mono ?_); rintro en w1 ⟨v0, rfl, hr1, hb1⟩; have HB1 := Aside0.mk hb1; clear hr1 hb1)
        go_ret2
        refine ⟨.slice none 0 0, by rw [HOP.out]; rfl, ⟨[], Kd.R_nil _ _ _ _ _, fun pl h => by rw [HOP.out] at h; cases h⟩, HB1.out⟩
      | some M' =>
        rw [hsv] at hop hsolve
        simp only [Option.map_some, Option.getD_some, Option.isSome_some] at hsolve
        have HOP := Aside0.mk hop
        have HSV := Aside0.mk hsolve
        clear hop hsolve hsv
        obtain ⟨poly, hpoly⟩ : ∃ poly : List F, poly = 1 :: (List.range e).map fun i => M' i e := ⟨_, rfl⟩
        have hpz : ([1] : List Int) ++ (List.range e).map (fun i => zF (M' i e)) = Iz poly := by rw [hpoly]; simp [Iz, zF_one]
        have HPZ := Aside0.mk hpz
        have hpl : poly.length ≤ 65 := by rw [hpoly]; simp; omega
        have HPO := Aside0.mk hpoly
        clear hpz hpoly
        go_wp2_with (first
          | (go_at_call 65; (with_reducible refine HSV.out.mono ?_); rintro en w1 ⟨v0, rfl, hr1, hb1⟩; obtain ⟨Av, cv, e9⟩ := Kd.R_slice hr1; rw [List.length_map, List.length_range] at e9; subst e9; have HV0 := Aside0.mk hr1; have HB1 := Aside0.mk hb1; clear hr1 hb1)
          | ((with_reducible refine gate_dst (N := 72) rfl ?_); refine Kd.R_lit (Kd.int .u8) _ 5 ?hg (N := 72) ?hd (xs := ([1] : List Int)) (inner := [.int .u8 1]) (ok := fun _ => True) (okp := fun _ => True) ?hr ?hp (fun _ hk => hk) trivial (Below.refl _ _) (Nat.le_refl _) (by simp) ?_; (case hd => rfl); (case hg => rfl); (case hr => first | (go_simp; done) | (go_simp; rfl)); (case hp => exact (Reps.one (show Kd.M (Kd.int .u8) _ _ _ 1 [.int .u8 1] from rfl) (Reps.none _ _))); intro v3 w3 ho3 hb3 hg3 hn3; clear hg3 hn3; have HO3 := Aside0.mk ho3; have HB3 := Aside0.mk (HB1.out.trans (hb3.mono HB1.out.size)); have HV3 := Aside0.mk (Kd.R_below HV0.out hb3); clear ho3 hb3)
          | ((with_reducible refine gate_builtin (b := .append) (xs := #[.tmp 72, .tmp 73]) rfl ?_); at_builtin; refine Kd.R_append_rows (Kd.int .u8) (w0 := w) w.heap.size rfl (.tmp 72) (.tmp 73) 22 5 (.int .u8 0) 1 rfl Tryd.underlying22 G.info5 rfl (by decide) (by omega) v3 [1] ((List.range e).map fun i => zF (M' i e)) Av _ cv (fun _ => True) (fun _ => False) rfl rfl (Kd.R_lower HO3.out HB1.out.size) (by have h := (Kd.R_reads' HV3.out).2.2; rw [List.length_map, List.length_range] at h; exact h) (fun _ _ h => h) (fun _ h => h.elim) (fun _ _ => trivial) HB3.out HB3.out.size (by simp; omega) ?_; intro v4 w4 ho4 hb4 hg4 hat4; rw [HPZ.out] at ho4; obtain ⟨Ap, cp, e8⟩ := Kd.R_slice ho4; rw [Iz_length] at e8; subst e8; have HP4 := Aside0.mk ho4; have HB4 := Aside0.mk hb4; clear ho4 hb4 hg4 hat4; have hx0 := (HD.out.below HB4.out).c0))
        clear hx0
        go_loopg [80, 13] (W.length + 1) (fun kq v80 v13 w' => ∃ (p : Nat) (x13 : Value), v80 = .int .i64 (p : Int) ∧ x13 = v13 ∧ p ≤ W.length ∧ kq + p = W.length + 1 ∧ Aside0 (Kd.R (Kd.int .i64) 3 w' w4.heap.size (fun _ => True) x13 ((placesU W.length H poly p).map Int.ofNat)) ∧ Aside0 (Below w4.heap.size w4 w'))
        case atStart => exact ⟨0, _, rfl, rfl, by omega, by omega, ⟨Kd.R_nil _ _ _ _ _⟩, ⟨Below.refl _ _⟩⟩
        case round =>
          clear HR HR0 HB HSV HV0 HB1 HO3 HB3 HV3
          obtain ⟨p, x13, rfl, rfl, hpN, hpk, HRp, HBp⟩ := hrel
          obtain ⟨gP, rfl⟩ : ∃ g, gk = g + 1 := ⟨gk - 1, by omega⟩
          have HBx := Aside0.mk (HB4.out.trans (HBp.out.mono HB4.out.size))
          by_cases hpl2 : p < W.length
          · have hd2 : decide ((p : Int) < (W.length : Int)) = true := decide_eq_true (by omega)
            have HDr := Aside0.mk (HD.out.below HBx.out)
            have HTr := Aside0.mk (HT.out.below HBx.out)
            have HPr : Aside0 ((Kd.int .u8).C wr Ap poly.length (Iz poly)) := ⟨by have h := Kd.C_below (Kd.R_reads' HP4.out).2.2 HBp.out; rwa [Iz_length] at h⟩
            have HPc : Aside0 (poly.length ≤ cp) := ⟨(Kd.R_reads' HP4.out).2.1⟩
            have hx0 := HDr.out.c0
            have hx2 := HDr.out.c2
            have HL := Aside0.mk (locator.calls (p := p) (w := wr) hx0 hpl2 hW HTr.out)
            have HCO : Aside0 (∀ m, Calls Tryd.prog 48 #[.slice Ah H.length ch, .int .i64 p] (wr.drewN m) fun e w' => e = .returned (.bool (H.contains p)) ∧ Drawn0 (wr.drewN m) w') := ⟨fun m => containsN.calls (Kd.C_drewN HDr.out.rH m) HDr.out.kH (by rw [← HF.out]; omega) p⟩
            have HEV : Aside0 (∀ m x, Calls Tryd.prog 66 #[.slice Ap poly.length cp, .int .u8 (zF x)] (wr.drewN m) fun e w' => e = .returned (.int .u8 (zF (evL poly x))) ∧ Drawn0 (wr.drewN m) w') := ⟨fun m x => evalF.calls (Kd.C_drewN HPr.out m) HPc.out (by omega) x⟩
            by_cases hz : evL poly (F.inv (loc W.length p)) = 0
            · have hd3 : (zF (evL poly (F.inv (loc W.length p))) == 0) = true := by simp [zF_eq_zero, hz]
              have HZ := Aside0.mk hz
              clear hz
              cases hc : H.contains p with
              | true =>
                have HC := Aside0.mk hc
                clear hc
                go_wp2_with (first
                  | (go_at_call 64; (with_reducible refine HL.out.mono ?_); rintro en w' ⟨rfl, ⟨n1, rfl⟩⟩)
                  | (go_at_call 62; (with_reducible refine (invF.calls _ (HTr.out.drewN _)).mono ?_); rintro en w' ⟨rfl, ⟨n2, rfl⟩⟩)
                  | (go_at_call 66; (refine (HEV.out _ _).mono ?_); rintro en w' ⟨rfl, ⟨n3, rfl⟩⟩)
                  | (go_at_call 48; (refine (HCO.out _).mono ?_); rintro en w' ⟨rfl, ⟨n4, rfl⟩⟩; simp only [HC.out]))
                go_roundg gP
                case measure => omega
                case rel => exact ⟨p + 1, x13, by first | rfl | go_num, rfl, by omega, by omega, ⟨by rw [placesU_no (.inr HC.out)]; exact Kd.R_drewN HRp.out _⟩, ⟨pw_below_drewN HBp.out _⟩⟩
              | false =>
                have HC := Aside0.mk hc
                clear hc
                have HPL := Aside0.mk (placesU_length W.length H poly p)
                go_wp2_with (first
                  | (go_at_call 64; (with_reducible refine HL.out.mono ?_); rintro en w' ⟨rfl, ⟨n1, rfl⟩⟩)
                  | (go_at_call 62; (with_reducible refine (invF.calls _ (HTr.out.drewN _)).mono ?_); rintro en w' ⟨rfl, ⟨n2, rfl⟩⟩)
                  | (go_at_call 66; (refine (HEV.out _ _).mono ?_); rintro en w' ⟨rfl, ⟨n3, rfl⟩⟩)
                  | (go_at_call 48; (refine (HCO.out _).mono ?_); rintro en w' ⟨rfl, ⟨n4, rfl⟩⟩; simp only [HC.out])
                  | ((with_reducible refine gate_builtin (b := .append) (xs := #[.tmp 103, .tmp 105]) rfl ?_); at_builtin; refine Kd.R_append (Kd.int .i64) (w0 := w4) w4.heap.size rfl (.tmp 103) (.tmp 105) 37 3 (.int .i64 0) 8 rfl Tryd.underlying37 G.info3 rfl (by decide) (by omega) x13 ((placesU W.length H poly p).map Int.ofNat) (p : Int) [.int .i64 p] (fun _ => True) (fun _ => False) rfl rfl ?aP (fun _ hk => hk.elim) ?aF (Kd.R_drewN HRp.out _) (pw_below_drewN HBp.out _) (pw_below_drewN HBp.out _).size ?aL ?_; (case aP => exact rfl); (case aF => exact (fun _ _ => trivial)); (case aL => rw [List.length_map]; have := HPL.out; omega); intro v5 w5 ho5 hb5 hg5 hat5; have HO5 := Aside0.mk ho5; have HB5 := Aside0.mk hb5; clear ho5 hb5 hg5 hat5))
                go_roundg gP
                case measure => omega
                case rel => exact ⟨p + 1, v5, by first | rfl | go_num, rfl, by omega, by omega, ⟨by rw [placesU_yes HZ.out HC.out, List.map_append]; exact HO5.out⟩, ⟨HB5.out⟩⟩
            · have hd3 : (zF (evL poly (F.inv (loc W.length p))) == 0) = false := by simp [zF_eq_zero, hz]
              have HZ := Aside0.mk hz
              clear hz
              go_wp2_with (first
                  | (go_at_call 64; (with_reducible refine HL.out.mono ?_); rintro en w' ⟨rfl, ⟨n1, rfl⟩⟩)
                  | (go_at_call 62; (with_reducible refine (invF.calls _ (HTr.out.drewN _)).mono ?_); rintro en w' ⟨rfl, ⟨n2, rfl⟩⟩)
                  | (go_at_call 66; (refine (HEV.out _ _).mono ?_); rintro en w' ⟨rfl, ⟨n3, rfl⟩⟩))
              go_roundg gP
              case measure => omega
              case rel => exact ⟨p + 1, x13, by first | rfl | go_num, rfl, by omega, by omega, ⟨by rw [placesU_no (.inl HZ.out)]; exact Kd.R_drewN HRp.out _⟩, ⟨pw_below_drewN HBp.out _⟩⟩
          · obtain rfl : p = W.length := by omega
            have hd2 : decide ((W.length : Int) < (W.length : Int)) = false := decide_eq_false (by omega)
            have hrp := HRp.out
            obtain ⟨Ax, cx, ex⟩ := Kd.R_slice hrp
            rw [List.length_map] at ex
            subst ex
            have HP := HOP.out
            simp only [Option.bind_some] at HP
            rw [← HPO.out] at HP
            have hpu : placesL W.length H poly = placesU W.length H poly W.length := rfl
            rw [hpu] at HP
            have HOP2 := Aside0.mk HP
            clear HP hpu HOP hrp
            generalize hpp : placesU W.length H poly W.length = pp at *
            clear hpp
            by_cases hle : pp.length = e
            · have hd4 : ((pp.length : Int) == (e : Int)) = true := by simp [hle]
              have HLE := Aside0.mk hle
              clear hle
              go_wp2
              go_ret2
              exact ⟨_, by rw [HOP2.out, if_pos HLE.out]; rfl, ⟨_, Kd.R_lower HRp.out HB4.out.size, fun pl h => by rw [HOP2.out, if_pos HLE.out] at h; cases h; rfl⟩, HBx.out⟩
            · have hd4 : ((pp.length : Int) == (e : Int)) = false := by simp; omega
              have HLE := Aside0.mk hle
              clear hle
              go_wp2
              go_ret2
              exact ⟨_, by rw [HOP2.out, if_neg HLE.out]; rfl, ⟨_, Kd.R_lower HRp.out HB4.out.size, fun pl h => by rw [HOP2.out, if_neg HLE.out] at h; cases h⟩, HBx.out⟩
end Go.Proofs.YtgcibhbhbgoacaaDoor

namespace Go.Proofs.YtgcibhbhbgoacaaDoor
open Go.Proofs.YtgcibhbhbgoacaaDoor.G Go.Proofs.YtgcibhbhbgoacaaDoor.H FB
open Go.RowKit Go.Proofs.YtgcibhbhbgoacaaDoorW.PrintWords Go.Proofs.YtgcibhbhbgoacaaDoorW.PrintLast Go.Proofs.YtgcibhbhbgoacaaDoorW.PrintMore
set_option linter.unusedVariables false
set_option linter.unusedSimpArgs false

theorem exp_prod {N j p : Nat} (hp : p < N) (hN : N ≤ 255) (hj : j ≤ 64) : gf_Exp.f ((j : Int) * ((N : Int) - 1 - p)) = some (zF (pw (j * (N - 1 - p)))) := by
  have e : (N : Int) - 1 - p = ((N - 1 - p : Nat) : Int) := by omega
  rw [e, ← Int.natCast_mul]
  refine exp_nat _ ?_
  have := Nat.mul_le_mul hj (show N - 1 - p ≤ 255 by omega)
  omega
theorem exp_prod_wrap {N j p : Nat} (hp : p < N) (hN : N ≤ 255) (hj : j ≤ 64) : IntKind.i64.wrap ((j : Int) * ((N : Int) - 1 - p)) = (j : Int) * ((N : Int) - 1 - p) := by
  have e : (N : Int) - 1 - p = ((N - 1 - p : Nat) : Int) := by omega
  have := Nat.mul_le_mul hj (show N - 1 - p ≤ 255 by omega)
  rw [e, ← Int.natCast_mul, IntKind.wrap_i64]
  omega
theorem idxNZ_zero (l : List F) : decide (0 ≤ idxNZ (Iz l) 0) = !decide (∀ x ∈ l, x = 0) := by
  rw [Bool.eq_iff_iff]
  simp only [decide_eq_true_eq, Bool.not_eq_true', decide_eq_false_iff_not]
  rw [idxNZ_ge _ 0 (Int.le_refl 0)]
  constructor
  · rintro ⟨x, hx, h0⟩ h
    obtain ⟨a, ha, rfl⟩ := List.mem_map.1 hx
    exact h0 (zF_eq_zero.2 (h a ha))
  · intro h
    apply Classical.byContradiction
    intro h2
    refine h fun x hx => ?_
    apply Classical.byContradiction
    intro h3
    exact h2 ⟨zF x, List.mem_map.2 ⟨x, hx, rfl⟩, fun e => h3 (zF_eq_zero.1 e)⟩
theorem Iz_cell {w : World} {base g cap n : Nat} {ok : Nat → Prop} {l : List F} (h : (Kd.int .u8).R 5 w base ok (.slice (some ⟨g, 0, none⟩) n cap) (Iz l)) {i : Nat} (hi : i < l.length) :
    w.cell? ⟨g, i, none⟩ = some (.int .u8 (zF (l.getD i 0))) ∧ w.frozen? ⟨g, i, none⟩ = false := by
  have hn := (Kd.R_reads' h).1
  rw [Iz_length] at hn
  have := Kd.R_celln 0 h (i : Int) (by omega) (by omega)
  rw [Int.toNat_natCast] at this
  have e : rdOf 0 (Iz l) (i : Int) = zF (l.getD i 0) := by
    have := rd_IzN l i
    unfold rd at this
    exact this
  rw [e] at this
  exact this
theorem Iz_put {w : World} {base g cap n : Nat} {ok : Nat → Prop} {l : List F} (h : (Kd.int .u8).R 5 w base ok (.slice (some ⟨g, 0, none⟩) n cap) (Iz l)) (i : Nat) (x : F) :
    (Kd.int .u8).R 5 (w.setCell ⟨g, i, none⟩ (.int .u8 (zF x))) base ok (.slice (some ⟨g, 0, none⟩) n cap) (Iz (l.set i x)) := by
  have := (Kd.R_putg h (i : Int) (zF x)).1
  rw [Int.toNat_natCast, ← Iz_set] at this
  exact this
set_option maxHeartbeats 8000000 in
set_option maxRecDepth 100000 in
theorem mend.calls {w : World} {D : Nat} {Aw : Option Addr} {cw : Nat} {W : List F} {check : Nat} {Ah : Option Addr} {ch : Nat} {H : List Nat} {As : Option Addr} {cs : Nat} {S : List F}
    (hd : DecW w D Aw cw W check Ah ch H As cs S) (hW : W.length ≤ 255) (hW0 : 0 < W.length) (hS2 : S.length ≤ 64) (hck : check ≤ 64) {Ap : Option Addr} {cp : Nat} {ps : List Nat} (hps : (Kd.int .i64).C w Ap ps.length (ps.map Int.ofNat)) (hpc : ps.length ≤ cp)
    (hm : ps.length ≤ S.length) (hpb : ∀ p ∈ ps, p < W.length) (ht : TabW w) :
    Calls Tryd.prog 52 #[.pointer (some ⟨D, 0, none⟩), .slice Ap ps.length cp] w fun en w' => ∃ v0 : Value, en = .returned (.tuple #[v0, .bool (mendP W.length W check (fun j => S.getD j 0) ps).isSome]) ∧
      (∃ l, (Kd.int .u8).R 5 w' w.heap.size (fun _ => True) v0 l ∧ ∀ r, mendP W.length W check (fun j => S.getD j 0) ps = some r → l = Iz r) ∧ Below w.heap.size w w' := by
  have HT := Aside0.mk ht
  have HD := Aside0.mk hd
  have HPS := Aside0.mk hps
  have HPB := Aside0.mk hpb
  obtain ⟨m, hmE⟩ : ∃ m, m = ps.length := ⟨_, rfl⟩
  obtain ⟨M, hM⟩ : ∃ M : Nat → Nat → F, M = vanM W.length (fun j => S.getD j 0) ps := ⟨_, rfl⟩
  have HMM := Aside0.mk hM
  rw [← hmE] at hm hpc ⊢
  have HME := Aside0.mk hmE
  clear ht hd hps hpb hM hmE
  go_enter Tryd.func52, Tryd.ntmps52
  go_wp2
  go_loopg [18, 6] (m + 1) (fun kq v18 v6 w' => ∃ (r : Nat) (x6 : Value) (bs cc : Nat → Nat), v18 = .int .i64 (r : Int) ∧ x6 = v6 ∧ r ≤ m ∧ kq + r = m + 1 ∧ Aside0 (RowsW w' w.heap.size x6 r (m + 1) bs cc M) ∧ Aside0 (r = 0 → x6 = .slice none 0 0) ∧ Aside0 (Below w.heap.size w w'))
  case atStart => exact ⟨0, _, fun _ => 0, fun _ => 0, rfl, rfl, by omega, by omega, ⟨RowsW.nil _ _ _ _ _ _⟩, ⟨fun _ => rfl⟩, ⟨Below.refl _ _⟩⟩
  case round =>
    obtain ⟨r, x6, bs, cc, rfl, rfl, hre, hrk, HR, HR0, HB⟩ := hrel
    obtain ⟨gR, rfl⟩ : ∃ g, gk = g + 1 := ⟨gk - 1, by omega⟩
    by_cases hrl : r < m
    · have hd1 : decide ((r : Int) < (m : Int)) = true := decide_eq_true (by omega)
      go_wp2
      generalize wr = wo at *
      go_loopg [23, 8] (m + 1) (fun kq v23 v8 w' => ∃ (i : Nat) (x8 : Value), v23 = .int .i64 (i : Int) ∧ x8 = v8 ∧ i ≤ m ∧ kq + i = m + 1 ∧ Aside0 (Kd.R (Kd.int .u8) 5 w' wo.heap.size (fun _ => True) x8 ((List.range i).map fun j => zF (M r j))) ∧ Aside0 (Below wo.heap.size wo w'))
      case atStart => exact ⟨0, _, rfl, rfl, by omega, by omega, ⟨Kd.R_nil _ _ _ _ _⟩, ⟨Below.refl _ _⟩⟩
      case round =>
        obtain ⟨i, x8, rfl, rfl, hie, hik, HRi, HBi⟩ := hrel
        obtain ⟨gI, rfl⟩ : ∃ g, gk = g + 1 := ⟨gk - 1, by omega⟩
        have HBw := Aside0.mk (HB.out.trans (HBi.out.mono HB.out.size))
        have hx0 := (HD.out.below HBw.out).c0
        have hx3 := (HD.out.below HBw.out).c3
        by_cases hil : i < m
        · have hd2 : decide ((i : Int) < (m : Int)) = true := decide_eq_true (by omega)
          have hil' : i < ps.length := by have := HME.out; omega
          obtain ⟨ap, hap, hxp⟩ := C_cellN (Kd.C_below HPS.out HBw.out) hil'
          have hpi : ps[i] < W.length := HPB.out _ (List.getElem_mem hil')
          have e1 : pw (r * (W.length - 1 - ps[i])) = M r i := by
            rw [HMM.out]; unfold vanM
            rw [if_pos hil']
            simp [List.getD_eq_getElem?_getD, List.getElem?_eq_getElem hil']
          have hex := exp_prod (j := r) hpi hW (by omega)
          have hwr := exp_prod_wrap (j := r) hpi hW (by omega)
          rw [e1] at hex
          clear e1
          generalize ps[i] = p at *
          have HEX := Aside0.mk hex
          clear hex
          have hi0 := eq_true (show (0 : Int) ≤ (i : Int) by omega)
          have hi1 := eq_true (show (i : Int) < (m : Int) by omega)
          subst hap
          go_wp2_with (first
            | (go_at_call 35; (with_reducible refine (gf_Exp.calls _ _ _ HEX.out (HT.out.below HBw.out)).mono ?_); rintro en w' ⟨rfl, ⟨n1, rfl⟩⟩)
            | ((with_reducible refine gate_builtin (b := .append) (xs := #[.tmp 27, .tmp 39]) rfl ?_); at_builtin; refine Kd.R_append (Kd.int .u8) (w0 := wo) wo.heap.size rfl (.tmp 27) (.tmp 39) 22 5 (.int .u8 0) 1 rfl Tryd.underlying22 G.info5 rfl (by decide) (by omega) x8 ((List.range i).map fun j => zF (M r j)) (zF (M r i)) [.int .u8 (zF (M r i))] (fun _ => True) (fun _ => False) rfl rfl ?aP (fun _ hk => hk.elim) ?aF (Kd.R_drewN HRi.out _) (pw_below_drewN HBi.out _) (pw_below_drewN HBi.out _).size ?aL ?_; (case aP => exact rfl); (case aF => exact (fun _ _ => trivial)); (case aL => simp; omega); intro v1 w1 ho hb1 hg hat; have HO := Aside0.mk ho; have HB1 := Aside0.mk hb1; clear ho hb1 hg hat))
          go_roundg gI
          case measure => omega
          case rel => exact ⟨i + 1, v1, by first | rfl | go_num, rfl, by omega, by omega, ⟨by have h := HO.out; rw [show (List.range i).map (fun j => zF (M r j)) ++ [zF (M r i)] = (List.range (i + 1)).map fun j => zF (M r j) by rw [List.range_succ, List.map_append]; rfl] at h; exact h⟩, ⟨HB1.out⟩⟩
        · obtain rfl : m = i := by omega
          have hd2 : decide ((m : Int) < (m : Int)) = false := decide_eq_false (by omega)
          obtain ⟨ta, hta, hxc⟩ := C_cellF (HD.out.below HBw.out).rS (i := r) (by omega)
          have e1 : S.getD r 0 = M r m := by rw [HMM.out]; unfold vanM; rw [if_neg (by have := HME.out; omega)]
          rw [e1] at hxc
          clear e1
          rw [hta] at hx3
          have HTA := Aside0.mk hta
          clear hta
          have hq0 := eq_true (show 0 ≤ (r : Int) by omega)
          have hq1 := eq_true (show (r : Int) < (S.length : Int) by omega)
          go_wp2_with (first
            | ((with_reducible refine gate_builtin (b := .append) (xs := #[.tmp 43, .tmp 51]) rfl ?_); at_builtin; refine Kd.R_append (Kd.int .u8) (w0 := wo) wo.heap.size rfl (.tmp 43) (.tmp 51) 22 5 (.int .u8 0) 1 rfl Tryd.underlying22 G.info5 rfl (by decide) (by omega) x8 ((List.range m).map fun j => zF (M r j)) (zF (M r m)) [.int .u8 (zF (M r m))] (fun _ => True) (fun _ => False) rfl rfl ?aP (fun _ hk => hk.elim) ?aF HRi.out HBi.out HBi.out.size ?aL ?_; (case aP => exact rfl); (case aF => exact (fun _ _ => trivial)); (case aL => simp; omega); intro v1 w1 ho hb1 hg hat; rw [show (List.range m).map (fun j => zF (M r j)) ++ [zF (M r m)] = (List.range (m + 1)).map fun j => zF (M r j) by rw [List.range_succ, List.map_append]; rfl] at ho; obtain ⟨g, cg, e1, hgb, hgl, hgc⟩ := Kd.R_form ho (by simp); rw [List.length_map, List.length_range] at e1; subst e1; clear hgc; have HO := Aside0.mk ho; have HB1 := Aside0.mk hb1; have HR1 := Aside0.mk (HR.out.below HB1.out); have HB2 := Aside0.mk (HB.out.trans (HB1.out.mono HB.out.size)); clear ho hb1 hg hat hgb hgl)
            | ((with_reducible refine gate_builtin (b := .append) (xs := #[.tmp 42, .tmp 53]) rfl ?_); at_builtin; refine print_append_cells (w0 := w) w.heap.size rfl (.tmp 42) (.tmp 53) 80 22 (.slice none 0 0) 1 24 rfl Tryd.underlying80 info22 rfl (by omega) (by omega) x6 r ((List.range r).map fun i => Value.slice (some ⟨bs i, 0, none⟩) (m + 1) (cc i)) [.slice (some ⟨g, 0, none⟩) (m + 1) cg] rfl rfl rfl (by simp [Value.oneCell']) HR1.out.own HB2.out HB2.out.size (by omega) ?_; intro v2 w2 ho2 hb2 hg2 hat2; have HR2 := Aside0.mk (HR1.out.push (by omega) HO.out HR.out.lt HB.out.size ho2 hg2); have HB3 := Aside0.mk hb2; clear ho2 hb2 hg2 hat2))
          go_roundg gR
          case measure => omega
          case rel => exact ⟨r + 1, v2, _, _, by first | rfl | go_num, rfl, by omega, by omega, ⟨HR2.out⟩, ⟨fun h => by omega⟩, ⟨HB3.out⟩⟩
    · obtain rfl : m = r := by omega
      have hd1 : decide ((m : Int) < (m : Int)) = false := decide_eq_false (by omega)
      have hop : mendP W.length W check (fun j => S.getD j 0) ps = (solveM m m 0 M).bind fun M' =>
          if ∀ j, j < check → syn (layOn ps ((List.range m).map fun i => M' i m) W) j = 0 then some (layOn ps ((List.range m).map fun i => M' i m) W) else none := by rw [HMM.out, HME.out]; rfl
      have hs2 : 2 ≤ w.heap.size := HT.out.size
      have hsolve := solveR.calls w HR.out HR0.out (by omega) (HT.out.below HB.out) hs2 HB.out
      clear hs2
      cases hsv : solveM m m 0 M with
      | none =>
        rw [hsv] at hop hsolve
        have HOP := Aside0.mk hop
        have HSV := Aside0.mk hsolve
        clear hop hsolve hsv
        go_wp2_with (go_at_call 65; (with_reducible refine HSV.out.mono ?_); rintro en w1 ⟨v0, rfl, hr1, hb1⟩; have HB1 := Aside0.mk hb1; clear hr1 hb1)
        go_ret2
        refine ⟨.slice none 0 0, by rw [HOP.out]; rfl, ⟨[], Kd.R_nil _ _ _ _ _, fun pl h => by rw [HOP.out] at h; cases h⟩, HB1.out⟩
      | some M' =>
        rw [hsv] at hop hsolve
        simp only [Option.map_some, Option.getD_some, Option.isSome_some, Option.bind_some] at hsolve hop
        have HSV := Aside0.mk hsolve
        clear hsolve hsv
        obtain ⟨bys, hbys⟩ : ∃ bys : List F, bys = (List.range m).map fun i => M' i m := ⟨_, rfl⟩
        rw [← hbys] at hop
        have hbz : (List.range m).map (fun i => zF (M' i m)) = Iz bys := by rw [hbys]; simp [Iz]
        have hbl : bys.length = m := by rw [hbys]; simp
        have HOP := Aside0.mk hop
        have HBZ := Aside0.mk hbz
        have HBL := Aside0.mk hbl
        clear hop hbys hbz hbl
        go_wp2_with (first
          | (go_at_call 65; (with_reducible refine HSV.out.mono ?_); rintro en w1 ⟨v0, rfl, hr1, hb1⟩; rw [HBZ.out] at hr1; obtain ⟨Av, cv, e9⟩ := Kd.R_slice hr1; rw [Iz_length, HBL.out] at e9; subst e9; have HV0 := Aside0.mk hr1; have HB1 := Aside0.mk hb1; have hx0 := (HD.out.below hb1).c0; clear hr1 hb1)
          | (go_at_call 38; (refine (cloneF.calls (HD.out.below HB1.out).rW (HD.out.below HB1.out).kW (by omega)).mono ?_); rintro en w2 ⟨v2, rfl, hr2, hb2⟩; obtain ⟨g, cg, e1, hgb, hgl, hgc⟩ := Kd.R_form hr2 (by rw [Iz_length]; exact hW0); rw [Iz_length] at e1; subst e1; clear hgc hgl; have HO2 := Aside0.mk hr2; have HB2 := Aside0.mk hb2; clear hr2 hb2))
        clear hx0
        go_loopg [70] (m + 1) (fun kq v70 w' => ∃ (i : Nat) (Wi : List F), v70 = .int .i64 (i : Int) ∧ i ≤ m ∧ kq + i = m + 1 ∧ Wi.length = W.length ∧ Aside0 (layOn (ps.drop i) (bys.drop i) Wi = layOn ps bys W) ∧
          Aside0 ((Kd.int .u8).R 5 w' w1.heap.size (fun _ => True) (.slice (some ⟨g, 0, none⟩) W.length cg) (Iz Wi)) ∧ Aside0 (Below w1.heap.size w1 w'))
        case atStart => exact ⟨0, W, rfl, by omega, by omega, rfl, ⟨rfl⟩, ⟨HO2.out⟩, ⟨HB2.out⟩⟩
        case round =>
          clear HR HR0 HB HSV HO2 HB2
          obtain ⟨i, Wi, rfl, him, hik, hWl, HL, HRo, HBo⟩ := hrel
          obtain ⟨gI, rfl⟩ : ∃ g, gk = g + 1 := ⟨gk - 1, by omega⟩
          have HBx := Aside0.mk (HB1.out.trans (HBo.out.mono HB1.out.size))
          by_cases hil : i < m
          · have hd2 : decide ((i : Int) < (m : Int)) = true := decide_eq_true (by omega)
            have hil' : i < ps.length := by have := HME.out; omega
            obtain ⟨ap, hap, hxp⟩ := C_cellN (Kd.C_below HPS.out HBx.out) hil'
            have hpi : ps[i] < W.length := HPB.out _ (List.getElem_mem hil')
            have hib : i < bys.length := by have := HBL.out; omega
            obtain ⟨av, hav, hxv⟩ := C_cellF (by have h := Kd.C_below (Kd.R_reads' HV0.out).2.2 HBo.out; rwa [Iz_length] at h) hib
            have hbi : bys.getD i 0 = bys[i] := by rw [List.getD_eq_getElem?_getD, List.getElem?_eq_getElem hib]; rfl
            rw [hbi] at hxv
            have hl2 : layOn (ps.drop (i + 1)) (bys.drop (i + 1)) (Wi.set ps[i] (Wi.getD ps[i] 0 + bys[i])) = layOn ps bys W := by
              rw [← HL.out, List.drop_eq_getElem_cons hil', List.drop_eq_getElem_cons hib]; rfl
            have HL2 := Aside0.mk hl2
            clear hl2 HL hbi
            generalize ps[i] = q at *
            generalize bys[i] = y at *
            obtain ⟨ho1, ho2⟩ := Iz_cell HRo.out (i := q) (by omega)
            have HP := Aside0.mk (Iz_put HRo.out q (Wi.getD q 0 + y))
            generalize Wi.getD q 0 = z at *
            have hi0 := eq_true (show (0 : Int) ≤ (i : Int) by omega)
            have hi1 := eq_true (show (i : Int) < (m : Int) by omega)
            have hq0 := eq_true (show (0 : Int) ≤ (q : Int) by omega)
            have hq1 := eq_true (show (q : Int) < (W.length : Int) by omega)
            subst hap hav
            go_upto_region 20 with (fail)
            refine wp_region_still_tail 12 (by kernel_rfl) (by kernel_rfl) ?_
            simp only [List.take_succ_cons, List.take_zero, List.drop_succ_cons, List.drop_zero]
            repeat still_step
            still_call (addF _ _ _)
            repeat still_step
            refine wpStill_nil ?_
            change wpList _ _ _ _ _ wr.drew
            go_wp2
            go_roundg gI
            case measure => omega
            case rel => exact ⟨i + 1, _, by first | rfl | go_num, by omega, by omega, by rw [List.length_set]; exact hWl, ⟨HL2.out⟩, ⟨Kd.R_drew HP.out⟩, ⟨below_drew (HBo.out.setCell hgb _)⟩⟩
          · obtain rfl : m = i := by omega
            have hd2 : decide ((m : Int) < (m : Int)) = false := decide_eq_false (by omega)
            have hl3 : Wi = layOn ps bys W := by
              have h := HL.out
              rw [HME.out, List.drop_length] at h
              exact h
            rw [← hl3] at HOP
            clear hl3 HL
            have hx1 := (HD.out.below HBx.out).c1
            have hco : (Kd.int .u8).C wr (some ⟨g, 0, none⟩) Wi.length (Iz Wi) := by have h := (Kd.R_reads' HRo.out).2.2; rwa [Iz_length] at h
            have hkg : Wi.length ≤ cg := by have h := (Kd.R_reads' HRo.out).2.1; omega
            have hvl := valuesF.calls hco hkg (by omega) check (by omega) (HT.out.below HBx.out)
            rw [hWl] at hvl
            have HVL := Aside0.mk hvl
            clear hvl hco hkg
            go_wp2_with (first
              | (go_at_call 45; (with_reducible refine HVL.out.mono ?_); rintro en w3 ⟨v3, rfl, hr3, hb3⟩; obtain ⟨A3, c3, e3⟩ := Kd.R_slice hr3; subst e3; have HV3 := Aside0.mk hr3; have HB3 := Aside0.mk hb3; clear hr3 hb3)
              | (go_at_call 67; (refine (contains67.calls A3 c3 _ _ (Kd.R_reads' HV3.out).2.2 (by rw [Iz_length, List.length_map, List.length_range]; omega)).mono ?_); rintro en w' ⟨rfl, rfl⟩))
            go_ret2
            have hz := idxNZ_zero ((List.range check).map (syn Wi))
            by_cases hall : ∀ j, j < check → syn Wi j = 0
            · have h1 : decide (0 ≤ idxNZ (Iz ((List.range check).map (syn Wi))) 0) = false := by
                rw [hz, decide_eq_true (fun x hx => by obtain ⟨j, hj, rfl⟩ := List.mem_map.1 hx; exact hall j (List.mem_range.1 hj))]; rfl
              have hop := HOP.out
              rw [if_pos hall] at hop
              exact ⟨_, by rw [hop, h1]; rfl, ⟨Iz Wi, Kd.R_lower (Kd.R_below HRo.out HB3.out) HB1.out.size, fun r h => by rw [hop] at h; cases h; rfl⟩, HBx.out.trans (HB3.out.mono HBx.out.size)⟩
            · have h1 : decide (0 ≤ idxNZ (Iz ((List.range check).map (syn Wi))) 0) = true := by
                rw [hz, decide_eq_false (fun h => hall fun j hj => h _ (List.mem_map.2 ⟨j, List.mem_range.2 hj, rfl⟩))]; rfl
              have hop := HOP.out
              rw [if_neg hall] at hop
              exact ⟨_, by rw [hop, h1]; rfl, ⟨Iz Wi, Kd.R_lower (Kd.R_below HRo.out HB3.out) HB1.out.size, fun r h => by rw [hop] at h; cases h⟩, HBx.out.trans (HB3.out.mono HBx.out.size)⟩
end Go.Proofs.YtgcibhbhbgoacaaDoor

namespace Go.Proofs.YtgcibhbhbgoacaaDoor
open Go.Proofs.YtgcibhbhbgoacaaDoor.G Go.Proofs.YtgcibhbhbgoacaaDoor.H FB
open Go.RowKit Go.Proofs.YtgcibhbhbgoacaaDoorW.PrintWords Go.Proofs.YtgcibhbhbgoacaaDoorW.PrintLast Go.Proofs.YtgcibhbhbgoacaaDoorW.PrintMore
set_option linter.unusedVariables false
set_option linter.unusedSimpArgs false

/-- what one try finds, out of the lists that lie in memory -/
def foundL (W : List F) (check : Nat) (H : List Nat) (S T : List F) (e : Nat) : Option (List F) :=
  (othersP W.length (fun i => T.getD i 0) H e).bind fun pl => mendP W.length W check (fun j => S.getD j 0) (H ++ pl)
set_option maxHeartbeats 8000000 in
set_option maxRecDepth 100000 in
theorem found.calls {w : World} {D B1 B2 : Nat} {Aw : Option Addr} {cw : Nat} {W : List F} {check : Nat} {Ah : Option Addr} {ch : Nat} {H : List Nat} {As : Option Addr} {cs : Nat} {S : List F} {At : Option Addr} {ct : Nat} {T : List F}
    (hd : DecW w D Aw cw W check Ah ch H As cs S) (htn : TurnW w D At ct T) (hb1 : w.cell? ⟨B1, 0, none⟩ = some (.pointer (some ⟨D, 0, none⟩))) (hb2 : w.cell? ⟨B2, 0, none⟩ = some (.slice Ah H.length ch))
    (e : Nat) (hW : W.length ≤ 255) (hW0 : 0 < W.length) (hT : T.length ≤ 64) (hS2 : S.length ≤ 64) (hST : T.length = S.length) (hck : check ≤ 64) (hb : H.length + 2 * e ≤ T.length) (hhb : ∀ h ∈ H, h < W.length) (ht : TabW w) :
    Calls Tryd.prog 50 #[.int .i64 e, .pointer (some ⟨B1, 0, none⟩), .pointer (some ⟨B2, 0, none⟩)] w fun en w' => ∃ v0 : Value, en = .returned (.tuple #[v0, .bool (foundL W check H S T e).isSome]) ∧
      (∃ l, (Kd.int .u8).R 5 w' w.heap.size (fun _ => True) v0 l ∧ ∀ r, foundL W check H S T e = some r → l = Iz r) ∧ Below w.heap.size w w' := by
  have HT := Aside0.mk ht
  have HD := Aside0.mk hd
  have HB1 := Aside0.mk hb1
  have HB2 := Aside0.mk hb2
  have HHB := Aside0.mk hhb
  have HOT := Aside0.mk (others.calls hd htn e hW hT hb ht)
  clear ht hd htn hb2 hhb
  go_enter Tryd.func50, Tryd.ntmps50
  cases hot : othersP W.length (fun i => T.getD i 0) H e with
  | none =>
    rw [hot] at HOT
    have hf : foundL W check H S T e = none := by unfold foundL; rw [hot]; rfl
    have HF := Aside0.mk hf
    clear hf hot
    go_wp2_with (go_at_call 51; (with_reducible refine HOT.out.mono ?_); rintro en w1 ⟨v0, rfl, _, hbl⟩; have HBL := Aside0.mk hbl; clear hbl)
    go_ret2
    exact ⟨.slice none 0 0, by rw [HF.out]; rfl, ⟨[], Kd.R_nil _ _ _ _ _, fun r h => by rw [HF.out] at h; cases h⟩, HBL.out⟩
  | some pl =>
    have hpl := others_some hot
    rw [hot] at HOT
    have hf : foundL W check H S T e = mendP W.length W check (fun j => S.getD j 0) (H ++ pl) := by unfold foundL; rw [hot]; rfl
    have HPL := Aside0.mk hpl
    obtain ⟨qs, hqs⟩ : ∃ qs : List Nat, qs = H ++ pl := ⟨_, rfl⟩
    rw [← hqs] at hf
    have hqz : H.map Int.ofNat ++ pl.map Int.ofNat = qs.map Int.ofNat := by rw [hqs, List.map_append]
    have hqb : qs.length ≤ S.length ∧ ∀ q ∈ qs, q < W.length := by
      rw [hqs]
      refine ⟨by rw [List.length_append, hpl.1]; omega, fun q hq => (List.mem_append.1 hq).elim (HHB.out q) (fun h => (hpl.2.2 q h).1)⟩
    have HQZ := Aside0.mk hqz
    have HQB := Aside0.mk hqb
    clear hqs hqz hqb
    have HF := Aside0.mk hf
    have HEL := Aside0.mk hpl.1
    clear hf hot hpl
    go_wp2_with (go_at_call 51; (with_reducible refine HOT.out.mono ?_); rintro en w1 ⟨v0, rfl, ⟨l, hl, hl2⟩, hbl⟩; have hl2 := hl2 pl rfl; subst hl2; obtain ⟨Al, cl, el⟩ := Kd.R_slice hl; rw [map_ofNat_length] at el; subst el; have HL := Aside0.mk hl; have HBL := Aside0.mk hbl; clear hl hbl)
    have hs1 := (HBL.out.cell (World.block_lt_of_cell? _ _ HB1.out)).trans HB1.out
    have hs2 := (HBL.out.cell (World.block_lt_of_cell? _ _ HB2.out)).trans HB2.out
    clear hb1
    have HDr := Aside0.mk (HD.out.below HBL.out)
    go_region_held3 (fun w' => w'.cell? ⟨B1, 0, none⟩ = some (.pointer (some ⟨D, 0, none⟩)) ∧ w'.cell? ⟨B2, 0, none⟩ = some (.slice Ah H.length ch)) (go_keep)
      (first
        | (go_at_call 53; refine (cloneN.calls (Kd.C_drew HDr.out.rH) HDr.out.kH (by omega)).mono ?_; rintro en w2 ⟨v2, rfl, hr2, hb2⟩; have hk1 := (hb2.cell (World.block_lt_of_cell? _ _ hs1)).trans hs1; have hk2 := (hb2.cell (World.block_lt_of_cell? _ _ hs2)).trans hs2; have HR2 := Aside0.mk hr2; have HB3 : Aside0 (Below w1.heap.size w1 w2) := ⟨⟨hb2.os, hb2.tape, hb2.output, hb2.size, hb2.block⟩⟩; clear hr2 hb2)
        | (refine Kd.R_append_rows_step (Kd.int .i64) (w0 := w1) w1.heap.size (by rfl) (.tmp 18) (.tmp 19) 37 3 (.int .i64 0) 8 (by rfl) Tryd.underlying37 G.info3 rfl (by decide) (by omega) v2 (H.map Int.ofNat) (pl.map Int.ofNat) Al pl.length cl (fun _ => True) (fun _ => False) (by rfl) (by rfl) HR2.out (by have h := Kd.C_below (Kd.R_reads' HL.out).2.2 HB3.out; rw [map_ofNat_length] at h; exact h) (fun _ _ h => h) (fun _ h => h.elim) (fun _ _ => trivial) HB3.out HB3.out.size (by rw [map_ofNat_length]; have := HEL.out; omega) ?_; intro v4 w4 ho4 hb4 hg4 hat4; rw [HQZ.out] at ho4; obtain ⟨A4, c4, e4⟩ := Kd.R_slice ho4; rw [map_ofNat_length] at e4; subst e4; have hk3 := (hb4.cell (World.block_lt_of_cell? _ _ hs1)).trans hs1; have hk4 := (hb4.cell (World.block_lt_of_cell? _ _ hs2)).trans hs2; have HO4 := Aside0.mk ho4; have HB4 := Aside0.mk hb4; have HB5 := Aside0.mk (HBL.out.trans (hb4.mono HBL.out.size)); clear ho4 hb4 hg4 hat4)
        | (go_at_call 52; refine (mend.calls (HD.out.below HB5.out) hW hW0 hS2 hck (by have h := (Kd.R_reads' HO4.out).2.2; rw [map_ofNat_length] at h; exact h) (Kd.R_reads' HO4.out).2.1 HQB.out.1 HQB.out.2 (HT.out.below HB5.out)).mono ?_; rintro en w5 ⟨v5, rfl, hl5, hb5⟩; have hk5 := (hb5.cell (World.block_lt_of_cell? _ _ hk3)).trans hk3; have hk6 := (hb5.cell (World.block_lt_of_cell? _ _ hk4)).trans hk4; have HL5 := Aside0.mk hl5; have HB6 := Aside0.mk hb5; clear hl5 hb5))
    go_wp2
    go_ret2
    obtain ⟨l5, h5, h6⟩ := HL5.out
    exact ⟨v5, by rw [HF.out]; rfl, ⟨l5, Kd.R_lower h5 HB5.out.size, fun r h => h6 r (by rw [← HF.out]; exact h)⟩, HB5.out.trans (HB6.out.mono HB5.out.size)⟩
end Go.Proofs.YtgcibhbhbgoacaaDoor

namespace Go.Proofs.YtgcibhbhbgoacaaDoor
open Go.Proofs.YtgcibhbhbgoacaaDoor.G Go.Proofs.YtgcibhbhbgoacaaDoor.H FB
open Go.RowKit Go.Proofs.YtgcibhbhbgoacaaDoorW.PrintWords Go.Proofs.YtgcibhbhbgoacaaDoorW.PrintLast Go.Proofs.YtgcibhbhbgoacaaDoorW.PrintMore
set_option linter.unusedVariables false
set_option linter.unusedSimpArgs false

theorem bcell {W w1 : World} (hb : Below W.heap.size W w1) : (∀ b o, b < W.heap.size → w1.cell? ⟨b, o, none⟩ = W.cell? ⟨b, o, none⟩) ∧ (∀ b o, b < W.heap.size → w1.frozen? ⟨b, o, none⟩ = W.frozen? ⟨b, o, none⟩) :=
  ⟨fun b o h => hb.cell (p := ⟨b, o, none⟩) h, fun b o h => hb.frozen (p := ⟨b, o, none⟩) h⟩
def chk (n : Nat) (check : Int) : Int := if check < 1 ∨ 64 < check ∨ (n : Int) ≤ check then 2 else if 255 < n then 1 else 0
theorem checked_ev (W : List F) (check : Int) : Ev (fun k => rs_checked.f k (Iz W) check) (chk W.length check) := by
  have key : ∀ b, Ev (fun k => rs_checked.j0 k (Iz W) b) (if b = true then 2 else if 255 < W.length then 1 else 0) := fun b =>
    Ev.step (f := fun _ => some (if b = true then 2 else if 255 < W.length then 1 else 0)) (fun k => by
      simp only [rs_checked.j0, Iz_length]
      by_cases hb : b = true
      · rw [if_pos hb, if_pos hb]
      · rw [if_neg hb, if_neg hb]
        by_cases h : 255 < W.length
        · rw [if_pos (by omega), if_pos h]
        · rw [if_neg (by omega), if_neg h]) (Ev.now _)
  unfold chk
  by_cases h1 : check < 1
  · rw [if_pos (.inl h1)]
    exact Ev.congr (fun k => by unfold rs_checked.f; rw [if_pos h1]) (key true)
  · by_cases h2 : 64 < check
    · rw [if_pos (.inr (.inl h2))]
      exact Ev.congr (fun k => by unfold rs_checked.f; rw [if_neg h1, if_pos h2]) (key true)
    · by_cases h3 : (W.length : Int) ≤ check
      · rw [if_pos (.inr (.inr h3))]
        exact Ev.congr (fun k => by unfold rs_checked.f; rw [if_neg h1, if_neg h2, Iz_length, decide_eq_true h3]) (key true)
      · rw [if_neg (by omega)]
        exact Ev.congr (fun k => by unfold rs_checked.f; rw [if_neg h1, if_neg h2, Iz_length, decide_eq_false h3]) (key false)
theorem checkedF.calls {A : Option Addr} {c : Nat} {l : List F} {w : World} (hr : (Kd.int .u8).C w A l.length (Iz l)) (hc : l.length ≤ c) (check : Int) :
    Calls Tryd.prog 44 #[.slice A l.length c, .int .i64 check] w fun e w' => e = .returned (.int .i64 (chk l.length check)) ∧ Drawn0 w w' := by
  obtain ⟨k, hk⟩ := (checked_ev l check).rounds
  have := rs_checked.calls k A c (Iz l) check _ w (by rw [Iz_length]; exact hr) (by rw [Iz_length]; exact hc) hk
  rw [Iz_length] at this
  exact this
/-- the holes are places, and none twice -/
def holesOk (N : Nat) : List Int → List Nat → Bool
  | [], _ => true
  | h :: hs, seen => if h < 0 then false else if (N : Int) ≤ h then false else if seen.contains h.toNat then false else holesOk N hs (seen ++ [h.toNat])
def triesL (W : List F) (check : Nat) (H : List Nat) (S T : List F) : Nat → Option (List F)
  | 0 => foundL W check H S T 0
  | e + 1 => match foundL W check H S T (e + 1) with
    | some r => some r
    | none => triesL W check H S T e
def synL (W : List F) (check : Nat) : List F := (List.range check).map (syn W)
def turnL (W : List F) (check : Nat) (H : List Nat) : List F := (List.range check).map (turnF W.length H fun j => (synL W check).getD j 0)
def decL (W : List F) (check : Nat) (H : List Nat) : Option (List F) := triesL W check H (synL W check) (turnL W check H) ((check - H.length) / 2)
/-- what Decode answers: the data, the places, the error -/
def decR (W : List F) (check : Int) (hs : List Int) : List F × List Nat × Int :=
  if chk W.length check ≠ 0 then ([], [], chk W.length check)
  else if holesOk W.length hs [] = false then ([], [], 2)
  else if check < hs.length then ([], [], 290)
  else match decL W check.toNat (hs.map Int.toNat) with
    | none => ([], [], 290)
    | some r => (r.take (W.length - check.toNat), diffU W r W.length, 0)
theorem foundL_len {W : List F} {k : Nat} {H : List Nat} {S T : List F} {e : Nat} {r : List F} (h : foundL W k H S T e = some r) : r.length = W.length := by
  unfold foundL at h
  obtain ⟨pl, h1, h2⟩ := Option.bind_eq_some_iff.1 h
  exact (mend_some h2).1
theorem triesL_some {W : List F} {k : Nat} {H : List Nat} {S T : List F} {e : Nat} {r : List F} (h : foundL W k H S T e = some r) : triesL W k H S T e = some r := by
  cases e with
  | zero => exact h
  | succ e => unfold triesL; rw [h]
theorem triesL_none {W : List F} {k : Nat} {H : List Nat} {S T : List F} {e : Nat} (h : foundL W k H S T (e + 1) = none) : triesL W k H S T (e + 1) = triesL W k H S T e := by
  conv => lhs; unfold triesL
  rw [h]
theorem chk_zero {n : Nat} {check : Int} (h : chk n check = 0) : 1 ≤ check ∧ check ≤ 64 ∧ check < n ∧ n ≤ 255 := by
  unfold chk at h
  split at h
  · omega
  · split at h
    · omega
    · omega
theorem dec_at {w wa w5 : World} {A : Option Addr} {c : Nat} {W : List F} {k : Nat} {Ah : Option Addr} {ch : Nat} {Hp : List Nat} {As : Option Addr} {cs base : Nat} {D B1 : Nat} (hbl : Below w.heap.size w wa) (hb5 : Below wa.heap.size wa w5) (hsz : w.heap.size < wa.heap.size)
    (hD : w5.heap[D]? = some (.cells #[.slice A W.length c, .int .i64 k, .slice Ah Hp.length ch, .slice As (synL W k).length cs, .slice none 0 0] 66 (0, 0))) (hB : w5.heap[B1]? = some (.cells #[.pointer (some ⟨D, 0, none⟩)] 64 (0, 0))) (hDge : wa.heap.size ≤ D) (hne : B1 ≠ D)
    (hS : (Kd.int .u8).R 5 w5 base (fun _ => True) (.slice As (synL W k).length cs) (Iz (synL W k))) (hw : (Kd.int .u8).C w A W.length (Iz W)) (hc : W.length ≤ c) (hH : (Kd.int .i64).C w Ah Hp.length (Hp.map Int.ofNat)) (hhc : Hp.length ≤ ch)
    (h2 : wa.cell? ⟨w.heap.size, 0, none⟩ = some (.slice Ah Hp.length ch)) :
    Aside0 (DecW w5 D A c W k Ah ch Hp As cs (synL W k)) ∧ Aside0 (w5.cell? ⟨D, 4, none⟩ = some (.slice none 0 0) ∧ w5.frozen? ⟨D, 4, none⟩ = false ∧ w.heap.size ≤ D) ∧
      Aside0 (w5.cell? ⟨B1, 0, none⟩ = some (.pointer (some ⟨D, 0, none⟩)) ∧ B1 ≠ D) ∧ Aside0 (w5.cell? ⟨w.heap.size, 0, none⟩ = some (.slice Ah Hp.length ch) ∧ w.heap.size ≠ D) ∧ Aside0 ((∃ cells, w5.heap[D]? = some (.cells cells 66 (0, 0))) ∧ ∃ base, (Kd.int .u8).R 5 w5 base (fun _ => True) (.slice As (synL W k).length cs) (Iz (synL W k))) ∧ Aside0 (Below w.heap.size w w5) := by
  have hb : Below w.heap.size w w5 := hbl.trans (hb5.mono hbl.size)
  have hs := Kd.R_reads' hS
  refine ⟨⟨⟨(cell_of_row w5 D 0 _ _ _ hD).trans rfl, (cell_of_row w5 D 1 _ _ _ hD).trans rfl, (cell_of_row w5 D 2 _ _ _ hD).trans rfl, (cell_of_row w5 D 3 _ _ _ hD).trans rfl, Kd.C_below hw hb, Kd.C_below hH hb, by have h := hs.2.2; rwa [Iz_length] at h, hc, hhc, hs.2.1⟩⟩,
    ⟨(cell_of_row w5 D 4 _ _ _ hD).trans rfl, frozen_typed hD _ rfl, by omega⟩, ⟨(cell_of_row w5 B1 0 _ _ _ hB).trans rfl, hne⟩, ⟨(hb5.cell (p := ⟨w.heap.size, 0, none⟩) hsz).trans h2, by omega⟩, ⟨⟨_, hD⟩, _, hS⟩, ⟨hb⟩⟩
theorem syn_far {w3 : World} {base g : Nat} {v : Value} {l : List Int} (h : (Kd.int .u8).R 5 w3 base (fun _ => True) v l) (hg : g < base) (o : Nat) (u : Value) : (Kd.int .u8).R 5 (w3.setCell ⟨g, o, none⟩ u) base (fun _ => True) v l :=
  Kd.R_mono (Kd.R_far (Kd.R_reok rfl h (ok := fun k => base ≤ k) (Kd.R_base h)) (fun k hk e => by have e2 : k = g := e; omega) u) (fun _ _ => trivial)
theorem syn_far' {w3 : World} {base g : Nat} {v : Value} {l : List Int} (h : (Kd.int .u8).R 5 w3 base (fun _ => True) v l) (hg : g < base) (o : Nat) (u : Value) : (Kd.int .u8).R 5 (w3.setCell ⟨g, o, none⟩ u) base (fun _ => True) v l := syn_far h hg o u
theorem dec_turn {w wc wt : World} {A : Option Addr} {c : Nat} {W : List F} {k : Nat} {Ah : Option Addr} {ch : Nat} {Hp : List Nat} {As : Option Addr} {cs : Nat} {D B1 : Nat} {At : Option Addr} {ct : Nat} {T : List F}
    (hd : DecW wc D A c W k Ah ch Hp As cs (synL W k)) (h4 : wc.cell? ⟨D, 4, none⟩ = some (.slice none 0 0)) (hDl : w.heap.size ≤ D) (hb1 : wc.cell? ⟨B1, 0, none⟩ = some (.pointer (some ⟨D, 0, none⟩))) (hne : B1 ≠ D) (hb2 : wc.cell? ⟨w.heap.size, 0, none⟩ = some (.slice Ah Hp.length ch)) (hne2 : w.heap.size ≠ D)
    (hcells : ∃ cells, wc.heap[D]? = some (.cells cells 66 (0, 0))) (hS : ∃ base, (Kd.int .u8).R 5 wc base (fun _ => True) (.slice As (synL W k).length cs) (Iz (synL W k))) (hbl : Below w.heap.size w wc) (hw : (Kd.int .u8).C w A W.length (Iz W)) (hH : (Kd.int .i64).C w Ah Hp.length (Hp.map Int.ofNat))
    (hT : (Kd.int .u8).R 5 wt wc.heap.size (fun _ => True) (.slice At T.length ct) (Iz T)) (hbt : Below wc.heap.size wc wt) :
    Aside0 (DecW (wt.setCell ⟨D, 4, none⟩ (.slice At T.length ct)) D A c W k Ah ch Hp As cs (synL W k)) ∧ Aside0 (TurnW (wt.setCell ⟨D, 4, none⟩ (.slice At T.length ct)) D At ct T) ∧
      Aside0 ((wt.setCell ⟨D, 4, none⟩ (.slice At T.length ct)).cell? ⟨B1, 0, none⟩ = some (.pointer (some ⟨D, 0, none⟩))) ∧ Aside0 ((wt.setCell ⟨D, 4, none⟩ (.slice At T.length ct)).cell? ⟨w.heap.size, 0, none⟩ = some (.slice Ah Hp.length ch)) ∧ Aside0 (Below w.heap.size w (wt.setCell ⟨D, 4, none⟩ (.slice At T.length ct))) := by
  have hd2 := hd.below hbt
  obtain ⟨cells, hcells⟩ := hcells
  obtain ⟨base, hS⟩ := hS
  have hc2 := (hbt.block D (blk_lt hcells)).trans hcells
  have hb : Below w.heap.size w (wt.setCell ⟨D, 4, none⟩ (.slice At T.length ct)) := (hbl.trans (hbt.mono hbl.size)).setCell hDl _
  have hs := Kd.R_reads' (Kd.R_set (Kd.R_below hS hbt) hc2 (fun q hq => by simp [Kd.int, Kd.scalar] at hq; omega) 4 (.slice At T.length ct))
  have ht := Kd.R_reads' (syn_far' hT (blk_lt hcells) 4 (.slice At T.length ct))
  have h4' := (hbt.cell (p := ⟨D, 4, none⟩) (World.block_lt_of_cell? _ _ h4)).trans h4
  refine ⟨⟨⟨(setCell_other (fun e => by cases e)).trans hd2.c0, (setCell_other (fun e => by cases e)).trans hd2.c1, (setCell_other (fun e => by cases e)).trans hd2.c2, (setCell_other (fun e => by cases e)).trans hd2.c3, Kd.C_below hw hb, Kd.C_below hH hb, by have h := hs.2.2; rwa [Iz_length] at h, hd2.kW, hd2.kH, hs.2.1⟩⟩,
    ⟨⟨setCell_same h4', by have h := ht.2.2; rwa [Iz_length] at h, ht.2.1⟩⟩,
    ⟨(setCell_other (fun e => hne (congrArg Addr.block e).symm)).trans ((hbt.cell (p := ⟨B1, 0, none⟩) (World.block_lt_of_cell? _ _ hb1)).trans hb1)⟩,
    ⟨(setCell_other (fun e => hne2 (congrArg Addr.block e).symm)).trans ((hbt.cell (p := ⟨w.heap.size, 0, none⟩) (World.block_lt_of_cell? _ _ hb2)).trans hb2)⟩, ⟨hb⟩⟩
theorem fnL_map (n : Nat) (f : Nat → F) : fnL n f = Iz ((List.range n).map f) := by unfold fnL Iz; rw [List.map_map]; rfl
set_option maxHeartbeats 8000000 in
set_option maxRecDepth 100000 in
theorem Decode.calls {w : World} {A : Option Addr} {c : Nat} {W : List F} {check : Int} {Ah : Option Addr} {ch : Nat} {hs : List Int} (hw : (Kd.int .u8).C w A W.length (Iz W)) (hc : W.length ≤ c)
    (hh : (Kd.int .i64).C w Ah hs.length hs) (hhc : hs.length ≤ ch) (hhl : hs.length ≤ 17592186044415) (ht : TabW w) :
    Calls Tryd.prog 24 #[.slice A W.length c, .int .i64 check, .slice Ah hs.length ch] w fun en w' => ∃ v0 v1 : Value, en = .returned (.tuple #[v0, v1, .int .i64 (decR W check hs).2.2]) ∧
      (Kd.int .u8).R 5 w' w.heap.size (fun _ => True) v0 (Iz (decR W check hs).1) ∧ (Kd.int .i64).R 3 w' w.heap.size (fun _ => True) v1 ((decR W check hs).2.1.map Int.ofNat) ∧ Below w.heap.size w w' := by
  have HT := Aside0.mk ht
  have HW := Aside0.mk hw
  have HC := Aside0.mk hc
  have HH := Aside0.mk hh
  have HHC := Aside0.mk hhc
  have HCK := Aside0.mk (fun m => checkedF.calls (Kd.C_drewN (Kd.C_alloc hw (.cells #[.slice Ah hs.length ch] 37)) m) hc check)
  clear ht hw hc hh hhc
  by_cases hck : chk W.length check = 0
  · obtain ⟨k1, k2, k3, k4⟩ := chk_zero hck
    rw [hck] at HCK
    have HCE := Aside0.mk hck
    clear hck
    go_enter Tryd.func24, Tryd.ntmps24
    go_wp2
    go_step3
    have hB2 : (w.alloc (.cells #[.slice Ah hs.length ch] 37)).cell? ⟨w.heap.size, 0, none⟩ = some (.slice Ah hs.length ch) := by simp
    go_wp2_with (go_at_call 44; (refine (HCK.out 0).mono ?_); rintro en w' ⟨rfl, ⟨n1, rfl⟩⟩)
    have hbl := pw_below_drewN (below_alloc (Below.refl w.heap.size w) (.cells #[.slice Ah hs.length ch] 37)) n1
    have hb3 : ((w.alloc (.cells #[.slice Ah hs.length ch] 37)).drewN n1).cell? ⟨w.heap.size, 0, none⟩ = some (.slice Ah hs.length ch) := hB2
    have hsz : w.heap.size < ((w.alloc (.cells #[.slice Ah hs.length ch] 37)).drewN n1).heap.size := by simp
    clear hB2
    generalize hwz : (w.alloc (.cells #[.slice Ah hs.length ch] 37)).drewN n1 = wa at *
    clear hwz
    have HBL := Aside0.mk hbl
    have HB3 := Aside0.mk hb3
    clear hbl
    clear hb3
    have HCW := Aside0.mk (Kd.C_below HH.out HBL.out)
    obtain ⟨N, hN⟩ : ∃ N, N = W.length := ⟨_, rfl⟩
    have HNE := Aside0.mk hN
    rw [← hN] at k3 k4 ⊢
    clear hN
    go_loopg [28] (hs.length + 1) (fun kq v28 w' => ∃ (i m : Nat), v28 = .int .i64 (i : Int) ∧ i ≤ hs.length ∧ kq + i = hs.length + 1 ∧ Aside0 (∃ Hp : List Nat, hs.take i = Hp.map Int.ofNat ∧ holesOk N (hs.drop i) Hp = holesOk N hs [] ∧ Hp.Nodup ∧ ∀ h ∈ Hp, h < N) ∧ w' = wa.drewN m)
    case atStart => exact ⟨0, 0, rfl, by omega, by omega, ⟨[], by simp, by simp, List.nodup_nil, fun h hh => by cases hh⟩, rfl⟩
    case round =>
      obtain ⟨i, m, rfl, hiH, hik, HP, rfl⟩ := hrel
      obtain ⟨gI, rfl⟩ : ∃ g, gk = g + 1 := ⟨gk - 1, by omega⟩
      have hb3 := HB3.out
      by_cases hil : i < hs.length
      · skip
        have hd1 : decide ((i : Int) < (hs.length : Int)) = true := decide_eq_true (by omega)
        have hi0 := eq_true (show (0 : Int) ≤ (i : Int) by omega)
        have hi1 := eq_true (show (i : Int) < (hs.length : Int) by omega)
        have hi2 := eq_true (show (i : Int) ≤ (ch : Int) by have := HHC.out; omega)
        obtain ⟨ah, hah, hxh⟩ := Kd.at_int HCW.out (i : Int) (by omega) (by omega)
        subst hah
        obtain ⟨Hp, hp1, hp2, hp3, hp4⟩ := HP.out
        have hpl : Hp.length = i := by have := congrArg List.length hp1; rw [List.length_map, List.length_take] at this; omega
        have hdr : hs.drop i = hs[i] :: hs.drop (i + 1) := List.drop_eq_getElem_cons hil
        have hrd : rd hs (i : Int) = hs[i] := by simp [rd, List.getD_eq_getElem?_getD, hil]
        have htk : hs.take (i + 1) = hs.take i ++ [hs[i]] := by rw [List.take_succ_eq_append_getElem hil]
        rw [hrd, Int.toNat_natCast] at hxh
        rw [hdr] at hp2
        generalize hs[i] = h at *
        clear hdr hrd
        have hbad : (h < 0 ∨ (N : Int) ≤ h ∨ Hp.contains h.toNat = true) → decR W check hs = ([], [], 2) := by
          intro hb
          have hf : holesOk N hs [] = false := by
            rw [← hp2]
            unfold holesOk
            by_cases h1 : h < 0
            · rw [if_pos h1]
            · rw [if_neg h1]
              by_cases h2 : (N : Int) ≤ h
              · rw [if_pos h2]
              · rw [if_neg h2, if_pos ((hb.resolve_left h1).resolve_left h2)]
          unfold decR
          rw [if_neg (by rw [HCE.out]; simp), ← HNE.out, if_pos hf]
        have HBAD := Aside0.mk hbad
        clear hbad HP
        by_cases h1 : h < 0
        · have hd2 : decide (h < 0) = true := decide_eq_true h1
          have HR := Aside0.mk (HBAD.out (.inl h1))
          clear h1 HBAD hp1 hp2 hp3 hp4 htk hpl
          go_wp2
          try rw [Exit.noGoto_ret]
          go_ret3
          exact ⟨.slice none 0 0, .slice none 0 0, by rw [HR.out]; rfl, by rw [HR.out]; exact Kd.R_nil _ _ _ _ _, by rw [HR.out]; exact Kd.R_nil _ _ _ _ _, pw_below_drewN HBL.out _⟩
        · have hd2 : decide (h < 0) = false := decide_eq_false h1
          by_cases h2 : (N : Int) ≤ h
          · have hd3 : decide ((N : Int) ≤ h) = true := decide_eq_true h2
            have HR := Aside0.mk (HBAD.out (.inr (.inl h2)))
            clear h1 h2 HBAD hp1 hp2 hp3 hp4 htk hpl
            go_wp2
            try rw [Exit.noGoto_ret]
            go_ret3
            exact ⟨.slice none 0 0, .slice none 0 0, by rw [HR.out]; rfl, by rw [HR.out]; exact Kd.R_nil _ _ _ _ _, by rw [HR.out]; exact Kd.R_nil _ _ _ _ _, pw_below_drewN HBL.out _⟩
          · have hd3 : decide ((N : Int) ≤ h) = false := decide_eq_false h2
            obtain ⟨q, rfl⟩ : ∃ q : Nat, h = (q : Int) := ⟨h.toNat, by omega⟩
            have hqN : q < N := by omega
            rw [Int.toNat_natCast] at HBAD
            have hcl : (Kd.int .i64).C (wa.drewN m) (some ah) Hp.length (Hp.map Int.ofNat) := by
              have h3 := Kd.C_take (m := i) HCW.out (by omega)
              rw [hp1, List.length_map] at h3
              exact Kd.C_drewN h3 m
            have hcc := containsN.calls hcl (by have := HHC.out; omega : Hp.length ≤ ch) (by omega) q
            rw [hpl] at hcc
            have hp5 : holesOk N (hs.drop (i + 1)) (Hp ++ [q]) = holesOk N hs [] ∨ Hp.contains q = true := by
              by_cases h4 : Hp.contains q = true
              · exact .inr h4
              · refine .inl ?_
                rw [← hp2]
                conv => rhs; unfold holesOk
                rw [if_neg (by omega), if_neg (by omega), Int.toNat_natCast, if_neg h4]
            have HCC := Aside0.mk hcc
            have HP1 := Aside0.mk hp1
            have HP3 := Aside0.mk hp3
            have HP4 := Aside0.mk hp4
            have HP5 := Aside0.mk hp5
            have HTK := Aside0.mk htk
            clear h1 h2 hp1 hp2 hp3 hp4 htk hpl hcl hcc hp5
            cases h4 : Hp.contains q with
            | true =>
              have HR := Aside0.mk (HBAD.out (.inr (.inr h4)))
              rw [h4] at HCC
              clear h4 HBAD
              go_wp2_with (go_at_call 48; (refine HCC.out.mono ?_); rintro en w' ⟨rfl, ⟨n2, rfl⟩⟩)
              try rw [Exit.noGoto_ret]
              go_ret3
              exact ⟨.slice none 0 0, .slice none 0 0, by rw [HR.out]; rfl, by rw [HR.out]; exact Kd.R_nil _ _ _ _ _, by rw [HR.out]; exact Kd.R_nil _ _ _ _ _, pw_below_drewN HBL.out _⟩
            | false =>
              rw [h4] at HCC
              have hnm : q ∉ Hp := by simpa using h4
              have HNM := Aside0.mk hnm
              have HC4 := Aside0.mk h4
              clear h4 HBAD hnm
              go_wp2_with (go_at_call 48; (refine HCC.out.mono ?_); rintro en w' ⟨rfl, ⟨n2, rfl⟩⟩)
              go_roundg gI
              case measure => omega
              case rel =>
                refine ⟨i + 1, _, by first | rfl | go_num, by omega, by omega, ⟨Hp ++ [q], ?_, ?_, ?_, ?_⟩, rfl⟩
                · rw [HTK.out, HP1.out, List.map_append]; rfl
                · exact HP5.out.resolve_right (by rw [HC4.out]; simp)
                · exact List.nodup_append.2 ⟨HP3.out, List.nodup_cons.2 ⟨by simp, List.nodup_nil⟩, fun a ha b hb e => by rw [List.mem_singleton] at hb; subst hb; subst e; exact HNM.out ha⟩
                · intro h hh
                  rcases List.mem_append.1 hh with h5 | h5
                  · exact HP4.out h h5
                  · rw [List.mem_singleton] at h5; omega
      · obtain ⟨Hp, hp1, hp2, hp3, hp4⟩ := HP.out
        rw [List.take_of_length_le (by omega)] at hp1
        obtain rfl : i = hs.length := by omega
        rw [List.drop_length] at hp2
        have hok : holesOk N hs [] = true := by rw [← hp2]; rfl
        subst hp1
        simp only [List.length_map] at *
        have hd1 : decide ((Hp.length : Int) < (Hp.length : Int)) = false := decide_eq_false (by omega)
        obtain ⟨k, rfl⟩ : ∃ k : Nat, check = (k : Int) := ⟨check.toNat, by omega⟩
        have hdr : decR W k (Hp.map Int.ofNat) = if (k : Int) < Hp.length then ([], [], (290 : Int)) else match decL W k Hp with
            | none => ([], [], 290)
            | some r => (r.take (W.length - k), diffU W r W.length, 0) := by
          unfold decR
          rw [if_neg (by rw [HCE.out]; simp), ← HNE.out, hok, if_neg (by simp), List.length_map, List.map_map]
          have e : (Hp.map (Int.toNat ∘ Int.ofNat)) = Hp := by
            rw [show (Int.toNat ∘ Int.ofNat) = id from rfl, List.map_id]
          rw [e, Int.toNat_natCast]
        have HDR := Aside0.mk hdr
        have HP3 := Aside0.mk hp3
        have HP4 := Aside0.mk hp4
        clear hdr hp2 hp3 hp4 hok HP
        by_cases hkh : (k : Int) < Hp.length
        · have hd2 : decide ((k : Int) < (Hp.length : Int)) = true := decide_eq_true hkh
          have hr := HDR.out
          rw [if_pos hkh] at hr
          have HR := Aside0.mk hr
          clear hr HDR
          have hkn : k < Hp.length := by omega
          go_wp2
          try rw [Exit.noGoto_ret]
          go_ret3
          exact ⟨.slice none 0 0, .slice none 0 0, by rw [HR.out]; rfl, by rw [HR.out]; exact Kd.R_nil _ _ _ _ _, by rw [HR.out]; exact Kd.R_nil _ _ _ _ _, pw_below_drewN HBL.out _⟩
        · have hd2 : decide ((k : Int) < (Hp.length : Int)) = false := decide_eq_false hkh
          have hr := HDR.out
          rw [if_neg hkh] at hr
          have HR := Aside0.mk hr
          clear hr HDR
          have hkn : ¬ k < Hp.length := by omega
          go_upto_region 12 with (fail)
          have HWA := Aside0.mk (Kd.C_below HW.out HBL.out)
          have hval : ∀ w', Below wa.heap.size wa w' → Calls Tryd.prog 45 #[.slice A N c, .int .i64 k] w' fun e w2 => ∃ v0 : Value, e = .returned v0 ∧ (Kd.int .u8).R 5 w2 w'.heap.size (fun _ => True) v0 (Iz (synL W k)) ∧ Below w'.heap.size w' w2 := by
            intro w' hb'
            have h := valuesF.calls (Kd.C_below HWA.out hb') HC.out (by have := HNE.out; omega) k (by omega) ((HT.out.below HBL.out).below hb')
            rw [← HNE.out] at h
            exact h
          have HVAL := Aside0.mk hval
          clear hval
          go_cut [12] (fun c12 w' => ∃ (D B1 : Nat) (As : Option Addr) (cs : Nat), c12 = .pointer (some ⟨B1, 0, none⟩) ∧ Aside0 (DecW w' D A c W k Ah ch Hp As cs (synL W k)) ∧ Aside0 (w'.cell? ⟨D, 4, none⟩ = some (.slice none 0 0) ∧ w'.frozen? ⟨D, 4, none⟩ = false ∧ w.heap.size ≤ D) ∧
            Aside0 (w'.cell? ⟨B1, 0, none⟩ = some (.pointer (some ⟨D, 0, none⟩)) ∧ B1 ≠ D) ∧ Aside0 (w'.cell? ⟨w.heap.size, 0, none⟩ = some (.slice Ah Hp.length ch) ∧ w.heap.size ≠ D) ∧ Aside0 ((∃ cells, w'.heap[D]? = some (.cells cells 66 (0, 0))) ∧ ∃ base, (Kd.int .u8).R 5 w' base (fun _ => True) (.slice As (synL W k).length cs) (Iz (synL W k))) ∧ Aside0 (Below w.heap.size w w'))
          case first =>
            go_region_held3 (fun w' => w'.cell? ⟨w.heap.size, 0, none⟩ = some (.slice Ah Hp.length ch)) (first | go_keep | ((repeat (first | exact hk3 | exact hb3 | (refine (World.cell?_alloc_lt _ _ _ (by first | exact hsz | (simp; omega))).trans ?_) | (refine (setCell_other (fun e => by have := congrArg Addr.block e; simp at this; omega)).trans ?_))); done)) (first | (go_at_call 45; refine (HVAL.out _ (by repeat (first | exact Below.refl _ _ | apply below_alloc | apply pw_below_drewN | apply below_drew))).mono ?_; rintro en w3 ⟨v3, rfl, hr3, hb4⟩; obtain ⟨As, cs, e3⟩ := Kd.R_slice hr3; rw [Iz_length] at e3; subst e3; have HR3 := Aside0.mk hr3; have HB4 := Aside0.mk hb4; obtain ⟨hc4, hf4⟩ := bcell hb4; have hz4 := hb4.size; (try simp at hz4); have hk3 : w3.cell? ⟨w.heap.size, 0, none⟩ = some (.slice Ah Hp.length ch) := (hb4.cell (p := ⟨w.heap.size, 0, none⟩) (by first | exact hsz | (simp; omega))).trans (by first | exact hb3 | exact (World.cell?_alloc_lt _ _ _ hsz).trans hb3); have hlt3 := World.block_lt_of_cell? _ _ hk3; have hk5 : ∀ o, (w3.alloc o).cell? ⟨w.heap.size, 0, none⟩ = some (.slice Ah Hp.length ch) := (fun o => (World.cell?_alloc_lt _ _ _ hlt3).trans hk3); (try (have hn : w3.heap[wa.heap.size]? = some (.cells #[.pointer none] 64 (0, 0)) := (hb4.block wa.heap.size (by simp)).trans (heap_alloc_new (wa.drewN _) _); have hq4 : w3.cell? ⟨wa.heap.size, 0, none⟩ = some (.pointer none) := (cell_of_row w3 wa.heap.size 0 _ _ _ hn).trans rfl; have hg4 : w3.frozen? ⟨wa.heap.size, 0, none⟩ = false := frozen_typed hn _ rfl; have hlt4 := blk_lt hn; have hq5 : ∀ o, (w3.alloc o).cell? ⟨wa.heap.size, 0, none⟩ = some (.pointer none) := (fun o => (World.cell?_alloc_lt _ _ _ hlt4).trans hq4); have hg5 : ∀ o, (w3.alloc o).frozen? ⟨wa.heap.size, 0, none⟩ = false := (fun o => frozen_typed ((Below.heap_alloc w3 o _ hlt4).trans hn) _ rfl); have HN4 := Aside0.mk hn; clear hn)); clear hr3 hb4 hc4 hf4))
            all_goals (go_wp2_with fail; go_meet)
            · refine ⟨w3.heap.size, w3.heap.size + 1, As, cs, rfl, ?_⟩
              have hb5 : Below wa.heap.size wa w3 := (pw_below_drewN (Below.refl _ _) (m + 1)).trans HB4.out
              rw [HNE.out]
              refine dec_at HBL.out (below_alloc (below_alloc hb5 _) _) hsz ?_ ?_ hb5.size (by omega) (Kd.R_alloc (Kd.R_alloc HR3.out _) _) HW.out HC.out HH.out HHC.out HB3.out
              · exact (Below.heap_alloc _ _ _ (by simp)).trans (heap_alloc_new _ _)
              · have h := heap_alloc_new (w3.alloc (.cells #[.slice A W.length c, .int .i64 k, .slice Ah Hp.length ch, .slice As (synL W k).length cs, .slice none 0 0] 66)) (.cells #[.pointer (some ⟨w3.heap.size, 0, none⟩)] 64)
                simpa using h
            · refine ⟨w3.heap.size + 1, w3.heap.size, As, cs, rfl, ?_⟩
              have hb5 : Below wa.heap.size wa w3 := (pw_below_drewN (Below.refl _ _) (m + 1)).trans HB4.out
              rw [HNE.out]
              refine dec_at HBL.out (below_alloc (below_alloc hb5 _) _) hsz ?_ ?_ (by have := hb5.size; omega) (by omega) (Kd.R_alloc (Kd.R_alloc HR3.out _) _) HW.out HC.out HH.out HHC.out HB3.out
              · have h := heap_alloc_new (w3.alloc (.cells #[.pointer (some ⟨w3.heap.size + 1, 0, none⟩)] 64)) (.cells #[.slice A W.length c, .int .i64 k, .slice Ah Hp.length ch, .slice As (synL W k).length cs, .slice none 0 0] 66)
                simpa using h
              · exact (Below.heap_alloc _ _ _ (by simp)).trans (heap_alloc_new _ _)
            · refine ⟨w3.heap.size, wa.heap.size, As, cs, rfl, ?_⟩
              have hb5 : Below wa.heap.size wa w3 := (below_alloc (pw_below_drewN (Below.refl _ _) (m + 1)) _).trans (HB4.out.mono (by simp))
              have hlt5 : wa.heap.size < w3.heap.size := hlt4
              rw [HNE.out]
              refine dec_at HBL.out (below_alloc (hb5.setCell (Nat.le_refl _) _) _) hsz ?_ ?_ hb5.size (by omega) (Kd.R_alloc (syn_far HR3.out (by simp) _ _) _) HW.out HC.out HH.out HHC.out HB3.out
              · have h := heap_alloc_new (w3.setCell ⟨wa.heap.size, 0, none⟩ (.pointer (some ⟨w3.heap.size, 0, none⟩))) (.cells #[.slice A W.length c, .int .i64 k, .slice Ah Hp.length ch, .slice As (synL W k).length cs, .slice none 0 0] 66)
                simpa [World.setCell] using h
              · refine (Below.heap_alloc _ _ _ (by simpa [World.setCell] using hlt5)).trans ?_
                have h := HN4.out
                simp [World.setCell, Array.getElem?_modify, h]
          case rest =>
            obtain ⟨D, B1, As, cs, rfl, HDW, HD4, HDB, HDH, HDC, HDL⟩ := hcut
            have htn := turned.calls (HDW.out.below (below_drew (Below.refl _ _))) (by have := HNE.out; omega) (by simp [synL]; omega) (by simp [synL]; omega) (by omega) (fun h hh => by rw [← HNE.out]; exact HP4.out h hh) (HT.out.below (below_drew HDL.out))
            have hsl : (synL W k).length = k := by simp [synL]
            rw [fnL_map] at htn
            have htl : (List.range (synL W k).length).map (turnF W.length Hp fun j => (synL W k).getD j 0) = turnL W k Hp := by rw [hsl]; rfl
            rw [htl] at htn
            have HTN := Aside0.mk htn
            clear htn htl hsl HVAL
            have hs1 := HDB.out.1
            have h4 := HD4.out.1
            have hf4 := HD4.out.2.1
            go_upto_region 13 with (fail)
            go_region_held3 (fun w' => w'.cell? ⟨B1, 0, none⟩ = some (.pointer (some ⟨D, 0, none⟩))) (first | go_keep | exact (setCell_other (fun e => HDB.out.2 (congrArg Addr.block e).symm)).trans hk1)
              (first | (go_at_call 49; refine HTN.out.mono ?_; rintro en wt ⟨vt, rfl, hrt, hbt0⟩; have hbt : Below wc.heap.size wc wt := ⟨hbt0.os, hbt0.tape, hbt0.output, hbt0.size, hbt0.block⟩; obtain ⟨At, ct, et⟩ := Kd.R_slice hrt; rw [Iz_length] at et; subst et; have hk1 := (hbt.cell (p := ⟨B1, 0, none⟩) (World.block_lt_of_cell? _ _ hs1)).trans hs1; have hk4 := (hbt.cell (p := ⟨D, 4, none⟩) (World.block_lt_of_cell? _ _ h4)).trans h4; have hkf := (hbt.frozen (p := ⟨D, 4, none⟩) (World.block_lt_of_cell? _ _ h4)).trans hf4; have HRT := Aside0.mk hrt; have HBT := Aside0.mk hbt; clear hrt hbt hbt0))
            have hdt := dec_turn HDW.out HD4.out.1 HD4.out.2.2 HDB.out.1 HDB.out.2 HDH.out.1 HDH.out.2 HDC.out.1 HDC.out.2 HDL.out HW.out HH.out HRT.out HBT.out
            clear hs1 h4 hf4 hk1 hk4 hkf HDW HD4 HDB HDH HDC HDL HRT HBT HTN
            go_wp2
            generalize wt.setCell ⟨D, 4, none⟩ (.slice At (turnL W k Hp).length ct) = wd at *
            obtain ⟨HDW, HTW, HD1, HD2, HDL⟩ := hdt
            have hx2 := HD2.out
            go_step3
            go_wp2
            clear hx2
            have hdl : decL W k Hp = triesL W k Hp (synL W k) (turnL W k Hp) ((k - Hp.length) / 2) := rfl
            have HDLX := Aside0.mk hdl
            clear hdl
            go_loopg [15] (k + 1) (fun kq v15 w' => ∃ e : Nat, v15 = .int .i64 (e : Int) ∧ e + 1 ≤ kq ∧ Hp.length + 2 * e ≤ k ∧ Aside0 (decL W k Hp = triesL W k Hp (synL W k) (turnL W k Hp) e) ∧ Aside0 (Below wd.heap.size wd w'))
            case atStart => exact ⟨(k - Hp.length) / 2, by first | rfl | (congr 1; omega), by omega, by omega, ⟨HDLX.out⟩, ⟨Below.refl _ _⟩⟩
            case round =>
              clear HDLX
              obtain ⟨e, rfl, hek, hfe, HTR, HBE⟩ := hrel
              obtain ⟨gE, rfl⟩ : ∃ g, gk = g + 1 := ⟨gk - 1, by omega⟩
              have hsl : (synL W k).length = k := by simp [synL]
              have htl : (turnL W k Hp).length = k := by simp [turnL]
              have hfd := found.calls (HDW.out.below HBE.out) (HTW.out.below HBE.out) ((HBE.out.cell (World.block_lt_of_cell? _ _ HD1.out)).trans HD1.out) ((HBE.out.cell (World.block_lt_of_cell? _ _ HD2.out)).trans HD2.out) e (by have := HNE.out; omega) (by have := HNE.out; omega) (by omega) (by omega) (by omega) (by omega) (by omega) (fun h hh => by rw [← HNE.out]; exact HP4.out h hh) ((HT.out.below HDL.out).below HBE.out)
              clear hsl htl
              cases hfl : foundL W k Hp (synL W k) (turnL W k Hp) e with
              | none =>
                rw [hfl] at hfd
                have HFD := Aside0.mk hfd
                clear hfd
                cases e with
                | zero =>
                  have hdn : decL W k Hp = none := by rw [HTR.out]; exact hfl
                  have hr := HR.out
                  rw [hdn] at hr
                  have HR2 := Aside0.mk hr
                  clear hr hfl hdn HR
                  go_wp2_with (go_at_call 50; (refine HFD.out.mono ?_); rintro en w8 ⟨v8, rfl, _, hb8⟩; have HB8 := Aside0.mk hb8; clear hb8)
                  try rw [Exit.noGoto_ret]
                  go_ret3
                  exact ⟨.slice none 0 0, .slice none 0 0, by rw [HR2.out]; rfl, by rw [HR2.out]; exact Kd.R_nil _ _ _ _ _, by rw [HR2.out]; exact Kd.R_nil _ _ _ _ _, (HDL.out.trans (HBE.out.mono HDL.out.size)).trans (HB8.out.mono (HDL.out.trans (HBE.out.mono HDL.out.size)).size)⟩
                | succ e =>
                  have htn2 := HTR.out
                  rw [triesL_none hfl] at htn2
                  have HTR2 := Aside0.mk htn2
                  clear hfl htn2
                  have hne0 : ((e : Int) + 1 == 0) = false := by simp; omega
                  go_wp2_with (go_at_call 50; (refine HFD.out.mono ?_); rintro en w8 ⟨v8, rfl, _, hb8⟩; have HB8 := Aside0.mk hb8; clear hb8)
                  clear hne0
                  go_roundg gE
                  case measure => omega
                  case rel => exact ⟨e, by first | rfl | go_num, by omega, by omega, ⟨HTR2.out⟩, ⟨HBE.out.trans (HB8.out.mono HBE.out.size)⟩⟩
              | some r =>
                rw [hfl] at hfd
                have HFD := Aside0.mk hfd
                have hdn : decL W k Hp = some r := by rw [HTR.out]; exact triesL_some hfl
                have hr := HR.out
                rw [hdn] at hr
                have HR2 := Aside0.mk hr
                have hrl : r.length = N := by rw [HNE.out]; exact foundL_len hfl
                clear hr hfl hdn HR hfd
                go_wp2_with (go_at_call 50; (refine HFD.out.mono ?_); rintro en w8 ⟨v8, rfl, ⟨l8, hl8, hl9⟩, hb8⟩; have hl9 := hl9 r rfl; subst hl9; obtain ⟨Ar, cr, er⟩ := Kd.R_slice hl8; rw [Iz_length, hrl] at er; subst er; have HL8 := Aside0.mk hl8; have HB8 := Aside0.mk (HBE.out.trans (hb8.mono HBE.out.size)); clear hl8 hb8)
                have HRL := Aside0.mk hrl
                clear hrl HFD HTR
                go_loopg [88, 18] (N + 1) (fun kq v88 v18 w' => ∃ (i : Nat) (x18 : Value), v88 = .int .i64 (i : Int) ∧ x18 = v18 ∧ i ≤ N ∧ kq + i = N + 1 ∧ Aside0 ((Kd.int .i64).R 3 w' w8.heap.size (fun _ => True) x18 ((diffU W r i).map Int.ofNat)) ∧ Aside0 (Below w8.heap.size w8 w'))
                case atStart => exact ⟨0, _, rfl, rfl, by omega, by omega, ⟨Kd.R_nil _ _ _ _ _⟩, ⟨Below.refl _ _⟩⟩
                case round =>
                  obtain ⟨i, x18, rfl, rfl, hiN, hik2, HRx, HBx⟩ := hrel
                  obtain ⟨gI, rfl⟩ : ∃ g, gk = g + 1 := ⟨gk - 1, by omega⟩
                  have hb8 := HDL.out.trans (HB8.out.mono HDL.out.size)
                  have HBW := Aside0.mk (hb8.trans (HBx.out.mono hb8.size))
                  have HBS := Aside0.mk hb8.size
                  clear hb8
                  by_cases hil2 : i < N
                  · have hd5 : decide ((i : Int) < (N : Int)) = true := decide_eq_true (by omega)
                    have hi0 := eq_true (show (0 : Int) ≤ (i : Int) by omega)
                    have hi1 := eq_true (show (i : Int) < (N : Int) by omega)
                    obtain ⟨aw, haw, hxw⟩ := C_cellF (Kd.C_below HW.out HBW.out) (i := i) (by have := HNE.out; omega)
                    have hcr : (Kd.int .u8).C wr Ar r.length (Iz r) := by have h := Kd.C_below (Kd.R_reads' HL8.out).2.2 HBx.out; rwa [Iz_length] at h
                    obtain ⟨ar, har, hxr⟩ := C_cellF hcr (i := i) (by have := HRL.out; omega)
                    clear hcr
                    subst haw har
                    by_cases heq : W.getD i 0 = r.getD i 0
                    · have hd6 : (zF (W.getD i 0) != zF (r.getD i 0)) = false := by rw [heq, bne_self_eq_false]
                      have HDF := Aside0.mk (diffU_no heq)
                      clear heq
                      generalize W.getD i 0 = y1 at *
                      generalize r.getD i 0 = y2 at *
                      go_upto_region 27 with (fail)
                      go_quiet (fail)
                      go_wp2
                      go_roundg gI
                      case measure => omega
                      case rel => exact ⟨i + 1, x18, by first | rfl | go_num, rfl, by omega, by omega, ⟨by rw [HDF.out]; exact Kd.R_drewN HRx.out _⟩, ⟨pw_below_drewN HBx.out _⟩⟩
                    · have hd6 : (zF (W.getD i 0) != zF (r.getD i 0)) = true := by rw [bne_iff_ne]; exact fun e => heq (zF_inj.1 e)
                      have HDF := Aside0.mk (diffU_yes heq)
                      have HDL2 := Aside0.mk (diffU_length W r i)
                      clear heq
                      generalize W.getD i 0 = y1 at *
                      generalize r.getD i 0 = y2 at *
                      go_upto_region 27 with (fail)
                      go_quiet (fail)
                      go_wp2_with ((with_reducible refine gate_builtin (b := .append) (xs := #[.tmp 100, .tmp 102]) rfl ?_); at_builtin; refine Kd.R_append (Kd.int .i64) (w0 := w8) w8.heap.size rfl (.tmp 100) (.tmp 102) 37 3 (.int .i64 0) 8 rfl Tryd.underlying37 G.info3 rfl (by decide) (by omega) x18 ((diffU W r i).map Int.ofNat) (i : Int) [.int .i64 i] (fun _ => True) (fun _ => False) rfl rfl ?aP (fun _ hk => hk.elim) ?aF (Kd.R_drewN HRx.out _) (pw_below_drewN HBx.out _) (pw_below_drewN HBx.out _).size ?aL ?_; (case aP => exact rfl); (case aF => exact (fun _ _ => trivial)); (case aL => rw [List.length_map]; have := HDL2.out; omega); intro v5 w5 ho5 hb5 hg5 hat5; have HO5 := Aside0.mk ho5; have HB5 := Aside0.mk hb5; clear ho5 hb5 hg5 hat5)
                      go_roundg gI
                      case measure => omega
                      case rel => exact ⟨i + 1, v5, by first | rfl | go_num, rfl, by omega, by omega, ⟨by rw [HDF.out, List.map_append]; exact HO5.out⟩, ⟨HB5.out⟩⟩
                  · obtain rfl : i = N := by omega
                    have hd5 : decide ((i : Int) < (i : Int)) = false := decide_eq_false (by omega)
                    have hcap : i ≤ cr := by have h := (Kd.R_reads' HL8.out).2.1; omega
                    have hq0 := eq_true (show (0 : Int) ≤ (i : Int) - (k : Int) by omega)
                    have hq1 := eq_true (show (i : Int) - (k : Int) ≤ (cr : Int) by omega)
                    have hqn : ((i : Int) - (k : Int)).toNat = i - k := by omega
                    have HTK := Aside0.mk (Kd.R_take (Kd.R_below HL8.out HBx.out) (m := i - k) (by rw [Iz_length, HRL.out]; omega))
                    go_wp2
                    try rw [Exit.noGoto_ret]
                    go_ret3
                    refine ⟨.slice Ar (i - k) cr, x18, by rw [HR2.out]; rfl, ?_, ?_, HBW.out⟩
                    · rw [HR2.out]
                      show (Kd.int .u8).R 5 wr w.heap.size (fun _ => True) (.slice Ar (i - k) cr) (Iz (r.take (W.length - k)))
                      rw [Iz_take, ← HNE.out]
                      exact Kd.R_lower HTK.out (HDL.out.trans (HBE.out.mono HDL.out.size)).size
                    · rw [HR2.out]
                      show (Kd.int .i64).R 3 wr w.heap.size (fun _ => True) x18 ((diffU W r W.length).map Int.ofNat)
                      rw [← HNE.out]
                      exact Kd.R_lower HRx.out HBS.out
  · have hd : decR W check hs = ([], [], chk W.length check) := by unfold decR; rw [if_pos hck]
    have hne : (chk W.length check != 0) = true := by simp [hck]
    have HD := Aside0.mk hd
    clear hd hck
    go_enter Tryd.func24, Tryd.ntmps24
    go_wp2
    go_step3
    go_wp2_with (go_at_call 44; (refine (HCK.out 0).mono ?_); rintro en w' ⟨rfl, ⟨n1, rfl⟩⟩)
    try rw [Exit.noGoto_ret]
    go_ret3
    exact ⟨.slice none 0 0, .slice none 0 0, by rw [HD.out]; rfl, by rw [HD.out]; exact Kd.R_nil _ _ _ _ _, by rw [HD.out]; exact Kd.R_nil _ _ _ _ _, pw_below_drewN (below_alloc (Below.refl _ _) _) _⟩
end Go.Proofs.YtgcibhbhbgoacaaDoor

namespace Go.Proofs.YtgcibhbhbgoacaaDoor
open Go.Proofs.YtgcibhbhbgoacaaDoor.G Go.Proofs.YtgcibhbhbgoacaaDoor.H FB
open Go.RowKit Go.Proofs.YtgcibhbhbgoacaaDoorW.PrintWords Go.Proofs.YtgcibhbhbgoacaaDoorW.PrintLast Go.Proofs.YtgcibhbhbgoacaaDoorW.PrintMore
set_option linter.unusedVariables false
set_option linter.unusedSimpArgs false

def toF (x : Int) : F := ⟨x.toNat % 256, Nat.mod_lt _ (by decide)⟩
theorem zF_toF {x : Int} (h0 : 0 ≤ x) (h1 : x < 256) : zF (toF x) = x := by unfold zF toF; show ((x.toNat % 256 : Nat) : Int) = x; omega
theorem toF_zF (a : F) : toF (zF a) = a := zF_inj.1 (zF_toF (zF_lo a) (zF_hi a))
theorem Iz_toF {l : List Int} (h : ∀ x ∈ l, 0 ≤ x ∧ x < 256) : Iz (l.map toF) = l := by
  unfold Iz
  rw [List.map_map]
  conv => rhs; rw [← List.map_id l]
  exact List.map_congr_left fun x hx => zF_toF (h x hx).1 (h x hx).2
theorem toF_Iz (l : List F) : (Iz l).map toF = l := by
  unfold Iz
  rw [List.map_map]
  conv => rhs; rw [← List.map_id l]
  exact List.map_congr_left fun x _ => toF_zF x
def rs_Decode.f (l0 : List Int) (a1 : Int) (l2 : List Int) : Option (List Int × List Int × Int) :=
  if (∀ x ∈ l0, 0 ≤ x ∧ x < 256) ∧ l2.length ≤ 17592186044415 then some (Iz (decR (l0.map toF) a1 l2).1, (decR (l0.map toF) a1 l2).2.1.map Int.ofNat, (decR (l0.map toF) a1 l2).2.2) else none
theorem rs_Decode.at (W : List F) (a1 : Int) (l2 : List Int) (h : l2.length ≤ 17592186044415) : rs_Decode.f (Iz W) a1 l2 = some (Iz (decR W a1 l2).1, (decR W a1 l2).2.1.map Int.ofNat, (decR W a1 l2).2.2) := by
  unfold rs_Decode.f
  rw [if_pos ⟨fun x hx => by obtain ⟨a, _, rfl⟩ := List.mem_map.1 hx; exact ⟨zF_lo a, zF_hi a⟩, h⟩, toF_Iz]
theorem rs_Decode.calls (A0 : Option Addr) (c0 : Nat) (l0 : List Int) (a1 : Int) (A2 : Option Addr) (c2 : Nat) (l2 : List Int) (r1 : List Int) (r2 : List Int) (r3 : Int) (w : World) (hr0 : Kd.C (Kd.int .u8) w A0 l0.length l0) (hc0 : l0.length ≤ c0) (hr2 : Kd.C (Kd.int .i64) w A2 l2.length l2) (hc2 : l2.length ≤ c2) (h : rs_Decode.f l0 a1 l2 = some (r1, r2, r3)) (ht : TabW w) :
    Calls Tryd.prog 24 #[.slice A0 l0.length c0, .int .i64 a1, .slice A2 l2.length c2] w fun e w' => ∃ v0_ v1_ : Value, e = .returned (.tuple #[v0_, v1_, .int .i64 r3]) ∧ Kd.R (Kd.int .u8) 5 w' w.heap.size (fun _ => True) v0_ r1 ∧ Kd.R (Kd.int .i64) 3 w' w.heap.size (fun _ => True) v1_ r2 ∧ Below w.heap.size w w' := by
  unfold rs_Decode.f at h
  split at h
  · next hh =>
    cases h
    have e := Iz_toF hh.1
    have hl : (l0.map toF).length = l0.length := List.length_map ..
    have h1 : (Kd.int .u8).C w A0 (l0.map toF).length (Iz (l0.map toF)) := by rw [e, hl]; exact hr0
    have := Decode.calls (c := c0) (check := a1) h1 (by rw [hl]; exact hc0) hr2 hc2 hh.2 ht
    rw [hl] at this
    exact this
  · cases h
end Go.Proofs.YtgcibhbhbgoacaaDoor

namespace Go.Proofs.YtgcibhbhbgoacaaDoor
open Go.Proofs.YtgcibhbhbgoacaaDoor.G FB
set_option linter.unusedVariables false
set_option linter.unusedSimpArgs false

theorem find_congr {α : Type} {p q : α → Bool} {l : List α} (h : ∀ a ∈ l, p a = q a) : l.find? p = l.find? q := by
  induction l with
  | nil => rfl
  | cons a l ih => rw [List.find?_cons, List.find?_cons, h a (List.mem_cons_self ..), ih (fun b hb => h b (List.mem_cons_of_mem _ hb))]
theorem solveM_congr (n : Nat) : ∀ (k c : Nat) (M M' : Nat → Nat → F), c + k = n → (∀ a b, a < n → b ≤ n → M a b = M' a b) →
    (solveM n k c M).map (fun A => (List.range n).map fun i => A i n) = (solveM n k c M').map (fun A => (List.range n).map fun i => A i n)
  | 0, c, M, M', _, h => by
    simp only [solveM, Option.map_some]
    congr 1
    exact List.map_congr_left fun i hi => h i n (List.mem_range.1 hi) (Nat.le_refl _)
  | k + 1, c, M, M', hk, h => by
    have hp : pvt n M c = pvt n M' c := find_congr fun i hi => by
      rw [List.mem_range] at hi
      rw [h (c + i) c (by omega) (by omega)]
    unfold solveM
    rw [← hp]
    cases hq : pvt n M c with
    | none => rfl
    | some p =>
      obtain ⟨h1, _⟩ := pvt_some hq
      have hs : ∀ a b, a < n → b ≤ n → scl (fun a => M (swp c (c + p) a)) c a b = scl (fun a => M' (swp c (c + p) a)) c a b := by
        intro a b ha hb
        unfold scl
        have e1 := fun x hx y hy => h (swp c (c + p) x) y (swp_lt (n := n) (i := c) (k := c + p) (by omega) (by omega) hx) hy
        by_cases e : a = c
        · rw [if_pos e, if_pos e]
          show M (swp c (c + p) c) b * (M (swp c (c + p) c) c).inv = M' (swp c (c + p) c) b * (M' (swp c (c + p) c) c).inv
          rw [e1 c (by omega) b hb, e1 c (by omega) c (by omega)]
        · rw [if_neg e, if_neg e]
          exact e1 a ha b hb
      refine solveM_congr n k (c + 1) _ _ (by omega) fun a b ha hb => ?_
      unfold stepM elm
      by_cases e : a = c
      · rw [if_pos e, if_pos e, hs c b (by omega) hb]
      · rw [if_neg e, if_neg e, hs a b ha hb, hs a c ha (by omega), hs c b (by omega) hb]
theorem others_congr {N : Nat} {T T' : Nat → F} {H : List Nat} {e : Nat} (h : ∀ j, j < H.length + 2 * e → T j = T' j) : othersP N T H e = othersP N T' H e := by
  have h1 := solveM_congr e e 0 (hankM T H.length e) (hankM T' H.length e) (by omega) (fun a b ha hb => by
    unfold hankM
    by_cases hbe : b < e
    · rw [if_pos hbe, if_pos hbe, h _ (by omega)]
    · rw [if_neg hbe, if_neg hbe, h _ (by omega)])
  have key : ∀ T : Nat → F, othersP N T H e = ((solveM e e 0 (hankM T H.length e)).map (fun A => (List.range e).map fun i => A i e)).bind fun xs => if (placesL N H (1 :: xs)).length = e then some (placesL N H (1 :: xs)) else none := by
    intro T
    unfold othersP
    cases solveM e e 0 (hankM T H.length e) <;> rfl
  rw [key, key, h1]
theorem mend_congr {N : Nat} {w : List F} {k : Nat} {S S' : Nat → F} {ps : List Nat} (h : ∀ j, j < ps.length → S j = S' j) : mendP N w k S ps = mendP N w k S' ps := by
  have h1 := solveM_congr ps.length ps.length 0 (vanM N S ps) (vanM N S' ps) (by omega) (fun a b ha hb => by
    unfold vanM
    by_cases hbe : b < ps.length
    · rw [if_pos hbe, if_pos hbe]
    · rw [if_neg hbe, if_neg hbe, h a ha])
  have key : ∀ S : Nat → F, mendP N w k S ps = ((solveM ps.length ps.length 0 (vanM N S ps)).map (fun A => (List.range ps.length).map fun i => A i ps.length)).bind fun xs => if ∀ j, j < k → syn (layOn ps xs w) j = 0 then some (layOn ps xs w) else none := by
    intro S
    unfold mendP
    cases solveM ps.length ps.length 0 (vanM N S ps) <;> rfl
  rw [key, key, h1]
theorem turnF_congr (N : Nat) : ∀ (hs : List Nat) (S S' : Nat → F) (c : Nat), (∀ j, j < c → S j = S' j) → ∀ j, j < c → turnF N hs S j = turnF N hs S' j
  | [], S, S', c, h, j, hj => h j hj
  | x :: hs, S, S', c, h, j, hj => by
    unfold turnF
    refine turnF_congr N hs _ _ c (fun i hi => ?_) j hj
    by_cases h0 : i = 0
    · rw [if_pos h0, if_pos h0, h 0 (by omega)]
    · rw [if_neg h0, if_neg h0, h i hi, h (i - 1) (by omega)]
theorem synL_at (W : List F) (k j : Nat) (h : j < k) : (synL W k).getD j 0 = syn W j := by
  unfold synL
  simp [List.getD_eq_getElem?_getD, h]
theorem turnL_at (W : List F) (k : Nat) (H : List Nat) (j : Nat) (h : j < k) : (turnL W k H).getD j 0 = turnF W.length H (syn W) j := by
  unfold turnL
  rw [List.getD_eq_getElem?_getD, List.getElem?_map, List.getElem?_range h]
  exact turnF_congr W.length H _ _ k (fun i hi => synL_at W k i hi) j h
theorem found_congr {W : List F} {k : Nat} {H : List Nat} {e : Nat} (he : H.length + 2 * e ≤ k) : foundL W k H (synL W k) (turnL W k H) e = foundP W k H e := by
  unfold foundL foundP
  rw [others_congr (T' := turnF W.length H (syn W)) (fun j hj => turnL_at W k H j (by omega))]
  cases ho : othersP W.length (turnF W.length H (syn W)) H e with
  | none => rfl
  | some pl =>
    simp only [Option.bind_some]
    exact mend_congr fun j hj => synL_at W k j (by rw [List.length_append, (others_some ho).1] at hj; omega)
theorem tries_congr {W : List F} {k : Nat} {H : List Nat} : ∀ {e : Nat}, H.length + 2 * e ≤ k → triesL W k H (synL W k) (turnL W k H) e = triesP W k H e
  | 0, he => found_congr he
  | e + 1, he => by
    unfold triesL triesP
    rw [found_congr he, tries_congr (by omega)]
    cases foundP W k H (e + 1) <;> rfl
theorem decL_eq {W : List F} {k : Nat} {H : List Nat} (h : H.length ≤ k) : decL W k H = decP W k H := tries_congr (by omega)
end Go.Proofs.YtgcibhbhbgoacaaDoor
