/- rs.solve: Gauss and Jordan's way, walked by hand. -/
import Derived.Test.YtgcibhbhbgoacaaDoorCm
import Derived.Test.YtgcibhbhbgoacaaDoorMt
import Derived.Test.YtgcibhbhbgoacaaDoorSvb
import Derived.StillTailTactics
import Derived.Deep.QuietTactic
import Derived.BigQuiet
import Derived.Deep.RegionHeld3
import Derived.Deep.DrawnRows
namespace Go.Proofs.YtgcibhbhbgoacaaDoor
open Go.Proofs.YtgcibhbhbgoacaaDoor.G FB
open Go.RowKit Go.Proofs.YtgcibhbhbgoacaaDoorW.PrintWords Go.Proofs.YtgcibhbhbgoacaaDoorW.PrintLast Go.Proofs.YtgcibhbhbgoacaaDoorW.PrintMore
set_option linter.unusedVariables false
set_option linter.unusedSimpArgs false

set_option maxHeartbeats 8000000 in
set_option maxRecDepth 100000 in
theorem solve.calls (w0 : World) (ad : Addr) (n c0 : Nat) (hn : 0 < n) (hnb : n ≤ 64) (hc : n ≤ c0) (bs : Nat → Addr) (cc : Nat → Nat) (M : Nat → Nat → F) (w : World) (hM : Mat w ad bs cc n (n + 1) (zM M)) (hcc : ∀ i, i < n → n + 1 ≤ cc i) (hlow : 2 ≤ ad.block ∧ ∀ i, i < n → 2 ≤ (bs i).block) (ht : TabW w) (hb0 : Below w0.heap.size w0 w) (hlo : w0.heap.size ≤ ad.block ∧ ∀ i, i < n → w0.heap.size ≤ (bs i).block) :
    Calls Tryd.prog 65 #[.slice (some ad) n c0] w fun e w' => ∃ v0 : Value, e = .returned (.tuple #[v0, .bool (solveM n n 0 M).isSome]) ∧ Kd.R (Kd.int .u8) 5 w' w.heap.size (fun _ => True) v0 (((solveM n n 0 M).map fun M' => (List.range n).map fun i => zF (M' i n)).getD []) ∧
      KB w0 w w' (fun k => k = ad.block ∨ ∃ i, i < n ∧ k = (bs i).block) := by
  have HKB : Aside0 (KB w0 w w (fun k => k = ad.block ∨ ∃ i, i < n ∧ k = (bs i).block)) := ⟨⟨Kept.refl _ _, hb0, hb0.size, by rintro k (rfl | ⟨i, hi, rfl⟩); exact hlo.1; exact hlo.2 i hi⟩⟩
  clear hb0 hlo
  have HT := Aside0.mk ht
  clear ht
  go_enter Tryd.func65, Tryd.ntmps65
  go_wp2
  go_loopg [18] (n + 1) (fun kq v18 w' => ∃ (c : Int) (bs' : Nat → Addr) (cc' : Nat → Nat) (M' : Nat → Nat → F), v18 = .int .i64 c ∧ 0 ≤ c ∧ c ≤ n ∧ kq + c.toNat = n + 1 ∧ Aside0 (solveM n (n - c.toNat) c.toNat M' = solveM n n 0 M) ∧
    Aside0 (Mat w' ad bs' cc' n (n + 1) (zM M')) ∧ Aside0 (∀ i, i < n → n + 1 ≤ cc' i) ∧ Aside0 (∀ i, i < n → ∃ j, j < n ∧ bs' i = bs j) ∧ Aside0 (KB w0 w w' (fun k => k = ad.block ∨ ∃ i, i < n ∧ k = (bs i).block)) ∧ Aside0 (TabW w'))
  case atStart => exact ⟨0, bs, cc, M, rfl, Int.le_refl _, by omega, rfl, ⟨rfl⟩, ⟨hM⟩, ⟨hcc⟩, ⟨fun i hi => ⟨i, hi, rfl⟩⟩, ⟨HKB.out⟩, ⟨HT.out⟩⟩
  case round =>
    obtain ⟨c, bs', cc', M', rfl, hc0, hcn, hk, HS, HM, HCC, HBS, HK, HT'⟩ := hrel
    obtain ⟨gO, rfl⟩ : ∃ g, gk = g + 1 := ⟨gk - 1, by omega⟩
    by_cases hlt : c < (n : Int)
    · have hd1 : decide (c < (n : Int)) = true := decide_eq_true hlt
      have hc0' := eq_true hc0
      have hlt' := eq_true hlt
      go_upto_region 8 with (fail)
      have hM1 : Mat (wr.alloc (.cells #[.int .i64 c] 3)) ad bs' cc' n (n + 1) (zM M') := HM.out.move (fun a v h _ => (World.cell?_alloc_lt _ _ _ (World.block_lt_of_cell? _ _ h)).trans h) (fun a ha => by rw [frozen?_alloc_cells]; exact HM.out.thaw a ha)
      have hB1 : (wr.alloc (.cells #[.int .i64 c] 3)).cell? ⟨wr.heap.size, 0, none⟩ = some (.int .i64 c) := by simp
      have hidx := index79.calls (ad.add c.toNat) ⟨wr.heap.size, 0, none⟩ (n - c.toNat) (c0 - c.toNat) (n + 1) (fun i => bs' (c.toNat + i)) (fun i => cc' (c.toNat + i)) (fun i => zF (M' (c.toNat + i) c.toNat)) c _ (by omega) hc0 (by omega) hB1
        (fun i hi => by rw [Addr.add_add]; exact hM1.hdr _ (by omega)) (fun i hi => hM1.cell _ _ (by omega) (by omega))
      refine hidx.mono ?_
      rintro e w' ⟨rfl, rfl⟩
      clear hidx
      have HM1 := Aside0.mk hM1
      have HB1 := Aside0.mk hB1
      clear hM1 hB1
      have hp : idxNZ ((List.range (n - c.toNat)).map fun i => zF (M' (c.toNat + i) c.toNat)) 0 = pvI n M' c.toNat := rfl
      rw [hp, pvI_eq]
      clear hp
      cases hpv : pvt n M' c.toNat with
      | none =>
        have hnone : solveM n n 0 M = none := by rw [← HS.out]; exact solveM_neg (by omega) hpv
        have Hnone := Aside0.mk hnone
        clear hnone hpv
        simp only []
        go_wp2
        go_ret2
        refine ⟨.slice none 0 0, by rw [Hnone.out]; rfl, by rw [Hnone.out]; exact Kd.R_nil _ _ _ _ _, ?_⟩
        exact HK.out.alloc _
      | some p =>
        obtain ⟨hpn, hpz⟩ := pvt_some hpv
        have HPZ := Aside0.mk hpz
        have HS2 := Aside0.mk (HS.out.symm.trans (solveM_pos (by omega) hpv))
        clear hpv HS hpz
        simp only []
        have hq0 := eq_true (show 0 ≤ c + (p : Int) by omega)
        have hq1 := eq_true (show c + (p : Int) < (n : Int) by omega)
        have hqw : IntKind.i64.wrap (c + (p : Int)) = c + (p : Int) := by rw [IntKind.wrap_i64]; omega
        have hqn : (c + (p : Int)).toNat = c.toNat + p := by omega
        have hd2 : decide ((p : Int) < 0) = false := decide_eq_false (by omega)
        have hx1 := HM1.out.hdr c.toNat (by omega)
        have hx2 := HM1.out.hdr (c.toNat + p) hpn
        have hb1 := HB1.out
        have hf1 := HM1.out.thaw (ad.add c.toNat) (.inl (add_block _ _))
        have hf2 := HM1.out.thaw (ad.add (c.toNat + p)) (.inl (add_block _ _))
        have hx3 := HM1.out.half (i := c.toNat) (k := c.toNat + p) (by omega) hpn
        have hf3 := (thaw_setCell _ (ad.add c.toNat) (.slice (some (bs' (c.toNat + p))) (n + 1) (cc' (c.toNat + p))) (ad.add (c.toNat + p))).trans hf2
        have hadlt : ad.block < wr.heap.size := by have := World.block_lt_of_cell? _ _ (HM.out.hdr c.toNat (by omega)); rwa [add_block] at this
        have hb3 := (setCell_other (w := wr.alloc (.cells #[.int .i64 c] 3)) (a := ad.add c.toNat) (b := ⟨wr.heap.size, 0, none⟩) (v := .slice (some (bs' (c.toNat + p))) (n + 1) (cc' (c.toNat + p))) (fun e => by have := congrArg Addr.block e; rw [add_block] at this; simp at this; omega)).trans hb1
        go_upto_region 8 with (fail)
        go_region
        have hM2 := HM1.out.swap (i := c.toNat) (k := c.toNat + p) (by omega) hpn
        have HK2 : KB w0 w ((((wr.alloc (.cells #[.int .i64 c] 3)).setCell (ad.add c.toNat) (.slice (some (bs' (c.toNat + p))) (n + 1) (cc' (c.toNat + p)))).setCell (ad.add (c.toNat + p)) (.slice (some (bs' c.toNat)) (n + 1) (cc' c.toNat))).drew) (fun k => k = ad.block ∨ ∃ i, i < n ∧ k = (bs i).block) :=
          (((HK.out.alloc _).setCell (.inl (.inl (add_block _ _))) _).setCell (.inl (.inl (add_block _ _))) _).drew
        have hb4 := (setCell_other (a := ad.add (c.toNat + p)) (b := ⟨wr.heap.size, 0, none⟩) (v := .slice (some (bs' c.toNat)) (n + 1) (cc' c.toNat)) (fun e => by have := congrArg Addr.block e; rw [add_block] at this; simp at this; omega)).trans hb3
        have hM3 : Mat ((((wr.alloc (.cells #[.int .i64 c] 3)).setCell (ad.add c.toNat) (.slice (some (bs' (c.toNat + p))) (n + 1) (cc' (c.toNat + p)))).setCell (ad.add (c.toNat + p)) (.slice (some (bs' c.toNat)) (n + 1) (cc' c.toNat))).drew) ad _ _ n (n + 1) _ := ⟨hM2.hdr, hM2.cell, hM2.spot, hM2.spots, hM2.ne, hM2.inj, hM2.thaw⟩
        have hb5 : ((((wr.alloc (.cells #[.int .i64 c] 3)).setCell (ad.add c.toNat) (.slice (some (bs' (c.toNat + p))) (n + 1) (cc' (c.toNat + p)))).setCell (ad.add (c.toNat + p)) (.slice (some (bs' c.toNat)) (n + 1) (cc' c.toNat))).drew).cell? ⟨wr.heap.size, 0, none⟩ = some (.int .i64 c) := hb4
        have hbx0 : ∀ i, i < n → (bs' i).block ≠ wr.heap.size := fun i hi e => by have := World.block_lt_of_cell? _ _ (HM.out.cell i 0 hi (by omega)); rw [add_block] at this; omega
        clear hM2 hb4 hb3 hx3 hf3 hx1 hx2 hf1 hf2 hb1 hqw hq0 hq1 hd2
        generalize ((((wr.alloc (.cells #[.int .i64 c] 3)).setCell (ad.add c.toNat) (.slice (some (bs' (c.toNat + p))) (n + 1) (cc' (c.toNat + p)))).setCell (ad.add (c.toNat + p)) (.slice (some (bs' c.toNat)) (n + 1) (cc' c.toNat))).drew) = w2 at *
        generalize wr.heap.size = Bx at *
        obtain ⟨M2, EM2⟩ : ∃ M2 : Nat → Nat → F, M2 = fun a => M' (swp c.toNat (c.toNat + p) a) := ⟨_, rfl⟩
        obtain ⟨b2, Eb2⟩ : ∃ b2 : Nat → Addr, b2 = fun a => bs' (swp c.toNat (c.toNat + p) a) := ⟨_, rfl⟩
        obtain ⟨d2, Ed2⟩ : ∃ d2 : Nat → Nat, d2 = fun a => cc' (swp c.toNat (c.toNat + p) a) := ⟨_, rfl⟩
        have HM3 : Aside0 (Mat w2 ad b2 d2 n (n + 1) (zM M2)) := ⟨by rw [EM2, Eb2, Ed2]; exact hM3⟩
        have HPV : Aside0 (M2 c.toNat c.toNat ≠ 0) := ⟨by rw [EM2]; show M' (swp c.toNat (c.toNat + p) c.toNat) c.toNat ≠ 0; unfold swp; rw [if_pos rfl]; exact HPZ.out⟩
        have HST : Aside0 (stepM M' c.toNat p = elm (scl M2 c.toNat) c.toNat) := ⟨by rw [EM2]; rfl⟩
        have HB2 : Aside0 (∀ i, i < n → ∃ j, j < n ∧ b2 i = bs j) := ⟨fun i hi => by rw [Eb2]; exact HBS.out _ (swp_lt (by omega) hpn hi)⟩
        have HD2 : Aside0 (∀ i, i < n → n + 1 ≤ d2 i) := ⟨fun i hi => by rw [Ed2]; exact HCC.out _ (swp_lt (by omega) hpn hi)⟩
        have HBX : Aside0 (∀ i, i < n → (b2 i).block ≠ Bx) := ⟨fun i hi => by rw [Eb2]; exact hbx0 _ (swp_lt (by omega) hpn hi)⟩
        clear hbx0
        have HB5 := Aside0.mk hb5
        have HK2' := Aside0.mk HK2
        have HT2 : Aside0 (TabW w2) := ⟨HT.out.kept HK2.kept (by rintro k (rfl | ⟨i, hi, rfl⟩); exact hlow.1; exact hlow.2 i hi)⟩
        clear hM3 hb5 HK2 EM2 Eb2 Ed2 HBS HCC HPZ HM HM1 HB1 HT' HK
        have hy1 := HM3.out.hdr c.toNat (by omega)
        have hy2 := HM3.out.cell c.toNat c.toNat (by omega) (by omega)
        have hb5 := HB5.out
        change w2.cell? _ = some (.int .u8 (zF (M2 c.toNat c.toNat))) at hy2
        obtain ⟨ki, hki⟩ := (inv_ev (M2 c.toNat c.toNat)).rounds
        have hcw := eq_true (show c < (n : Int) + 1 by omega)
        go_upto_region 9 with (fail)
        go_quiet ((go_at_call 62; refine (gf_Inv.calls ki _ _ _ _ hki (by first | exact HT2.out | exact HT2.out.drewN _)).mono ?_; rintro e w' ⟨rfl, ⟨nd, rfl⟩⟩; exact ⟨rfl, _, World.drewN_drewN _ _ _⟩))
        go_wp2
        clear hy1 hy2 hb5 hki hcw
        go_loopg [62] (n + 2) (fun kq v62 w' => ∃ k : Nat, v62 = .int .i64 (k : Int) ∧ k ≤ n + 1 ∧ kq + k = n + 2 ∧ Aside0 (Mat w' ad b2 d2 n (n + 1) (zM (sclU M2 c.toNat k))) ∧
          Aside0 (w'.cell? ⟨Bx, 0, none⟩ = some (.int .i64 c)) ∧ Aside0 (KB w0 w w' (fun k => k = ad.block ∨ ∃ i, i < n ∧ k = (bs i).block)) ∧ Aside0 (TabW w'))
        case atStart => exact ⟨0, rfl, by omega, by omega, ⟨by rw [sclU_zero]; exact HM3.out.drewN _⟩, ⟨HB5.out⟩, ⟨HK2'.out.drewN _⟩, ⟨HT2.out.drewN _⟩⟩
        case round =>
          clear HM3 HB5 HK2' HT2
          obtain ⟨k, rfl, hkn, hkq, HM4, HB6, HK4, HT4⟩ := hrel
          by_cases hkl : k < n + 1
          · have hd3 : decide ((k : Int) < (n : Int) + 1) = true := decide_eq_true (by omega)
            have hk0 := eq_true (show (0 : Int) ≤ (k : Int) by omega)
            have hk1 := eq_true (show (k : Int) < (n : Int) + 1 by omega)
            have hx1 := HM4.out.hdr c.toNat (by omega)
            have hx2 := HM4.out.cell c.toNat k (by omega) hkl
            have hf2 := HM4.out.thaw ((b2 c.toNat).add k) (.inr ⟨c.toNat, by omega, add_block _ _⟩)
            have hb6 := HB6.out
            have e1 : zM (sclU M2 c.toNat k) c.toNat k = zF (M2 c.toNat k) := by unfold zM; rw [sclU_at]
            rw [e1] at hx2
            clear e1
            go_upto_region 13 with (fail)
            refine wp_region_still_tail 15 (by kernel_rfl) (by kernel_rfl) ?_
            simp only [List.take_succ_cons, List.take_zero, List.drop_succ_cons, List.drop_zero]
            repeat still_step
            still_call (mulF _ _ _)
            repeat still_step
            refine wpStill_nil ?_
            change wpList _ _ _ _ _ wr.drew
            go_wp2
            cases gk with
            | zero => omega
            | succ k1 =>
              go_roundg k1
              case measure => omega
              case rel =>
                refine ⟨k + 1, by go_num, by omega, by omega, ⟨?_⟩, ⟨?_⟩, ⟨?_⟩, ⟨?_⟩⟩
                · have h := (HM4.out.put (i := c.toNat) (j := k) (by omega) hkl (zF (M2 c.toNat k * F.inv (M2 c.toNat c.toNat)))).drew
                  rw [sclU_put] at h
                  exact h
                · exact (setCell_other (fun e => HBX.out c.toNat (by omega) (by have := congrArg Addr.block e; rw [add_block] at this; exact this))).trans HB6.out
                · obtain ⟨j, hj, e⟩ := HB2.out c.toNat (by omega)
                  exact (HK4.out.setCell (.inl (.inr ⟨j, hj, by rw [add_block, e]⟩)) _).drew
                · obtain ⟨j, hj, e⟩ := HB2.out c.toNat (by omega)
                  exact HT4.out.kept ((Kept.refl wr (fun k => ∃ i, i < n ∧ k = (bs i).block)).setCell (.inl ⟨j, hj, by rw [add_block, e]⟩) _).drew (by rintro k ⟨i, hi, rfl⟩; exact hlow.2 i hi)
          · obtain rfl : k = n + 1 := by omega
            have hd3 : decide (((n + 1 : Nat) : Int) < (n : Int) + 1) = false := decide_eq_false (by omega)
            have hM5 := HM4.out.congr (M' := zM (scl M2 c.toNat)) (fun i j _ hj => by unfold zM; rw [sclU_end _ _ _ _ _ hj])
            have HM5 := Aside0.mk hM5
            clear hM5 HM4
            generalize hM3 : scl M2 c.toNat = M3 at *
            clear hM3
            go_wp2
            go_loopg [83] (n + 1) (fun kq v83 w' => ∃ r : Nat, v83 = .int .i64 (r : Int) ∧ r ≤ n ∧ kq + r = n + 1 ∧ Aside0 (Mat w' ad b2 d2 n (n + 1) (zM (elmR M3 c.toNat r))) ∧
              Aside0 (w'.cell? ⟨Bx, 0, none⟩ = some (.int .i64 c)) ∧ Aside0 (KB w0 w w' (fun k => k = ad.block ∨ ∃ i, i < n ∧ k = (bs i).block)) ∧ Aside0 (TabW w'))
            case atStart => exact ⟨0, rfl, by omega, by omega, ⟨by rw [elmR_zero]; exact HM5.out⟩, ⟨HB6.out⟩, ⟨HK4.out⟩, ⟨HT4.out⟩⟩
            case round =>
              clear HM5 HB6 HK4 HT4 hd3
              obtain ⟨r, rfl, hrn, hrq, HM6, HB7, HK6, HT6⟩ := hrel
              obtain ⟨gR, rfl⟩ : ∃ g, gk = g + 1 := ⟨gk - 1, by omega⟩
              by_cases hrl : r < n
              · have hd4 : decide ((r : Int) < (n : Int)) = true := decide_eq_true (by omega)
                have hr0 := eq_true (show (0 : Int) ≤ (r : Int) by omega)
                have hr1 := eq_true (show (r : Int) < (n : Int) by omega)
                have hcw := eq_true (show c < (n : Int) + 1 by omega)
                have hx1 := HM6.out.hdr r hrl
                have hx2 := HM6.out.cell r c.toNat hrl (by omega)
                have hb7 := HB7.out
                have e1 : zM (elmR M3 c.toNat r) r c.toNat = zF (M3 r c.toNat) := by unfold zM; rw [elmR_row]
                rw [e1] at hx2
                clear e1
                go_upto_region 18 with (fail)
                go_quiet (fail)
                by_cases hrc : r = c.toNat ∨ M3 r c.toNat = 0
                · have HRC := Aside0.mk hrc
                  clear hrc
                  by_cases hrc : (r : Int) = c
                  · have hd5 : ((r : Int) != c) = false := by simp [hrc]
                    have HRE := Aside0.mk hrc
                    clear hrc
                    go_wp2
                    go_roundg gR
                    case measure => omega
                    case rel => exact ⟨r + 1, by go_num, by omega, by omega, ⟨(HM6.out.congr (fun i j _ _ => by unfold zM; rw [elmR_skip _ _ _ _ _ HRC.out])).drewN _⟩, ⟨HB7.out⟩, ⟨HK6.out.drewN _⟩, ⟨HT6.out.drewN _⟩⟩
                  · have hd5 : ((r : Int) != c) = true := by simp [hrc]
                    have hf : M3 r c.toNat = 0 := HRC.out.resolve_left (fun e => hrc (by omega))
                    have hd6 : (zF (M3 r c.toNat) != 0) = false := by simp [zF_eq_zero, hf]
                    have HRE := Aside0.mk hf
                    clear hf
                    go_wp2
                    go_roundg gR
                    case measure => omega
                    case rel => exact ⟨r + 1, by go_num, by omega, by omega, ⟨(HM6.out.congr (fun i j _ _ => by unfold zM; rw [elmR_skip _ _ _ _ _ HRC.out])).drewN _⟩, ⟨HB7.out⟩, ⟨HK6.out.drewN _⟩, ⟨HT6.out.drewN _⟩⟩
                · have hrc1 : r ≠ c.toNat := fun e => hrc (.inl e)
                  have hd5 : ((r : Int) != c) = true := by simp; omega
                  have hd6 : (zF (M3 r c.toNat) != 0) = true := by simp [zF_eq_zero]; exact fun e => hrc (.inr e)
                  have HRC := Aside0.mk hrc1
                  clear hrc hrc1
                  go_wp2
                  go_loopg [105] (n + 2) (fun kq v105 w' => ∃ k : Nat, v105 = .int .i64 (k : Int) ∧ k ≤ n + 1 ∧ kq + k = n + 2 ∧ Aside0 (Mat w' ad b2 d2 n (n + 1) (zM (elmK M3 c.toNat r k))) ∧
                    Aside0 (w'.cell? ⟨Bx, 0, none⟩ = some (.int .i64 c)) ∧ Aside0 (KB w0 w w' (fun k => k = ad.block ∨ ∃ i, i < n ∧ k = (bs i).block)) ∧ Aside0 (TabW w'))
                  case atStart => exact ⟨0, rfl, by omega, by omega, ⟨by rw [elmK_zero]; exact HM6.out.drewN _⟩, ⟨HB7.out⟩, ⟨HK6.out.drewN _⟩, ⟨HT6.out.drewN _⟩⟩
                  case round =>
                    clear HM6 HB7 HK6 HT6 hd4 hd5 hd6
                    obtain ⟨k, rfl, hkn, hkq, HM7, HB8, HK7, HT7⟩ := hrel
                    by_cases hkl : k < n + 1
                    · have hd3 : decide ((k : Int) < (n : Int) + 1) = true := decide_eq_true (by omega)
                      have hk0 := eq_true (show (0 : Int) ≤ (k : Int) by omega)
                      have hk1 := eq_true (show (k : Int) < (n : Int) + 1 by omega)
                      have hx1 := HM7.out.hdr r hrl
                      have hx2 := HM7.out.cell r k hrl hkl
                      have hx3 := HM7.out.hdr c.toNat (by omega)
                      have hx4 := HM7.out.cell c.toNat k (by omega) hkl
                      have hf2 := HM7.out.thaw ((b2 r).add k) (.inr ⟨r, hrl, add_block _ _⟩)
                      have hb8 := HB8.out
                      have e1 : zM (elmK M3 c.toNat r k) r k = zF (M3 r k) := by unfold zM; rw [elmK_at]
                      have e2 : zM (elmK M3 c.toNat r k) c.toNat k = zF (M3 c.toNat k) := by unfold zM; rw [elmK_c _ _ _ _ _ HRC.out]
                      rw [e1] at hx2
                      rw [e2] at hx4
                      clear e1 e2
                      go_upto_region 23 with (fail)
                      refine wp_region_still_tail 23 (by kernel_rfl) (by kernel_rfl) ?_
                      simp only [List.take_succ_cons, List.take_zero, List.drop_succ_cons, List.drop_zero]
                      repeat still_step
                      still_call (mulF _ _ _)
                      still_call (addF _ _ _)
                      repeat still_step
                      refine wpStill_nil ?_
                      change wpList _ _ _ _ _ wr.drew
                      go_wp2
                      cases gk with
                      | zero => omega
                      | succ k1 =>
                        go_roundg k1
                        case measure => omega
                        case rel =>
                          obtain ⟨j, hj, e⟩ := HB2.out r hrl
                          refine ⟨k + 1, by go_num, by omega, by omega, ⟨?_⟩, ⟨?_⟩, ⟨?_⟩, ⟨?_⟩⟩
                          · have h := (HM7.out.put (i := r) (j := k) hrl hkl (zF (M3 r k + M3 r c.toNat * M3 c.toNat k))).drew
                            rw [elmK_put] at h
                            exact h
                          · exact (setCell_other (fun e => HBX.out r hrl (by have := congrArg Addr.block e; rw [add_block] at this; exact this))).trans HB8.out
                          · exact (HK7.out.setCell (.inl (.inr ⟨j, hj, by rw [add_block, e]⟩)) _).drew
                          · exact HT7.out.kept ((Kept.refl wr (fun k => ∃ i, i < n ∧ k = (bs i).block)).setCell (.inl ⟨j, hj, by rw [add_block, e]⟩) _).drew (by rintro k ⟨i, hi, rfl⟩; exact hlow.2 i hi)
                    · obtain rfl : k = n + 1 := by omega
                      have hd3 : decide (((n + 1 : Nat) : Int) < (n : Int) + 1) = false := decide_eq_false (by omega)
                      go_wp2
                      go_roundg gR
                      case measure => omega
                      case rel => exact ⟨r + 1, by go_num, by omega, by omega, ⟨HM7.out.congr (fun i j _ hj => by unfold zM; rw [elmK_end _ _ _ _ _ _ HRC.out hj])⟩, ⟨HB8.out⟩, ⟨HK7.out⟩, ⟨HT7.out⟩⟩
              · obtain rfl : n = r := by omega
                have hd4 : decide ((n : Int) < (n : Int)) = false := decide_eq_false (by omega)
                go_wp2
                go_roundg gO
                case measure => omega
                case rel =>
                  refine ⟨c + 1, b2, d2, stepM M' c.toNat p, by first | rfl | go_num, by omega, by omega, by omega, ⟨?_⟩, ⟨?_⟩, ⟨HD2.out⟩, ⟨HB2.out⟩, ⟨HK6.out⟩, ⟨HT6.out⟩⟩
                  · rw [show (c + 1).toNat = c.toNat + 1 by omega]; exact HS2.out.symm
                  · exact HM6.out.congr (fun i j hi _ => by unfold zM; rw [elmR_end _ _ _ _ _ hi, HST.out])
    · have hd1 : decide (c < (n : Int)) = false := decide_eq_false hlt
      obtain rfl : c = (n : Int) := by omega
      have hS : solveM n n 0 M = some M' := by have h := HS.out; rw [Int.toNat_natCast, Nat.sub_self] at h; exact h.symm
      have HSO := Aside0.mk hS
      clear hS HS
      have hbl : ad.block < w.heap.size ∧ ∀ i, i < n → (bs i).block < w.heap.size := ⟨by have := World.block_lt_of_cell? _ _ (hM.hdr 0 hn); rwa [add_block] at this, fun i hi => by have := World.block_lt_of_cell? _ _ (hM.cell i 0 hi (by omega)); rwa [add_block] at this⟩
      have HBL : Aside0 (ad.block < w.heap.size ∧ ∀ i, i < n → (bs' i).block < w.heap.size) := ⟨hbl.1, fun i hi => by obtain ⟨j, hj, e⟩ := HBS.out i hi; rw [e]; exact hbl.2 j hj⟩
      clear hbl
      go_wp2_with ((with_reducible refine gate_dst (N := 135) rfl ?_); refine Kd.R_make (Kd.int .u8) w.heap.size 5 rfl (N := 135) rfl 22 _ _ rfl (n : Int) rfl rfl Tryd.underlying22 (.int .u8 0) 1 info5 rfl (by decide) (by omega) 0 (ok := fun _ => True) (okp := fun _ => True) rfl (fun _ hk => hk) trivial (by omega) (by simp; omega) (Below.refl _ _) (HK.out.kept.1) ?_; intro v1 w5 ho hb hg hnew; clear hb; simp only [Int.toNat_natCast] at ho; obtain ⟨g, cap, e1, hgb, hgl, hgc⟩ := Kd.R_form ho (by simp; omega); rw [List.length_replicate] at e1; subst e1)
      have hM5 := HM.out.move (w' := w5) (fun a v h _ => (World.cell?_of_block (hg.block a.block (World.block_lt_of_cell? _ _ h) (by simp))).trans h) (fun a ha => by
        have hlt : a.block < wr.heap.size := by
          rcases ha with e | ⟨i, hi, e⟩
          · rw [e]; exact Nat.lt_of_lt_of_le HBL.out.1 HK.out.kept.1
          · rw [e]; exact Nat.lt_of_lt_of_le (HBL.out.2 i hi) HK.out.kept.1
        have := HM.out.thaw a ha
        unfold World.frozen? at this ⊢
        rw [hg.block a.block hlt (by simp)]
        exact this)
      have HK5 : Aside0 (KB w0 w w5 (fun k => k = ad.block ∨ ∃ i, i < n ∧ k = (bs i).block)) := ⟨KB.of_grown hg HK.out (fun k hk => by cases hk)⟩
      have HM5 := Aside0.mk hM5
      have HO5 := Aside0.mk ho
      clear hM5 ho hg hnew hgc HM HK HT'
      go_loopg [138] (n + 1) (fun kq v138 w' => ∃ r : Nat, v138 = .int .i64 (r : Int) ∧ r ≤ n ∧ kq + r = n + 1 ∧ Aside0 (Kd.R (Kd.int .u8) 5 w' w.heap.size (fun _ => True) (.slice (some ⟨g, 0, none⟩) n cap) ((List.range n).map fun i => if i < r then zF (M' i n) else 0)) ∧
        Aside0 (Mat w' ad bs' cc' n (n + 1) (zM M')) ∧ Aside0 (KB w0 w w' (fun k => k = ad.block ∨ ∃ i, i < n ∧ k = (bs i).block)))
      case atStart => exact ⟨0, rfl, by omega, by omega, ⟨by have h := HO5.out; rw [show List.replicate n (0 : Int) = (List.range n).map fun i => if i < 0 then zF (M' i n) else 0 by apply List.ext_getElem <;> simp] at h; exact h⟩, ⟨HM5.out⟩, ⟨HK5.out⟩⟩
      case round =>
        clear HO5 HM5 HK5 hgl hd1
        obtain ⟨r, rfl, hrn, hrq, HO6, HM6, HK6⟩ := hrel
        obtain ⟨gR, rfl⟩ : ∃ g, gk = g + 1 := ⟨gk - 1, by omega⟩
        by_cases hrl : r < n
        · have hd2 : decide ((r : Int) < (n : Int)) = true := decide_eq_true (by omega)
          have hr0 := eq_true (show (0 : Int) ≤ (r : Int) by omega)
          have hr1 := eq_true (show (r : Int) < (n : Int) by omega)
          have hn1 := eq_true (show (n : Int) < (n : Int) + 1 by omega)
          have hx1 := HM6.out.hdr r hrl
          have hx2 := HM6.out.cell r n hrl (by omega)
          change wr.cell? ((bs' r).add n) = some (.int .u8 (zF (M' r n))) at hx2
          obtain ⟨hy1, hy2⟩ := Kd.R_celln 0 HO6.out (r : Int) (by omega) (by omega)
          have hput := Kd.R_putg HO6.out (r : Int) (zF (M' r n))
          have HP := Aside0.mk hput
          clear hput
          simp only [Int.toNat_natCast] at hy1 hy2 HP
          go_wp2
          go_roundg gR
          case measure => omega
          case rel =>
            refine ⟨r + 1, by go_num, by omega, by omega, ⟨?_⟩, ⟨?_⟩, ⟨?_⟩⟩
            · have h := HP.out.1
              have e : ((List.range n).map fun i => if i < r then zF (M' i n) else 0).set r (zF (M' r n)) = (List.range n).map fun i => if i < r + 1 then zF (M' i n) else 0 := by
                apply List.ext_getElem (by simp)
                intro i h1 h2
                rw [List.getElem_set]
                by_cases hi : r = i
                · subst hi; simp
                · rw [if_neg hi]; simp only [List.getElem_map, List.getElem_range]
                  by_cases hj : i < r
                  · rw [if_pos hj, if_pos (by omega)]
                  · rw [if_neg hj, if_neg (by omega)]
              rw [e] at h
              exact h
            · refine HM6.out.move (fun a v h ha => (setCell_other (fun e => ?_)).trans h) (fun a ha => by rw [thaw_setCell]; exact HM6.out.thaw a ha)
              have e2 : g = a.block := congrArg Addr.block e
              rcases ha with e3 | ⟨i, hi, e3⟩
              · have := HBL.out.1; omega
              · have := HBL.out.2 i hi; omega
            · exact HK6.out.setCell (.inr hgb) _
        · obtain rfl : n = r := by omega
          have hd2 : decide ((n : Int) < (n : Int)) = false := decide_eq_false (by omega)
          go_wp2
          go_ret2
          refine ⟨.slice (some ⟨g, 0, none⟩) n cap, by rw [HSO.out]; rfl, ?_, HK6.out⟩
          rw [HSO.out]
          have h := HO6.out
          have e : ((List.range n).map fun i => if i < n then zF (M' i n) else 0) = (List.range n).map fun i => zF (M' i n) := List.map_congr_left fun i hi => by rw [List.mem_range] at hi; rw [if_pos hi]
          rw [e] at h
          exact h
end Go.Proofs.YtgcibhbhbgoacaaDoor
