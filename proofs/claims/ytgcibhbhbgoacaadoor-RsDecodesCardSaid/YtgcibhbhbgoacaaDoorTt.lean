/- fareboxref34.tried: the walk. -/
import Derived.Test.YtgcibhbhbgoacaaDoorTp
import Derived.Test.YtgcibhbhbgoacaaDoorEc
namespace Go.Proofs.YtgcibhbhbgoacaaDoor
open Go.Proofs.YtgcibhbhbgoacaaDoor.G FB
open Go.RowKit Go.Proofs.YtgcibhbhbgoacaaDoorW.PrintWords Go.Proofs.YtgcibhbhbgoacaaDoorW.PrintLast Go.Proofs.YtgcibhbhbgoacaaDoorW.PrintMore
set_option linter.unusedVariables false
set_option linter.unusedSimpArgs false
/-- a row of numbers that is read -/
def RdI (w : World) (v : Value) (xs : List Int) : Prop := ∃ A c, v = .slice A xs.length c ∧ xs.length ≤ c ∧ Kd.C (Kd.int .i64) w A xs.length xs
theorem RdI.below {w w1 : World} {v : Value} {xs : List Int} (h : RdI w v xs) (hb : Below w.heap.size w w1) : RdI w1 v xs := by
  obtain ⟨A, c, rfl, hc, hC⟩ := h
  exact ⟨A, c, rfl, hc, Kd.C_below hC hb⟩
theorem RdI.of_R {w : World} {base : Nat} {ok : Nat → Prop} {v : Value} {xs : List Int} (h : Kd.R (Kd.int .i64) 3 w base ok v xs) : RdI w v xs := by
  obtain ⟨A, c, rfl⟩ := Kd.R_slice h
  exact ⟨A, c, rfl, (Kd.R_reads' h).2.1, (Kd.R_reads' h).2.2⟩
theorem Rd.of_V {w : World} {base : Nat} {ok : Nat → Prop} {v : Value} {xs : List Int} (h : Kd.V (Kd.int .u8) 5 w base ok v xs) : Rd w v xs := by
  obtain ⟨A, c, rfl⟩ := Kd.V_slice h
  exact ⟨A, c, rfl, (Kd.V_reads' h).2.1, (Kd.V_reads' h).2.2⟩
theorem rsyn_w {w : World} {v : Value} {xs : List Int} (k : Nat) (n : Int) (r1 : List Int) (r2 : Int) (hd : Rd w v xs) (h : Rd.fareboxref34_Syndromes.f k xs n = some (r1, r2)) :
    Calls Tryd.prog 23 #[v, .int .i64 n] w fun e w' => ∃ u, e = .returned (.tuple #[u, .int .i64 r2]) ∧ Below w.heap.size w w' ∧ Kd.R (Kd.int .u8) 5 w' w.heap.size (fun _ => True) u r1 := by
  obtain ⟨A, c, rfl, hc, hC⟩ := hd
  exact (Rd.fareboxref34_Syndromes.calls k A c xs n r1 r2 w hC hc h).mono fun e w' ⟨u, he, ho, hb⟩ => ⟨u, he, hb, ho⟩
theorem holed_w {w : World} {v : Value} {xs : List Int} (k : Nat) (n : Int) (r : List Int) (hd : RdI w v xs) (h : Rd.fareboxref34_holed.f k n xs = some r) :
    Calls Tryd.prog 69 #[.int .i64 n, v] w fun e w' => ∃ u, e = .returned u ∧ Below w.heap.size w w' ∧ Kd.R (Kd.int .u8) 5 w' w.heap.size (fun _ => True) u r := by
  obtain ⟨A, c, rfl, hc, hC⟩ := hd
  exact (Rd.fareboxref34_holed.calls k n A c xs r w hC hc h).mono fun e w' ⟨u, he, ho, hb⟩ => ⟨u, he, hb, ho⟩
theorem times_w {w : World} {v u : Value} {xs ys : List Int} (k : Nat) (r : List Int) (hd : Rd w v xs) (hu : Rd w u ys) (h : Rd.fareboxref34_times.f k xs ys = some r) :
    Calls Tryd.prog 70 #[v, u] w fun e w' => ∃ v2, e = .returned v2 ∧ Below w.heap.size w w' ∧ Kd.R (Kd.int .u8) 5 w' w.heap.size (fun _ => True) v2 r := by
  obtain ⟨A, c, rfl, hc, hC⟩ := hd
  obtain ⟨B, d, rfl, hd, hD⟩ := hu
  exact (Rd.fareboxref34_times.calls k A c xs B d ys r w hC hc hD hd h).mono fun e w' ⟨u, he, ho, hb⟩ => ⟨u, he, hb, ho⟩
theorem euclid_w {w : World} {A : Option Addr} {n c : Nat} {xs : List Int} {base : Nat} {ok : Nat → Prop} (k : Nat) (a1 a2 : Int) (r1 r2 : List Int) (hR : Kd.R (Kd.int .u8) 5 w base ok (.slice A n c) xs) (hn : xs.length = n) (h : Rd.fareboxref34_euclid.f k xs a1 a2 = some (r1, r2)) :
    Calls Tryd.prog 71 #[.slice A n c, .int .i64 a1, .int .i64 a2] w fun e w' => ∃ u1 u2, e = .returned (.agg #[u1, u2]) ∧ Below w.heap.size w w' ∧ Rd w' u1 r1 ∧ Rd w' u2 r2 := by
  subst hn
  exact (Rd.fareboxref34_euclid.calls k ok A c xs a1 a2 r1 r2 w (Kd.R_V hR) h).mono fun e w' ⟨u1, u2, he, h1, h2, hb⟩ => ⟨u1, u2, he, hb, Rd.of_V h1, Rd.of_R h2⟩
theorem peval_w {w : World} {v : Value} {xs : List Int} (k : Nat) (x r : Int) (hd : Rd w v xs) (h : Rd.fareboxref32_PolyEval.f k xs x = some r) :
    Calls Tryd.prog 74 #[v, .int .u8 x] w fun e w' => e = .returned (.int .u8 r) ∧ Drawn0 w w' := by
  obtain ⟨A, c, rfl, hc, hC⟩ := hd
  exact Rd.fareboxref32_PolyEval.calls k A c xs x r w hC hc h
theorem slope_w {w : World} {v : Value} {xs : List Int} (k : Nat) (x r : Int) (hd : Rd w v xs) (h : Rd.fareboxref34_slope.f k xs x = some r) :
    Calls Tryd.prog 76 #[v, .int .u8 x] w fun e w' => e = .returned (.int .u8 r) ∧ Drawn0 w w' := by
  obtain ⟨A, c, rfl, hc, hC⟩ := hd
  exact Rd.fareboxref34_slope.calls k A c xs x r w hC hc h
set_option maxHeartbeats 8000000 in
set_option maxRecDepth 100000 in
theorem fareboxref34_tried.full (W : List F) (c : Nat) (H : List Nat) (h1 : 1 ≤ c) (h2 : c ≤ 64) (h3 : c < W.length) (h4 : W.length ≤ 255) (hH : H.length ≤ c) (hn : H.Nodup) (hb : ∀ h ∈ H, h < W.length) (v vh : Value) (w : World) (hd : Rd w v (Iz W)) (hh : RdI w vh (H.map Int.ofNat)) :
    ∃ r : List F, r.length = W.length ∧ (∀ r', Near W c H r' → r' = r) ∧ Calls Tryd.prog 55 #[v, .int .i64 (c : Int), vh] w fun e w' => ∃ v0, e = .returned v0 ∧ Below w.heap.size w w' ∧ Kd.R (Kd.int .u8) 5 w' w.heap.size (fun _ => True) v0 (Iz r) := by
  obtain ⟨G, TU, R, B, A, g1, g2, g3, g4, g5, g6, g7, g8, ⟨dR, g9, g10⟩, ⟨dA, g11, g12⟩, g13⟩ := tried_parts W c H h1 h2 h3 h4 hH hn hb
  refine ⟨(List.range W.length).map (valT W R A), by rw [List.length_map, List.length_range], g13, ?_⟩
  have hS := rSyndromes_ev W (c : Int) (by omega)
  rw [if_pos (by unfold chk; rw [if_neg (by omega), if_neg (by omega)]), Int.toNat_natCast] at hS
  obtain ⟨k0, hS⟩ := hS.rounds
  obtain ⟨k1, g1⟩ := g1.rounds
  obtain ⟨k2, g2⟩ := g2.rounds
  obtain ⟨k3, g5⟩ := g5.rounds
  obtain ⟨k4, g6⟩ := g6.rounds
  obtain ⟨Aw, cw, rfl, hcw, hCw⟩ := id hd
  obtain ⟨Ah, ch, rfl, hch, hCh⟩ := id hh
  have hl0 : (Iz W).length = W.length := Iz_length W
  have hlh : (H.map Int.ofNat).length = H.length := List.length_map ..
  rw [hl0] at hd hCw hcw ⊢
  rw [hlh] at hh hCh hch ⊢
  have HD := Aside0.mk hd
  have HI := Aside0.mk hh
  have HS := Aside0.mk hS
  have HG := Aside0.mk g1
  have HT := Aside0.mk g2
  have HEU := Aside0.mk g5
  have HAL := Aside0.mk g6
  have HCw := Aside0.mk hCw
  have HL := Aside0.mk (And.intro h1 (And.intro h2 (And.intro h3 (And.intro h4 (And.intro hcw (And.intro g3 g4))))))
  have HR := Aside0.mk (And.intro g7 (And.intro g8 (And.intro g9 (And.intro g10 (And.intro g11 g12)))))
  clear hd hh hS g1 g2 g5 g6 hCw hCh hcw hch h1 h2 h3 h4 hH hn hb hl0 hlh g3 g4 g7 g8 g9 g10 g11 g12 g13
  go_enter Tryd.func55, Tryd.ntmps55
  go_wp2_with fail
  (go_at_call 23; (with_reducible refine (rsyn_w k0 _ _ _ HD.out HS.out).mono ?_); rintro e w1 ⟨vs, rfl, hb1, hs⟩)
  have H1 := Aside0.mk hs
  have B1 := Aside0.mk hb1
  clear hs hb1
  go_wp2_with fail
  (go_at_call 69; (with_reducible refine (holed_w k1 _ _ (HI.out.below B1.out) HG.out).mono ?_); rintro e w2 ⟨vg, rfl, hb1, hs⟩)
  have H2 := Aside0.mk hs
  replace H1 := Aside0.mk (Kd.R_below H1.out hb1)
  have B2 := Aside0.mk (below_step B1.out hb1)
  clear hs hb1 B1
  go_wp2_with fail
  (go_at_call 70; (with_reducible refine (times_w k2 _ (Rd.of_R H1.out) (Rd.of_R H2.out) HT.out).mono ?_); rintro e w3 ⟨vt, rfl, hb1, hs⟩)
  have H3 := Aside0.mk hs
  replace H2 := Aside0.mk ((Rd.of_R H2.out).below hb1)
  have B3 := Aside0.mk (below_step B2.out hb1)
  clear hs hb1 B2 H1
  obtain ⟨At, ct, et⟩ := Kd.R_slice H3.out
  subst et
  have hlt : (Iz TU).length = TU.length := Iz_length TU
  have hRt := Kd.R_reads' H3.out
  have q0 := cut_cap (P := Tryd.prog) 22 5 .i64 Tryd.underlying22 (info_parts Go.Proofs.YtgcibhbhbgoacaaDoor.Re.info5).choose_spec.1 At (Iz TU).length ct (c : Int) (by omega) (by have := HL.out.2.2.2.2.2.1; have := hRt.2.1; rw [hlt] at this; omega)
  rw [Int.toNat_natCast] at q0
  have H4 := Aside0.mk (Kd.R_take (m := c) H3.out (by rw [hlt]; exact HL.out.2.2.2.2.2.1))
  have hc1 : (0 : Int) ≤ (c : Int) := by omega
  clear hlt hRt
  go_wp2_with fail
  (go_at_call 71; (with_reducible refine (euclid_w k3 _ _ _ _ H4.out (by rw [List.length_take, Iz_length]; have := HL.out.2.2.2.2.2.1; omega) (by rw [← Iz_take]; exact HEU.out)).mono ?_); rintro e w4 ⟨vr, vb, rfl, hb1, hr1, hr2⟩)
  have HRr := Aside0.mk hr1
  have HRb := Aside0.mk hr2
  replace H2 := Aside0.mk (H2.out.below hb1)
  have B4 := Aside0.mk (below_step B3.out hb1)
  clear hr1 hr2 hb1 B3 H3 H4 q0 hc1
  obtain ⟨Ar, cr, er, -, -⟩ := id HRr.out
  subst er
  obtain ⟨Ab, cb, eb, -, -⟩ := id HRb.out
  subst eb
  go_wp2_with (first | ((with_reducible refine gate_dst (N := 11) rfl ?_); refine box_event ?hg (N := 11) ?hd (cs := #[.slice none 0 0, .slice none 0 0]) (t := 87) ?hr ?_; (case hd => rfl); (case hg => rfl); (case hr => first | (go_simp; done) | (go_simp; rfl)); intro g11 hg w5 hbox hb1; have BX := Aside0.mk hb1; have GE := Aside0.mk (by rw [hg]; exact Nat.le_refl _ : w4.heap.size ≤ g11); have BK := Aside0.mk hbox; have hfz0 := blk_frozen BK.out 0; have hfz1 := blk_frozen BK.out 1; have hcz0 : w5.cell? ⟨g11, 0, none⟩ = some (.slice none 0 0) := (blk_cell BK.out 0).trans rfl; have hcz1 : w5.cell? ⟨g11, 1, none⟩ = some (.slice none 0 0) := (blk_cell BK.out 1).trans rfl; clear hg hbox hb1))
  have BX6 := Aside0.mk (below_set (g := g11) (j := 1) (v := .slice Ab (Iz B).length cb) (below_set (g := g11) (j := 0) (v := .slice Ar (Iz R).length cr) BX.out GE.out) GE.out)
  have BK6 := Aside0.mk (blk_put (cs := #[.slice Ar (Iz R).length cr, .slice none 0 0]) (blk_put (cs := #[.slice none 0 0, .slice none 0 0]) BK.out 0 (.slice Ar (Iz R).length cr) rfl) 1 (.slice Ab (Iz B).length cb) rfl)
  clear hfz0 hfz1 hcz0 hcz1 BK BX
  (go_at_call 70; (with_reducible refine (times_w k4 _ (HRb.out.below BX6.out) (H2.out.below BX6.out) HAL.out).mono ?_); rintro e w7 ⟨va, rfl, hb1, hs⟩)
  have HA := Aside0.mk (Rd.of_R hs)
  have HR2 := Aside0.mk ((HRr.out.below BX6.out).below hb1)
  have BK7 := Aside0.mk (blk_below BK6.out hb1)
  have B7 := Aside0.mk (below_step (below_step B4.out BX6.out) hb1)
  have HW7 := Aside0.mk (HD.out.below B7.out)
  clear hs hb1 HRr HRb H2 BX6 BK6 B4 GE HCw HI HS HG HT HEU HAL
  go_wp2_with fail
  go_loopg [13, 14] W.length (fun kq v13 v14 w' => ∃ (n : Nat), v14 = .int .i64 (n : Int) ∧ Aside0 (n + kq = W.length) ∧ Aside0 (Kd.R (Kd.int .u8) 5 w' w7.heap.size (fun _ => True) v13 (Iz ((List.range n).map (valT W R A)))) ∧ Aside0 (Below w7.heap.size w7 w'))
  case atStart => exact ⟨0, rfl, ⟨by omega⟩, ⟨Kd.R_nil _ _ _ _ _⟩, ⟨Below.refl _ _⟩⟩
  case round =>
    obtain ⟨n, rfl, HX, HO, HB⟩ := hrel
    cases gk with
    | succ k1q =>
      have hnN : n < W.length := by have := HX.out; omega
      have c2b0 : decide ((n : Int) < (W.length : Int)) = true := decide_eq_true (by omega)
      have p1 : 0 ≤ (n : Int) := by omega
      have q1 : (n : Int) < ((Iz W).length : Int) := by rw [Iz_length]; omega
      obtain ⟨Aw2, cw2, ew2, -, hCC⟩ := id (HW7.out.below HB.out)
      injection ew2 with ea eb ec
      subst ea ec
      obtain ⟨ad1, e1_, hx1⟩ := Kd.at_int hCC (n : Int) p1 q1
      rw [rd_IzN, Int.toNat_natCast] at hx1
      obtain ⟨cc, hcc⟩ : ∃ x : F, x = W.getD n 0 := ⟨_, rfl⟩
      rw [← hcc] at hx1
      have HCC := Aside0.mk hcc
      clear hcc
      cases e1_
      have q2 : (n : Int) < (W.length : Int) := by omega
      replace p1 := eq_true p1
      replace q2 := eq_true q2
      clear hCC eb q1
      have e2 : IntKind.i64.wrap ((n : Int) + 1) = ((n + 1 : Nat) : Int) := by have := HL.out.2.2.2.1; rw [i64_w]; unfold wrap64; omega
      obtain ⟨j1, f1⟩ := (locator_ev W.length n HL.out.2.2.2.1 hnN).rounds
      obtain ⟨j2, f2⟩ := (rinv_ev (loc W.length n)).rounds
      obtain ⟨j3, f3⟩ := (rpolyEval_ev A (rh W.length n) (Nat.le_trans HR.out.2.1 (by decide)) HR.out.2.2.2.2.1 HR.out.2.2.2.2.2).rounds
      obtain ⟨j4, f4⟩ := (rpolyEval_ev R (rh W.length n) (Nat.le_trans HR.out.1 (by decide)) HR.out.2.2.1 HR.out.2.2.2.1).rounds
      obtain ⟨j5, f5⟩ := (rmul_ev (loc W.length n) (E (PS.of R) (rh W.length n))).rounds
      obtain ⟨j6, f6⟩ := (rslope_ev A (rh W.length n) (Nat.le_trans HR.out.2.1 (by decide))).rounds
      obtain ⟨j7, f7⟩ := (rdiv_ev (loc W.length n * E (PS.of R) (rh W.length n)) (slp (A.length / 2) (PS.of A) (rh W.length n))).rounds
      have F1 := Aside0.mk f1
      have F2 := Aside0.mk (show Rd.fareboxref32_Inv.f j2 (zF (loc W.length n)) = some (zF (rh W.length n), !decide (loc W.length n = 0)) from f2)
      obtain ⟨pv, hpv⟩ : ∃ x : Int, x = zF (E (PS.of A) (rh W.length n)) := ⟨_, rfl⟩
      rw [← hpv] at f3
      have HPV := Aside0.mk hpv
      clear hpv
      have F3 := Aside0.mk f3
      have F4 := Aside0.mk f4
      have F5 := Aside0.mk f5
      have F6 := Aside0.mk f6
      have F7 := Aside0.mk f7
      clear f1 f2 f3 f4 f5 f6 f7
      have HZ := Aside0.mk (show (Iz ((List.range n).map (valT W R A))).length < 140737488355328 from by rw [Iz_length, List.length_map, List.length_range]; have := HL.out.2.2.2.1; omega)
      have HV := Aside0.mk (show Iz ((List.range (n + 1)).map (valT W R A)) = Iz ((List.range n).map (valT W R A)) ++ [zF (valT W R A n)] from by rw [List.range_succ, List.map_append, Iz_append]; rfl)
      go_wp2_with fail
      (go_at_call 72; (with_reducible refine (Rd.fareboxref34_locator.calls j1 _ _ _ _ F1.out).mono ?_); rintro e w8 ⟨rfl, hd⟩; have hb1 := hd.below; replace HO := Aside0.mk (Kd.R_below HO.out hb1); replace HB := Aside0.mk (below_step HB.out hb1); clear hb1 hd)
      go_wp2_with fail
      (go_at_call 73; (with_reducible refine (Rd.fareboxref32_Inv.calls j2 _ _ _ _ F2.out).mono ?_); rintro e w9 ⟨rfl, hd⟩; have hb1 := hd.below; replace HO := Aside0.mk (Kd.R_below HO.out hb1); replace HB := Aside0.mk (below_step HB.out hb1); clear hb1 hd)
      go_wp2_with fail
      (go_at_call 74; (with_reducible refine (peval_w j3 _ _ (HA.out.below HB.out) F3.out).mono ?_); rintro e w10 ⟨rfl, hd⟩; have hb1 := hd.below; replace HO := Aside0.mk (Kd.R_below HO.out hb1); replace HB := Aside0.mk (below_step HB.out hb1); clear hb1 hd)
      by_cases hz : E (PS.of A) (rh W.length n) = 0
      · have cz : (pv == 0) = true := beq_iff_eq.2 (by rw [HPV.out]; exact zF_eq_zero.2 hz)
        have HZZ := Aside0.mk hz
        have hval : (zF (cc + (loc W.length n * E (PS.of R) (rh W.length n)) * F.inv (slp (A.length / 2) (PS.of A) (rh W.length n)))) = zF (valT W R A n) := by unfold valT; rw [if_pos hz, HCC.out]
        rw [← hval] at HV
        clear hval hz
        have hbc := (blk_cell (blk_below BK7.out HB.out) 0).trans rfl
        have hcz0 : w10.cell? ⟨g11, 0, none⟩ = some (.slice Ar (Iz R).length cr) := hbc
        have hfz0 := blk_frozen (blk_below BK7.out HB.out) 0
        clear hbc
        go_wp2_with fail
        (go_at_call 74; (with_reducible refine (peval_w j4 _ _ (HR2.out.below HB.out) F4.out).mono ?_); rintro e w11 ⟨rfl, hd⟩; have hb1 := hd.below; replace HO := Aside0.mk (Kd.R_below HO.out hb1); replace HB := Aside0.mk (below_step HB.out hb1); clear hb1 hd)
        go_wp2_with fail
        (go_at_call 42; (with_reducible refine (Re.fareboxref32_Mul.calls j5 _ _ _ _ F5.out).mono ?_); rintro e w12 ⟨rfl, hd⟩; have hb1 := hd.below; replace HO := Aside0.mk (Kd.R_below HO.out hb1); replace HB := Aside0.mk (below_step HB.out hb1); clear hb1 hd)
        go_wp2_with fail
        (go_at_call 76; (with_reducible refine (slope_w j6 _ _ (HA.out.below HB.out) F6.out).mono ?_); rintro e w13 ⟨rfl, hd⟩; have hb1 := hd.below; replace HO := Aside0.mk (Kd.R_below HO.out hb1); replace HB := Aside0.mk (below_step HB.out hb1); clear hb1 hd)
        go_wp2_with fail
        (go_at_call 75; (with_reducible refine (Rd.fareboxref32_Div.calls j7 _ _ _ _ _ F7.out).mono ?_); rintro e w14 ⟨rfl, hd⟩; have hb1 := hd.below; replace HO := Aside0.mk (Kd.R_below HO.out hb1); replace HB := Aside0.mk (below_step HB.out hb1); clear hb1 hd)
        go_wp2_with fail
        (go_at_call 41; (with_reducible refine (Re.fareboxref32_Add.calls _ _ _ _ (radd_at _ _)).mono ?_); rintro e w15 ⟨rfl, hd⟩; have hb1 := hd.below; replace HO := Aside0.mk (Kd.R_below HO.out hb1); replace HB := Aside0.mk (below_step HB.out hb1); clear hb1 hd)
        go_wp2_with (first | ((with_reducible refine gate_builtin (b := .append) (xs := #[.tmp 84, .tmp 86]) rfl ?_); at_builtin; refine Kd.R_append (Kd.int .u8) (w0 := w7) w7.heap.size rfl (.tmp 84) (.tmp 86) 22 5 (.int .u8 0) 1 rfl Tryd.underlying22 Go.Proofs.YtgcibhbhbgoacaaDoor.Re.info5 rfl (by decide) (by omega) u13 (Iz ((List.range n).map (valT W R A))) (zF (cc + (loc W.length n * E (PS.of R) (rh W.length n)) * F.inv (slp (A.length / 2) (PS.of A) (rh W.length n)))) [.int .u8 (zF (cc + (loc W.length n * E (PS.of R) (rh W.length n)) * F.inv (slp (A.length / 2) (PS.of A) (rh W.length n))))] (fun _ => True) (fun _ => False) rfl rfl ?aP (fun _ hk => hk.elim) ?aF ?aO ?aB ?aS ?aL ?_; (case aP => exact rfl); (case aB => exact HB.out); (case aF => exact (fun _ _ => trivial)); (case aO => exact HO.out); (case aS => exact HB.out.size); (case aL => have := HZ.out; omega); intro v176 w20 ho hb hg hat; have n1_ := Aside0.mk (hb); have n3_ := Aside0.mk (ho); clear HO HB; have HB := n1_; have HO := n3_; clear n1_ n3_ ho hb hg hat))
        go_roundg k1q
        case measure => omega
        case rel => exact ⟨n + 1, (by first | rfl | (simp; done) | (simp [*]; done)), ⟨by have := HX.out; omega⟩, ⟨by rw [HV.out]; (with_reducible repeat (first | apply Kd.R_alloc | apply Kd.R_drewN | apply Kd.R_drew)); exact HO.out⟩, ⟨by repeat (first | (with_reducible first | exact HB.out | apply below_alloc | apply pw_below_drewN | apply below_drew1) | exact HB.out)⟩⟩
      · have cz : (pv == 0) = false := beq_eq_false_iff_ne.2 (by rw [HPV.out]; exact fun e => hz (zF_eq_zero.1 e))
        have HZZ := Aside0.mk hz
        have hval : (zF cc) = zF (valT W R A n) := by unfold valT; rw [if_neg hz, HCC.out]
        rw [← hval] at HV
        clear hval hz
        go_wp2_with (first | ((with_reducible refine gate_builtin (b := .append) (xs := #[.tmp 84, .tmp 86]) rfl ?_); at_builtin; refine Kd.R_append (Kd.int .u8) (w0 := w7) w7.heap.size rfl (.tmp 84) (.tmp 86) 22 5 (.int .u8 0) 1 rfl Tryd.underlying22 Go.Proofs.YtgcibhbhbgoacaaDoor.Re.info5 rfl (by decide) (by omega) u13 (Iz ((List.range n).map (valT W R A))) (zF cc) [.int .u8 (zF cc)] (fun _ => True) (fun _ => False) rfl rfl ?aP (fun _ hk => hk.elim) ?aF ?aO ?aB ?aS ?aL ?_; (case aP => exact rfl); (case aB => exact HB.out); (case aF => exact (fun _ _ => trivial)); (case aO => exact HO.out); (case aS => exact HB.out.size); (case aL => have := HZ.out; omega); intro v176 w20 ho hb hg hat; have n1_ := Aside0.mk (hb); have n3_ := Aside0.mk (ho); clear HO HB; have HB := n1_; have HO := n3_; clear n1_ n3_ ho hb hg hat))
        go_roundg k1q
        case measure => omega
        case rel => exact ⟨n + 1, (by first | rfl | (simp; done) | (simp [*]; done)), ⟨by have := HX.out; omega⟩, ⟨by rw [HV.out]; (with_reducible repeat (first | apply Kd.R_alloc | apply Kd.R_drewN | apply Kd.R_drew)); exact HO.out⟩, ⟨by repeat (first | (with_reducible first | exact HB.out | apply below_alloc | apply pw_below_drewN | apply below_drew1) | exact HB.out)⟩⟩
    | zero =>
      obtain rfl : n = W.length := by have := HX.out; omega
      have c2b0 : decide ((W.length : Int) < (W.length : Int)) = false := decide_eq_false (by omega)
      obtain ⟨A13, c13, e13⟩ := Kd.R_slice HO.out
      subst e13
      go_wp2_with fail
      go_ret
      exact ⟨_, rfl, below_step B7.out HB.out, Kd.R_lower HO.out B7.out.size⟩
end Go.Proofs.YtgcibhbhbgoacaaDoor
