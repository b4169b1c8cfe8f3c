/- fareboxref34.Decode: the walk; it answers as the program's Decode does. -/
import Derived.Test.YtgcibhbhbgoacaaDoorTt
import Derived.Test.YtgcibhbhbgoacaaDoorDd
namespace Go.Proofs.YtgcibhbhbgoacaaDoor
open Go.Proofs.YtgcibhbhbgoacaaDoor.G FB
open Go.RowKit Go.Proofs.YtgcibhbhbgoacaaDoorW.PrintWords Go.Proofs.YtgcibhbhbgoacaaDoorW.PrintLast Go.Proofs.YtgcibhbhbgoacaaDoorW.PrintMore
set_option linter.unusedVariables false
set_option linter.unusedSimpArgs false
theorem decR_holes {W : List F} {check : Int} {hs : List Int} (h1 : chk W.length check = 0) (h2 : holesOk W.length hs [] = false) : decR W check hs = ([], [], 2) := by
  unfold decR
  rw [if_neg (by rw [h1]; simp), if_pos h2]
theorem decR_chk {W : List F} {check : Int} {hs : List Int} (h1 : chk W.length check ≠ 0) : decR W check hs = ([], [], chk W.length check) := by
  unfold decR
  rw [if_pos h1]
theorem decR_many {W : List F} {check : Int} {hs : List Int} (h1 : chk W.length check = 0) (h2 : holesOk W.length hs [] = true) (h3 : check < hs.length) : decR W check hs = ([], [], 290) := by
  unfold decR
  rw [if_neg (by rw [h1]; simp), if_neg (by rw [h2]; simp), if_pos h3]
theorem decR_none {W : List F} {check : Int} {hs : List Int} (h1 : chk W.length check = 0) (h2 : holesOk W.length hs [] = true) (h3 : ¬ check < hs.length) (h : decL W check.toNat (hs.map Int.toNat) = none) : decR W check hs = ([], [], 290) := by
  unfold decR
  rw [if_neg (by rw [h1]; simp), if_neg (by rw [h2]; simp), if_neg h3, h]
theorem RdI.take {w : World} {A : Option Addr} {c m : Nat} {xs : List Int} (h : Kd.C (Kd.int .i64) w A xs.length xs) (hm : m ≤ xs.length) (hc : xs.length ≤ c) : RdI w (.slice A m c) (xs.take m) := by
  have hl : (xs.take m).length = m := by rw [List.length_take]; omega
  refine ⟨A, c, by rw [hl], by omega, ?_⟩
  exact Kd.C_take h hm
theorem among_w {w : World} {v : Value} {xs : List Int} (k : Nat) (x : Int) (r : Bool) (hd : RdI w v xs) (h : Rd.fareboxref34_among.f k xs x = some r) :
    Calls Tryd.prog 54 #[v, .int .i64 x] w fun e w' => e = .returned (.bool r) ∧ Drawn0 w w' := by
  obtain ⟨A, c, rfl, hc, hC⟩ := hd
  exact Rd.fareboxref34_among.calls k A c xs x r w hC hc h
theorem refused_w {w : World} {v : Value} {xs : List Int} (k : Nat) (x : Int) (r : Int) (hd : Rd w v xs) (h : Rd.fareboxref34_refused.f k xs x = some r) :
    Calls Tryd.prog 46 #[v, .int .i64 x] w fun e w' => e = .returned (.int .i64 r) ∧ Below w.heap.size w w' := by
  obtain ⟨A, c, rfl, hc, hC⟩ := hd
  exact (Rd.fareboxref34_refused.calls k A c xs x r w hC hc h).mono fun e w' ⟨he, hb⟩ => ⟨he, hb.below⟩
theorem near_w {w : World} {v u vh : Value} {xs ys hs : List Int} (k : Nat) (x : Int) (r : Bool) (hd : Rd w v xs) (hu : Rd w u ys) (hh : RdI w vh hs) (h : Rd.fareboxref34_Near.f k xs ys x hs = some r) :
    Calls Tryd.prog 56 #[v, u, .int .i64 x, vh] w fun e w' => e = .returned (.bool r) ∧ Below w.heap.size w w' := by
  obtain ⟨A, c, rfl, hc, hC⟩ := hd
  obtain ⟨B, d, rfl, hd, hD⟩ := hu
  obtain ⟨C, e, rfl, he, hE⟩ := hh
  exact (Rd.fareboxref34_Near.calls k A c xs B d ys x C e hs r w hC hc hD hd hE he h)
theorem differing_w {w : World} {v u : Value} {xs ys : List Int} (k : Nat) (r : List Int) (hd : Rd w v xs) (hu : Rd w u ys) (h : Re.fareboxref34_differing.f k xs ys = some r) :
    Calls Tryd.prog 43 #[v, u] w fun e w' => ∃ v2, e = .returned v2 ∧ Below w.heap.size w w' ∧ Kd.R (Kd.int .i64) 3 w' w.heap.size (fun _ => True) v2 r := by
  obtain ⟨A, c, rfl, hc, hC⟩ := hd
  obtain ⟨B, d, rfl, hd, hD⟩ := hu
  exact (Re.fareboxref34_differing.calls k A c xs B d ys r w hC hc hD hd h).mono fun e w' ⟨u, he, ho, hb⟩ => ⟨u, he, hb, ho⟩
set_option maxHeartbeats 8000000 in
set_option maxRecDepth 100000 in
theorem fareboxref34_Decode.full (W : List F) (check : Int) (hs : List Int) (r1 : List F) (r2 : List Nat) (r3 : Int) (hdec : decR W check hs = (r1, r2, r3)) (hW : W.length ≤ 140737488351232) (hhl : hs.length ≤ 17592186044415) (v vh : Value) (w : World) (hd : Rd w v (Iz W)) (hh : RdI w vh hs) :
    Calls Tryd.prog 25 #[v, .int .i64 check, vh] w fun e w' => ∃ v0 v1, e = .returned (.tuple #[v0, v1, .int .i64 r3]) ∧ Below w.heap.size w w' ∧ Kd.R (Kd.int .u8) 5 w' w.heap.size (fun _ => True) v0 (Iz r1) ∧ Kd.R (Kd.int .i64) 3 w' w.heap.size (fun _ => True) v1 (r2.map Int.ofNat) := by
  obtain ⟨k0, hr0⟩ := (refused_ev W check).rounds
  obtain ⟨rc, hrc⟩ : ∃ x : Int, x = chk W.length check := ⟨_, rfl⟩
  rw [← hrc] at hr0
  have HR0 := Aside0.mk hr0
  have HC := Aside0.mk hrc
  have HDEC := Aside0.mk hdec
  have HL := Aside0.mk (And.intro hW hhl)
  have HD := Aside0.mk hd
  have HH := Aside0.mk hh
  obtain ⟨Aw, cw, ev, hcw, -⟩ := id hd
  subst ev
  have hl0 : (Iz W).length = W.length := Iz_length W
  rw [hl0] at HD ⊢
  obtain ⟨Ah, ch, eh, hch, hCh⟩ := id hh
  subst eh
  have HCH := Aside0.mk (And.intro hCh hch)
  clear hr0 hrc hdec hW hhl hd hh hcw hCh hl0 hch
  go_enter Tryd.func25, Tryd.ntmps25
  go_wp2_with fail
  (go_at_call 46; (with_reducible refine (refused_w k0 _ _ HD.out HR0.out).mono ?_); rintro e w1 ⟨rfl, hb1⟩)
  have HB := Aside0.mk hb1
  clear hb1
  by_cases hz : rc = 0
  · have hc0 := Aside0.mk (HC.out.symm.trans hz)
    have cz : decide (rc = 0) = true := decide_eq_true hz
    have cz2 : (rc == 0) = true := beq_iff_eq.2 hz
    subst hz
    go_wp2_with fail
    go_loopg [10] hs.length (fun kq v10 w' => ∃ (i : Nat), v10 = .int .i64 (i : Int) ∧ Aside0 (i + kq = hs.length) ∧ Aside0 (holesOk W.length hs [] = holesOk W.length (hs.drop i) ((hs.take i).map Int.toNat) ∧ ∀ h ∈ hs.take i, 0 ≤ h ∧ h < (W.length : Int)) ∧ Aside0 (Below w.heap.size w w'))
    case atStart => exact ⟨0, rfl, ⟨by omega⟩, ⟨rfl, fun h hh => by simp at hh⟩, ⟨HB.out⟩⟩
    case round =>
      clear HB
      obtain ⟨i, rfl, HX, HJ, HB⟩ := hrel
      cases gk with
      | succ k1q =>
        have hi : i < hs.length := by have := HX.out; omega
        have c2b0 : decide ((i : Int) < (hs.length : Int)) = true := decide_eq_true (by omega)
        have p1 : 0 ≤ (i : Int) := by omega
        have q1 : (i : Int) < (hs.length : Int) := by omega
        obtain ⟨ad1, e1_, hx1⟩ := Kd.at_int (Kd.C_below HCH.out.1 HB.out) (i : Int) p1 q1
        obtain ⟨x, hx⟩ : ∃ x : Int, x = hs.getD i 0 := ⟨_, rfl⟩
        have er : rd hs (i : Int) = x := by unfold rd; rw [Int.toNat_natCast, hx]
        rw [er, Int.toNat_natCast] at hx1
        cases e1_
        have hst := holes_step hi HJ.out.1 HJ.out.2
        rw [← hx] at hst
        have HST := Aside0.mk hst
        have q0 := cut_cap (P := Tryd.prog) 37 3 .i64 Tryd.underlying37 (info_parts Go.Proofs.YtgcibhbhbgoacaaDoor.Re.info3).choose_spec.1 (some ad1) hs.length ch (i : Int) p1 (by have := HCH.out.2; omega)
        rw [Int.toNat_natCast] at q0
        have e2 : IntKind.i64.wrap ((i : Int) + 1) = ((i + 1 : Nat) : Int) := by have := HL.out.2; rw [i64_w]; unfold wrap64; omega
        replace p1 := eq_true p1
        replace q1 := eq_true q1
        clear hx er hst
        by_cases hx0 : x < 0
        · have cx : decide (x < 0) = true := decide_eq_true hx0
          have e1 := HDEC.out
          rw [decR_holes hc0.out (HST.out.1 hx0)] at e1
          simp only [Prod.mk.injEq] at e1
          obtain ⟨rfl, rfl, rfl⟩ := e1
          go_wp2_with fail
          repeat (go_quiet (fail); try go_wp2_with fail)
          go_ret3
          exact ⟨_, _, rfl, (by repeat (first | (with_reducible first | exact HB.out | apply below_alloc | apply pw_below_drewN | apply below_drew1) | exact HB.out)), Kd.R_nil _ _ _ _ _, Kd.R_nil _ _ _ _ _⟩
        · have cx : decide (x < 0) = false := decide_eq_false hx0
          by_cases hxN : (W.length : Int) ≤ x
          · have cy : decide ((W.length : Int) ≤ x) = true := decide_eq_true hxN
            have e1 := HDEC.out
            rw [decR_holes hc0.out (HST.out.2.1 hxN)] at e1
            simp only [Prod.mk.injEq] at e1
            obtain ⟨rfl, rfl, rfl⟩ := e1
            go_wp2_with fail
            repeat (go_quiet (fail); try go_wp2_with fail)
            go_ret3
            exact ⟨_, _, rfl, (by repeat (first | (with_reducible first | exact HB.out | apply below_alloc | apply pw_below_drewN | apply below_drew1) | exact HB.out)), Kd.R_nil _ _ _ _ _, Kd.R_nil _ _ _ _ _⟩
          · have cy : decide ((W.length : Int) ≤ x) = false := decide_eq_false hxN
            obtain ⟨ka, ham⟩ := (among_ev (hs.take i) x (by rw [List.length_take]; have := HL.out.2; omega)).rounds
            by_cases hm : x ∈ hs.take i
            · rw [decide_eq_true hm] at ham
              have HAM := Aside0.mk ham
              have e1 := HDEC.out
              rw [decR_holes hc0.out (HST.out.2.2.1 hm)] at e1
              simp only [Prod.mk.injEq] at e1
              obtain ⟨rfl, rfl, rfl⟩ := e1
              clear hm ham
              go_wp2_with (first | (go_at_call 54; (with_reducible refine (among_w ka _ _ (RdI.take (by repeat (first | exact (Kd.C_below HCH.out.1 HB.out) | (with_reducible refine Kd.C_alloc ?_ _) | (with_reducible refine Kd.C_drewN ?_ _) | (with_reducible refine Kd.C_drew ?_))) (by omega) HCH.out.2) HAM.out).mono ?_); rintro e w5 ⟨rfl, ⟨nd, rfl⟩⟩; (try first | exact ⟨rfl, _, World.drewN_drewN _ _ _⟩ | exact ⟨rfl, _, Eq.trans (World.drewN_drewN _ _ _) (congrArg (World.drewN _) (Nat.add_assoc _ _ _))⟩)))
              repeat (go_quiet (first | (go_at_call 54; (with_reducible refine (among_w ka _ _ (RdI.take (by repeat (first | exact (Kd.C_below HCH.out.1 HB.out) | (with_reducible refine Kd.C_alloc ?_ _) | (with_reducible refine Kd.C_drewN ?_ _) | (with_reducible refine Kd.C_drew ?_))) (by omega) HCH.out.2) HAM.out).mono ?_); rintro e w5 ⟨rfl, ⟨nd, rfl⟩⟩; (try first | exact ⟨rfl, _, World.drewN_drewN _ _ _⟩ | exact ⟨rfl, _, Eq.trans (World.drewN_drewN _ _ _) (congrArg (World.drewN _) (Nat.add_assoc _ _ _))⟩))); try go_wp2_with (first | (go_at_call 54; (with_reducible refine (among_w ka _ _ (RdI.take (by repeat (first | exact (Kd.C_below HCH.out.1 HB.out) | (with_reducible refine Kd.C_alloc ?_ _) | (with_reducible refine Kd.C_drewN ?_ _) | (with_reducible refine Kd.C_drew ?_))) (by omega) HCH.out.2) HAM.out).mono ?_); rintro e w5 ⟨rfl, ⟨nd, rfl⟩⟩; (try first | exact ⟨rfl, _, World.drewN_drewN _ _ _⟩ | exact ⟨rfl, _, Eq.trans (World.drewN_drewN _ _ _) (congrArg (World.drewN _) (Nat.add_assoc _ _ _))⟩))))
              go_ret3
              exact ⟨_, _, rfl, (by repeat (first | (with_reducible first | exact HB.out | apply below_alloc | apply pw_below_drewN | apply below_drew1) | exact HB.out)), Kd.R_nil _ _ _ _ _, Kd.R_nil _ _ _ _ _⟩
            · rw [decide_eq_false hm] at ham
              have HAM := Aside0.mk ham
              have HJ2 := Aside0.mk (HST.out.2.2.2 (by omega) (by omega) hm)
              clear hm ham
              go_wp2_with (first | (go_at_call 54; (with_reducible refine (among_w ka _ _ (RdI.take (by repeat (first | exact (Kd.C_below HCH.out.1 HB.out) | (with_reducible refine Kd.C_alloc ?_ _) | (with_reducible refine Kd.C_drewN ?_ _) | (with_reducible refine Kd.C_drew ?_))) (by omega) HCH.out.2) HAM.out).mono ?_); rintro e w5 ⟨rfl, ⟨nd, rfl⟩⟩; (try first | exact ⟨rfl, _, World.drewN_drewN _ _ _⟩ | exact ⟨rfl, _, Eq.trans (World.drewN_drewN _ _ _) (congrArg (World.drewN _) (Nat.add_assoc _ _ _))⟩)))
              repeat (go_quiet (first | (go_at_call 54; (with_reducible refine (among_w ka _ _ (RdI.take (by repeat (first | exact (Kd.C_below HCH.out.1 HB.out) | (with_reducible refine Kd.C_alloc ?_ _) | (with_reducible refine Kd.C_drewN ?_ _) | (with_reducible refine Kd.C_drew ?_))) (by omega) HCH.out.2) HAM.out).mono ?_); rintro e w5 ⟨rfl, ⟨nd, rfl⟩⟩; (try first | exact ⟨rfl, _, World.drewN_drewN _ _ _⟩ | exact ⟨rfl, _, Eq.trans (World.drewN_drewN _ _ _) (congrArg (World.drewN _) (Nat.add_assoc _ _ _))⟩))); try go_wp2_with (first | (go_at_call 54; (with_reducible refine (among_w ka _ _ (RdI.take (by repeat (first | exact (Kd.C_below HCH.out.1 HB.out) | (with_reducible refine Kd.C_alloc ?_ _) | (with_reducible refine Kd.C_drewN ?_ _) | (with_reducible refine Kd.C_drew ?_))) (by omega) HCH.out.2) HAM.out).mono ?_); rintro e w5 ⟨rfl, ⟨nd, rfl⟩⟩; (try first | exact ⟨rfl, _, World.drewN_drewN _ _ _⟩ | exact ⟨rfl, _, Eq.trans (World.drewN_drewN _ _ _) (congrArg (World.drewN _) (Nat.add_assoc _ _ _))⟩))))
              go_roundg k1q
              case measure => omega
              case rel => exact ⟨i + 1, (by first | rfl | (simp; done) | (simp [*]; done)), ⟨by have := HX.out; omega⟩, ⟨HJ2.out⟩, ⟨(by repeat (first | (with_reducible first | exact HB.out | apply below_alloc | apply pw_below_drewN | apply below_drew1) | exact HB.out))⟩⟩
      | zero =>
        obtain rfl : i = hs.length := by have := HX.out; omega
        have c2b0 : decide ((hs.length : Int) < (hs.length : Int)) = false := decide_eq_false (by omega)
        have hok : holesOk W.length hs [] = true := by rw [HJ.out.1, List.drop_length]; rfl
        have HOK := Aside0.mk hok
        by_cases hmany : check < (hs.length : Int)
        · have cm : decide (check < (hs.length : Int)) = true := decide_eq_true hmany
          have e1 := HDEC.out
          rw [decR_many hc0.out hok hmany] at e1
          simp only [Prod.mk.injEq] at e1
          obtain ⟨rfl, rfl, rfl⟩ := e1
          clear hok
          go_wp2_with fail
          go_ret3
          exact ⟨_, _, rfl, (by repeat (first | (with_reducible first | exact HB.out | apply below_alloc | apply pw_below_drewN | apply below_drew1) | exact HB.out)), Kd.R_nil _ _ _ _ _, Kd.R_nil _ _ _ _ _⟩
        · have cm : decide (check < (hs.length : Int)) = false := decide_eq_false hmany
          obtain ⟨z1, z2, z3, z4⟩ := chk_zero hc0.out
          obtain ⟨g1, g2, g3⟩ := holes_ok W.length hs [] hok
          obtain ⟨c, rfl⟩ : ∃ c : Nat, check = (c : Int) := ⟨check.toNat, by omega⟩
          have cm2 : decide (c < hs.length) = false := decide_eq_false (by omega)
          obtain ⟨H, hH⟩ : ∃ H : List Nat, H = hs.map Int.toNat := ⟨_, rfl⟩
          have hHs : hs = H.map Int.ofNat := by rw [hH]; exact (nat_ints (fun x hx => (g1 x hx).1)).symm
          have hHl : H.length = hs.length := by rw [hH, List.length_map]
          have hHn : H.Nodup := by rw [hH]; exact g2
          have hHb : ∀ h ∈ H, h < W.length := fun h hh => by
            rw [hH] at hh
            obtain ⟨y, hy, rfl⟩ := List.mem_map.1 hh
            have := g1 y hy
            omega
          obtain ⟨r, t1, t2, t3⟩ := fareboxref34_tried.full W c H (by omega) (by omega) (by omega) (by omega) (by omega) hHn hHb (.slice Aw W.length cw) (.slice Ah hs.length ch) wr (HD.out.below HB.out) (by rw [← hHs]; exact HH.out.below HB.out)
          obtain ⟨b, n1, n2⟩ := near_dec W r c H (by omega) (by omega) (by omega) (by omega) (by omega) t1
          obtain ⟨kn, n2⟩ := n2.rounds
          rw [← hHs] at n2
          have T3 := Aside0.mk t3
          have N2 := Aside0.mk n2
          have HRL := Aside0.mk t1
          have hdl : ∀ x, decL W c H = some x → x = r ∧ b = true := fun x hx => by
            rw [decL_eq (by omega)] at hx
            have hnr := dec_near (by omega) hx
            have := t2 x hnr
            exact ⟨this, n1.2 (this ▸ hnr)⟩
          have htn : ((c : Int)).toNat = c := Int.toNat_natCast c
          have hcl : (c : Int) ≤ 64 ∧ c < W.length ∧ W.length ≤ 255 := ⟨by omega, by omega, by omega⟩
          have HCL := Aside0.mk hcl
          cases b with
          | false =>
            have e1 := HDEC.out
            rw [decR_none hc0.out hok hmany (by
              rw [htn, ← hH]
              cases hx : decL W c H with
              | none => rfl
              | some x => exact absurd (hdl x hx).2 (by decide))] at e1
            simp only [Prod.mk.injEq] at e1
            obtain ⟨rfl, rfl, rfl⟩ := e1
            clear hok z1 z2 z3 z4 g1 g2 g3 hH hHl hHn hHb t1 t2 t3 n1 n2 hdl htn hcl hmany hHs
            go_wp2_with fail
            (go_at_call 55; refine T3.out.mono ?_; rintro e w5 ⟨v5, rfl, hb1, ho⟩)
            have HO := Aside0.mk ho
            replace HB := Aside0.mk (below_step HB.out hb1)
            clear ho hb1
            go_wp2_with fail
            (go_at_call 56; (with_reducible refine (near_w kn _ _ (HD.out.below HB.out) (Rd.of_R HO.out) (HH.out.below HB.out) N2.out).mono ?_); rintro e w6 ⟨rfl, hb1⟩)
            replace HB := Aside0.mk (below_step HB.out hb1)
            clear hb1
            go_wp2_with fail
            go_ret3
            exact ⟨_, _, rfl, (by repeat (first | (with_reducible first | exact HB.out | apply below_alloc | apply pw_below_drewN | apply below_drew1) | exact HB.out)), Kd.R_nil _ _ _ _ _, Kd.R_nil _ _ _ _ _⟩
          | true =>
            have hnr : Near W c H r := n1.1 rfl
            have e1 := HDEC.out
            rw [decR_some (r := r) hc0.out hok hmany (by rw [htn, ← hH, decL_eq (by omega)]; exact dec_found (by omega) hHb hHn hnr), htn] at e1
            simp only [Prod.mk.injEq] at e1
            obtain ⟨rfl, rfl, rfl⟩ := e1
            obtain ⟨kd, hdf⟩ := (rdiffering_ev W r t1.symm (by omega)).rounds
            have HDF := Aside0.mk hdf
            clear hok z1 z2 z3 z4 g1 g2 g3 hH hHl hHn hHb t1 t2 t3 n1 n2 hdl htn hcl hmany hHs hnr hdf
            go_wp2_with fail
            have HS0 := Aside0.mk HB.out.size
            (go_at_call 55; refine T3.out.mono ?_; rintro e w5 ⟨v5, rfl, hb1, ho⟩)
            have HO := Aside0.mk ho
            replace HB := Aside0.mk (below_step HB.out hb1)
            have HS5 := Aside0.mk HB.out.size
            clear ho hb1
            go_wp2_with fail
            (go_at_call 56; (with_reducible refine (near_w kn _ _ (HD.out.below HB.out) (Rd.of_R HO.out) (HH.out.below HB.out) N2.out).mono ?_); rintro e w6 ⟨rfl, hb1⟩)
            replace HB := Aside0.mk (below_step HB.out hb1)
            replace HO := Aside0.mk (Kd.R_below HO.out hb1)
            clear hb1
            obtain ⟨Ar, cr, er⟩ := Kd.R_slice HO.out
            subst er
            have hRr := Kd.R_reads' HO.out
            have hlr : (Iz r).length = W.length := by rw [Iz_length]; exact HRL.out
            rw [hlr] at hRr HO ⊢
            have e3 : IntKind.i64.wrap ((W.length : Int) - (c : Int)) = ((W.length - c : Nat) : Int) := by have := HCL.out; rw [i64_w]; unfold wrap64; omega
            have q0 := cut_cap (P := Tryd.prog) 22 5 .i64 Tryd.underlying22 (info_parts Go.Proofs.YtgcibhbhbgoacaaDoor.Re.info5).choose_spec.1 Ar W.length cr ((W.length - c : Nat) : Int) (by omega) (by have := hRr.2.1; omega)
            rw [Int.toNat_natCast] at q0
            have HRR := Aside0.mk hRr
            clear hRr hlr
            go_wp2_with fail
            refine start_ (n := 12) (S := fun _ => True) (ds := []) #[false, false, false, false, false, false, false, false, false, false, false, false] (by kernel_rfl) rfl rfl trivial (fun _ => ?_)
            replace HB := Aside0.mk (below_drew1 HB.out)
            replace HO := Aside0.mk (Kd.R_drew HO.out)
            generalize w6.drew = w66 at HB HO ⊢
            refine pure_ (i := 0) (N := some 62) (v := ?_) (a' := ?_) #[true, false, false, false, false, false, false, false, false, false, false, false] rfl rfl (by kernel_rfl) (fun _ _ _ h => h) (Or.inl ⟨by rfl, ?_⟩) ?_ ?_
            rotate_left
            · intro w'
              go_simp
              with_reducible rfl
            rotate_left
            · simp only [Act.put, List.setIfInBounds_toArray, List.set_cons_zero, List.set_cons_succ, i64_w, i32_w]
              rfl
            refine pure_ (i := 1) (N := some 63) (v := ?_) (a' := ?_) #[true, true, false, false, false, false, false, false, false, false, false, false] rfl rfl (by kernel_rfl) (fun _ _ _ h => h) (Or.inl ⟨by rfl, ?_⟩) ?_ ?_
            rotate_left
            · intro w'
              go_simp
              with_reducible rfl
            rotate_left
            · simp only [Act.put, List.setIfInBounds_toArray, List.set_cons_zero, List.set_cons_succ, i64_w, i32_w]
              rfl
            refine pure_ (i := 2) (N := some 64) (v := ?_) (a' := ?_) #[true, true, true, false, false, false, false, false, false, false, false, false] rfl rfl (by kernel_rfl) (fun _ _ _ h => h) (Or.inl ⟨by rfl, ?_⟩) ?_ ?_
            rotate_left
            · intro w'
              go_simp
              with_reducible rfl
            rotate_left
            · simp only [Act.put, List.setIfInBounds_toArray, List.set_cons_zero, List.set_cons_succ, i64_w, i32_w]
              rfl
            refine pure_ (i := 3) (N := some 65) (v := ?_) (a' := ?_) #[true, true, true, true, false, false, false, false, false, false, false, false] rfl rfl (by kernel_rfl) (fun _ _ _ h => h) (Or.inl ⟨by rfl, ?_⟩) ?_ ?_
            rotate_left
            · intro w'
              go_simp
              with_reducible rfl
            rotate_left
            · simp only [Act.put, List.setIfInBounds_toArray, List.set_cons_zero, List.set_cons_succ, i64_w, i32_w]
              rfl
            refine pure_ (i := 4) (N := some 66) (v := ?_) (a' := ?_) #[true, true, true, true, true, false, false, false, false, false, false, false] rfl rfl (by kernel_rfl) (fun _ _ _ h => h) (Or.inl ⟨by rfl, ?_⟩) ?_ ?_
            rotate_left
            · intro w'
              go_simp
              with_reducible rfl
            rotate_left
            · simp only [Act.put, List.setIfInBounds_toArray, List.set_cons_zero, List.set_cons_succ, i64_w, i32_w]
              rfl
            refine pure_ (i := 5) (N := some 67) (v := ?_) (a' := ?_) #[true, true, true, true, true, true, false, false, false, false, false, false] rfl rfl (by kernel_rfl) (fun _ _ _ h => h) (Or.inl ⟨by rfl, ?_⟩) ?_ ?_
            rotate_left
            · intro w'
              go_simp
              with_reducible rfl
            rotate_left
            · simp only [Act.put, List.setIfInBounds_toArray, List.set_cons_zero, List.set_cons_succ, i64_w, i32_w]
              rfl
            refine pure_ (i := 6) (N := some 68) (v := ?_) (a' := ?_) #[true, true, true, true, true, true, true, false, false, false, false, false] rfl rfl (by kernel_rfl) (fun _ _ _ h => h) (Or.inl ⟨by rfl, ?_⟩) ?_ ?_
            rotate_left
            · intro w'
              go_simp
              with_reducible rfl
            rotate_left
            · simp only [Act.put, List.setIfInBounds_toArray, List.set_cons_zero, List.set_cons_succ, i64_w, i32_w]
              rfl
            refine pure_ (i := 7) (N := some 69) (v := ?_) (a' := ?_) #[true, true, true, true, true, true, true, true, false, false, false, false] rfl rfl (by kernel_rfl) (fun _ _ _ h => h) (Or.inl ⟨by rfl, ?_⟩) ?_ ?_
            rotate_left
            · intro w'
              go_simp
              with_reducible rfl
            rotate_left
            · simp only [Act.put, List.setIfInBounds_toArray, List.set_cons_zero, List.set_cons_succ, i64_w, i32_w]
              rfl
            refine one_ (i := 8) (N := some 70) #[true, true, true, true, true, true, true, true, true, false, false, false] rfl rfl (by kernel_rfl) (by decide) (fun K hK => ?_)
            refine goes_ Tryd.func43 (by kernel_rfl) rfl #[.slice Aw W.length cw, .slice Ar W.length cr] (by rfl) rfl rfl (by (try simp only [List.map_toArray, List.map_cons, List.map_nil]); first | done | rfl) ?_
            (with_reducible refine (differing_w kd _ (HD.out.below HB.out) (Rd.of_R HO.out) HDF.out).mono ?_)
            rintro e w7 ⟨v7, rfl, hb1, ho7⟩
            refine ⟨_, rfl, ?_⟩
            have HO7 := Aside0.mk ho7
            have HS7 := Aside0.mk HB.out.size
            replace HB := Aside0.mk (below_step HB.out hb1)
            replace HO := Aside0.mk (Kd.R_below HO.out hb1)
            clear hb1 ho7
            obtain ⟨A7, c7, e7⟩ := Kd.R_slice HO7.out
            subst e7
            refine hK.out _ _ trivial (fun _ => ?_)
            clear hK K
            refine norm_ (a' := ?_) ?_ ?_
            rotate_left
            · show Act.put _ (some 70) _ = _
              simp only [Act.put, List.setIfInBounds_toArray, List.set_cons_zero, List.set_cons_succ, i64_w, i32_w]
              rfl
            refine pure_ (i := 9) (N := some 6) (v := ?_) (a' := ?_) #[true, true, true, true, true, true, true, true, true, true, false, false] rfl rfl (by kernel_rfl) (fun _ _ _ h => h) (Or.inl ⟨by rfl, ?_⟩) ?_ ?_
            rotate_left
            · intro w'
              go_simp
              with_reducible rfl
            rotate_left
            · simp only [Act.put, List.setIfInBounds_toArray, List.set_cons_zero, List.set_cons_succ, i64_w, i32_w]
              rfl
            refine pure_ (i := 10) (N := some 7) (v := ?_) (a' := ?_) #[true, true, true, true, true, true, true, true, true, true, true, false] rfl rfl (by kernel_rfl) (fun _ _ _ h => h) (Or.inl ⟨by rfl, ?_⟩) ?_ ?_
            rotate_left
            · intro w'
              go_simp
              with_reducible rfl
            rotate_left
            · simp only [Act.put, List.setIfInBounds_toArray, List.set_cons_zero, List.set_cons_succ, i64_w, i32_w]
              rfl
            refine pure_ (i := 11) (N := some 8) (v := ?_) (a' := ?_) #[true, true, true, true, true, true, true, true, true, true, true, true] rfl rfl (by kernel_rfl) (fun _ _ _ h => h) (Or.inl ⟨by rfl, ?_⟩) ?_ ?_
            rotate_left
            · intro w'
              go_simp
              with_reducible rfl
            rotate_left
            · simp only [Act.put, List.setIfInBounds_toArray, List.set_cons_zero, List.set_cons_succ, i64_w, i32_w]
              rfl
            refine done_ (by kernel_rfl) ?_
            go_wp2_with fail
            go_ret3
            refine ⟨_, _, rfl, HB.out, ?_, ?_⟩
            · have h := Kd.R_lower (Kd.R_take (m := W.length - c) HO.out (by rw [Iz_length, HRL.out]; omega)) HS0.out
              rw [Iz_take]
              exact h
            · have h := Kd.R_lower HO7.out HS7.out
              rw [List.length_map] at h
              exact h
  · have cz : decide (rc = 0) = false := decide_eq_false hz
    have cz2 : (rc == 0) = false := beq_eq_false_iff_ne.2 hz
    have e1 := HDEC.out
    rw [decR_chk (by rw [← HC.out]; exact hz), ← HC.out] at e1
    simp only [Prod.mk.injEq] at e1
    obtain ⟨rfl, rfl, rfl⟩ := e1
    clear hz
    go_wp2_with fail
    go_ret3
    exact ⟨_, _, rfl, HB.out, Kd.R_nil _ _ _ _ _, Kd.R_nil _ _ _ _ _⟩
end Go.Proofs.YtgcibhbhbgoacaaDoor
