import Derived.Test.YtgcibhbhbgoacaaDoorTl
import Derived.Test.YtgcibhbhbgoacaaDoorGe
/- The calls of law34.RsEncodes, told over rows that are known by the range of their blocks. -/
namespace Go.Proofs.YtgcibhbhbgoacaaDoor
open Go.Proofs.YtgcibhbhbgoacaaDoor.G
open Go.RowKit Go.Proofs.YtgcibhbhbgoacaaDoorW.PrintWords Go.Proofs.YtgcibhbhbgoacaaDoorW.PrintLast Go.Proofs.YtgcibhbhbgoacaaDoorW.PrintMore
/-- a row that is read -/
def Rd (w : World) (v : Value) (xs : List Int) : Prop := ∃ A c, v = .slice A xs.length c ∧ xs.length ≤ c ∧ Kd.C (Kd.int .u8) w A xs.length xs
/-- a row of the call's own, in a block between lo and hi -/
def Rw (w0 w : World) (lo hi : Nat) (v : Value) (xs : List Int) : Prop := Kd.R (Kd.int .u8) 5 w w0.heap.size (fun k => lo ≤ k ∧ k < hi) v xs
/-- a marked row, in a block between lo and hi -/
def Tr (w0 w : World) (lo hi : Nat) (v : Value) (xs : List Int) : Prop := Tl w w0.heap.size (fun k => lo ≤ k ∧ k < hi) marks v xs
set_option linter.unusedVariables false
section
variable {w0 w w1 : World} {lo hi lo2 hi2 nb base : Nat} {v u : Value} {xs ys : List Int} {ok S : Nat → Prop}
theorem Rd.of_R (h : Kd.R (Kd.int .u8) 5 w base ok v xs) : Rd w v xs := by
  obtain ⟨A, c, rfl⟩ := Kd.R_slice h
  exact ⟨A, c, rfl, (Kd.R_reads' h).2.1, (Kd.R_reads' h).2.2⟩
theorem Rw.rd (h : Rw w0 w lo hi v xs) : Rd w v xs := Rd.of_R h
theorem Tr.rd (h : Tr w0 w lo hi v xs) : Rd w v xs := Rd.of_R (Tl.R h)
theorem Rd.below (h : Rd w v xs) (hb : Below w.heap.size w w1) : Rd w1 v xs := by
  obtain ⟨A, c, rfl, hc, hC⟩ := h
  exact ⟨A, c, rfl, hc, Kd.C_below hC hb⟩
theorem Rw.below (h : Rw w0 w lo hi v xs) (hb : Below w.heap.size w w1) : Rw w0 w1 lo hi v xs := Kd.R_below h hb
theorem Tr.below (h : Tr w0 w lo hi v xs) (hb : Below w.heap.size w w1) : Tr w0 w1 lo hi v xs := Tl.below h hb
theorem Rd.drewN (h : Rd w v xs) (n : Nat) : Rd (w.drewN n) v xs := h.below (pw_below_drewN (Below.refl _ _) n)
theorem Rw.drewN (h : Rw w0 w lo hi v xs) (n : Nat) : Rw w0 (w.drewN n) lo hi v xs := h.below (pw_below_drewN (Below.refl _ _) n)
theorem Tr.drewN (h : Tr w0 w lo hi v xs) (n : Nat) : Tr w0 (w.drewN n) lo hi v xs := h.below (pw_below_drewN (Below.refl _ _) n)
theorem Rw.kept (h : Rw w0 w lo hi v xs) (hk : Kept w w1 S) (hs : ∀ k, S k → k < lo ∨ hi ≤ k) : Rw w0 w1 lo hi v xs := Kd.R_kept h hk fun k hk2 hS => by have := hs k hS; omega
theorem Tr.kept (h : Tr w0 w lo hi v xs) (hk : Kept w w1 S) (hs : ∀ k, S k → k < lo ∨ hi ≤ k) : Tr w0 w1 lo hi v xs := Tl.kept h hk fun k hk2 hS => by have := hs k hS; omega
theorem Rw.of_new (h : Kd.R (Kd.int .u8) 5 w1 w.heap.size (fun _ => True) v xs) (hb : Below w.heap.size w w1) (h0 : w0.heap.size ≤ w.heap.size) (hn : nb ≤ w.heap.size) : ∃ nb2, nb ≤ nb2 ∧ nb2 ≤ w1.heap.size ∧ Rw w0 w1 nb nb2 v xs :=
  ⟨w1.heap.size, Nat.le_trans hn hb.size, Nat.le_refl _, Kd.R_lower (Kd.R_mono (Kd.R_bound h) fun k hk => ⟨Nat.le_trans hn hk.2.1, hk.2.2.1⟩) h0⟩
theorem Tl.lower {base2 : Nat} {tl : List Int} (h : Tl w base ok tl v xs) (hb : base2 ≤ base) : Tl w base2 ok tl v xs := by
  obtain ⟨A, c, rfl, hl, hR⟩ := h
  exact ⟨A, c, rfl, hl, Kd.R_lower hR hb⟩
theorem Tr.of_new (h : Tl w1 w.heap.size (fun _ => True) marks v xs) (hb : Below w.heap.size w w1) (h0 : w0.heap.size ≤ w.heap.size) (hn : nb ≤ w.heap.size) : ∃ nb2, nb ≤ nb2 ∧ nb2 ≤ w1.heap.size ∧ Tr w0 w1 nb nb2 v xs :=
  ⟨w1.heap.size, Nat.le_trans hn hb.size, Nat.le_refl _, Tl.lower (h.map fun _ _ _ hR => Kd.R_mono (Kd.R_bound hR) fun k hk => ⟨Nat.le_trans hn hk.2.1, hk.2.2.1⟩) h0⟩
theorem gen_w (k : Nat) (n : Int) (r1 : List Int) (r2 : Bool) (h : Ge.rs_Generator.f k n = some (r1, r2)) (ht : TabW w) (h0 : w0.heap.size ≤ w.heap.size) (hn : nb ≤ w.heap.size) :
    Calls Tryd.prog 9 #[.int .i64 n] w fun e w' => ∃ v nb2, e = .returned (.tuple #[v, .bool r2]) ∧ Below w.heap.size w w' ∧ nb ≤ nb2 ∧ nb2 ≤ w'.heap.size ∧ Rw w0 w' nb nb2 v r1 :=
  (Ge.rs_Generator.calls k n r1 r2 w h ht).mono fun e w' ⟨v, he, ho, hb⟩ => by
    obtain ⟨nb2, h1, h2, h3⟩ := Rw.of_new ho hb h0 hn
    exact ⟨v, nb2, he, hb, h1, h2, h3⟩
theorem rgen_w (k : Nat) (n : Int) (r1 : List Int) (r2 : Bool) (h : Re.fareboxref34_Generator.f k n = some (r1, r2)) (h0 : w0.heap.size ≤ w.heap.size) (hn : nb ≤ w.heap.size) :
    Calls Tryd.prog 10 #[.int .i64 n] w fun e w' => ∃ v nb2, e = .returned (.tuple #[v, .bool r2]) ∧ Below w.heap.size w w' ∧ nb ≤ nb2 ∧ nb2 ≤ w'.heap.size ∧ Rw w0 w' nb nb2 v r1 :=
  (Re.fareboxref34_Generator.calls k n r1 r2 w h).mono fun e w' ⟨v, he, ho, hb⟩ => by
    obtain ⟨nb2, h1, h2, h3⟩ := Rw.of_new ho hb h0 hn
    exact ⟨v, nb2, he, hb, h1, h2, h3⟩
theorem enc_w (k : Nat) (n : Int) (r1 : List Int) (r2 : Int) (hd : Rd w u xs) (h : H.rs_Encode.f k xs n = some (r1, r2)) (ht : TabW w) (h0 : w0.heap.size ≤ w.heap.size) (hn : nb ≤ w.heap.size) :
    Calls Tryd.prog 13 #[u, .int .i64 n] w fun e w' => ∃ v nb2, e = .returned (.tuple #[v, .int .i64 r2]) ∧ Below w.heap.size w w' ∧ nb ≤ nb2 ∧ nb2 ≤ w'.heap.size ∧ Rw w0 w' nb nb2 v r1 := by
  obtain ⟨A, c, rfl, hc, hC⟩ := hd
  refine (H.rs_Encode.calls k A c xs n r1 r2 w hC hc h ht).mono fun e w' ⟨v, he, ho, hb⟩ => ?_
  obtain ⟨nb2, h1, h2, h3⟩ := Rw.of_new ho hb h0 hn
  exact ⟨v, nb2, he, hb, h1, h2, h3⟩
theorem renc_w (k : Nat) (n : Int) (r1 : List Int) (r2 : Int) (hd : Rd w u xs) (h : Re.fareboxref34_Encode.f k xs n = some (r1, r2)) (h0 : w0.heap.size ≤ w.heap.size) (hn : nb ≤ w.heap.size) :
    Calls Tryd.prog 14 #[u, .int .i64 n] w fun e w' => ∃ v nb2, e = .returned (.tuple #[v, .int .i64 r2]) ∧ Below w.heap.size w w' ∧ nb ≤ nb2 ∧ nb2 ≤ w'.heap.size ∧ Rw w0 w' nb nb2 v r1 := by
  obtain ⟨A, c, rfl, hc, hC⟩ := hd
  refine (Re.fareboxref34_Encode.calls k A c xs n r1 r2 w hC hc h).mono fun e w' ⟨v, he, ho, hb⟩ => ?_
  obtain ⟨nb2, h1, h2, h3⟩ := Rw.of_new ho hb h0 hn
  exact ⟨v, nb2, he, hb, h1, h2, h3⟩
theorem mark_w (k : Nat) (r : List Int) (hd : Rd w u xs) (h : Re.fareboxlaw34_marked.f k xs = some r) (h0 : w0.heap.size ≤ w.heap.size) (hn : nb ≤ w.heap.size) :
    Calls Tryd.prog 12 #[u] w fun e w' => ∃ v nb2, e = .returned v ∧ Below w.heap.size w w' ∧ nb ≤ nb2 ∧ nb2 ≤ w'.heap.size ∧ Tr w0 w' nb nb2 v r := by
  obtain ⟨A, c, rfl, hc, hC⟩ := hd
  refine (fareboxlaw34_marked.full k A c xs r w hC hc h).mono fun e w' ⟨v, he, ho, hb⟩ => ?_
  obtain ⟨nb2, h1, h2, h3⟩ := Tr.of_new ho hb h0 hn
  exact ⟨v, nb2, he, hb, h1, h2, h3⟩
theorem same_w (k : Nat) (r : Bool) (ha : Rd w v xs) (hb : Rd w u ys) (h : fareboxlaw34_same.f k xs ys = some r) :
    Calls Tryd.prog 11 #[v, u] w fun e w' => e = .returned (.bool r) ∧ Below w.heap.size w w' := by
  obtain ⟨A, c, rfl, hc, hC⟩ := ha
  obtain ⟨B, d, rfl, hd, hD⟩ := hb
  exact (fareboxlaw34_same.calls k A c xs B d ys r w hC hc hD hd h).mono fun e w' ⟨he, hb⟩ => ⟨he, hb.below⟩
theorem dist_w (k : Nat) (r1 : Int) (r2 : Bool) (ha : Rd w v xs) (hb : Rd w u ys) (h : rs_Distance.f k xs ys = some (r1, r2)) :
    Calls Tryd.prog 17 #[v, u] w fun e w' => e = .returned (.tuple #[.int .i64 r1, .bool r2]) ∧ Below w.heap.size w w' := by
  obtain ⟨A, c, rfl, hc, hC⟩ := ha
  obtain ⟨B, d, rfl, hd, hD⟩ := hb
  exact (rs_Distance.calls k A c xs B d ys r1 r2 w hC hc hD hd h).mono fun e w' ⟨he, hb⟩ => ⟨he, hb.below⟩
theorem rdist_w (k : Nat) (r1 : Int) (r2 : Bool) (ha : Rd w v xs) (hb : Rd w u ys) (h : Re.fareboxref34_Distance.f k xs ys = some (r1, r2)) :
    Calls Tryd.prog 18 #[v, u] w fun e w' => e = .returned (.tuple #[.int .i64 r1, .bool r2]) ∧ Below w.heap.size w w' := by
  obtain ⟨A, c, rfl, hc, hC⟩ := ha
  obtain ⟨B, d, rfl, hd, hD⟩ := hb
  exact (Re.fareboxref34_Distance.calls k A c xs B d ys r1 r2 w hC hc hD hd h)
theorem left_w (k : Nat) (r : Bool) (ha : Tr w0 w lo hi v xs) (hb : Rd w u ys) (hl : ys.length = xs.length) (hbd : xs.length ≤ 140737488351232) (h : fareboxlaw34_same.f k xs ys = some r) :
    Calls Tryd.prog 15 #[v, u] w fun e w' => e = .returned (.bool r) ∧ Below w.heap.size w w' := by
  obtain ⟨B, d, rfl, hd, hD⟩ := hb
  exact (fareboxlaw34_left.full k v xs ys B d _ _ r w ha hD hd hl hbd h).mono fun e w' ⟨he, hb⟩ => ⟨he, hb.below⟩
theorem let_w (ho : Rw w0 w lo hi v xs) (hB : Below w0.heap.size w0 w) (hbd : xs.length ≤ 140737488351232) :
    Calls Tryd.prog 16 #[v] w fun e w' => ∃ n ys, e = .returned (.int .i64 n) ∧ ys.length = xs.length ∧ Below w0.heap.size w0 w' ∧ w.heap.size ≤ w'.heap.size ∧ Rw w0 w' lo hi v ys ∧ Kept w w' (fun k => lo ≤ k ∧ k < hi) :=
  (fareboxlaw34_let.calls _ v xs w0 w hB ho hbd).mono fun e w' ⟨⟨n, he⟩, hb, ⟨ys, hl, hR⟩, hk⟩ =>
    ⟨n, ys, he, hl, hb, hk.1, Kd.R_mono hR (fun k hk2 => ho.1 k hk2.symm), hk.mono (fun k hk2 => ho.1 k hk2.symm)⟩
theorem turn_w (k : Nat) (p q : List Int) (ha : Tr w0 w lo hi v xs) (hB : Below w0.heap.size w0 w) (hn : nb ≤ w.heap.size) (h : Re.fareboxlaw34_turned.f k xs = some (p, q)) :
    Calls Tryd.prog 20 #[v] w fun e w' => ∃ u nb2, e = .returned u ∧ Below w0.heap.size w0 w' ∧ nb ≤ nb2 ∧ nb2 ≤ w'.heap.size ∧ Rw w0 w' nb nb2 u p ∧ Tr w0 w' lo hi v q ∧ Kept w w' (fun k => lo ≤ k ∧ k < hi) := by
  have hown : ∀ k, v.ownBlock = some k → lo ≤ k ∧ k < hi := (Tl.R ha).1
  have hat : Tl w w0.heap.size (fun k => some k = v.ownBlock) marks v xs := ha.map fun u ys e hR => by rw [← e]; exact Kd.R_tight rfl hR
  refine (fareboxlaw34_turned.full k _ v xs p q marks w0 w hB hat h).mono fun e w' ⟨u, he, hu, hv, hb, hk⟩ => ?_
  refine ⟨u, w'.heap.size, he, hb, Nat.le_trans hn hk.1, Nat.le_refl _, ?_, ?_, hk.mono (fun k hk2 => hown k hk2.symm)⟩
  · exact Kd.R_mono (Kd.R_bound hu) fun k hk2 => ⟨(hk2.1.1).elim (fun h => absurd h hk2.1.2) (fun h => Nat.le_trans hn h), hk2.2.2.1⟩
  · exact hv.map fun u ys e hR => Kd.R_mono (Kd.R_tight rfl hR) fun k hk2 => hown k (by rw [← e]; exact hk2.symm)
theorem rooms_w (ha : Rw w0 w lo hi v xs) (hb : Rw w0 w lo2 hi2 u ys) (hne : hi ≤ lo2 ∨ hi2 ≤ lo) (hB : Below w0.heap.size w0 w) (hla : xs.length ≤ 140737488351232) (hlb : ys.length ≤ 140737488351232) :
    Calls Tryd.prog 19 #[v, u] w fun e w' => e = .returned (.bool true) ∧ Below w0.heap.size w0 w' ∧ w.heap.size ≤ w'.heap.size ∧ Rw w0 w' lo hi v xs ∧ Rw w0 w' lo2 hi2 u ys ∧ Kept w w' (fun k => (lo ≤ k ∧ k < hi) ∨ (lo2 ≤ k ∧ k < hi2)) := by
  refine (fareboxlaw34_rooms.calls _ _ v u xs ys w0 w hB ha hb (fun k h1 h2 => by have := ha.1 k h1; have := hb.1 k h2; omega) hla hlb).mono fun e w' ⟨he, h1, h2, h3, h4⟩ => ?_
  exact ⟨he, h1, h4.1, Kd.R_mono h2 fun k hk => ha.1 k hk.symm, Kd.R_mono h3 fun k hk => hb.1 k hk.symm, h4.mono fun k hk => hk.imp (fun e => ha.1 k e.symm) (fun e => hb.1 k e.symm)⟩
end
end Go.Proofs.YtgcibhbhbgoacaaDoor


namespace Go.Proofs.YtgcibhbhbgoacaaDoor
open Go.Proofs.YtgcibhbhbgoacaaDoor.G
open Go.RowKit Go.Proofs.YtgcibhbhbgoacaaDoorW.PrintWords Go.Proofs.YtgcibhbhbgoacaaDoorW.PrintLast Go.Proofs.YtgcibhbhbgoacaaDoorW.PrintMore
set_option linter.unusedVariables false
set_option linter.unusedSimpArgs false
structure DistOk (k : Nat) (xs ys p q : List Int) : Prop where
  mark : Re.fareboxlaw34_marked.f k ys = some ys
  d1 : ∃ n b, rs_Distance.f k xs ys = some (n, b) ∧ Re.fareboxref34_Distance.f k xs ys = some (n, b)
  d2 : ∃ n b, rs_Distance.f k p ys = some (n, b) ∧ Re.fareboxref34_Distance.f k p ys = some (n, b)
  d3 : ∃ n b, rs_Distance.f k p q = some (n, b) ∧ Re.fareboxref34_Distance.f k p q = some (n, b)
  sx : fareboxlaw34_same.f k xs xs = some true
  sy : fareboxlaw34_same.f k ys ys = some true
  sp : fareboxlaw34_same.f k p p = some true
  sq : fareboxlaw34_same.f k q q = some true
  tx : Re.fareboxlaw34_turned.f k xs = some (p, p)
  ty : Re.fareboxlaw34_turned.f k ys = some (q, q)
  lx : xs.length ≤ 140737488351232
  ly : ys.length ≤ 140737488351232
  lp : p.length ≤ 140737488351232
  lq : q.length ≤ 140737488351232
set_option maxHeartbeats 8000000 in
set_option maxRecDepth 100000 in
theorem fareboxlaw34_distances.full (k : Nat) (va vb vo : Value) (xs ys p q : List Int) (w0 w : World) (lo hi nb : Nat) (H : DistOk k xs ys p q) (hB : Below w0.heap.size w0 w) (ha : Tr w0 w lo hi va xs) (hhi : hi ≤ nb) (hn : nb ≤ w.heap.size) (hb : Rd w vb xs) (ho : Rd w0 vo ys) :
    Calls Tryd.prog 21 #[va, vb, vo] w fun e w' => e = .returned (.bool true) ∧ Below w0.heap.size w0 w' := by
  obtain ⟨n1, b1, hd1, hr1⟩ := H.d1
  obtain ⟨n2, b2, hd2, hr2⟩ := H.d2
  obtain ⟨n3, b3, hd3, hr3⟩ := H.d3
  have HA := Aside0.mk ha
  have HO := Aside0.mk (ho.below hB)
  have HO0 := Aside0.mk ho
  have HV := Aside0.mk hb
  have HN := Aside0.mk hn
  have HB := Aside0.mk hB
  have D1 := Aside0.mk hd1
  have D2 := Aside0.mk hd2
  have D3 := Aside0.mk hd3
  have R1 := Aside0.mk hr1
  have R2 := Aside0.mk hr2
  have R3 := Aside0.mk hr3
  have HH := Aside0.mk H
  clear ha ho hb hn hB hd1 hd2 hd3 hr1 hr2 hr3 H
  go_enter Tryd.func21, Tryd.ntmps21
  go_wp2_with fail
  (go_at_call 12; (with_reducible refine (mark_w (w0 := w0) (nb := nb) k _ HO.out HH.out.mark (HB.out.size) HN.out).mono ?_); rintro e w1 ⟨vx, nb1, rfl, hb, hle1, hn, hr⟩; clear HN; have HX := Aside0.mk hr; clear hr; replace HA := Aside0.mk (HA.out.below hb); replace HV := Aside0.mk (HV.out.below hb); replace HO := Aside0.mk (HO.out.below hb); replace HB := Aside0.mk (below_step HB.out hb); clear hb; have HN := Aside0.mk hn; clear hn)
  go_wp2_with fail
  (go_at_call 17; (with_reducible refine (dist_w k _ _ HA.out.rd HX.out.rd  D1.out).mono ?_); rintro e w2 ⟨rfl, hb⟩; replace HA := Aside0.mk (HA.out.below hb); replace HV := Aside0.mk (HV.out.below hb); replace HO := Aside0.mk (HO.out.below hb); replace HX := Aside0.mk (HX.out.below hb); replace HB := Aside0.mk (below_step HB.out hb); replace HN := Aside0.mk (Nat.le_trans HN.out hb.size); clear hb)
  go_wp2_with fail
  (go_at_call 18; (with_reducible refine (rdist_w k _ _ HV.out HO.out  R1.out).mono ?_); rintro e w3 ⟨rfl, hb⟩; replace HA := Aside0.mk (HA.out.below hb); replace HV := Aside0.mk (HV.out.below hb); replace HO := Aside0.mk (HO.out.below hb); replace HX := Aside0.mk (HX.out.below hb); replace HB := Aside0.mk (below_step HB.out hb); replace HN := Aside0.mk (Nat.le_trans HN.out hb.size); clear hb)
  go_wp2_with fail
  (go_at_call 15; (with_reducible refine (left_w k _ HA.out HV.out rfl HH.out.lx HH.out.sx).mono ?_); rintro e w4 ⟨rfl, hb⟩; replace HA := Aside0.mk (HA.out.below hb); replace HV := Aside0.mk (HV.out.below hb); replace HO := Aside0.mk (HO.out.below hb); replace HX := Aside0.mk (HX.out.below hb); replace HB := Aside0.mk (below_step HB.out hb); replace HN := Aside0.mk (Nat.le_trans HN.out hb.size); clear hb)
  go_wp2_with fail
  (go_at_call 15; (with_reducible refine (left_w k _ HX.out HO.out rfl HH.out.ly HH.out.sy).mono ?_); rintro e w5 ⟨rfl, hb⟩; replace HA := Aside0.mk (HA.out.below hb); replace HV := Aside0.mk (HV.out.below hb); replace HO := Aside0.mk (HO.out.below hb); replace HX := Aside0.mk (HX.out.below hb); replace HB := Aside0.mk (below_step HB.out hb); replace HN := Aside0.mk (Nat.le_trans HN.out hb.size); clear hb)
  clear HV
  go_wp2_with fail
  (go_at_call 20; (with_reducible refine (turn_w (nb := nb1) k _ _ HA.out HB.out HN.out HH.out.tx).mono ?_); rintro e w6 ⟨vp, nb6, rfl, hb, hle6, hn, hu, hv, hk⟩; have HP := Aside0.mk hu; clear hu; clear HN HA; have HA := Aside0.mk hv; clear hv; replace HO := Aside0.mk (HO0.out.below hb); replace HX := Aside0.mk (HX.out.kept hk (fun k_ h_ => by omega)); replace HB := Aside0.mk (hb); clear hk hb; have HN := Aside0.mk hn; clear hn)
  go_wp2_with fail
  (go_at_call 17; (with_reducible refine (dist_w k _ _ HA.out.rd HX.out.rd  D2.out).mono ?_); rintro e w7 ⟨rfl, hb⟩; replace HA := Aside0.mk (HA.out.below hb); replace HO := Aside0.mk (HO.out.below hb); replace HX := Aside0.mk (HX.out.below hb); replace HP := Aside0.mk (HP.out.below hb); replace HB := Aside0.mk (below_step HB.out hb); replace HN := Aside0.mk (Nat.le_trans HN.out hb.size); clear hb)
  go_wp2_with fail
  (go_at_call 18; (with_reducible refine (rdist_w k _ _ HP.out.rd HO.out  R2.out).mono ?_); rintro e w8 ⟨rfl, hb⟩; replace HA := Aside0.mk (HA.out.below hb); replace HO := Aside0.mk (HO.out.below hb); replace HX := Aside0.mk (HX.out.below hb); replace HP := Aside0.mk (HP.out.below hb); replace HB := Aside0.mk (below_step HB.out hb); replace HN := Aside0.mk (Nat.le_trans HN.out hb.size); clear hb)
  go_wp2_with fail
  (go_at_call 15; (with_reducible refine (left_w k _ HA.out HP.out.rd rfl HH.out.lp HH.out.sp).mono ?_); rintro e w9 ⟨rfl, hb⟩; replace HA := Aside0.mk (HA.out.below hb); replace HO := Aside0.mk (HO.out.below hb); replace HX := Aside0.mk (HX.out.below hb); replace HP := Aside0.mk (HP.out.below hb); replace HB := Aside0.mk (below_step HB.out hb); replace HN := Aside0.mk (Nat.le_trans HN.out hb.size); clear hb)
  go_wp2_with fail
  (go_at_call 15; (with_reducible refine (left_w k _ HX.out HO.out rfl HH.out.ly HH.out.sy).mono ?_); rintro e w10 ⟨rfl, hb⟩; replace HA := Aside0.mk (HA.out.below hb); replace HO := Aside0.mk (HO.out.below hb); replace HX := Aside0.mk (HX.out.below hb); replace HP := Aside0.mk (HP.out.below hb); replace HB := Aside0.mk (below_step HB.out hb); replace HN := Aside0.mk (Nat.le_trans HN.out hb.size); clear hb)
  go_wp2_with fail
  (go_at_call 20; (with_reducible refine (turn_w (nb := nb6) k _ _ HX.out HB.out HN.out HH.out.ty).mono ?_); rintro e w11 ⟨vq, nb11, rfl, hb, hle11, hn, hu, hv, hk⟩; have HQ := Aside0.mk hu; clear hu; clear HN HX; have HX := Aside0.mk hv; clear hv; replace HA := Aside0.mk (HA.out.kept hk (fun k_ h_ => by omega)); replace HO := Aside0.mk (HO0.out.below hb); replace HP := Aside0.mk (HP.out.kept hk (fun k_ h_ => by omega)); replace HB := Aside0.mk (hb); clear hk hb; have HN := Aside0.mk hn; clear hn)
  go_wp2_with fail
  (go_at_call 17; (with_reducible refine (dist_w k _ _ HA.out.rd HX.out.rd  D3.out).mono ?_); rintro e w12 ⟨rfl, hb⟩; replace HA := Aside0.mk (HA.out.below hb); replace HO := Aside0.mk (HO.out.below hb); replace HX := Aside0.mk (HX.out.below hb); replace HP := Aside0.mk (HP.out.below hb); replace HQ := Aside0.mk (HQ.out.below hb); replace HB := Aside0.mk (below_step HB.out hb); replace HN := Aside0.mk (Nat.le_trans HN.out hb.size); clear hb)
  go_wp2_with fail
  (go_at_call 18; (with_reducible refine (rdist_w k _ _ HP.out.rd HQ.out.rd  R3.out).mono ?_); rintro e w13 ⟨rfl, hb⟩; replace HA := Aside0.mk (HA.out.below hb); replace HO := Aside0.mk (HO.out.below hb); replace HX := Aside0.mk (HX.out.below hb); replace HP := Aside0.mk (HP.out.below hb); replace HQ := Aside0.mk (HQ.out.below hb); replace HB := Aside0.mk (below_step HB.out hb); replace HN := Aside0.mk (Nat.le_trans HN.out hb.size); clear hb)
  go_wp2_with fail
  (go_at_call 15; (with_reducible refine (left_w k _ HA.out HP.out.rd rfl HH.out.lp HH.out.sp).mono ?_); rintro e w14 ⟨rfl, hb⟩; replace HA := Aside0.mk (HA.out.below hb); replace HO := Aside0.mk (HO.out.below hb); replace HX := Aside0.mk (HX.out.below hb); replace HP := Aside0.mk (HP.out.below hb); replace HQ := Aside0.mk (HQ.out.below hb); replace HB := Aside0.mk (below_step HB.out hb); replace HN := Aside0.mk (Nat.le_trans HN.out hb.size); clear hb)
  go_wp2_with fail
  (go_at_call 15; (with_reducible refine (left_w k _ HX.out HQ.out.rd rfl HH.out.lq HH.out.sq).mono ?_); rintro e w15 ⟨rfl, hb⟩; replace HA := Aside0.mk (HA.out.below hb); replace HO := Aside0.mk (HO.out.below hb); replace HX := Aside0.mk (HX.out.below hb); replace HP := Aside0.mk (HP.out.below hb); replace HQ := Aside0.mk (HQ.out.below hb); replace HB := Aside0.mk (below_step HB.out hb); replace HN := Aside0.mk (Nat.le_trans HN.out hb.size); clear hb)
  go_wp2_with fail
  go_ret
  exact ⟨rfl, HB.out⟩
end Go.Proofs.YtgcibhbhbgoacaaDoor


/- law34.RsEncodes: the walk, for rows whose plain answers are told by EncOk. -/
namespace Go.Proofs.YtgcibhbhbgoacaaDoor
open Go.Proofs.YtgcibhbhbgoacaaDoor.G
open Go.RowKit Go.Proofs.YtgcibhbhbgoacaaDoorW.PrintWords Go.Proofs.YtgcibhbhbgoacaaDoorW.PrintLast Go.Proofs.YtgcibhbhbgoacaaDoorW.PrintMore
set_option linter.unusedVariables false
set_option linter.unusedSimpArgs false
structure EncOk (k : Nat) (check : Int) (xs ys p p2 q gp ap bp : List Int) : Prop where
  gen : ∃ b, Ge.rs_Generator.f k check = some (gp, b) ∧ Re.fareboxref34_Generator.f k check = some (gp, b)
  mark : Re.fareboxlaw34_marked.f k xs = some xs
  enc : ∃ e, H.rs_Encode.f k xs check = some (ap, e) ∧ Re.fareboxref34_Encode.f k xs check = some (ap, e)
  enc2 : ∃ e, H.rs_Encode.f k p check = some (bp, e) ∧ Re.fareboxref34_Encode.f k p check = some (bp, e)
  d0 : ∃ n b, rs_Distance.f k xs ys = some (n, b) ∧ Re.fareboxref34_Distance.f k xs ys = some (n, b)
  sg : fareboxlaw34_same.f k gp gp = some true
  sa : fareboxlaw34_same.f k ap ap = some true
  sb : fareboxlaw34_same.f k bp bp = some true
  sx : fareboxlaw34_same.f k xs xs = some true
  tx : Re.fareboxlaw34_turned.f k xs = some (p, p)
  rest : DistOk k p ys p2 q
  lx : xs.length ≤ 140737488351232
  lg : gp.length ≤ 140737488351232
  la : ap.length ≤ 140737488351232
set_option maxHeartbeats 8000000 in
set_option maxRecDepth 100000 in
theorem fareboxlaw34_RsEncodes.full (k : Nat) (vd vo : Value) (check : Int) (xs ys p p2 q gp ap bp : List Int) (w0 w : World) (nb : Nat) (H : EncOk k check xs ys p p2 q gp ap bp) (hB : Below w0.heap.size w0 w) (hn : nb ≤ w.heap.size) (hd : Rd w0 vd xs) (ho : Rd w0 vo ys) (ht : TabW w0) :
    Calls Tryd.prog 3 #[vd, vo, .int .i64 check] w fun e w' => e = .returned (.bool true) ∧ Below w0.heap.size w0 w' := by
  obtain ⟨gb, hg1, hg2⟩ := H.gen
  obtain ⟨e1, he1, he2⟩ := H.enc
  obtain ⟨e2, he3, he4⟩ := H.enc2
  obtain ⟨n1, b1, hd1, hd2⟩ := H.d0
  have HB := Aside0.mk hB
  have HN := Aside0.mk hn
  have HO := Aside0.mk (ho.below hB)
  have HO0 := Aside0.mk ho
  have HV := Aside0.mk (hd.below hB)
  have HV0 := Aside0.mk hd
  have HT := Aside0.mk ht
  have HH := Aside0.mk H
  have G1 := Aside0.mk hg1
  have G2 := Aside0.mk hg2
  have E1 := Aside0.mk he1
  have E2 := Aside0.mk he2
  have E3 := Aside0.mk he3
  have E4 := Aside0.mk he4
  have D1 := Aside0.mk hd1
  have D2 := Aside0.mk hd2
  clear H hd ho ht hg1 hg2 he1 he2 he3 he4 hd1 hd2 hB hn
  go_enter Tryd.func3, Tryd.ntmps3
  go_wp2_with fail
  (go_at_call 9; (with_reducible refine (gen_w (w0 := w0) (nb := nb) k _ _ _ G1.out (TabW.below HT.out HB.out) HB.out.size HN.out).mono ?_); rintro e w1_ ⟨vg, nb1, rfl, hb, hle1, hn, hr⟩; clear HN; have Hg := Aside0.mk hr; clear hr; replace HV := Aside0.mk (HV.out.below hb); replace HO := Aside0.mk (HO.out.below hb); replace HB := Aside0.mk (below_step HB.out hb); clear hb; have HN := Aside0.mk hn; clear hn)
  go_wp2_with fail
  (go_at_call 10; (with_reducible refine (rgen_w (w0 := w0) (nb := nb1) k _ _ _ G2.out HB.out.size HN.out).mono ?_); rintro e w2_ ⟨vh, nb2, rfl, hb, hle2, hn, hr⟩; clear HN; have Hh := Aside0.mk hr; clear hr; replace HV := Aside0.mk (HV.out.below hb); replace HO := Aside0.mk (HO.out.below hb); replace Hg := Aside0.mk (Hg.out.below hb); replace HB := Aside0.mk (below_step HB.out hb); clear hb; have HN := Aside0.mk hn; clear hn)
  go_wp2_with fail
  (go_at_call 11; (with_reducible refine (same_w k _ Hg.out.rd Hh.out.rd HH.out.sg).mono ?_); rintro e w3_ ⟨rfl, hb⟩; replace HV := Aside0.mk (HV.out.below hb); replace HO := Aside0.mk (HO.out.below hb); replace Hg := Aside0.mk (Hg.out.below hb); replace Hh := Aside0.mk (Hh.out.below hb); replace HB := Aside0.mk (below_step HB.out hb); replace HN := Aside0.mk (Nat.le_trans HN.out hb.size); clear hb)
  go_wp2_with fail
  (go_at_call 12; (with_reducible refine (mark_w (w0 := w0) (nb := nb2) k _ HV.out HH.out.mark HB.out.size HN.out).mono ?_); rintro e w4_ ⟨vn, nb4, rfl, hb, hle4, hn, hr⟩; clear HN; have HI := Aside0.mk hr; clear hr; replace HV := Aside0.mk (HV.out.below hb); replace HO := Aside0.mk (HO.out.below hb); replace Hg := Aside0.mk (Hg.out.below hb); replace Hh := Aside0.mk (Hh.out.below hb); replace HB := Aside0.mk (below_step HB.out hb); clear hb; have HN := Aside0.mk hn; clear hn)
  go_wp2_with fail
  (go_at_call 13; (with_reducible refine (enc_w (w0 := w0) (nb := nb4) k _ _ _ HI.out.rd E1.out (TabW.below HT.out HB.out) HB.out.size HN.out).mono ?_); rintro e w5_ ⟨va, nb5, rfl, hb, hle5, hn, hr⟩; clear HN; have Ha := Aside0.mk hr; clear hr; replace HV := Aside0.mk (HV.out.below hb); replace HO := Aside0.mk (HO.out.below hb); replace Hg := Aside0.mk (Hg.out.below hb); replace Hh := Aside0.mk (Hh.out.below hb); replace HI := Aside0.mk (HI.out.below hb); replace HB := Aside0.mk (below_step HB.out hb); clear hb; have HN := Aside0.mk hn; clear hn)
  go_wp2_with fail
  (go_at_call 14; (with_reducible refine (renc_w (w0 := w0) (nb := nb5) k _ _ _ HV.out E2.out HB.out.size HN.out).mono ?_); rintro e w6_ ⟨vb, nb6, rfl, hb, hle6, hn, hr⟩; clear HN; have Hb := Aside0.mk hr; clear hr; replace HV := Aside0.mk (HV.out.below hb); replace HO := Aside0.mk (HO.out.below hb); replace Hg := Aside0.mk (Hg.out.below hb); replace Hh := Aside0.mk (Hh.out.below hb); replace HI := Aside0.mk (HI.out.below hb); replace Ha := Aside0.mk (Ha.out.below hb); replace HB := Aside0.mk (below_step HB.out hb); clear hb; have HN := Aside0.mk hn; clear hn)
  go_wp2_with fail
  (go_at_call 11; (with_reducible refine (same_w k _ Ha.out.rd Hb.out.rd HH.out.sa).mono ?_); rintro e w7_ ⟨rfl, hb⟩; replace HV := Aside0.mk (HV.out.below hb); replace HO := Aside0.mk (HO.out.below hb); replace Hg := Aside0.mk (Hg.out.below hb); replace Hh := Aside0.mk (Hh.out.below hb); replace HI := Aside0.mk (HI.out.below hb); replace Ha := Aside0.mk (Ha.out.below hb); replace Hb := Aside0.mk (Hb.out.below hb); replace HB := Aside0.mk (below_step HB.out hb); replace HN := Aside0.mk (Nat.le_trans HN.out hb.size); clear hb)
  go_wp2_with fail
  (go_at_call 15; (with_reducible refine (left_w k _ HI.out HV.out rfl HH.out.lx HH.out.sx).mono ?_); rintro e w8_ ⟨rfl, hb⟩; replace HV := Aside0.mk (HV.out.below hb); replace HO := Aside0.mk (HO.out.below hb); replace Hg := Aside0.mk (Hg.out.below hb); replace Hh := Aside0.mk (Hh.out.below hb); replace HI := Aside0.mk (HI.out.below hb); replace Ha := Aside0.mk (Ha.out.below hb); replace Hb := Aside0.mk (Hb.out.below hb); replace HB := Aside0.mk (below_step HB.out hb); replace HN := Aside0.mk (Nat.le_trans HN.out hb.size); clear hb)
  go_wp2_with fail
  (go_at_call 13; (with_reducible refine (enc_w (w0 := w0) (nb := nb6) k _ _ _ HI.out.rd E1.out (TabW.below HT.out HB.out) HB.out.size HN.out).mono ?_); rintro e w9_ ⟨vt, nb9, rfl, hb, hle9, hn, hr⟩; clear HN; have Ht := Aside0.mk hr; clear hr; replace HV := Aside0.mk (HV.out.below hb); replace HO := Aside0.mk (HO.out.below hb); replace Hg := Aside0.mk (Hg.out.below hb); replace Hh := Aside0.mk (Hh.out.below hb); replace HI := Aside0.mk (HI.out.below hb); replace Ha := Aside0.mk (Ha.out.below hb); replace Hb := Aside0.mk (Hb.out.below hb); replace HB := Aside0.mk (below_step HB.out hb); clear hb; have HN := Aside0.mk hn; clear hn)
  go_wp2_with fail
  (go_at_call 9; (with_reducible refine (gen_w (w0 := w0) (nb := nb9) k _ _ _ G1.out (TabW.below HT.out HB.out) HB.out.size HN.out).mono ?_); rintro e w10_ ⟨v2, nb10, rfl, hb, hle10, hn, hr⟩; clear HN; have H2 := Aside0.mk hr; clear hr; replace HV := Aside0.mk (HV.out.below hb); replace HO := Aside0.mk (HO.out.below hb); replace Hg := Aside0.mk (Hg.out.below hb); replace Hh := Aside0.mk (Hh.out.below hb); replace HI := Aside0.mk (HI.out.below hb); replace Ha := Aside0.mk (Ha.out.below hb); replace Hb := Aside0.mk (Hb.out.below hb); replace Ht := Aside0.mk (Ht.out.below hb); replace HB := Aside0.mk (below_step HB.out hb); clear hb; have HN := Aside0.mk hn; clear hn)
  go_wp2_with fail
  (go_at_call 16; (with_reducible refine (let_w Hg.out HB.out HH.out.lg).mono ?_); rintro e w11_ ⟨nl11, yl11, rfl, hl, hb, hs, hv, hk⟩; have LG := Aside0.mk hl; clear hl hs; clear Hg; have Hg := Aside0.mk hv; clear hv; replace HV := Aside0.mk (HV0.out.below hb); replace HO := Aside0.mk (HO0.out.below hb); replace Hh := Aside0.mk (Hh.out.kept hk (fun k_ h_ => by omega)); replace HI := Aside0.mk (HI.out.kept hk (fun k_ h_ => by omega)); replace Ha := Aside0.mk (Ha.out.kept hk (fun k_ h_ => by omega)); replace Hb := Aside0.mk (Hb.out.kept hk (fun k_ h_ => by omega)); replace Ht := Aside0.mk (Ht.out.kept hk (fun k_ h_ => by omega)); replace H2 := Aside0.mk (H2.out.kept hk (fun k_ h_ => by omega)); replace HB := Aside0.mk (hb); replace HN := Aside0.mk (Nat.le_trans HN.out hk.1); clear hk hb)
  go_wp2_with fail
  (go_at_call 16; (with_reducible refine (let_w Ha.out HB.out HH.out.la).mono ?_); rintro e w12_ ⟨nl12, yl12, rfl, hl, hb, hs, hv, hk⟩; have LA := Aside0.mk hl; clear hl hs; clear Ha; have Ha := Aside0.mk hv; clear hv; replace HV := Aside0.mk (HV0.out.below hb); replace HO := Aside0.mk (HO0.out.below hb); replace Hg := Aside0.mk (Hg.out.kept hk (fun k_ h_ => by omega)); replace Hh := Aside0.mk (Hh.out.kept hk (fun k_ h_ => by omega)); replace HI := Aside0.mk (HI.out.kept hk (fun k_ h_ => by omega)); replace Hb := Aside0.mk (Hb.out.kept hk (fun k_ h_ => by omega)); replace Ht := Aside0.mk (Ht.out.kept hk (fun k_ h_ => by omega)); replace H2 := Aside0.mk (H2.out.kept hk (fun k_ h_ => by omega)); replace HB := Aside0.mk (hb); replace HN := Aside0.mk (Nat.le_trans HN.out hk.1); clear hk hb)
  go_wp2_with fail
  (go_at_call 11; (with_reducible refine (same_w k _ Ht.out.rd Hb.out.rd HH.out.sa).mono ?_); rintro e w13_ ⟨rfl, hb⟩; replace HV := Aside0.mk (HV.out.below hb); replace HO := Aside0.mk (HO.out.below hb); replace Hg := Aside0.mk (Hg.out.below hb); replace Hh := Aside0.mk (Hh.out.below hb); replace HI := Aside0.mk (HI.out.below hb); replace Ha := Aside0.mk (Ha.out.below hb); replace Hb := Aside0.mk (Hb.out.below hb); replace Ht := Aside0.mk (Ht.out.below hb); replace H2 := Aside0.mk (H2.out.below hb); replace HB := Aside0.mk (below_step HB.out hb); replace HN := Aside0.mk (Nat.le_trans HN.out hb.size); clear hb)
  go_wp2_with fail
  (go_at_call 11; (with_reducible refine (same_w k _ H2.out.rd Hh.out.rd HH.out.sg).mono ?_); rintro e w14_ ⟨rfl, hb⟩; replace HV := Aside0.mk (HV.out.below hb); replace HO := Aside0.mk (HO.out.below hb); replace Hg := Aside0.mk (Hg.out.below hb); replace Hh := Aside0.mk (Hh.out.below hb); replace HI := Aside0.mk (HI.out.below hb); replace Ha := Aside0.mk (Ha.out.below hb); replace Hb := Aside0.mk (Hb.out.below hb); replace Ht := Aside0.mk (Ht.out.below hb); replace H2 := Aside0.mk (H2.out.below hb); replace HB := Aside0.mk (below_step HB.out hb); replace HN := Aside0.mk (Nat.le_trans HN.out hb.size); clear hb)
  go_wp2_with fail
  (go_at_call 13; (with_reducible refine (enc_w (w0 := w0) (nb := nb10) k _ _ _ HI.out.rd E1.out (TabW.below HT.out HB.out) HB.out.size HN.out).mono ?_); rintro e w15_ ⟨v3, nb15, rfl, hb, hle15, hn, hr⟩; clear HN; have H3 := Aside0.mk hr; clear hr; replace HV := Aside0.mk (HV.out.below hb); replace HO := Aside0.mk (HO.out.below hb); replace Hg := Aside0.mk (Hg.out.below hb); replace Hh := Aside0.mk (Hh.out.below hb); replace HI := Aside0.mk (HI.out.below hb); replace Ha := Aside0.mk (Ha.out.below hb); replace Hb := Aside0.mk (Hb.out.below hb); replace Ht := Aside0.mk (Ht.out.below hb); replace H2 := Aside0.mk (H2.out.below hb); replace HB := Aside0.mk (below_step HB.out hb); clear hb; have HN := Aside0.mk hn; clear hn)
  go_wp2_with fail
  (go_at_call 9; (with_reducible refine (gen_w (w0 := w0) (nb := nb15) k _ _ _ G1.out (TabW.below HT.out HB.out) HB.out.size HN.out).mono ?_); rintro e w16_ ⟨v4, nb16, rfl, hb, hle16, hn, hr⟩; clear HN; have H4 := Aside0.mk hr; clear hr; replace HV := Aside0.mk (HV.out.below hb); replace HO := Aside0.mk (HO.out.below hb); replace Hg := Aside0.mk (Hg.out.below hb); replace Hh := Aside0.mk (Hh.out.below hb); replace HI := Aside0.mk (HI.out.below hb); replace Ha := Aside0.mk (Ha.out.below hb); replace Hb := Aside0.mk (Hb.out.below hb); replace Ht := Aside0.mk (Ht.out.below hb); replace H2 := Aside0.mk (H2.out.below hb); replace H3 := Aside0.mk (H3.out.below hb); replace HB := Aside0.mk (below_step HB.out hb); clear hb; have HN := Aside0.mk hn; clear hn)
  go_wp2_with fail
  (go_at_call 17; (with_reducible refine (dist_w k _ _ HI.out.rd HO.out D1.out).mono ?_); rintro e w17_ ⟨rfl, hb⟩; replace HV := Aside0.mk (HV.out.below hb); replace HO := Aside0.mk (HO.out.below hb); replace Hg := Aside0.mk (Hg.out.below hb); replace Hh := Aside0.mk (Hh.out.below hb); replace HI := Aside0.mk (HI.out.below hb); replace Ha := Aside0.mk (Ha.out.below hb); replace Hb := Aside0.mk (Hb.out.below hb); replace Ht := Aside0.mk (Ht.out.below hb); replace H2 := Aside0.mk (H2.out.below hb); replace H3 := Aside0.mk (H3.out.below hb); replace H4 := Aside0.mk (H4.out.below hb); replace HB := Aside0.mk (below_step HB.out hb); replace HN := Aside0.mk (Nat.le_trans HN.out hb.size); clear hb)
  go_wp2_with fail
  (go_at_call 18; (with_reducible refine (rdist_w k _ _ HV.out HO.out D2.out).mono ?_); rintro e w18_ ⟨rfl, hb⟩; replace HV := Aside0.mk (HV.out.below hb); replace HO := Aside0.mk (HO.out.below hb); replace Hg := Aside0.mk (Hg.out.below hb); replace Hh := Aside0.mk (Hh.out.below hb); replace HI := Aside0.mk (HI.out.below hb); replace Ha := Aside0.mk (Ha.out.below hb); replace Hb := Aside0.mk (Hb.out.below hb); replace Ht := Aside0.mk (Ht.out.below hb); replace H2 := Aside0.mk (H2.out.below hb); replace H3 := Aside0.mk (H3.out.below hb); replace H4 := Aside0.mk (H4.out.below hb); replace HB := Aside0.mk (below_step HB.out hb); replace HN := Aside0.mk (Nat.le_trans HN.out hb.size); clear hb)
  go_wp2_with fail
  (go_at_call 11; (with_reducible refine (same_w k _ H3.out.rd Hb.out.rd HH.out.sa).mono ?_); rintro e w19_ ⟨rfl, hb⟩; replace HV := Aside0.mk (HV.out.below hb); replace HO := Aside0.mk (HO.out.below hb); replace Hg := Aside0.mk (Hg.out.below hb); replace Hh := Aside0.mk (Hh.out.below hb); replace HI := Aside0.mk (HI.out.below hb); replace Ha := Aside0.mk (Ha.out.below hb); replace Hb := Aside0.mk (Hb.out.below hb); replace Ht := Aside0.mk (Ht.out.below hb); replace H2 := Aside0.mk (H2.out.below hb); replace H3 := Aside0.mk (H3.out.below hb); replace H4 := Aside0.mk (H4.out.below hb); replace HB := Aside0.mk (below_step HB.out hb); replace HN := Aside0.mk (Nat.le_trans HN.out hb.size); clear hb)
  go_wp2_with fail
  (go_at_call 11; (with_reducible refine (same_w k _ H4.out.rd Hh.out.rd HH.out.sg).mono ?_); rintro e w20_ ⟨rfl, hb⟩; replace HV := Aside0.mk (HV.out.below hb); replace HO := Aside0.mk (HO.out.below hb); replace Hg := Aside0.mk (Hg.out.below hb); replace Hh := Aside0.mk (Hh.out.below hb); replace HI := Aside0.mk (HI.out.below hb); replace Ha := Aside0.mk (Ha.out.below hb); replace Hb := Aside0.mk (Hb.out.below hb); replace Ht := Aside0.mk (Ht.out.below hb); replace H2 := Aside0.mk (H2.out.below hb); replace H3 := Aside0.mk (H3.out.below hb); replace H4 := Aside0.mk (H4.out.below hb); replace HB := Aside0.mk (below_step HB.out hb); replace HN := Aside0.mk (Nat.le_trans HN.out hb.size); clear hb)
  go_wp2_with fail
  (go_at_call 15; (with_reducible refine (left_w k _ HI.out HV.out rfl HH.out.lx HH.out.sx).mono ?_); rintro e w21_ ⟨rfl, hb⟩; replace HV := Aside0.mk (HV.out.below hb); replace HO := Aside0.mk (HO.out.below hb); replace Hg := Aside0.mk (Hg.out.below hb); replace Hh := Aside0.mk (Hh.out.below hb); replace HI := Aside0.mk (HI.out.below hb); replace Ha := Aside0.mk (Ha.out.below hb); replace Hb := Aside0.mk (Hb.out.below hb); replace Ht := Aside0.mk (Ht.out.below hb); replace H2 := Aside0.mk (H2.out.below hb); replace H3 := Aside0.mk (H3.out.below hb); replace H4 := Aside0.mk (H4.out.below hb); replace HB := Aside0.mk (below_step HB.out hb); replace HN := Aside0.mk (Nat.le_trans HN.out hb.size); clear hb)
  clear Hb Hh
  go_wp2_with fail
  (go_at_call 19; (with_reducible refine (rooms_w Ha.out Ht.out (by omega) HB.out (Nat.le_trans (Nat.le_of_eq LA.out) HH.out.la) HH.out.la).mono ?_); rintro e w22_ ⟨rfl, hb, hs, hv, hu, hk⟩; clear hs Ha Ht; have Ha := Aside0.mk hv; have Ht := Aside0.mk hu; clear hv hu; replace HV := Aside0.mk (HV0.out.below hb); replace HO := Aside0.mk (HO0.out.below hb); replace Hg := Aside0.mk (Hg.out.kept hk (fun k_ h_ => by omega)); replace HI := Aside0.mk (HI.out.kept hk (fun k_ h_ => by omega)); replace H2 := Aside0.mk (H2.out.kept hk (fun k_ h_ => by omega)); replace H3 := Aside0.mk (H3.out.kept hk (fun k_ h_ => by omega)); replace H4 := Aside0.mk (H4.out.kept hk (fun k_ h_ => by omega)); replace HB := Aside0.mk (hb); replace HN := Aside0.mk (Nat.le_trans HN.out hk.1); clear hk hb)
  go_wp2_with fail
  (go_at_call 19; (with_reducible refine (rooms_w Ht.out H3.out (by omega) HB.out HH.out.la HH.out.la).mono ?_); rintro e w23_ ⟨rfl, hb, hs, hv, hu, hk⟩; clear hs Ht H3; have Ht := Aside0.mk hv; have H3 := Aside0.mk hu; clear hv hu; replace HV := Aside0.mk (HV0.out.below hb); replace HO := Aside0.mk (HO0.out.below hb); replace Hg := Aside0.mk (Hg.out.kept hk (fun k_ h_ => by omega)); replace HI := Aside0.mk (HI.out.kept hk (fun k_ h_ => by omega)); replace Ha := Aside0.mk (Ha.out.kept hk (fun k_ h_ => by omega)); replace H2 := Aside0.mk (H2.out.kept hk (fun k_ h_ => by omega)); replace H4 := Aside0.mk (H4.out.kept hk (fun k_ h_ => by omega)); replace HB := Aside0.mk (hb); replace HN := Aside0.mk (Nat.le_trans HN.out hk.1); clear hk hb)
  go_wp2_with fail
  (go_at_call 19; (with_reducible refine (rooms_w Hg.out H2.out (by omega) HB.out (Nat.le_trans (Nat.le_of_eq LG.out) HH.out.lg) HH.out.lg).mono ?_); rintro e w24_ ⟨rfl, hb, hs, hv, hu, hk⟩; clear hs Hg H2; have Hg := Aside0.mk hv; have H2 := Aside0.mk hu; clear hv hu; replace HV := Aside0.mk (HV0.out.below hb); replace HO := Aside0.mk (HO0.out.below hb); replace HI := Aside0.mk (HI.out.kept hk (fun k_ h_ => by omega)); replace Ha := Aside0.mk (Ha.out.kept hk (fun k_ h_ => by omega)); replace Ht := Aside0.mk (Ht.out.kept hk (fun k_ h_ => by omega)); replace H3 := Aside0.mk (H3.out.kept hk (fun k_ h_ => by omega)); replace H4 := Aside0.mk (H4.out.kept hk (fun k_ h_ => by omega)); replace HB := Aside0.mk (hb); replace HN := Aside0.mk (Nat.le_trans HN.out hk.1); clear hk hb)
  go_wp2_with fail
  (go_at_call 19; (with_reducible refine (rooms_w H2.out H4.out (by omega) HB.out HH.out.lg HH.out.lg).mono ?_); rintro e w25_ ⟨rfl, hb, hs, hv, hu, hk⟩; clear hs H2 H4; have H2 := Aside0.mk hv; have H4 := Aside0.mk hu; clear hv hu; replace HV := Aside0.mk (HV0.out.below hb); replace HO := Aside0.mk (HO0.out.below hb); replace Hg := Aside0.mk (Hg.out.kept hk (fun k_ h_ => by omega)); replace HI := Aside0.mk (HI.out.kept hk (fun k_ h_ => by omega)); replace Ha := Aside0.mk (Ha.out.kept hk (fun k_ h_ => by omega)); replace Ht := Aside0.mk (Ht.out.kept hk (fun k_ h_ => by omega)); replace H3 := Aside0.mk (H3.out.kept hk (fun k_ h_ => by omega)); replace HB := Aside0.mk (hb); replace HN := Aside0.mk (Nat.le_trans HN.out hk.1); clear hk hb)
  clear Ha Ht H3 Hg H2 H4 HV
  go_wp2_with fail
  (go_at_call 20; (with_reducible refine (turn_w (nb := nb16) k _ _ HI.out HB.out HN.out HH.out.tx).mono ?_); rintro e w26_ ⟨vs, nb26, rfl, hb, hle26, hn, hu, hv, hk⟩; have Hs := Aside0.mk hu; clear hu; clear HN HI; have HI := Aside0.mk hv; clear hv; replace HO := Aside0.mk (HO0.out.below hb); replace HB := Aside0.mk (hb); clear hk hb; have HN := Aside0.mk hn; clear hn)
  go_wp2_with fail
  (go_at_call 13; (with_reducible refine (enc_w (w0 := w0) (nb := nb26) k _ _ _ HI.out.rd E3.out (TabW.below HT.out HB.out) HB.out.size HN.out).mono ?_); rintro e w27_ ⟨v5, nb27, rfl, hb, hle27, hn, hr⟩; clear HN; have H5 := Aside0.mk hr; clear hr; replace HO := Aside0.mk (HO.out.below hb); replace HI := Aside0.mk (HI.out.below hb); replace Hs := Aside0.mk (Hs.out.below hb); replace HB := Aside0.mk (below_step HB.out hb); clear hb; have HN := Aside0.mk hn; clear hn)
  go_wp2_with fail
  (go_at_call 14; (with_reducible refine (renc_w (w0 := w0) (nb := nb27) k _ _ _ Hs.out.rd E4.out HB.out.size HN.out).mono ?_); rintro e w28_ ⟨v6, nb28, rfl, hb, hle28, hn, hr⟩; clear HN; have H6 := Aside0.mk hr; clear hr; replace HO := Aside0.mk (HO.out.below hb); replace HI := Aside0.mk (HI.out.below hb); replace Hs := Aside0.mk (Hs.out.below hb); replace H5 := Aside0.mk (H5.out.below hb); replace HB := Aside0.mk (below_step HB.out hb); clear hb; have HN := Aside0.mk hn; clear hn)
  go_wp2_with fail
  (go_at_call 11; (with_reducible refine (same_w k _ H5.out.rd H6.out.rd HH.out.sb).mono ?_); rintro e w29_ ⟨rfl, hb⟩; replace HO := Aside0.mk (HO.out.below hb); replace HI := Aside0.mk (HI.out.below hb); replace Hs := Aside0.mk (Hs.out.below hb); replace H5 := Aside0.mk (H5.out.below hb); replace H6 := Aside0.mk (H6.out.below hb); replace HB := Aside0.mk (below_step HB.out hb); replace HN := Aside0.mk (Nat.le_trans HN.out hb.size); clear hb)
  go_wp2_with fail
  (go_at_call 15; (with_reducible refine (left_w k _ HI.out Hs.out.rd rfl HH.out.rest.lx HH.out.rest.sx).mono ?_); rintro e w30_ ⟨rfl, hb⟩; replace HO := Aside0.mk (HO.out.below hb); replace HI := Aside0.mk (HI.out.below hb); replace Hs := Aside0.mk (Hs.out.below hb); replace H5 := Aside0.mk (H5.out.below hb); replace H6 := Aside0.mk (H6.out.below hb); replace HB := Aside0.mk (below_step HB.out hb); replace HN := Aside0.mk (Nat.le_trans HN.out hb.size); clear hb)
  go_wp2_with fail
  (go_at_call 21; (with_reducible refine (fareboxlaw34_distances.full k _ _ _ _ _ _ _ w0 _ nb2 nb4 nb28 HH.out.rest HB.out HI.out (by omega) HN.out Hs.out.rd HO0.out).mono ?_); rintro e w99_ ⟨rfl, hb⟩; have HF := Aside0.mk hb; clear hb)
  go_wp2_with fail
  go_ret
  exact ⟨rfl, HF.out⟩
end Go.Proofs.YtgcibhbhbgoacaaDoor
