/- law34.RsDecodes: the walk, for rows whose plain answers are told by DecOk. -/
import Derived.Test.YtgcibhbhbgoacaaDoorEd
namespace Go.Proofs.YtgcibhbhbgoacaaDoor
open Go.Proofs.YtgcibhbhbgoacaaDoor.G FB
open Go.RowKit Go.Proofs.YtgcibhbhbgoacaaDoorW.PrintWords Go.Proofs.YtgcibhbhbgoacaaDoorW.PrintLast Go.Proofs.YtgcibhbhbgoacaaDoorW.PrintMore
set_option linter.unusedVariables false
set_option linter.unusedSimpArgs false
def spentAt (hs : List Int) (i : Nat) : Int := wrap64 (wrap64 (Int.tdiv (hs.getD (hs.length - 1 - i) 0) 2) + (i : Int))
def spentL (hs : List Int) : List Int := (List.range hs.length).map (spentAt hs)
theorem spentL_length (hs : List Int) : (spentL hs).length = hs.length := by unfold spentL; rw [List.length_map, List.length_range]
theorem spent_take (hs : List Int) (i : Nat) (hi : i < hs.length) : (spentL hs).take (i + 1) = (spentL hs).take i ++ [spentAt hs i] := by
  rw [List.take_add_one]
  congr 1
  unfold spentL
  rw [List.getElem?_map, List.getElem?_range hi]
  rfl
theorem gap_set (hs : List Int) (i : Nat) (hi : i < hs.length) : ((spentL hs).take i ++ hs.drop i ++ [-7]).set i (spentAt hs i) = (spentL hs).take (i + 1) ++ hs.drop (i + 1) ++ [-7] := by
  have hl : ((spentL hs).take i).length = i := by rw [List.length_take, spentL_length]; omega
  have h1 : ((spentL hs).take i ++ hs.drop i ++ [-7]).set i (spentAt hs i) = (spentL hs).take i ++ (hs.drop i ++ [-7]).set 0 (spentAt hs i) := by rw [List.append_assoc, List.set_append_right i _ (by omega), hl, Nat.sub_self]
  rw [h1, spent_take hs i hi, List.drop_eq_getElem_cons hi, List.append_assoc, List.append_assoc]
  rfl
structure DecOk (k : Nat) (check : Int) (W P : List F) (hs : List Int) (sp sp2 : List Int) (e1 e2 : Int) (a1 a2 a3 : List F) (p1 p2 p3 : List Nat) (d1 d2 d3 : Int) : Prop where
  mark : Re.fareboxlaw34_marked.f k (Iz W) = some (Iz W)
  syn1 : rs_Syndromes.f k (Iz W) check = some (sp, e1)
  syn2 : Rd.fareboxref34_Syndromes.f k (Iz W) check = some (sp, e1)
  syn3 : rs_Syndromes.f k (Iz P) check = some (sp2, e2)
  syn4 : Rd.fareboxref34_Syndromes.f k (Iz P) check = some (sp2, e2)
  dec1 : decR W check hs = (a1, p1, d1)
  dec2 : decR P check hs = (a2, p2, d2)
  dec3 : decR P check (spentL hs) = (a3, p3, d3)
  ssp : fareboxlaw34_same.f k sp sp = some true
  ssp2 : fareboxlaw34_same.f k sp2 sp2 = some true
  sa1 : fareboxlaw34_same.f k (Iz a1) (Iz a1) = some true
  sa2 : fareboxlaw34_same.f k (Iz a2) (Iz a2) = some true
  sa3 : fareboxlaw34_same.f k (Iz a3) (Iz a3) = some true
  sW : fareboxlaw34_same.f k (Iz W) (Iz W) = some true
  sP : fareboxlaw34_same.f k (Iz P) (Iz P) = some true
  ip1 : fareboxlaw34_sameInts.f k (p1.map Int.ofNat) (p1.map Int.ofNat) = some true
  ip2 : fareboxlaw34_sameInts.f k (p2.map Int.ofNat) (p2.map Int.ofNat) = some true
  ip3 : fareboxlaw34_sameInts.f k (p3.map Int.ofNat) (p3.map Int.ofNat) = some true
  ihs : fareboxlaw34_sameInts.f k hs hs = some true
  isp : fareboxlaw34_sameInts.f k (spentL hs) (spentL hs) = some true
  turn : Re.fareboxlaw34_turned.f k (Iz W) = some (Iz P, Iz P)
  lW : W.length ≤ 140737488351232
  lP : P.length ≤ 140737488351232
  lWi : (Iz W).length ≤ 140737488351232
  lPi : (Iz P).length ≤ 140737488351232
  lh : hs.length ≤ 17592186044032
  lsp : sp.length ≤ 140737488351232
  la1 : (Iz a1).length ≤ 140737488351232
  lp1 : (p1.map Int.ofNat).length ≤ 1000
set_option maxHeartbeats 16000000 in
set_option maxRecDepth 100000 in
theorem fareboxlaw34_RsDecodes.full (k : Nat) (check : Int) (W P : List F) (hs : List Int) (sp sp2 : List Int) (e1 e2 : Int) (a1 a2 a3 : List F) (p1 p2 p3 : List Nat) (d1 d2 d3 : Int) (vd vh : Value) (w0 w : World) (nb : Nat) (H : DecOk k check W P hs sp sp2 e1 e2 a1 a2 a3 p1 p2 p3 d1 d2 d3) (hB : Below w0.heap.size w0 w) (hn : nb ≤ w.heap.size) (hd : Rd w0 vd (Iz W)) (hh : RdI w0 vh hs) (ht : TabW w0) :
    Calls Tryd.prog 4 #[vd, .int .i64 check, vh] w fun e w' => e = .returned (.bool true) ∧ Below w0.heap.size w0 w' := by
  obtain ⟨Ah, ch, eh, hch, hCh⟩ := id hh
  subst eh
  have HB := Aside0.mk hB
  have HN := Aside0.mk hn
  have HV := Aside0.mk (hd.below hB)
  have HV0 := Aside0.mk hd
  have HI := Aside0.mk (hh.below hB)
  have HI0 := Aside0.mk hh
  have HC0 := Aside0.mk hCh
  have HT := Aside0.mk ht
  have HH := Aside0.mk H
  have HL := Aside0.mk H.lh
  clear H hd hh ht hB hn hCh hch
  go_enter Tryd.func4, Tryd.ntmps4
  go_wp2_with fail
  (go_at_call 12; (with_reducible refine (mark_w (w0 := w0) (nb := nb) k _ HV.out HH.out.mark HB.out.size HN.out).mono ?_); rintro e w1_ ⟨vn, nb1, rfl, hb, hle1, hn, hr⟩; clear HN; have Hg := Aside0.mk hr; clear hr; replace HV := Aside0.mk (HV.out.below hb); replace HI := Aside0.mk (HI.out.below hb); replace HB := Aside0.mk (below_step HB.out hb); clear hb; have HN := Aside0.mk hn; clear hn)
  go_wp2_with (first | ((with_reducible refine gate_builtin (b := .append) (xs := #[.tmp 42, .tmp 43]) rfl ?_); at_builtin; refine Kd.R_append_rows (Kd.int .i64) (w0 := w0) w0.heap.size rfl (.tmp 42) (.tmp 43) 37 3 (.int .i64 0) 8 rfl Tryd.underlying37 Go.Proofs.YtgcibhbhbgoacaaDoor.Re.info3 rfl (by decide) (by omega) (.slice none 0 0) ([] : List Int) hs Ah hs.length ch (fun k_ => nb1 ≤ k_) (fun _ => False) rfl rfl (Kd.R_nil _ _ _ _ _) (Kd.C_below HC0.out HB.out) (fun _ _ h => h) (fun _ h => h.elim) (fun k_ h_ => Nat.le_trans HN.out h_) HB.out HB.out.size (by have := HL.out; simp only [List.length_nil]; omega) ?_; intro v4 wa ho hb hg hat; have hk := Kept.of_grown (S := fun _ => False) hg (Kept.refl _ _) (fun k_ e_ => by cases e_); have HG := Aside0.mk ho; clear ho hat; replace Hg := Aside0.mk (Hg.out.kept hk (fun k_ h_ => h_.elim)); replace HV := Aside0.mk (HV0.out.below hb); replace HI := Aside0.mk (HI0.out.below hb); replace HB := Aside0.mk hb; replace HN := Aside0.mk (Nat.le_trans HN.out hk.1); clear hk hb hg; obtain ⟨A4, c4, e4⟩ := Kd.R_slice HG.out; rw [List.nil_append] at HG e4; subst e4) | ((with_reducible refine gate_builtin (b := .append) (xs := #[.tmp 45, .tmp 46]) rfl ?_); at_builtin; refine Kd.R_append (Kd.int .i64) (w0 := w0) w0.heap.size rfl (.tmp 45) (.tmp 46) 37 3 (.int .i64 0) 8 rfl Tryd.underlying37 Go.Proofs.YtgcibhbhbgoacaaDoor.Re.info3 rfl (by decide) (by omega) (.slice A4 hs.length c4) hs (-7) [.int .i64 (-7)] (fun k_ => nb1 ≤ k_) (fun _ => False) rfl rfl ?aP (fun _ hk => hk.elim) (fun k_ h_ => Nat.le_trans HN.out h_) HG.out HB.out HB.out.size (by have := HL.out; omega) ?_; (case aP => exact rfl); intro v5 wb ho hb hg hat; have hk := Kept.of_grown (S := fun k_ => nb1 ≤ k_) hg (Kept.refl _ _) (fun k_ e_ => .inl (HG.out.1 k_ e_)); have HG2 := Aside0.mk ho; clear ho hat HG; replace Hg := Aside0.mk (Hg.out.kept hk (fun k_ h_ => by omega)); replace HV := Aside0.mk (HV0.out.below hb); replace HI := Aside0.mk (HI0.out.below hb); replace HB := Aside0.mk hb; replace HN := Aside0.mk (Nat.le_trans HN.out hk.1); clear hk hb hg))
  obtain ⟨Ag, cg, eg⟩ := Kd.R_slice HG2.out
  subst eg
  obtain ⟨m, hm⟩ : ∃ m : Nat, m = (hs ++ [-7]).length := ⟨_, rfl⟩
  rw [← hm] at HG2 ⊢
  have hmn : m = hs.length + 1 := by rw [hm, List.length_append, List.length_singleton]
  obtain ⟨adg, eg, -⟩ := Kd.at_int (Kd.R_reads' HG2.out).2.2 (hs.length : Int) (by omega) (by rw [List.length_append, List.length_singleton]; omega)
  subst eg
  have hcg := (Kd.R_reads' HG2.out).2.1
  obtain ⟨nbg, hnbg⟩ : ∃ n : Nat, n = wb.heap.size := ⟨_, rfl⟩
  have Hgp := Aside0.mk (show RwI w0 wb nb1 nbg (.slice (some adg) m cg) (hs ++ [-7]) from Kd.R_mono (Kd.R_bound HG2.out) (fun k_ h_ => ⟨h_.1, by rw [hnbg]; exact h_.2.2.1⟩))
  have hleg : nb1 ≤ nbg := by rw [hnbg]; exact HN.out
  replace HN := Aside0.mk (show nbg ≤ wb.heap.size from Nat.le_of_eq hnbg)
  have q0 := cut_cap (P := Tryd.prog) 37 3 .i64 Tryd.underlying37 (info_parts Go.Proofs.YtgcibhbhbgoacaaDoor.Re.info3).choose_spec.1 (some adg) m cg (hs.length : Int) (by omega) (by omega)
  rw [Int.toNat_natCast] at q0
  have HM := Aside0.mk hmn
  have qm1 : (hs.length < m) = True := eq_true (by omega)
  have qm2 : ((hs.length : Int) < (m : Int)) = True := eq_true (by omega)
  have qm3 : (0 ≤ (hs.length : Int)) = True := eq_true (by omega)
  clear HG2 hm hmn hcg hnbg
  go_wp2_with fail
  (go_at_call 22; (with_reducible refine (syn_w (w0 := w0) (nb := nbg) k _ _ _ Hg.out.rd HH.out.syn1 (TabW.below HT.out HB.out) HB.out.size HN.out).mono ?_); rintro e w2_ ⟨vs, nb2, rfl, hb, hle2, hn, hr⟩; clear HN; have Hs := Aside0.mk hr; clear hr; replace HV := Aside0.mk (HV.out.below hb); replace HI := Aside0.mk (HI.out.below hb); replace Hg := Aside0.mk (Hg.out.below hb); replace Hgp := Aside0.mk (Hgp.out.below hb); replace HB := Aside0.mk (below_step HB.out hb); clear hb; have HN := Aside0.mk hn; clear hn)
  go_wp2_with fail
  (go_at_call 23; (with_reducible refine (rsyn_n (w0 := w0) (nb := nb2) k _ _ _ HV.out HH.out.syn2 HB.out.size HN.out).mono ?_); rintro e w3_ ⟨vt, nb3, rfl, hb, hle3, hn, hr⟩; clear HN; have Ht := Aside0.mk hr; clear hr; replace HV := Aside0.mk (HV.out.below hb); replace HI := Aside0.mk (HI.out.below hb); replace Hg := Aside0.mk (Hg.out.below hb); replace Hgp := Aside0.mk (Hgp.out.below hb); replace Hs := Aside0.mk (Hs.out.below hb); replace HB := Aside0.mk (below_step HB.out hb); clear hb; have HN := Aside0.mk hn; clear hn)
  go_wp2_with fail
  (go_at_call 11; (with_reducible refine (same_w k _ Hs.out.rd Ht.out.rd HH.out.ssp).mono ?_); rintro e w4_ ⟨rfl, hb⟩; replace HV := Aside0.mk (HV.out.below hb); replace HI := Aside0.mk (HI.out.below hb); replace Hg := Aside0.mk (Hg.out.below hb); replace Hgp := Aside0.mk (Hgp.out.below hb); replace Hs := Aside0.mk (Hs.out.below hb); replace Ht := Aside0.mk (Ht.out.below hb); replace HB := Aside0.mk (below_step HB.out hb); replace HN := Aside0.mk (Nat.le_trans HN.out hb.size); clear hb)
  go_wp2_with fail
  (go_at_call 24; (with_reducible refine (dec_w (w0 := w0) (nb := nb3) W _ _ _ _ HH.out.dec1 (Nat.le_trans HL.out (by decide)) Hg.out.rd (RdI.pre Hgp.out rfl) (TabW.below HT.out HB.out) HB.out.size HN.out).mono ?_); rintro e w5_ ⟨va, vp, nb5, rfl, hb, hle5, hn, hr, hr2⟩; clear HN; have Ha := Aside0.mk hr; have Hp := Aside0.mk hr2; clear hr hr2; replace HV := Aside0.mk (HV.out.below hb); replace HI := Aside0.mk (HI.out.below hb); replace Hg := Aside0.mk (Hg.out.below hb); replace Hgp := Aside0.mk (Hgp.out.below hb); replace Hs := Aside0.mk (Hs.out.below hb); replace Ht := Aside0.mk (Ht.out.below hb); replace HB := Aside0.mk (below_step HB.out hb); clear hb; have HN := Aside0.mk hn; clear hn)
  go_wp2_with fail
  (go_at_call 25; (with_reducible refine (rdec_w (w0 := w0) (nb := nb5) W _ _ _ _ HH.out.dec1 HH.out.lW (Nat.le_trans HL.out (by decide)) HV.out HI.out HB.out.size HN.out).mono ?_); rintro e w6_ ⟨vb, vw, nb6, rfl, hb, hle6, hn, hr, hr2⟩; clear HN; have Hb := Aside0.mk hr; have Hw := Aside0.mk hr2; clear hr hr2; replace HV := Aside0.mk (HV.out.below hb); replace HI := Aside0.mk (HI.out.below hb); replace Hg := Aside0.mk (Hg.out.below hb); replace Hgp := Aside0.mk (Hgp.out.below hb); replace Hs := Aside0.mk (Hs.out.below hb); replace Ht := Aside0.mk (Ht.out.below hb); replace Ha := Aside0.mk (Ha.out.below hb); replace Hp := Aside0.mk (Hp.out.below hb); replace HB := Aside0.mk (below_step HB.out hb); clear hb; have HN := Aside0.mk hn; clear hn)
  go_wp2_with fail
  (go_at_call 11; (with_reducible refine (same_w k _ Ha.out.rd Hb.out.rd HH.out.sa1).mono ?_); rintro e w7_ ⟨rfl, hb⟩; replace HV := Aside0.mk (HV.out.below hb); replace HI := Aside0.mk (HI.out.below hb); replace Hg := Aside0.mk (Hg.out.below hb); replace Hgp := Aside0.mk (Hgp.out.below hb); replace Hs := Aside0.mk (Hs.out.below hb); replace Ht := Aside0.mk (Ht.out.below hb); replace Ha := Aside0.mk (Ha.out.below hb); replace Hp := Aside0.mk (Hp.out.below hb); replace Hb := Aside0.mk (Hb.out.below hb); replace Hw := Aside0.mk (Hw.out.below hb); replace HB := Aside0.mk (below_step HB.out hb); replace HN := Aside0.mk (Nat.le_trans HN.out hb.size); clear hb)
  go_wp2_with fail
  (go_at_call 26; (with_reducible refine (sameI_w k _ Hp.out.rd Hw.out.rd HH.out.ip1).mono ?_); rintro e w8_ ⟨rfl, hb⟩; replace HV := Aside0.mk (HV.out.below hb); replace HI := Aside0.mk (HI.out.below hb); replace Hg := Aside0.mk (Hg.out.below hb); replace Hgp := Aside0.mk (Hgp.out.below hb); replace Hs := Aside0.mk (Hs.out.below hb); replace Ht := Aside0.mk (Ht.out.below hb); replace Ha := Aside0.mk (Ha.out.below hb); replace Hp := Aside0.mk (Hp.out.below hb); replace Hb := Aside0.mk (Hb.out.below hb); replace Hw := Aside0.mk (Hw.out.below hb); replace HB := Aside0.mk (below_step HB.out hb); replace HN := Aside0.mk (Nat.le_trans HN.out hb.size); clear hb)
  go_wp2_with fail
  (go_at_call 15; (with_reducible refine (left_w k _ Hg.out HV.out rfl HH.out.lWi HH.out.sW).mono ?_); rintro e w9_ ⟨rfl, hb⟩; replace HV := Aside0.mk (HV.out.below hb); replace HI := Aside0.mk (HI.out.below hb); replace Hg := Aside0.mk (Hg.out.below hb); replace Hgp := Aside0.mk (Hgp.out.below hb); replace Hs := Aside0.mk (Hs.out.below hb); replace Ht := Aside0.mk (Ht.out.below hb); replace Ha := Aside0.mk (Ha.out.below hb); replace Hp := Aside0.mk (Hp.out.below hb); replace Hb := Aside0.mk (Hb.out.below hb); replace Hw := Aside0.mk (Hw.out.below hb); replace HB := Aside0.mk (below_step HB.out hb); replace HN := Aside0.mk (Nat.le_trans HN.out hb.size); clear hb)
  go_wp2_with fail
  (go_at_call 26; (with_reducible refine (sameI_w k _ (RdI.pre Hgp.out rfl) HI.out HH.out.ihs).mono ?_); rintro e w10_ ⟨rfl, hb⟩; replace HV := Aside0.mk (HV.out.below hb); replace HI := Aside0.mk (HI.out.below hb); replace Hg := Aside0.mk (Hg.out.below hb); replace Hgp := Aside0.mk (Hgp.out.below hb); replace Hs := Aside0.mk (Hs.out.below hb); replace Ht := Aside0.mk (Ht.out.below hb); replace Ha := Aside0.mk (Ha.out.below hb); replace Hp := Aside0.mk (Hp.out.below hb); replace Hb := Aside0.mk (Hb.out.below hb); replace Hw := Aside0.mk (Hw.out.below hb); replace HB := Aside0.mk (below_step HB.out hb); replace HN := Aside0.mk (Nat.le_trans HN.out hb.size); clear hb)
  have hx9 := gap_cell Hgp.out rfl
  go_wp2_with fail
  (go_at_call 24; (with_reducible refine (dec_w (w0 := w0) (nb := nb6) W _ _ _ _ HH.out.dec1 (Nat.le_trans HL.out (by decide)) Hg.out.rd (RdI.pre Hgp.out rfl) (TabW.below HT.out HB.out) HB.out.size HN.out).mono ?_); rintro e w11_ ⟨vf, vr, nb11, rfl, hb, hle11, hn, hr, hr2⟩; clear HN; have Hf := Aside0.mk hr; have Hr := Aside0.mk hr2; clear hr hr2; replace HV := Aside0.mk (HV.out.below hb); replace HI := Aside0.mk (HI.out.below hb); replace Hg := Aside0.mk (Hg.out.below hb); replace Hgp := Aside0.mk (Hgp.out.below hb); replace Hs := Aside0.mk (Hs.out.below hb); replace Ht := Aside0.mk (Ht.out.below hb); replace Ha := Aside0.mk (Ha.out.below hb); replace Hp := Aside0.mk (Hp.out.below hb); replace Hb := Aside0.mk (Hb.out.below hb); replace Hw := Aside0.mk (Hw.out.below hb); replace HB := Aside0.mk (below_step HB.out hb); clear hb; have HN := Aside0.mk hn; clear hn)
  clear hx9
  go_wp2_with fail
  (go_at_call 22; (with_reducible refine (syn_w (w0 := w0) (nb := nb11) k _ _ _ Hg.out.rd HH.out.syn1 (TabW.below HT.out HB.out) HB.out.size HN.out).mono ?_); rintro e w12_ ⟨vy, nb12, rfl, hb, hle12, hn, hr⟩; clear HN; have Hy := Aside0.mk hr; clear hr; replace HV := Aside0.mk (HV.out.below hb); replace HI := Aside0.mk (HI.out.below hb); replace Hg := Aside0.mk (Hg.out.below hb); replace Hgp := Aside0.mk (Hgp.out.below hb); replace Hs := Aside0.mk (Hs.out.below hb); replace Ht := Aside0.mk (Ht.out.below hb); replace Ha := Aside0.mk (Ha.out.below hb); replace Hp := Aside0.mk (Hp.out.below hb); replace Hb := Aside0.mk (Hb.out.below hb); replace Hw := Aside0.mk (Hw.out.below hb); replace Hf := Aside0.mk (Hf.out.below hb); replace Hr := Aside0.mk (Hr.out.below hb); replace HB := Aside0.mk (below_step HB.out hb); clear hb; have HN := Aside0.mk hn; clear hn)
  go_wp2_with fail
  (go_at_call 16; (with_reducible refine (let_k Hs.out HB.out HH.out.lsp).mono ?_); rintro e w13_ ⟨nl13, yl13, rfl, hl, hb, hv, hk⟩; have LS := Aside0.mk hl; clear hl; clear Hs; have Hs := Aside0.mk hv; clear hv; replace HV := Aside0.mk (HV0.out.below hb); replace HI := Aside0.mk (HI0.out.below hb); replace Hg := Aside0.mk (Hg.out.kept hk (fun k_ h_ => by have := h_.1; omega)); replace Hgp := Aside0.mk (Hgp.out.kept5 hk (fun k_ h_ => h_.2)); replace Ht := Aside0.mk (Ht.out.kept hk (fun k_ h_ => by have := h_.1; omega)); replace Ha := Aside0.mk (Ha.out.kept hk (fun k_ h_ => by have := h_.1; omega)); replace Hp := Aside0.mk (Hp.out.kept5 hk (fun k_ h_ => h_.2)); replace Hb := Aside0.mk (Hb.out.kept hk (fun k_ h_ => by have := h_.1; omega)); replace Hw := Aside0.mk (Hw.out.kept5 hk (fun k_ h_ => h_.2)); replace Hf := Aside0.mk (Hf.out.kept hk (fun k_ h_ => by have := h_.1; omega)); replace Hr := Aside0.mk (Hr.out.kept5 hk (fun k_ h_ => h_.2)); replace Hy := Aside0.mk (Hy.out.kept hk (fun k_ h_ => by have := h_.1; omega)); replace HB := Aside0.mk hb; replace HN := Aside0.mk (Nat.le_trans HN.out hk.1); clear hk hb)
  go_wp2_with fail
  (go_at_call 16; (with_reducible refine (let_k Ha.out HB.out HH.out.la1).mono ?_); rintro e w14_ ⟨nl14, yl14, rfl, hl, hb, hv, hk⟩; have LA := Aside0.mk hl; clear hl; clear Ha; have Ha := Aside0.mk hv; clear hv; replace HV := Aside0.mk (HV0.out.below hb); replace HI := Aside0.mk (HI0.out.below hb); replace Hg := Aside0.mk (Hg.out.kept hk (fun k_ h_ => by have := h_.1; omega)); replace Hgp := Aside0.mk (Hgp.out.kept5 hk (fun k_ h_ => h_.2)); replace Hs := Aside0.mk (Hs.out.kept hk (fun k_ h_ => by have := h_.1; omega)); replace Ht := Aside0.mk (Ht.out.kept hk (fun k_ h_ => by have := h_.1; omega)); replace Hp := Aside0.mk (Hp.out.kept5 hk (fun k_ h_ => h_.2)); replace Hb := Aside0.mk (Hb.out.kept hk (fun k_ h_ => by have := h_.1; omega)); replace Hw := Aside0.mk (Hw.out.kept5 hk (fun k_ h_ => h_.2)); replace Hf := Aside0.mk (Hf.out.kept hk (fun k_ h_ => by have := h_.1; omega)); replace Hr := Aside0.mk (Hr.out.kept5 hk (fun k_ h_ => h_.2)); replace Hy := Aside0.mk (Hy.out.kept hk (fun k_ h_ => by have := h_.1; omega)); replace HB := Aside0.mk hb; replace HN := Aside0.mk (Nat.le_trans HN.out hk.1); clear hk hb)
  obtain ⟨pl, hpl⟩ : ∃ pl : List Int, pl = p1.map Int.ofNat := ⟨_, rfl⟩
  rw [← hpl] at Hp
  have HPL := Aside0.mk (show pl.length ≤ 1000 from by rw [hpl]; exact HH.out.lp1)
  have HPE := Aside0.mk (show pl.length = (p1.map Int.ofNat).length from by rw [hpl])
  obtain ⟨S, hS⟩ : ∃ S : Nat → Prop, S = fun k_ => some k_ = vp.ownBlock := ⟨_, rfl⟩
  have HS := Aside0.mk (show ∀ k_, S k_ → (nb3 ≤ k_ ∧ k_ < nb5) ∧ Ty 3 w14_ k_ from fun k_ h_ => by rw [hS] at h_; exact ⟨Hp.out.1 k_ h_.symm, RI_ty Hp.out k_ h_.symm⟩)
  have HP0 := Aside0.mk (show Kd.R (Kd.int .i64) 3 w14_ w0.heap.size S vp pl from by rw [hS]; exact Kd.R_tight rfl Hp.out)
  have HK := Aside0.mk (Kept.refl w14_ S)
  have HBL := Aside0.mk HB.out
  have HSZ := Aside0.mk HB.out.size
  clear hS Hp hpl
  go_wp2_with fail
  go_loopg [25] pl.length (fun kq v25 w' => ∃ (x3 : Int) (ys : List Int), v25 = .int .i64 x3 ∧ Aside0 (ys.length = pl.length ∧ 0 ≤ x3 ∧ x3 + kq = (pl.length : Int)) ∧ Aside0 (Kd.R (Kd.int .i64) 3 w' w0.heap.size S vp ys) ∧ Aside0 (Kept w14_ w' S) ∧ Aside0 (Below w0.heap.size w0 w'))
  case atStart => exact ⟨0, pl, rfl, ⟨⟨rfl, by decide, by omega⟩⟩, ⟨HP0.out⟩, ⟨HK.out⟩, ⟨HBL.out⟩⟩
  case round =>
    clear HP0 HK HBL
    obtain ⟨x3, ys, rfl, HX, HO, HK, HBL⟩ := hrel
    obtain ⟨A, c, ev⟩ := Kd.R_slice HO.out
    cases gk with
    | succ k1 =>
      obtain ⟨go4, co4, eo4, gb4, gl4, cl4, HG4⟩ := Kd.R_form HO.out (by have := HX.out; omega)
      subst eo4
      have p4 : 0 ≤ x3 := HX.out.2.1
      have q4 : x3 < (ys.length : Int) := by have := HX.out; omega
      have c2b0 : decide (x3 < (ys.length : Int)) = true := decide_eq_true q4
      obtain ⟨hx4_0, hf4_0⟩ := Kd.R_celln 0 HO.out x3 p4 q4
      have HP7 := Kd.R_putg HO.out x3 (-9)
      have GB4 := Aside0.mk gb4
      clear gb4 gl4 HG4 ev
      have e2 : IntKind.i64.wrap (x3 + 1) = x3 + 1 := by have := HX.out; have := HPL.out; rw [i64_w]; unfold wrap64; omega
      replace p4 := eq_true p4
      replace q4 := eq_true q4
      go_wp2_with fail
      go_roundg k1
      case measure => omega
      case rel => exact ⟨x3 + 1, ys.set x3.toNat (-9), (by first | rfl | (simp; done) | (simp [*]; done)), ⟨⟨by rw [List.length_set]; exact HX.out.1, by have := HX.out.2.1; omega, by have := HX.out.2.2; omega⟩⟩, ⟨by (with_reducible repeat (first | apply Kd.R_alloc | apply Kd.R_drewN | apply Kd.R_drew)); exact HP7.1⟩, ⟨by repeat (first | (with_reducible first | exact Kept.of_grown HP7.2 HK.out (fun k_ e_ => .inl (HO.out.1 k_ e_)) | apply Kept.alloc | apply Kept.drewN | apply Kept.drew) | exact Kept.of_grown HP7.2 HK.out (fun k_ e_ => .inl (HO.out.1 k_ e_)))⟩, ⟨by repeat (first | (with_reducible first | exact below_set HBL.out GB4.out | apply below_alloc | apply pw_below_drewN | apply below_drew1) | exact below_set HBL.out GB4.out)⟩⟩
    | zero =>
      have c2b0 : decide (x3 < (ys.length : Int)) = false := decide_eq_false (by have := HX.out; omega)
      have HY := Aside0.mk (show ys.length = pl.length from HX.out.1)
      have HO0 := HO
      have HK0 := HK
      clear HX HO HK
      subst ev
      go_wp2_with fail
      go_loopg [26, 27] 70 (fun kq v26 v27 w' => ∃ (n : Nat), v27 = .int .i64 (n : Int) ∧ Aside0 (n + kq = 70) ∧ Aside0 (Kd.R (Kd.int .i64) 3 w' w0.heap.size (fun k_ => S k_ ∨ w14_.heap.size ≤ k_) v26 (ys ++ List.replicate n (-10))) ∧ Aside0 (Kept w14_ w' S) ∧ Aside0 (Below w0.heap.size w0 w'))
      case atStart => exact ⟨0, rfl, ⟨rfl⟩, ⟨by rw [List.replicate_zero, List.append_nil]; (with_reducible repeat (first | apply Kd.R_alloc | apply Kd.R_drewN | apply Kd.R_drew)); exact Kd.R_mono HO0.out (fun _ h_ => .inl h_)⟩, ⟨by repeat (first | (with_reducible first | exact HK0.out | apply Kept.alloc | apply Kept.drewN | apply Kept.drew) | exact HK0.out)⟩, ⟨by repeat (first | (with_reducible first | exact HBL.out | apply below_alloc | apply pw_below_drewN | apply below_drew1) | exact HBL.out)⟩⟩
      case round =>
        clear HO0 HK0 HBL
        obtain ⟨n, rfl, HX, HO, HK, HBL⟩ := hrel
        cases gk with
        | succ k2 =>
          have c3b0 : decide ((n : Int) < 70) = true := decide_eq_true (by have := HX.out; omega)
          have e3 : IntKind.i64.wrap ((n : Int) + 1) = ((n + 1 : Nat) : Int) := by have := HX.out; rw [i64_w]; unfold wrap64; omega
          have HZ := Aside0.mk (show (ys ++ List.replicate n (-10 : Int)).length ≤ 2000 from by rw [List.length_append, List.length_replicate]; have := HX.out; have := HY.out; have := HPL.out; omega)
          go_wp2_with (first | ((with_reducible refine gate_builtin (b := .append) (xs := #[.tmp 159, .tmp 160]) rfl ?_); at_builtin; refine Kd.R_append (Kd.int .i64) (w0 := w0) w0.heap.size rfl (.tmp 159) (.tmp 160) 37 3 (.int .i64 0) 8 rfl Tryd.underlying37 Go.Proofs.YtgcibhbhbgoacaaDoor.Re.info3 rfl (by decide) (by omega) u26 (ys ++ List.replicate n (-10)) (-10) [.int .i64 (-10)] (fun k_ => S k_ ∨ w14_.heap.size ≤ k_) (fun _ => False) rfl rfl ?aP (fun _ hk => hk.elim) (fun k_ h_ => .inr (Nat.le_trans HK.out.1 h_)) HO.out HBL.out HBL.out.size (by have := HZ.out; omega) ?_; (case aP => exact rfl); intro v176 w9 ho hb hg hat; have n1_ := Aside0.mk (hb); have n2_ := Aside0.mk (Kept.of_grown (S := S) hg HK.out (fun k_ e_ => (HO.out.1 k_ e_))); have n3_ := Aside0.mk (ho); rw [List.append_assoc, ← List.replicate_succ'] at n3_; clear HO HBL HK; have HBL := n1_; have HK := n2_; have HO := n3_; clear n1_ n2_ n3_ ho hb hg hat))
          go_roundg k2
          case measure => omega
          case rel => exact ⟨n + 1, (by first | rfl | (simp; done) | (simp [*]; done)), ⟨by have := HX.out; omega⟩, ⟨HO.out⟩, ⟨HK.out⟩, ⟨HBL.out⟩⟩
        | zero =>
          have c3b0 : decide ((n : Int) < 70) = false := decide_eq_false (by have := HX.out; omega)
          obtain rfl : n = 70 := by have := HX.out; omega
          obtain ⟨A4, c4, e4⟩ := Kd.R_slice HO.out
          subst e4
          obtain ⟨N2, hN2⟩ : ∃ N : Nat, N = (ys ++ List.replicate 70 (-10 : Int)).length := ⟨_, rfl⟩
          rw [← hN2] at HO ⊢
          have hN3 : N2 = pl.length + 70 := by rw [hN2, List.length_append, List.length_replicate, HY.out]
          have HN3 := Aside0.mk hN3
          have hk := HK.out
          have hb := HBL.out
          clear hN2 hN3 HX HY HO HK HBL
          replace HV := Aside0.mk (HV0.out.below hb)
          replace HI := Aside0.mk (HI0.out.below hb)
          replace Hg := Aside0.mk (Hg.out.kept3 hk (fun k_ h_ => (HS.out k_ h_).2))
          replace Hgp := Aside0.mk (Hgp.out.kept hk (fun k_ h_ => by have := (HS.out k_ h_).1; omega))
          replace Hs := Aside0.mk (Hs.out.kept3 hk (fun k_ h_ => (HS.out k_ h_).2))
          replace Ht := Aside0.mk (Ht.out.kept3 hk (fun k_ h_ => (HS.out k_ h_).2))
          replace Ha := Aside0.mk (Ha.out.kept3 hk (fun k_ h_ => (HS.out k_ h_).2))
          replace Hb := Aside0.mk (Hb.out.kept3 hk (fun k_ h_ => (HS.out k_ h_).2))
          replace Hw := Aside0.mk (Hw.out.kept hk (fun k_ h_ => by have := (HS.out k_ h_).1; omega))
          replace Hf := Aside0.mk (Hf.out.kept3 hk (fun k_ h_ => (HS.out k_ h_).2))
          replace Hr := Aside0.mk (Hr.out.kept hk (fun k_ h_ => by have := (HS.out k_ h_).1; omega))
          replace Hy := Aside0.mk (Hy.out.kept3 hk (fun k_ h_ => (HS.out k_ h_).2))
          replace HB := Aside0.mk hb
          replace HN := Aside0.mk (Nat.le_trans HN.out hk.1)
          clear hk hb HS HSZ
          obtain ⟨Aw2, cw2, ew2⟩ := Kd.R_slice Hw.out
          subst ew2
          obtain ⟨N1, hN1⟩ : ∃ N : Nat, N = (p1.map Int.ofNat).length := ⟨_, rfl⟩
          rw [← hN1] at Hw ⊢
          have hN4 : N2 = N1 + 70 := by rw [hN1, ← HPE.out]; exact HN3.out
          have hN5 : N1 ≤ 1000 := by rw [hN1]; exact HH.out.lp1
          have e70 : IntKind.i64.wrap ((N1 : Int) + 70) = (N2 : Int) := by rw [i64_w]; unfold wrap64; omega
          have HN4 := Aside0.mk hN1
          clear hN1 hN4 hN5 HN3 HPE HPL
          go_wp2_with fail
          go_wp2_with fail
          (go_at_call 11; (with_reducible refine (same_w k _ Hf.out.rd Hb.out.rd HH.out.sa1).mono ?_); rintro e w15_ ⟨rfl, hb⟩; replace HV := Aside0.mk (HV.out.below hb); replace HI := Aside0.mk (HI.out.below hb); replace Hg := Aside0.mk (Hg.out.below hb); replace Hgp := Aside0.mk (Hgp.out.below hb); replace Hs := Aside0.mk (Hs.out.below hb); replace Ht := Aside0.mk (Ht.out.below hb); replace Ha := Aside0.mk (Ha.out.below hb); replace Hb := Aside0.mk (Hb.out.below hb); replace Hw := Aside0.mk (Hw.out.below hb); replace Hf := Aside0.mk (Hf.out.below hb); replace Hr := Aside0.mk (Hr.out.below hb); replace Hy := Aside0.mk (Hy.out.below hb); replace HB := Aside0.mk (below_step HB.out hb); replace HN := Aside0.mk (Nat.le_trans HN.out hb.size); clear hb)
          go_wp2_with fail
          (go_at_call 26; (with_reducible refine (sameI_w k _ Hr.out.rd Hw.out.rd HH.out.ip1).mono ?_); rintro e w16_ ⟨rfl, hb⟩; replace HV := Aside0.mk (HV.out.below hb); replace HI := Aside0.mk (HI.out.below hb); replace Hg := Aside0.mk (Hg.out.below hb); replace Hgp := Aside0.mk (Hgp.out.below hb); replace Hs := Aside0.mk (Hs.out.below hb); replace Ht := Aside0.mk (Ht.out.below hb); replace Ha := Aside0.mk (Ha.out.below hb); replace Hb := Aside0.mk (Hb.out.below hb); replace Hw := Aside0.mk (Hw.out.below hb); replace Hf := Aside0.mk (Hf.out.below hb); replace Hr := Aside0.mk (Hr.out.below hb); replace Hy := Aside0.mk (Hy.out.below hb); replace HB := Aside0.mk (below_step HB.out hb); replace HN := Aside0.mk (Nat.le_trans HN.out hb.size); clear hb)
          go_wp2_with fail
          (go_at_call 11; (with_reducible refine (same_w k _ Hy.out.rd Ht.out.rd HH.out.ssp).mono ?_); rintro e w17_ ⟨rfl, hb⟩; replace HV := Aside0.mk (HV.out.below hb); replace HI := Aside0.mk (HI.out.below hb); replace Hg := Aside0.mk (Hg.out.below hb); replace Hgp := Aside0.mk (Hgp.out.below hb); replace Hs := Aside0.mk (Hs.out.below hb); replace Ht := Aside0.mk (Ht.out.below hb); replace Ha := Aside0.mk (Ha.out.below hb); replace Hb := Aside0.mk (Hb.out.below hb); replace Hw := Aside0.mk (Hw.out.below hb); replace Hf := Aside0.mk (Hf.out.below hb); replace Hr := Aside0.mk (Hr.out.below hb); replace Hy := Aside0.mk (Hy.out.below hb); replace HB := Aside0.mk (below_step HB.out hb); replace HN := Aside0.mk (Nat.le_trans HN.out hb.size); clear hb)
          go_wp2_with fail
          (go_at_call 24; (with_reducible refine (dec_w (w0 := w0) (nb := nb12) W _ _ _ _ HH.out.dec1 (Nat.le_trans HL.out (by decide)) Hg.out.rd (RdI.pre Hgp.out rfl) (TabW.below HT.out HB.out) HB.out.size HN.out).mono ?_); rintro e w18_ ⟨vf2, vr2, nb18, rfl, hb, hle18, hn, hr, hr2⟩; clear HN; have Hf2 := Aside0.mk hr; have Hr2 := Aside0.mk hr2; clear hr hr2; replace HV := Aside0.mk (HV.out.below hb); replace HI := Aside0.mk (HI.out.below hb); replace Hg := Aside0.mk (Hg.out.below hb); replace Hgp := Aside0.mk (Hgp.out.below hb); replace Hs := Aside0.mk (Hs.out.below hb); replace Ht := Aside0.mk (Ht.out.below hb); replace Ha := Aside0.mk (Ha.out.below hb); replace Hb := Aside0.mk (Hb.out.below hb); replace Hw := Aside0.mk (Hw.out.below hb); replace Hf := Aside0.mk (Hf.out.below hb); replace Hr := Aside0.mk (Hr.out.below hb); replace Hy := Aside0.mk (Hy.out.below hb); replace HB := Aside0.mk (below_step HB.out hb); clear hb; have HN := Aside0.mk hn; clear hn)
          go_wp2_with fail
          (go_at_call 11; (with_reducible refine (same_w k _ Hf2.out.rd Hb.out.rd HH.out.sa1).mono ?_); rintro e w19_ ⟨rfl, hb⟩; replace HV := Aside0.mk (HV.out.below hb); replace HI := Aside0.mk (HI.out.below hb); replace Hg := Aside0.mk (Hg.out.below hb); replace Hgp := Aside0.mk (Hgp.out.below hb); replace Hs := Aside0.mk (Hs.out.below hb); replace Ht := Aside0.mk (Ht.out.below hb); replace Ha := Aside0.mk (Ha.out.below hb); replace Hb := Aside0.mk (Hb.out.below hb); replace Hw := Aside0.mk (Hw.out.below hb); replace Hf := Aside0.mk (Hf.out.below hb); replace Hr := Aside0.mk (Hr.out.below hb); replace Hy := Aside0.mk (Hy.out.below hb); replace Hf2 := Aside0.mk (Hf2.out.below hb); replace Hr2 := Aside0.mk (Hr2.out.below hb); replace HB := Aside0.mk (below_step HB.out hb); replace HN := Aside0.mk (Nat.le_trans HN.out hb.size); clear hb)
          go_wp2_with fail
          (go_at_call 26; (with_reducible refine (sameI_w k _ Hr2.out.rd Hw.out.rd HH.out.ip1).mono ?_); rintro e w20_ ⟨rfl, hb⟩; replace HV := Aside0.mk (HV.out.below hb); replace HI := Aside0.mk (HI.out.below hb); replace Hg := Aside0.mk (Hg.out.below hb); replace Hgp := Aside0.mk (Hgp.out.below hb); replace Hs := Aside0.mk (Hs.out.below hb); replace Ht := Aside0.mk (Ht.out.below hb); replace Ha := Aside0.mk (Ha.out.below hb); replace Hb := Aside0.mk (Hb.out.below hb); replace Hw := Aside0.mk (Hw.out.below hb); replace Hf := Aside0.mk (Hf.out.below hb); replace Hr := Aside0.mk (Hr.out.below hb); replace Hy := Aside0.mk (Hy.out.below hb); replace Hf2 := Aside0.mk (Hf2.out.below hb); replace Hr2 := Aside0.mk (Hr2.out.below hb); replace HB := Aside0.mk (below_step HB.out hb); replace HN := Aside0.mk (Nat.le_trans HN.out hb.size); clear hb)
          go_wp2_with fail
          (go_at_call 15; (with_reducible refine (left_w k _ Hg.out HV.out rfl HH.out.lWi HH.out.sW).mono ?_); rintro e w21_ ⟨rfl, hb⟩; replace HV := Aside0.mk (HV.out.below hb); replace HI := Aside0.mk (HI.out.below hb); replace Hg := Aside0.mk (Hg.out.below hb); replace Hgp := Aside0.mk (Hgp.out.below hb); replace Hs := Aside0.mk (Hs.out.below hb); replace Ht := Aside0.mk (Ht.out.below hb); replace Ha := Aside0.mk (Ha.out.below hb); replace Hb := Aside0.mk (Hb.out.below hb); replace Hw := Aside0.mk (Hw.out.below hb); replace Hf := Aside0.mk (Hf.out.below hb); replace Hr := Aside0.mk (Hr.out.below hb); replace Hy := Aside0.mk (Hy.out.below hb); replace Hf2 := Aside0.mk (Hf2.out.below hb); replace Hr2 := Aside0.mk (Hr2.out.below hb); replace HB := Aside0.mk (below_step HB.out hb); replace HN := Aside0.mk (Nat.le_trans HN.out hb.size); clear hb)
          go_wp2_with fail
          (go_at_call 26; (with_reducible refine (sameI_w k _ (RdI.pre Hgp.out rfl) HI.out HH.out.ihs).mono ?_); rintro e w22_ ⟨rfl, hb⟩; replace HV := Aside0.mk (HV.out.below hb); replace HI := Aside0.mk (HI.out.below hb); replace Hg := Aside0.mk (Hg.out.below hb); replace Hgp := Aside0.mk (Hgp.out.below hb); replace Hs := Aside0.mk (Hs.out.below hb); replace Ht := Aside0.mk (Ht.out.below hb); replace Ha := Aside0.mk (Ha.out.below hb); replace Hb := Aside0.mk (Hb.out.below hb); replace Hw := Aside0.mk (Hw.out.below hb); replace Hf := Aside0.mk (Hf.out.below hb); replace Hr := Aside0.mk (Hr.out.below hb); replace Hy := Aside0.mk (Hy.out.below hb); replace Hf2 := Aside0.mk (Hf2.out.below hb); replace Hr2 := Aside0.mk (Hr2.out.below hb); replace HB := Aside0.mk (below_step HB.out hb); replace HN := Aside0.mk (Nat.le_trans HN.out hb.size); clear hb)
          clear Hb Ht Hw HV
          go_wp2_with fail
          (go_at_call 19; (with_reducible refine (rooms_k Ha.out Hf.out (by omega) HB.out (Nat.le_trans (Nat.le_of_eq LA.out) HH.out.la1) HH.out.la1).mono ?_); rintro e w23_ ⟨rfl, hb, hv, hu, hk⟩; clear Ha Hf; have Ha := Aside0.mk hv; have Hf := Aside0.mk hu; clear hv hu; replace HI := Aside0.mk (HI0.out.below hb); replace Hg := Aside0.mk (Hg.out.kept hk (fun k_ h_ => by have := h_.1; omega)); replace Hgp := Aside0.mk (Hgp.out.kept5 hk (fun k_ h_ => h_.2)); replace Hs := Aside0.mk (Hs.out.kept hk (fun k_ h_ => by have := h_.1; omega)); replace Hr := Aside0.mk (Hr.out.kept5 hk (fun k_ h_ => h_.2)); replace Hy := Aside0.mk (Hy.out.kept hk (fun k_ h_ => by have := h_.1; omega)); replace Hf2 := Aside0.mk (Hf2.out.kept hk (fun k_ h_ => by have := h_.1; omega)); replace Hr2 := Aside0.mk (Hr2.out.kept5 hk (fun k_ h_ => h_.2)); replace HB := Aside0.mk hb; replace HN := Aside0.mk (Nat.le_trans HN.out hk.1); clear hk hb)
          go_wp2_with fail
          (go_at_call 19; (with_reducible refine (rooms_k Hf.out Hf2.out (by omega) HB.out HH.out.la1 HH.out.la1).mono ?_); rintro e w24_ ⟨rfl, hb, hv, hu, hk⟩; clear Hf Hf2; have Hf := Aside0.mk hv; have Hf2 := Aside0.mk hu; clear hv hu; replace HI := Aside0.mk (HI0.out.below hb); replace Hg := Aside0.mk (Hg.out.kept hk (fun k_ h_ => by have := h_.1; omega)); replace Hgp := Aside0.mk (Hgp.out.kept5 hk (fun k_ h_ => h_.2)); replace Hs := Aside0.mk (Hs.out.kept hk (fun k_ h_ => by have := h_.1; omega)); replace Ha := Aside0.mk (Ha.out.kept hk (fun k_ h_ => by have := h_.1; omega)); replace Hr := Aside0.mk (Hr.out.kept5 hk (fun k_ h_ => h_.2)); replace Hy := Aside0.mk (Hy.out.kept hk (fun k_ h_ => by have := h_.1; omega)); replace Hr2 := Aside0.mk (Hr2.out.kept5 hk (fun k_ h_ => h_.2)); replace HB := Aside0.mk hb; replace HN := Aside0.mk (Nat.le_trans HN.out hk.1); clear hk hb)
          go_wp2_with fail
          (go_at_call 19; (with_reducible refine (rooms_k Hs.out Hy.out (by omega) HB.out (Nat.le_trans (Nat.le_of_eq LS.out) HH.out.lsp) HH.out.lsp).mono ?_); rintro e w25_ ⟨rfl, hb, hv, hu, hk⟩; clear Hs Hy; have Hs := Aside0.mk hv; have Hy := Aside0.mk hu; clear hv hu; replace HI := Aside0.mk (HI0.out.below hb); replace Hg := Aside0.mk (Hg.out.kept hk (fun k_ h_ => by have := h_.1; omega)); replace Hgp := Aside0.mk (Hgp.out.kept5 hk (fun k_ h_ => h_.2)); replace Ha := Aside0.mk (Ha.out.kept hk (fun k_ h_ => by have := h_.1; omega)); replace Hf := Aside0.mk (Hf.out.kept hk (fun k_ h_ => by have := h_.1; omega)); replace Hr := Aside0.mk (Hr.out.kept5 hk (fun k_ h_ => h_.2)); replace Hf2 := Aside0.mk (Hf2.out.kept hk (fun k_ h_ => by have := h_.1; omega)); replace Hr2 := Aside0.mk (Hr2.out.kept5 hk (fun k_ h_ => h_.2)); replace HB := Aside0.mk hb; replace HN := Aside0.mk (Nat.le_trans HN.out hk.1); clear hk hb)
          go_wp2_with fail
          (go_at_call 27; (with_reducible refine (irooms_k Hr.out Hr2.out (by omega) HB.out (Nat.le_trans HH.out.lp1 (by decide)) (Nat.le_trans HH.out.lp1 (by decide))).mono ?_); rintro e w26_ ⟨rfl, hb, hv, hu, hk⟩; clear Hr Hr2; have Hr := Aside0.mk hv; have Hr2 := Aside0.mk hu; clear hv hu; replace HI := Aside0.mk (HI0.out.below hb); replace Hg := Aside0.mk (Hg.out.kept3 hk (fun k_ h_ => h_.2)); replace Hgp := Aside0.mk (Hgp.out.kept hk (fun k_ h_ => by have := h_.1; omega)); replace Hs := Aside0.mk (Hs.out.kept3 hk (fun k_ h_ => h_.2)); replace Ha := Aside0.mk (Ha.out.kept3 hk (fun k_ h_ => h_.2)); replace Hf := Aside0.mk (Hf.out.kept3 hk (fun k_ h_ => h_.2)); replace Hy := Aside0.mk (Hy.out.kept3 hk (fun k_ h_ => h_.2)); replace Hf2 := Aside0.mk (Hf2.out.kept3 hk (fun k_ h_ => h_.2)); replace HB := Aside0.mk hb; replace HN := Aside0.mk (Nat.le_trans HN.out hk.1); clear hk hb)
          clear Ha Hf Hf2 Hs Hy Hr Hr2
          go_wp2_with fail
          (go_at_call 20; (with_reducible refine (turn_k (nb := nb18) k _ _ Hg.out HB.out HN.out HH.out.turn).mono ?_); rintro e w27_ ⟨vo, nb27, rfl, hb, hle27, hn, hu, hv, hk⟩; have Ho := Aside0.mk hu; clear hu; clear HN Hg; have Hg := Aside0.mk hv; clear hv; replace HI := Aside0.mk (HI0.out.below hb); replace Hgp := Aside0.mk (Hgp.out.kept5 hk (fun k_ h_ => h_.2)); replace HB := Aside0.mk hb; clear hk hb; have HN := Aside0.mk hn; clear hn)
          go_wp2_with fail
          (go_at_call 24; (with_reducible refine (dec_w (w0 := w0) (nb := nb27) P _ _ _ _ HH.out.dec2 (Nat.le_trans HL.out (by decide)) Hg.out.rd (RdI.pre Hgp.out rfl) (TabW.below HT.out HB.out) HB.out.size HN.out).mono ?_); rintro e w28_ ⟨v1, v2, nb28, rfl, hb, hle28, hn, hr, hr2⟩; clear HN; have H1 := Aside0.mk hr; have H2 := Aside0.mk hr2; clear hr hr2; replace HI := Aside0.mk (HI.out.below hb); replace Hg := Aside0.mk (Hg.out.below hb); replace Hgp := Aside0.mk (Hgp.out.below hb); replace Ho := Aside0.mk (Ho.out.below hb); replace HB := Aside0.mk (below_step HB.out hb); clear hb; have HN := Aside0.mk hn; clear hn)
          go_wp2_with fail
          (go_at_call 25; (with_reducible refine (rdec_w (w0 := w0) (nb := nb28) P _ _ _ _ HH.out.dec2 HH.out.lP (Nat.le_trans HL.out (by decide)) Ho.out.rd HI.out HB.out.size HN.out).mono ?_); rintro e w29_ ⟨v3, v4, nb29, rfl, hb, hle29, hn, hr, hr2⟩; clear HN; have H3 := Aside0.mk hr; have H4 := Aside0.mk hr2; clear hr hr2; replace HI := Aside0.mk (HI.out.below hb); replace Hg := Aside0.mk (Hg.out.below hb); replace Hgp := Aside0.mk (Hgp.out.below hb); replace Ho := Aside0.mk (Ho.out.below hb); replace H1 := Aside0.mk (H1.out.below hb); replace H2 := Aside0.mk (H2.out.below hb); replace HB := Aside0.mk (below_step HB.out hb); clear hb; have HN := Aside0.mk hn; clear hn)
          go_wp2_with fail
          (go_at_call 11; (with_reducible refine (same_w k _ H1.out.rd H3.out.rd HH.out.sa2).mono ?_); rintro e w30_ ⟨rfl, hb⟩; replace HI := Aside0.mk (HI.out.below hb); replace Hg := Aside0.mk (Hg.out.below hb); replace Hgp := Aside0.mk (Hgp.out.below hb); replace Ho := Aside0.mk (Ho.out.below hb); replace H1 := Aside0.mk (H1.out.below hb); replace H2 := Aside0.mk (H2.out.below hb); replace H3 := Aside0.mk (H3.out.below hb); replace H4 := Aside0.mk (H4.out.below hb); replace HB := Aside0.mk (below_step HB.out hb); replace HN := Aside0.mk (Nat.le_trans HN.out hb.size); clear hb)
          go_wp2_with fail
          (go_at_call 26; (with_reducible refine (sameI_w k _ H2.out.rd H4.out.rd HH.out.ip2).mono ?_); rintro e w31_ ⟨rfl, hb⟩; replace HI := Aside0.mk (HI.out.below hb); replace Hg := Aside0.mk (Hg.out.below hb); replace Hgp := Aside0.mk (Hgp.out.below hb); replace Ho := Aside0.mk (Ho.out.below hb); replace H1 := Aside0.mk (H1.out.below hb); replace H2 := Aside0.mk (H2.out.below hb); replace H3 := Aside0.mk (H3.out.below hb); replace H4 := Aside0.mk (H4.out.below hb); replace HB := Aside0.mk (below_step HB.out hb); replace HN := Aside0.mk (Nat.le_trans HN.out hb.size); clear hb)
          go_wp2_with fail
          (go_at_call 15; (with_reducible refine (left_w k _ Hg.out Ho.out.rd rfl HH.out.lPi HH.out.sP).mono ?_); rintro e w32_ ⟨rfl, hb⟩; replace HI := Aside0.mk (HI.out.below hb); replace Hg := Aside0.mk (Hg.out.below hb); replace Hgp := Aside0.mk (Hgp.out.below hb); replace Ho := Aside0.mk (Ho.out.below hb); replace H1 := Aside0.mk (H1.out.below hb); replace H2 := Aside0.mk (H2.out.below hb); replace H3 := Aside0.mk (H3.out.below hb); replace H4 := Aside0.mk (H4.out.below hb); replace HB := Aside0.mk (below_step HB.out hb); replace HN := Aside0.mk (Nat.le_trans HN.out hb.size); clear hb)
          clear H1 H2 H3 H4
          go_wp2_with fail
          (go_at_call 22; (with_reducible refine (syn_w (w0 := w0) (nb := nb29) k _ _ _ Hg.out.rd HH.out.syn3 (TabW.below HT.out HB.out) HB.out.size HN.out).mono ?_); rintro e w33_ ⟨v5, nb33, rfl, hb, hle33, hn, hr⟩; clear HN; have H5 := Aside0.mk hr; clear hr; replace HI := Aside0.mk (HI.out.below hb); replace Hg := Aside0.mk (Hg.out.below hb); replace Hgp := Aside0.mk (Hgp.out.below hb); replace Ho := Aside0.mk (Ho.out.below hb); replace HB := Aside0.mk (below_step HB.out hb); clear hb; have HN := Aside0.mk hn; clear hn)
          go_wp2_with fail
          (go_at_call 23; (with_reducible refine (rsyn_n (w0 := w0) (nb := nb33) k _ _ _ Ho.out.rd HH.out.syn4 HB.out.size HN.out).mono ?_); rintro e w34_ ⟨v6, nb34, rfl, hb, hle34, hn, hr⟩; clear HN; have H6 := Aside0.mk hr; clear hr; replace HI := Aside0.mk (HI.out.below hb); replace Hg := Aside0.mk (Hg.out.below hb); replace Hgp := Aside0.mk (Hgp.out.below hb); replace Ho := Aside0.mk (Ho.out.below hb); replace H5 := Aside0.mk (H5.out.below hb); replace HB := Aside0.mk (below_step HB.out hb); clear hb; have HN := Aside0.mk hn; clear hn)
          go_wp2_with fail
          (go_at_call 11; (with_reducible refine (same_w k _ H5.out.rd H6.out.rd HH.out.ssp2).mono ?_); rintro e w35_ ⟨rfl, hb⟩; replace HI := Aside0.mk (HI.out.below hb); replace Hg := Aside0.mk (Hg.out.below hb); replace Hgp := Aside0.mk (Hgp.out.below hb); replace Ho := Aside0.mk (Ho.out.below hb); replace H5 := Aside0.mk (H5.out.below hb); replace H6 := Aside0.mk (H6.out.below hb); replace HB := Aside0.mk (below_step HB.out hb); replace HN := Aside0.mk (Nat.le_trans HN.out hb.size); clear hb)
          go_wp2_with fail
          (go_at_call 15; (with_reducible refine (left_w k _ Hg.out Ho.out.rd rfl HH.out.lPi HH.out.sP).mono ?_); rintro e w36_ ⟨rfl, hb⟩; replace HI := Aside0.mk (HI.out.below hb); replace Hg := Aside0.mk (Hg.out.below hb); replace Hgp := Aside0.mk (Hgp.out.below hb); replace Ho := Aside0.mk (Ho.out.below hb); replace H5 := Aside0.mk (H5.out.below hb); replace H6 := Aside0.mk (H6.out.below hb); replace HB := Aside0.mk (below_step HB.out hb); replace HN := Aside0.mk (Nat.le_trans HN.out hb.size); clear hb)
          clear H5 H6
          go_wp2_with fail
          have hmn := HM.out
          obtain ⟨gg, cg2, eg2, gb2, gl2, cl2, HG2⟩ := Kd.R_form Hgp.out (by rw [List.length_append, List.length_singleton]; omega)
          injection eg2 with ea eb ec
          injection ea with ea
          subst ea ec
          obtain ⟨S, hS⟩ : ∃ S : Nat → Prop, S = fun k_ => some k_ = (Value.slice (some ⟨gg, 0, none⟩) m cg).ownBlock := ⟨_, rfl⟩
          have HS := Aside0.mk (show ∀ k_, S k_ → (nb1 ≤ k_ ∧ k_ < nbg) ∧ Ty 3 w36_ k_ from fun k_ h_ => by rw [hS] at h_; exact ⟨Hgp.out.1 k_ h_.symm, RI_ty Hgp.out k_ h_.symm⟩)
          have HSg := Aside0.mk (show S gg from by rw [hS]; rfl)
          have HO8 := Aside0.mk (show Kd.R (Kd.int .i64) 3 w36_ w0.heap.size S (.slice (some ⟨gg, 0, none⟩) m cg) ((spentL hs).take 0 ++ hs.drop 0 ++ [-7]) from by rw [hS]; exact Kd.R_tight rfl Hgp.out)
          have HK := Aside0.mk (Kept.refl w36_ S)
          have HBL := Aside0.mk HB.out
          have HGB := Aside0.mk gb2
          have HNG := Aside0.mk (show nbg ≤ w36_.heap.size from Nat.le_trans (by omega) HN.out)
          clear hS Hgp gb2 gl2 cl2 HG2 eb
          simp only [add_plain]
          go_loopg [38, 39] hs.length (fun kq v38 v39 w' => ∃ (i : Nat), v39 = .int .i64 (i : Int) ∧ Aside0 (i + kq = hs.length) ∧ Aside0 (Kd.R (Kd.int .i64) 3 w' w0.heap.size S (.slice (some ⟨gg, 0, none⟩) m cg) ((spentL hs).take i ++ hs.drop i ++ [-7])) ∧ Aside0 (Kd.R (Kd.int .i64) 3 w' w0.heap.size (fun k_ => w36_.heap.size ≤ k_) v38 ((spentL hs).take i)) ∧ Aside0 (Kept w36_ w' S) ∧ Aside0 (Below w0.heap.size w0 w'))
          case atStart => exact ⟨0, rfl, ⟨by omega⟩, ⟨HO8.out⟩, ⟨by rw [List.take_zero]; exact Kd.R_nil _ _ _ _ _⟩, ⟨HK.out⟩, ⟨HBL.out⟩⟩
          case round =>
            clear HO8 HK HBL
            obtain ⟨i, rfl, HX, HO8, HOs, HK, HBL⟩ := hrel
            cases gk with
            | succ k1 =>
              have hi : i < hs.length := by have := HX.out; omega
              have c2b0 : decide ((i : Int) < (hs.length : Int)) = true := decide_eq_true (by omega)
              have c2b1 : decide (i < hs.length) = true := decide_eq_true hi
              have hL := HL.out
              have e1 : IntKind.i64.wrap ((hs.length : Int) - 1) = ((hs.length - 1 : Nat) : Int) := by rw [i64_w]; unfold wrap64; omega
              have e2 : IntKind.i64.wrap (((hs.length - 1 : Nat) : Int) - (i : Int)) = ((hs.length - 1 - i : Nat) : Int) := by rw [i64_w]; unfold wrap64; omega
              have e3 : IntKind.i64.wrap ((i : Int) + 1) = ((i + 1 : Nat) : Int) := by rw [i64_w]; unfold wrap64; omega
              obtain ⟨j, hj⟩ : ∃ j : Nat, j = hs.length - 1 - i := ⟨_, rfl⟩
              rw [← hj] at e2
              have p1 : 0 ≤ (j : Int) := by omega
              have q1 : (j : Int) < (hs.length : Int) := by omega
              obtain ⟨adh, eh, hx1⟩ := Kd.at_int (Kd.C_below HC0.out HBL.out) (j : Int) p1 q1
              obtain ⟨x, hx⟩ : ∃ x : Int, x = hs.getD j 0 := ⟨_, rfl⟩
              have er : rd hs (j : Int) = x := by unfold rd; rw [Int.toNat_natCast, hx]
              rw [er, Int.toNat_natCast] at hx1
              subst eh
              obtain ⟨y1, hy1⟩ : ∃ y : Int, IntKind.i64.wrap (Int.tdiv x 2) = y := ⟨_, rfl⟩
              obtain ⟨y, hy⟩ : ∃ y : Int, IntKind.i64.wrap (y1 + (i : Int)) = y := ⟨_, rfl⟩
              have HYv := Aside0.mk (show y = spentAt hs i from by unfold spentAt; rw [← hy, ← hy1, hx, hj, i64_w, i64_w])
              have p4 : 0 ≤ (i : Int) := by omega
              have q4 : (i : Int) < (m : Int) := by omega
              obtain ⟨hx4_0, hf4_0⟩ := Kd.R_celln 0 HO8.out (i : Int) p4 q4
              have HP7 := Aside0.mk (Kd.R_putg HO8.out (i : Int) y)
              rw [Int.toNat_natCast] at hx4_0 hf4_0 HP7
              have q5 : ((i : Int) < (m : Int)) = True := eq_true (by omega)
              have q6 : (i < m) = True := eq_true (by omega)
              have q7 : (j < hs.length) = True := eq_true (by omega)
              replace p1 := eq_true p1
              replace q1 := eq_true q1
              replace p4 := eq_true p4
              have HHX := Aside0.mk hx
              have HHJ := Aside0.mk hj
              clear q4 hx hj er hL hi hmn
              have HB8 := Aside0.mk (below_set (g := gg) (j := i) (v := .int .i64 y) HBL.out HGB.out)
              have HK8 := Aside0.mk (Kept.of_grown HP7.out.2 HK.out (fun k_ e_ => .inl (by cases e_; exact HSg.out)))
              have HOs8 := Aside0.mk (Kd.R_grown HOs.out HP7.out.2 (fun k_ (h_ : w36_.heap.size ≤ k_) e_ => by cases e_; have := (HS.out gg HSg.out).1; have := HNG.out; omega))
              have HZ := Aside0.mk (show ((spentL hs).take i).length ≤ 17592186044032 from by rw [List.length_take, spentL_length]; have := HL.out; omega)
              have HI2 := Aside0.mk (show i < hs.length from by have := HX.out; omega)
              have HX8 := Aside0.mk (show (wr.setCell ⟨gg, i, none⟩ (.int .i64 y)).cell? ⟨gg, i, none⟩ = some (.int .i64 y) from World.cell?_setCell_same _ _ _ hx4_0)
              go_wp2_with (first | ((with_reducible refine gate_store (t := 3) (p := 329) rfl ?_); refine store_event (t := 3) (p := 329) (v := ?vo_w8) (w1 := (wr.setCell ⟨gg, i, none⟩ (.int .i64 y))) ?hg ?ho ?hn ?hr ?_; (case ho => rfl); (case hg => rfl); (case hn => rfl); (case hr => first | (go_simp; done) | (go_simp; rfl)); intro w8 hw; rw [← hw] at HP7 HB8 HK8 HOs8 HX8; clear hw; have hx8 := HX8.out) | ((with_reducible refine gate_builtin (b := .append) (xs := #[.tmp 330, .tmp 335]) rfl ?_); at_builtin; refine Kd.R_append (Kd.int .i64) (w0 := w0) w0.heap.size rfl (.tmp 330) (.tmp 335) 37 3 (.int .i64 0) 8 rfl Tryd.underlying37 Go.Proofs.YtgcibhbhbgoacaaDoor.Re.info3 rfl (by decide) (by omega) u38 ((spentL hs).take i) y [.int .i64 y] (fun k_ => w36_.heap.size ≤ k_) (fun _ => False) rfl rfl ?aP (fun _ hk => hk.elim) (fun k_ h_ => Nat.le_trans HK8.out.1 h_) HOs8.out HB8.out HB8.out.size (by have := HZ.out; omega) ?_; (case aP => exact rfl); intro v9 w9 ho hb hg hat; have n1_ := Aside0.mk (Kd.R_grown HP7.out.1 hg (fun k_ (h_ : S k_) e_ => by have h1_ := (HS.out k_ h_).1; have h2_ : w36_.heap.size ≤ k_ := HOs8.out.1 k_ e_.symm; have := HNG.out; omega)); have n2_ := Aside0.mk (Kept.of_grown hg HK8.out (fun k_ e_ => .inr (HOs8.out.1 k_ e_))); have n3_ := Aside0.mk ho; have n4_ := Aside0.mk hb; rw [HYv.out, gap_set hs i HI2.out] at n1_; rw [HYv.out, ← spent_take hs i HI2.out] at n3_; clear ho hb hg hat HO8 HOs HK HBL HP7 HB8 HK8 HOs8; have HO8 := n1_; have HK := n2_; have HOs := n3_; have HBL := n4_; clear n1_ n2_ n3_ n4_))
              go_roundg k1
              case measure => omega
              case rel => exact ⟨i + 1, (by first | rfl | (simp; done) | (simp [*]; done)), ⟨by have := HX.out; omega⟩, ⟨HO8.out⟩, ⟨HOs.out⟩, ⟨HK.out⟩, ⟨HBL.out⟩⟩
            | zero =>
              obtain rfl : i = hs.length := by have := HX.out; omega
              have c2b0 : decide ((hs.length : Int) < (hs.length : Int)) = false := decide_eq_false (by omega)
              rw [List.drop_length, List.append_nil, show (spentL hs).take hs.length = spentL hs from List.take_of_length_le (by rw [spentL_length]; exact Nat.le_refl _)] at HO8
              rw [show (spentL hs).take hs.length = spentL hs from List.take_of_length_le (by rw [spentL_length]; exact Nat.le_refl _)] at HOs
              obtain ⟨nbz, hnbz⟩ : ∃ n : Nat, n = wr.heap.size := ⟨_, rfl⟩
              have Hgp := Aside0.mk (show RwI w0 wr nb1 nbg (.slice (some ⟨gg, 0, none⟩) m cg) (spentL hs ++ [-7]) from Kd.R_mono HO8.out (fun k_ h_ => (HS.out k_ h_).1))
              have Hsp := Aside0.mk (show RwI w0 wr nb34 nbz u38 (spentL hs) from Kd.R_mono (Kd.R_bound HOs.out) (fun k_ h_ => ⟨Nat.le_trans HN.out h_.1, by rw [hnbz]; exact h_.2.2.1⟩))
              have hk := HK.out
              have hb := HBL.out
              have hlez : nb34 ≤ nbz := by rw [hnbz]; exact Nat.le_trans HN.out hk.1
              clear HO8 HOs HK HBL HX hmn HSg HGB
              replace HI := Aside0.mk (HI0.out.below hb)
              replace Hg := Aside0.mk (Hg.out.kept3 hk (fun k_ h_ => (HS.out k_ h_).2))
              replace Ho := Aside0.mk (Ho.out.kept3 hk (fun k_ h_ => (HS.out k_ h_).2))
              replace HB := Aside0.mk hb
              replace HN := Aside0.mk (show nbz ≤ wr.heap.size from Nat.le_of_eq hnbz)
              clear hk hb HS HNG hnbz
              obtain ⟨A38, c38, e38⟩ := Kd.R_slice Hsp.out
              subst e38
              clear HI
              go_wp2_with fail
              (go_at_call 24; (with_reducible refine (dec_w (w0 := w0) (nb := nbz) P _ _ _ _ HH.out.dec3 (by rw [spentL_length]; exact Nat.le_trans HL.out (by decide)) Hg.out.rd (RdI.pre Hgp.out (spentL_length hs).symm) (TabW.below HT.out HB.out) HB.out.size HN.out).mono ?_); rintro e w37_ ⟨v1, v2, nb37, rfl, hb, hle37, hn, hr, hr2⟩; clear HN; have H1 := Aside0.mk hr; have H2 := Aside0.mk hr2; clear hr hr2; replace Hg := Aside0.mk (Hg.out.below hb); replace Ho := Aside0.mk (Ho.out.below hb); replace Hgp := Aside0.mk (Hgp.out.below hb); replace Hsp := Aside0.mk (Hsp.out.below hb); replace HB := Aside0.mk (below_step HB.out hb); clear hb; have HN := Aside0.mk hn; clear hn)
              go_wp2_with fail
              (go_at_call 25; (with_reducible refine (rdec_w (w0 := w0) (nb := nb37) P _ _ _ _ HH.out.dec3 HH.out.lP (by rw [spentL_length]; exact Nat.le_trans HL.out (by decide)) Ho.out.rd Hsp.out.rd HB.out.size HN.out).mono ?_); rintro e w38_ ⟨v3, v4, nb38, rfl, hb, hle38, hn, hr, hr2⟩; clear HN; have H3 := Aside0.mk hr; have H4 := Aside0.mk hr2; clear hr hr2; replace Hg := Aside0.mk (Hg.out.below hb); replace Ho := Aside0.mk (Ho.out.below hb); replace Hgp := Aside0.mk (Hgp.out.below hb); replace Hsp := Aside0.mk (Hsp.out.below hb); replace H1 := Aside0.mk (H1.out.below hb); replace H2 := Aside0.mk (H2.out.below hb); replace HB := Aside0.mk (below_step HB.out hb); clear hb; have HN := Aside0.mk hn; clear hn)
              go_wp2_with fail
              (go_at_call 11; (with_reducible refine (same_w k _ H1.out.rd H3.out.rd HH.out.sa3).mono ?_); rintro e w39_ ⟨rfl, hb⟩; replace Hg := Aside0.mk (Hg.out.below hb); replace Ho := Aside0.mk (Ho.out.below hb); replace Hgp := Aside0.mk (Hgp.out.below hb); replace Hsp := Aside0.mk (Hsp.out.below hb); replace H1 := Aside0.mk (H1.out.below hb); replace H2 := Aside0.mk (H2.out.below hb); replace H3 := Aside0.mk (H3.out.below hb); replace H4 := Aside0.mk (H4.out.below hb); replace HB := Aside0.mk (below_step HB.out hb); replace HN := Aside0.mk (Nat.le_trans HN.out hb.size); clear hb)
              go_wp2_with fail
              (go_at_call 26; (with_reducible refine (sameI_w k _ H2.out.rd H4.out.rd HH.out.ip3).mono ?_); rintro e w40_ ⟨rfl, hb⟩; replace Hg := Aside0.mk (Hg.out.below hb); replace Ho := Aside0.mk (Ho.out.below hb); replace Hgp := Aside0.mk (Hgp.out.below hb); replace Hsp := Aside0.mk (Hsp.out.below hb); replace H1 := Aside0.mk (H1.out.below hb); replace H2 := Aside0.mk (H2.out.below hb); replace H3 := Aside0.mk (H3.out.below hb); replace H4 := Aside0.mk (H4.out.below hb); replace HB := Aside0.mk (below_step HB.out hb); replace HN := Aside0.mk (Nat.le_trans HN.out hb.size); clear hb)
              go_wp2_with fail
              (go_at_call 26; (with_reducible refine (sameI_w k _ (RdI.pre Hgp.out (spentL_length hs).symm) Hsp.out.rd HH.out.isp).mono ?_); rintro e w41_ ⟨rfl, hb⟩; replace Hg := Aside0.mk (Hg.out.below hb); replace Ho := Aside0.mk (Ho.out.below hb); replace Hgp := Aside0.mk (Hgp.out.below hb); replace Hsp := Aside0.mk (Hsp.out.below hb); replace H1 := Aside0.mk (H1.out.below hb); replace H2 := Aside0.mk (H2.out.below hb); replace H3 := Aside0.mk (H3.out.below hb); replace H4 := Aside0.mk (H4.out.below hb); replace HB := Aside0.mk (below_step HB.out hb); replace HN := Aside0.mk (Nat.le_trans HN.out hb.size); clear hb)
              have hx9 := gap_cell Hgp.out (spentL_length hs).symm
              have hx10 := hx9
              simp only [add_plain, Nat.zero_add] at hx10
              go_wp2_with fail
              go_ret
              exact ⟨rfl, HB.out⟩
end Go.Proofs.YtgcibhbhbgoacaaDoor
