/- Euclid's steps of the document's answer: what they come to. -/
import Derived.Test.YtgcibhbhbgoacaaDoorRq
import Derived.Test.YtgcibhbhbgoacaaDoorRd5
namespace Go.Proofs.YtgcibhbhbgoacaaDoor
open Go.Proofs.YtgcibhbhbgoacaaDoor.G Go.Proofs.YtgcibhbhbgoacaaDoor.Re Go.Proofs.YtgcibhbhbgoacaaDoor.Rd FB
open Go.RowKit Go.Proofs.YtgcibhbhbgoacaaDoorW.PrintWords
set_option linter.unusedVariables false
set_option linter.unusedSimpArgs false
def dl (l : List F) : Nat := (shortL l).length
theorem of_below_dl (l : List F) : (PS.of l).below (dl l) := by
  have := PS.of_below (shortL l)
  rwa [of_shortL] at this
theorem dl_le {l : List F} {d : Nat} (h : (PS.of l).below d) : dl l ≤ d := shortL_length_le h
theorem dl_length (l : List F) : dl l ≤ l.length := shortL_length l
theorem dl_top {l : List F} (h : 0 < dl l) : l.getD (dl l - 1) 0 ≠ 0 := by
  have h1 := shortL_last l (fun e => by unfold dl at h; rw [e] at h; simp at h)
  have h2 : PS.of (shortL l) ((shortL l).length - 1) = PS.of l ((shortL l).length - 1) := by rw [of_shortL]
  unfold dl
  intro e
  exact h1 (h2.trans e)
def lesT (k : Nat) (lp lq : List Int) (t156 t157 : Int) : Option (List Int × List Int) := (if 0 ≤ t156 then (if t156 < (lp.length : Int) then (if 0 ≤ t157 then (if t157 < (lq.length : Int) then ((fareboxref32_Div.f k (rd lp t156) (rd lq t157)).bind fun bt160 => (if 0 ≤ (wrap64 ((wrap64 (t156 - t157)) + 1)) then (if (wrap64 ((wrap64 (t156 - t157)) + 1) : Int).toNat ≤ 281474976710656 then ((some (List.replicate (wrap64 ((wrap64 (t156 - t157)) + 1) : Int).toNat 0 : List Int)).bind fun y162 => (if 0 ≤ (wrap64 (t156 - t157)) then (if (wrap64 (t156 - t157)) < (y162.length : Int) then ((some (y162.set ((wrap64 (t156 - t157)) : Int).toNat bt160.1 : List Int)).bind fun y165 => ((fareboxref34_times.f k y165 lq).bind fun t166 => ((fareboxref34_plus.f k lp t166).bind fun t169 => (some (t169, y165))))) else (none)) else (none))) else (none)) else (none))) else (none)) else (none)) else (none)) else (none))
theorem lesT_at (k : Nat) (lp lq : List Int) (n m : Nat) (hn : n < lp.length) (hm : m < lq.length) (hmn : m ≤ n) (h2 : n ≤ 1000) :
    lesT k lp lq (n : Int) (m : Int) = (fareboxref32_Div.f k (rd lp (n : Int)) (rd lq (m : Int))).bind fun bt => (fareboxref34_times.f k ((List.replicate (n - m + 1) 0).set (n - m) bt.1) lq).bind fun t166 => (fareboxref34_plus.f k lp t166).bind fun t169 => some (t169, (List.replicate (n - m + 1) 0).set (n - m) bt.1) := by
  have e3 : wrap64 ((n : Int) - (m : Int)) = ((n - m : Nat) : Int) := by rw [w64 _ (by omega) (by omega)]; omega
  have e4 : wrap64 (((n - m : Nat) : Int) + 1) = ((n - m + 1 : Nat) : Int) := by rw [w64 _ (by omega) (by omega)]; omega
  unfold lesT
  rw [e3, e4, if_pos (by omega), if_pos (by omega), if_pos (by omega), if_pos (by omega)]
  congr 1
  funext bt
  rw [if_pos (by omega), Int.toNat_natCast, if_pos (by omega), Option.bind_some, if_pos (by omega), if_pos (by rw [List.length_replicate]; omega), Int.toNat_natCast, Option.bind_some]
theorem lessened_ev (p q : List F) (hq : 0 < dl q) (hd : dl q ≤ dl p) (hp : p.length ≤ 20000) (hq2 : q.length ≤ 20000) (h66 : dl p ≤ 66) :
    ∃ o b : List F, o.length ≤ max p.length (66 + q.length) ∧ b.length ≤ 66 ∧ (PS.of b).below (dl p - dl q + 1) ∧ PS.of o = PS.of p + PS.of b * PS.of q ∧ dl o < dl p ∧ Ev (fun k => fareboxref34_lessened.f k (Iz p) (Iz q)) (Iz o, Iz b) := by
  have lp := dl_length p
  have lq := dl_length q
  have e1 : ((shortL p).length : Int) - 1 = ((dl p - 1 : Nat) : Int) := by unfold dl at *; omega
  have e2 : ((shortL q).length : Int) - 1 = ((dl q - 1 : Nat) : Int) := by unfold dl at *; omega
  have g1 : dl p - 1 < (Iz p).length := by rw [Iz_length]; omega
  have g2 : dl q - 1 < (Iz q).length := by rw [Iz_length]; omega
  have g3 : dl q - 1 ≤ dl p - 1 := by omega
  have g4 : dl p - 1 ≤ 1000 := by omega
  have g5 : dl p - 1 - (dl q - 1) = dl p - dl q := by omega
  obtain ⟨f, hf⟩ : ∃ f : F, f = p.getD (dl p - 1) 0 * F.inv (q.getD (dl q - 1) 0) := ⟨_, rfl⟩
  obtain ⟨b, hb⟩ : ∃ b : List F, b = (List.replicate (dl p - dl q + 1) 0).set (dl p - dl q) f := ⟨_, rfl⟩
  have hbl : b.length = dl p - dl q + 1 := by rw [hb]; simp
  have hbo : PS.of b = PS.mono (dl p - dl q) f := PS.ext fun n => by
    rw [hb, of_set _ _ _ (by simp), of_replicate, PS.mono_at]
    rfl
  obtain ⟨t, t1, t2, t3⟩ := times_ev b q (by omega)
  obtain ⟨o, o1, o2, o3⟩ := plus_ev p t (by omega) (by omega)
  have hof : PS.of o = PS.of p + PS.of b * PS.of q := by rw [o2, t2]
  refine ⟨o, b, by omega, by omega, by rw [hbo]; exact PS.mono_below _ _, hof, ?_, ?_⟩
  · have : dl o ≤ dl p - 1 := dl_le (fun n hn => by
      rw [hof, hbo, PS.mono_mul, PS.add_at]
      show PS.of p n + (if n < dl p - dl q then 0 else f * PS.of q (n - (dl p - dl q))) = 0
      rw [if_neg (by omega)]
      by_cases e : n = dl p - 1
      · subst e
        rw [show dl p - 1 - (dl p - dl q) = dl q - 1 by omega, hf, F.mul_assoc]
        show p.getD (dl p - 1) 0 + p.getD (dl p - 1) 0 * (F.inv (q.getD (dl q - 1) 0) * q.getD (dl q - 1) 0) = 0
        rw [F.inv_mul (dl_top hq), F.mul_one, F.add_self]
      · rw [of_below_dl p n (by omega), of_below_dl q _ (by omega), F.mul_zero, F.add_zero])
    omega
  · refine Ev.congr (f := fun k => (fareboxref34_degree.f k (Iz p)).bind fun t156 => (fareboxref34_degree.f k (Iz q)).bind fun t157 => lesT k (Iz p) (Iz q) t156 t157) (fun k => rfl) ?_
    refine Ev.bind (degree_ev p (Nat.le_trans hp (by decide))) (Ev.bind (degree_ev q (Nat.le_trans hq2 (by decide))) ?_)
    refine Ev.congr (fun k => (congr (congrArg (lesT k (Iz p) (Iz q)) e1) e2).trans (lesT_at k (Iz p) (Iz q) (dl p - 1) (dl q - 1) g1 g2 g3 g4)) ?_
    rw [g5, rd_IzN, rd_IzN]
    refine Ev.bind (rdiv_ev _ _) ?_
    rw [← Iz_replicate, ← Iz_set, ← hf, ← hb]
    exact Ev.bind t3 (Ev.bind o3 (Ev.now _))
structure EI (c : Nat) (T : PS) (a aB b bB : List F) : Prop where
  congA : ∀ n, n < c → (PS.of aB * T) n = PS.of a n
  congB : ∀ n, n < c → (PS.of bB * T) n = PS.of b n
  det : PS.of a * PS.of bB + PS.of b * PS.of aB = PS.mono c 1
theorem EI.swap {c : Nat} {T : PS} {a aB b bB : List F} (h : EI c T a aB b bB) : EI c T b bB a aB := ⟨h.congB, h.congA, by rw [PS.add_comm]; exact h.det⟩
theorem EI.step {c : Nat} {T : PS} {r rB b bB o oB : List F} {y : PS} (h : EI c T r rB b bB) (h1 : PS.of o = PS.of r + y * PS.of b) (h2 : PS.of oB = PS.of rB + y * PS.of bB) : EI c T o oB b bB := by
  refine ⟨fun n hn => ?_, h.congB, ?_⟩
  · rw [h1, h2, PS.add_mul, PS.add_at, PS.add_at, h.congA n hn, PS.mul_assoc, mul_congr_lo c n y (PS.of bB * T) (PS.of b) hn h.congB]
  · rw [h1, h2, PS.add_mul, PS.mul_add, ← h.det]
    have e : PS.of b * (y * PS.of bB) = y * PS.of b * PS.of bB := by rw [PS.mul_left_comm, PS.mul_assoc]
    rw [e, PS.add_assoc (PS.of r * PS.of bB), PS.add_comm (y * PS.of b * PS.of bB), PS.add_assoc (PS.of b * PS.of rB), PS.add_self, PS.add_zero]
/-- what Euclid's steps end with -/
structure EE (c h : Nat) (T : PS) (R B : List F) : Prop where
  cong : ∀ n, n < c → (PS.of B * T) n = PS.of R n
  ex : ∃ (A BA : PS) (dR bB : Nat), A * PS.of B + PS.of R * BA = PS.mono c 1 ∧ (PS.of R).below dR ∧ 2 * dR < c + h + 2 ∧ (PS.of B).below bB ∧ 2 * bB + h ≤ c + 2 ∧ A.below (c + 1) ∧ BA.below (c + 2)
  lenR : R.length ≤ 15000
  lenB : B.length ≤ 15000
structure DlIs (l : List F) (n : Nat) : Prop where mk :: (out : dl l = n)
theorem DlIs.below {l : List F} {n : Nat} (h : DlIs l n) : (PS.of l).below n := by rw [← h.out]; exact of_below_dl l
theorem DlIs.le {l : List F} {n : Nat} (h : DlIs l n) : n ≤ l.length := by rw [← h.out]; exact dl_length l
theorem DlIs.degree {l : List F} {n : Nat} (h : DlIs l n) (hl : l.length ≤ 15000) : Ev (fun k => fareboxref34_degree.f k (Iz l)) ((n : Int) - 1) := by
  have := degree_ev l (Nat.le_trans hl (by decide))
  rw [← h.out]
  exact this
theorem DlIs.less {p q : List F} {n m : Nat} (hp : DlIs p n) (hq : DlIs q m) (h0 : 0 < m) (hd : m ≤ n) (hp2 : p.length ≤ 15000) (hq2 : q.length ≤ 15000) (h66 : n ≤ 66) :
    ∃ (o b : List F) (n2 : Nat), o.length ≤ max p.length (66 + q.length) ∧ b.length ≤ 66 ∧ (PS.of b).below (n - m + 1) ∧ PS.of o = PS.of p + PS.of b * PS.of q ∧ DlIs o n2 ∧ n2 < n ∧ Ev (fun k => fareboxref34_lessened.f k (Iz p) (Iz q)) (Iz o, Iz b) := by
  obtain ⟨rfl⟩ := hp
  obtain ⟨rfl⟩ := hq
  obtain ⟨o, b, h1, h2, h3, h4, h5, h6⟩ := lessened_ev p q h0 hd (Nat.le_trans hp2 (by decide)) (Nat.le_trans hq2 (by decide)) h66
  exact ⟨o, b, dl o, h1, h2, h3, h4, ⟨rfl⟩, h5, h6⟩
/-- the test ahead of a round -/
theorem e_test (n c h : Nat) (hn : n ≤ 15000) (hc : c ≤ 64) (hh : h ≤ c) : (wrap64 (2 * ((n : Int) - 1)) ≥ wrap64 ((c : Int) + (h : Int))) ↔ c + h + 2 ≤ 2 * n := by
  rw [w64 (2 * ((n : Int) - 1)) (by omega) (by omega), w64 _ (by omega) (by omega)]
  omega
theorem eu_l0 (k : Nat) (c h : Int) (a aB b bB : List Int) : fareboxref34_euclid.l0 (k + 1) c h a aB b bB = (fareboxref34_degree.f k b).bind fun t187 => (if (wrap64 (2 * t187)) ≥ (wrap64 (c + h)) then (fareboxref34_euclid.l1 k c h b bB a aB) else (some (b, bB))) := by simp only [fareboxref34_euclid.l0]
theorem eu_l1 (k : Nat) (c h : Int) (b bB r rB : List Int) : fareboxref34_euclid.l1 (k + 1) c h b bB r rB = (fareboxref34_degree.f k r).bind fun t189 => (fareboxref34_degree.f k b).bind fun t190 => (if t189 ≥ t190 then ((fareboxref34_lessened.f k r b).bind fun bt191 => ((fareboxref34_times.f k bt191.2 bB).bind fun t197 => ((fareboxref34_plus.f k rB t197).bind fun t200 => (fareboxref34_euclid.l1 k c h b bB bt191.1 t200)))) else (fareboxref34_euclid.l0 k c h b bB r rB)) := by simp only [fareboxref34_euclid.l1]
def EuO (c h : Nat) (T : PS) (m : Nat) : Prop := ∀ (L na nb : Nat) (a aB b bB : List F), DlIs a na → DlIs b nb → na + nb ≤ m → EI c T a aB b bB → nb < na → na ≤ c + 1 → (PS.of bB).below (c + 2 - na) → (PS.of aB).below (c + 2 - na) → c + h + 2 ≤ 2 * na →
      a.length ≤ L → aB.length ≤ L → b.length ≤ L → bB.length ≤ L → L + 70 * (na + nb) ≤ 15000 →
      ∃ R B, EE c h T R B ∧ Ev (fun k => fareboxref34_euclid.l0 k (c : Int) (h : Int) (Iz a) (Iz aB) (Iz b) (Iz bB)) (Iz R, Iz B)
def EuI (c h : Nat) (T : PS) (m : Nat) : Prop := ∀ (L da nr nb : Nat) (r rB b bB : List F), DlIs r nr → DlIs b nb → nr + nb ≤ m → EI c T r rB b bB → nr ≤ da → nb < da → da ≤ c + 1 → (PS.of bB).below (c + 2 - da) → (PS.of rB).below (c + 2 - nb) → c + h + 2 ≤ 2 * nb →
      r.length ≤ L → rB.length ≤ L → b.length ≤ L → bB.length ≤ L → L + 70 * (nr + nb) ≤ 15000 →
      ∃ R B, EE c h T R B ∧ Ev (fun k => fareboxref34_euclid.l1 k (c : Int) (h : Int) (Iz b) (Iz bB) (Iz r) (Iz rB)) (Iz R, Iz B)
theorem eu_ge (c h : Nat) (T : PS) (hc : c ≤ 64) (hh : h ≤ c) (m : Nat) (ih : ∀ m', m' < m → EuI c h T m') (L da nr nb : Nat) (r rB b bB : List F) (hr : DlIs r nr) (hb : DlIs b nb) (hm : nr + nb ≤ m) (hE : EI c T r rB b bB) (h1 : nr ≤ da) (h2 : nb < da) (h3 : da ≤ c + 1) (h4 : (PS.of bB).below (c + 2 - da)) (h5 : (PS.of rB).below (c + 2 - nb)) (h6 : c + h + 2 ≤ 2 * nb)
    (l1 : r.length ≤ L) (l2 : rB.length ≤ L) (l3 : b.length ≤ L) (l4 : bB.length ≤ L) (l5 : L + 70 * (nr + nb) ≤ 15000) (hge : nb ≤ nr) :
    ∃ R B, EE c h T R B ∧ Ev (fun k => fareboxref34_euclid.l1 k (c : Int) (h : Int) (Iz b) (Iz bB) (Iz r) (Iz rB)) (Iz R, Iz B) := by
  obtain ⟨o, y, n2, o1, o2, o3, o4, o5, o6, o7⟩ := hr.less hb (by omega) hge (by omega) (by omega) (by omega)
  obtain ⟨t, t1, t2, t3⟩ := times_ev y bB (by omega)
  obtain ⟨oB, p1, p2, p3⟩ := plus_ev rB t (by omega) (by omega)
  have hE2 : EI c T o oB b bB := hE.step o4 (by rw [p2, t2])
  have hoB : (PS.of oB).below (c + 2 - nb) := by
    rw [p2, t2]
    exact h5.add ((o3.mul h4).mono (by omega))
  obtain ⟨R, B, e1, e2⟩ := ih (m - 1) (by omega) (L + 70) da n2 nb o oB b bB o5 hb (by omega) hE2 (by omega) h2 h3 h4 hoB h6 (by omega) (by omega) (by omega) (by omega) (by omega)
  refine ⟨R, B, e1, ?_⟩
  refine Ev.step (fun k => eu_l1 k _ _ _ _ _ _) ?_
  refine Ev.bind (hr.degree (by omega)) (Ev.bind (hb.degree (by omega)) ?_)
  refine Ev.congr (fun k => if_pos (by omega)) ?_
  exact Ev.bind o7 (Ev.bind t3 (Ev.bind p3 e2))
theorem eu_o (c h : Nat) (T : PS) (hc : c ≤ 64) (hh : h ≤ c) (m : Nat) (ih : ∀ m', m' < m → EuI c h T m') : EuO c h T m := by
  intro L na nb a aB b bB ha hb hm hE h1 h2 h3 h4 h5 l1 l2 l3 l4 l5
  have hnb := hb.le
  by_cases hx : c + h + 2 ≤ 2 * nb
  · obtain ⟨R, B, r1, r2⟩ := eu_ge c h T hc hh m ih L na na nb a aB b bB ha hb hm hE (Nat.le_refl _) h1 h2 h3 (h4.mono (by omega)) hx l1 l2 l3 l4 l5 (by omega)
    refine ⟨R, B, r1, ?_⟩
    refine Ev.step (fun k => eu_l0 k _ _ _ _ _ _) ?_
    refine Ev.bind (hb.degree (by omega)) ?_
    exact Ev.congr (fun k => if_pos ((e_test nb c h (by omega) hc hh).2 hx)) r2
  · refine ⟨b, bB, ⟨hE.congB, ⟨PS.of a, PS.of aB, nb, c + 2 - na, hE.det, hb.below, by omega, h3, by omega, ha.below.mono h2, h4.mono (by omega)⟩, by omega, by omega⟩, ?_⟩
    refine Ev.step (fun k => eu_l0 k _ _ _ _ _ _) ?_
    refine Ev.bind (hb.degree (by omega)) ?_
    exact Ev.congr (fun k => if_neg (fun e => hx ((e_test nb c h (by omega) hc hh).1 e))) (Ev.now _)
theorem eu_i (c h : Nat) (T : PS) (hc : c ≤ 64) (hh : h ≤ c) (m : Nat) (ih : ∀ m', m' < m → EuI c h T m') : EuI c h T m := by
  intro L da nr nb r rB b bB hr hb hm hE h1 h2 h3 h4 h5 h6 l1 l2 l3 l4 l5
  by_cases hge : nb ≤ nr
  · exact eu_ge c h T hc hh m ih L da nr nb r rB b bB hr hb hm hE h1 h2 h3 h4 h5 h6 l1 l2 l3 l4 l5 hge
  · obtain ⟨R, B, r1, r2⟩ := eu_o c h T hc hh m ih L nb nr b bB r rB hb hr (by omega) hE.swap (by omega) (by omega) h5 (h4.mono (by omega)) h6 l3 l4 l1 l2 (by omega)
    refine ⟨R, B, r1, ?_⟩
    refine Ev.step (fun k => eu_l1 k _ _ _ _ _ _) ?_
    refine Ev.bind (hr.degree (by omega)) (Ev.bind (hb.degree (by omega)) ?_)
    exact Ev.congr (fun k => if_neg (by omega)) r2
theorem eu_all (c h : Nat) (T : PS) (hc : c ≤ 64) (hh : h ≤ c) (m : Nat) : EuI c h T m := by
  induction m using Nat.strongRecOn with
  | _ m ih => exact eu_i c h T hc hh m ih
theorem euclid_at (k c h : Nat) (tl top : List F) (hc : c ≤ 64) (htop : top = (List.replicate (c + 1) 0).set c 1) : fareboxref34_euclid.f k (Iz tl) (c : Int) (h : Int) = fareboxref34_euclid.l0 k (c : Int) (h : Int) (Iz top) (Iz []) (Iz tl) (Iz [1]) := by
  have e1 : wrap64 ((c : Int) + 1) = ((c + 1 : Nat) : Int) := by rw [w64 _ (by omega) (by omega)]; omega
  unfold fareboxref34_euclid.f
  rw [e1, if_pos (by omega), Int.toNat_natCast, if_pos (by omega), Option.bind_some, if_pos (by omega), if_pos (by rw [List.length_replicate]; omega), Int.toNat_natCast, htop, Iz_set, Iz_replicate]
  rfl
theorem euclid_ev (c h : Nat) (tl : List F) (hc : c ≤ 64) (hh : h ≤ c) (ht : tl.length = c) : ∃ R B, EE c h (PS.of tl) R B ∧ Ev (fun k => fareboxref34_euclid.f k (Iz tl) (c : Int) (h : Int)) (Iz R, Iz B) := by
  obtain ⟨top, htop⟩ : ∃ t : List F, t = (List.replicate (c + 1) 0).set c 1 := ⟨_, rfl⟩
  have htl : top.length = c + 1 := by rw [htop]; simp
  have hto : PS.of top = PS.mono c 1 := PS.ext fun n => by
    rw [htop, of_set _ _ _ (by simp), of_replicate, PS.mono_at]
    rfl
  have hdt : DlIs top (c + 1) := by
    refine ⟨Nat.le_antisymm (dl_le (by rw [hto]; exact PS.mono_below c 1)) (Nat.lt_of_not_le fun hle => ?_)⟩
    have := of_below_dl top c hle
    rw [hto, PS.mono_at, if_pos rfl] at this
    exact F.one_ne_zero this
  obtain ⟨nb, hnb⟩ : ∃ n, DlIs tl n := ⟨_, ⟨rfl⟩⟩
  have hdl := hnb.le
  have h1 : PS.of ([1] : List F) = 1 := PS.ext fun n => by cases n <;> rfl
  obtain ⟨R, B, r1, r2⟩ := eu_o c h (PS.of tl) hc hh (c + 1 + nb) (fun m' _ => eu_all c h (PS.of tl) hc hh m') 65 (c + 1) nb top [] tl [1] hdt hnb (Nat.le_refl _)
    ⟨fun n hn => by rw [PS.of_nil, PS.zero_mul, hto, PS.mono_at, if_neg (by omega)]; rfl, fun n _ => by rw [h1, PS.one_mul], by rw [h1, PS.mul_one, PS.of_nil, PS.mul_zero, PS.add_zero, hto]⟩
    (by omega) (Nat.le_refl _) (by rw [h1]; exact PS.below_one.mono (by omega)) (by rw [PS.of_nil]; exact PS.below_zero _) (by omega) (by omega) (by simp) (by omega) (by simp) (by omega)
  exact ⟨R, B, r1, Ev.congr (fun k => euclid_at k c h tl top hc htop) r2⟩
end Go.Proofs.YtgcibhbhbgoacaaDoor
