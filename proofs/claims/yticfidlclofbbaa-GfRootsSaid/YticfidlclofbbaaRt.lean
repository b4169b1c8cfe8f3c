/- The law GfRoots, in plain lists. -/
import Derived.Test.YticfidlclofbbaaLr1
import Derived.Test.YticfidlclofbbaaTr
namespace Go.Proofs.Yticfidlclofbbaa.Lr
open Go.RowKit Go.Proofs.YticfidlclofbbaaW.PrintWords FB Go.Proofs.Yticfidlclofbbaa.G

theorem Ev.ifT {α : Type} {c : Prop} [Decidable c] {f g : Nat → Option α} {r : α} (h : c) (e : Ev f r) : Ev (fun k => if c then f k else g k) r := Ev.congr (fun _ => if_pos h) e
theorem Ev.ifF {α : Type} {c : Prop} [Decidable c] {f g : Nat → Option α} {r : α} (h : ¬ c) (e : Ev g r) : Ev (fun k => if c then f k else g k) r := Ev.congr (fun _ => if_neg h) e
theorem evL_canon {p : PS} {d : Nat} (h : p.below d) (x : F) : evL (canon p d) x = PS.ev d p x := by
  rw [← evL_of_below _ _ d (canon_length _ _), of_canon h]
def elt (i : Nat) : F := ⟨i % 256, Nat.mod_lt _ (by decide)⟩
theorem zF_elt (i : Nat) (h : i < 256) : zF (elt i) = (i : Int) := by unfold zF elt; show ((i % 256 : Nat) : Int) = i; omega
theorem elt_inj {i j : Nat} (hi : i < 256) (hj : j < 256) (h : elt i = elt j) : i = j := by
  have := congrArg zF h; rw [zF_elt i hi, zF_elt j hj] at this; omega
def rts (p : List F) : Nat → List F
  | 0 => []
  | n + 1 => if evL p (elt n) = 0 then elt n :: rts p n else rts p n
theorem rts_mem {p : List F} : ∀ {n : Nat} {a : F}, a ∈ rts p n → evL p a = 0 ∧ ∃ i, i < n ∧ a = elt i
  | 0, a, h => by simp [rts] at h
  | n + 1, a, h => by
    unfold rts at h
    split at h
    · rename_i h0
      rcases List.mem_cons.1 h with rfl | h
      · exact ⟨h0, n, by omega, rfl⟩
      · obtain ⟨e, i, hi, ha⟩ := rts_mem h; exact ⟨e, i, by omega, ha⟩
    · obtain ⟨e, i, hi, ha⟩ := rts_mem h; exact ⟨e, i, by omega, ha⟩
theorem rts_nodup (p : List F) : ∀ n : Nat, n ≤ 256 → (rts p n).Nodup
  | 0, _ => by simp [rts]
  | n + 1, hn => by
    unfold rts
    split
    · refine List.nodup_cons.2 ⟨fun h => ?_, rts_nodup p n (by omega)⟩
      obtain ⟨_, i, hi, ha⟩ := rts_mem h
      have := elt_inj (by omega) (by omega) ha
      omega
    · exact rts_nodup p n (by omega)
theorem rts_le (p : List F) : ∀ n : Nat, (rts p n).length ≤ n
  | 0 => by simp [rts]
  | n + 1 => by have := rts_le p n; unfold rts; split <;> simp <;> omega
theorem roots_few {p : List F} (h : shortL p ≠ []) : (rts p 256).length ≤ (shortL p).length - 1 := by
  have lp := List.length_pos_iff.2 h
  rcases Nat.lt_or_ge (rts p 256).length (shortL p).length with h1 | h1
  · omega
  · exfalso
    have hb : (PS.of p).below (shortL p).length := by rw [← of_shortL p]; exact PS.of_below _
    have hz := PS.zero_of_roots (rts_nodup p 256 (by omega)) hb (fun r hr => by
      have := (rts_mem hr).1
      rw [← this, ← evL_of_below p r p.length (Nat.le_refl _)]
      exact (PS.ev_more hb r _ (shortL_length p)).symm) h1
    exact h (shortL_zero p hz)
def linL (rs : List F) : List F := canon (PS.lin rs) (rs.length + 1)
theorem of_linL (rs : List F) : PS.of (linL rs) = PS.lin rs := of_canon (PS.lin_below rs)
theorem linL_length (rs : List F) : (linL rs).length = rs.length + 1 := by
  have h1 : (linL rs).length ≤ _ := canon_length _ _
  have h2 : ¬ (linL rs).length ≤ rs.length := by
    intro h
    have := PS.of_below (linL rs) _ h
    rw [of_linL, PS.lin_top] at this
    exact F.one_ne_zero this
  omega
theorem of_pair (a : F) : PS.of [a, 1] = PS.xa a := by
  apply PS.ext; intro n
  match n with
  | 0 => rfl
  | 1 => rfl
  | n + 2 => rfl
theorem linL_step (a : F) (rs : List F) : mulP (linL rs) [a, 1] = linL (a :: rs) := by
  refine Short.eq (short_canon _ _) (short_canon _ _) ?_
  show PS.of (mulP (linL rs) [a, 1]) = PS.of (linL (a :: rs))
  rw [of_mulP, of_linL, of_linL, of_pair, PS.mul_comm]
  rfl
theorem linL_nil : linL [] = [1] := by
  refine Short.eq (short_canon _ _) (short_of_last (fun _ => by decide)) ?_
  show PS.of (linL []) = PS.of [1]
  rw [of_linL]
  apply PS.ext; intro n
  match n with
  | 0 => rfl
  | n + 1 => rfl
theorem evL_linL (rs : List F) (x : F) : evL (linL rs) x = 0 ↔ x ∈ rs := by
  unfold linL; rw [evL_canon (PS.lin_below rs)]; exact PS.lin_root_iff rs x
theorem l3_ev (xs R : List F) (x : F) (i : Nat) (hi : i < 256) (hx : x = elt i) (hl : xs.length ≤ 100) (hR : R = linL xs.reverse) {g : Nat → Option Bool}
    (hg : ∀ k, fareboxlaw32_GfRoots.l2 k (Iz xs) (Iz R) ((i + 1 : Nat) : Int) = g k) (he : Ev g true) (d : Nat) : ∀ (j : Nat) (b : Bool), xs.length - j = d → j ≤ xs.length → (b = true ↔ x ∈ xs.take j) →
    Ev (fun k => fareboxlaw32_GfRoots.l3 k (Iz xs) (Iz R) (i : Int) b (j : Int)) true := by
  have hz : ((i : Int)) % 256 = zF x := by rw [hx, zF_elt i hi]; omega
  have hRl : R.length = xs.length + 1 := by rw [hR, linL_length, List.length_reverse]
  induction d with
  | zero =>
    intro j b hd hj hb
    obtain rfl : j = xs.length := by omega
    rw [List.take_length] at hb
    refine Ev.step (fun k => by simp only [fareboxlaw32_GfRoots.l3]; rw [if_neg (by rw [Iz_length]; omega), hz]) ?_
    refine Ev.bind (polyEval_ev R x (by omega)) ?_
    have : (b != (zF (evL R x) == 0)) = false := by
      have e : (zF (evL R x) == 0) = b := by
        rw [Bool.eq_iff_iff, hb, beq_iff_eq, zF_eq_zero, hR, evL_linL, List.mem_reverse]
      rw [e]; simp
    rw [this]
    refine Ev.ifF (by decide) ?_
    refine Ev.congr (fun k => ?_) he
    rw [← hg k, w64 _ (by omega) (by omega)]; rfl
  | succ d ih =>
    intro j b hd hj hb
    have hlt : j < xs.length := by omega
    have hnx : wrap64 ((j : Int) + 1) = ((j + 1 : Nat) : Int) := by rw [w64 _ (by omega) (by omega)]; omega
    have htk : xs.take (j + 1) = xs.take j ++ [xs.getD j 0] := by
      rw [List.take_succ_eq_append_getElem hlt]; simp [List.getD_eq_getElem?_getD, hlt]
    cases b with
    | true =>
      refine Ev.step (fun k => by simp only [fareboxlaw32_GfRoots.l3]; rw [if_pos (by rw [Iz_length]; omega), if_pos trivial, hnx]) (ih (j + 1) true (by omega) (by omega) ?_)
      rw [htk]; simp [hb.1 rfl]
    | false =>
      refine Ev.step (fun k => by simp only [fareboxlaw32_GfRoots.l3]; rw [if_pos (by rw [Iz_length]; omega), if_neg (by decide), if_pos (by omega), hnx, hz, rd_IzN]) (ih (j + 1) _ (by omega) (by omega) ?_)
      have hnot : ¬ x ∈ xs.take j := fun h => by simpa using hb.2 h
      rw [htk, List.mem_append, List.mem_singleton, beq_iff_eq, zF_inj]
      constructor
      · intro h; exact .inr h.symm
      · rintro (h | h)
        · exact absurd h hnot
        · exact h.symm
theorem l2_ev (xs R : List F) (hl : xs.length ≤ 100) (hR : R = linL xs.reverse) (d : Nat) : ∀ (i : Nat), 256 - i = d → i ≤ 256 → Ev (fun k => fareboxlaw32_GfRoots.l2 k (Iz xs) (Iz R) (i : Int)) true := by
  have hRl : R.length = xs.length + 1 := by rw [hR, linL_length, List.length_reverse]
  induction d with
  | zero =>
    intro i hd hi
    refine Ev.step (f := fun _ => some true) (fun k => ?_) (Ev.now _)
    simp only [fareboxlaw32_GfRoots.l2]
    rw [if_neg (by omega), Iz_length, Iz_length, hRl, w64 _ (by omega) (by omega)]
    simp
  | succ d ih =>
    intro i hd hi
    refine Ev.step (fun k => by simp only [fareboxlaw32_GfRoots.l2]; rw [if_pos (by omega)]) ?_
    exact l3_ev xs R (elt i) i (by omega) rfl hl hR (fun _ => rfl) (ih (i + 1) (by omega) (by omega)) xs.length 0 false (by omega) (by omega) (by simp)
theorem l1_ev (xs : List F) (hl : xs.length ≤ 100) (d : Nat) : ∀ (i : Nat), xs.length - i = d → i ≤ xs.length → Ev (fun k => fareboxlaw32_GfRoots.l1 k (Iz xs) (Iz (linL (xs.take i).reverse)) (i : Int)) true := by
  induction d with
  | zero =>
    intro i hd hi
    obtain rfl : i = xs.length := by omega
    rw [List.take_length]
    refine Ev.step (fun k => by simp only [fareboxlaw32_GfRoots.l1]; rw [if_neg (by rw [Iz_length]; omega)]) ?_
    exact l2_ev xs _ hl rfl 256 0 (by omega) (by omega)
  | succ d ih =>
    intro i hd hi
    have hlt : i < xs.length := by omega
    have hnx : wrap64 ((i : Int) + 1) = ((i + 1 : Nat) : Int) := by rw [w64 _ (by omega) (by omega)]; omega
    have htk : (xs.take (i + 1)).reverse = xs.getD i 0 :: (xs.take i).reverse := by
      rw [List.take_succ_eq_append_getElem hlt]; simp [List.getD_eq_getElem?_getD, hlt]
    refine Ev.step (fun k => by simp only [fareboxlaw32_GfRoots.l1]; rw [if_pos (by rw [Iz_length]; omega), if_pos (by omega), rd_IzN, hnx]) ?_
    have hm := polyMul_ev (linL (xs.take i).reverse) [xs.getD i 0, 1] (by rw [linL_length]; simp; omega)
    rw [linL_step, ← htk] at hm
    refine Ev.bind hm ?_
    exact Ev.ifT rfl (ih (i + 1) (by omega) (by omega))
theorem l0_ev (p xs : List F) (hp : p.length ≤ 600) (hl : xs.length ≤ 100) (d : Nat) : ∀ (i : Nat), 256 - i = d → i ≤ 256 → Ev (fun k => fareboxlaw32_GfRoots.l0 k (Iz p) (Iz xs) ((rts p i).length : Int) (i : Int)) true := by
  have ls := shortL_length p
  induction d with
  | zero =>
    intro i hd hi
    obtain rfl : i = 256 := by omega
    have hl2 := rts_le p 256
    have h1 := l1_ev xs hl xs.length 0 (by omega) (by omega)
    rw [List.take_zero, List.reverse_nil, linL_nil] at h1
    have hj2 : Ev (fun k => fareboxlaw32_GfRoots.j2 k (Iz xs) false) true := by
      refine Ev.step (fun k => by simp only [fareboxlaw32_GfRoots.j2]; rw [if_neg (by decide)]) ?_
      exact h1
    refine Ev.step (fun k => by simp only [fareboxlaw32_GfRoots.l0]; rw [if_neg (by omega)]) ?_
    refine Ev.bind (trim_ev p (by omega)) ?_
    by_cases hs : shortL p = []
    · exact Ev.ifF (by rw [hs]; decide) hj2
    · have h2 := List.length_pos_iff.2 hs
      refine Ev.ifT (by rw [Iz_length]; omega) ?_
      refine Ev.bind (trim_ev p (by omega)) ?_
      have := roots_few hs
      rw [decide_eq_false (by rw [Iz_length, w64 _ (by omega) (by omega)]; omega)]
      exact hj2
  | succ d ih =>
    intro i hd hi
    have hi2 : i < 256 := by omega
    have hl2 := rts_le p i
    have hz : ((i : Int)) % 256 = zF (elt i) := by rw [zF_elt i hi2]; omega
    have hnx : wrap64 ((i : Int) + 1) = ((i + 1 : Nat) : Int) := by rw [w64 _ (by omega) (by omega)]; omega
    refine Ev.step (fun k => by simp only [fareboxlaw32_GfRoots.l0]; rw [if_pos (by omega), hz, hnx]) ?_
    refine Ev.bind (polyEval_ev p (elt i) (by omega)) ?_
    have h3 := ih (i + 1) (by omega) (by omega)
    by_cases h : evL p (elt i) = 0
    · refine Ev.ifT (zF_eq_zero.2 h) ?_
      refine Ev.congr (fun k => ?_) h3
      rw [w64 _ (by omega) (by omega), show rts p (i + 1) = elt i :: rts p i by simp [rts, h]]
      rfl
    · refine Ev.ifF (fun e => h (zF_eq_zero.1 e)) ?_
      refine Ev.congr (fun k => ?_) h3
      rw [show rts p (i + 1) = rts p i by simp [rts, h]]
theorem roots_ev (p xs : List F) : Ev (fun k => fareboxlaw32_GfRoots.f k (Iz p) (Iz xs)) true := by
  unfold fareboxlaw32_GfRoots.f
  have hyes : Ev (fun k => fareboxlaw32_GfRoots.j0 k (Iz p) (Iz xs) true) true := Ev.step (f := fun _ => some true) (fun k => by simp only [fareboxlaw32_GfRoots.j0]; rw [if_pos trivial]) (Ev.now _)
  by_cases hp : p.length ≤ 600
  · refine Ev.ifF (by rw [Iz_length]; omega) ?_
    by_cases hl : xs.length ≤ 100
    · rw [decide_eq_false (by rw [Iz_length]; omega)]
      refine Ev.step (fun k => by simp only [fareboxlaw32_GfRoots.j0]; rw [if_neg (by decide)]) ?_
      exact l0_ev p xs hp hl 256 0 (by omega) (by omega)
    · rw [decide_eq_true (by rw [Iz_length]; omega)]
      exact hyes
  · exact Ev.ifT (by rw [Iz_length]; omega) hyes
theorem u8s_bd {l : List Int} (h : ∀ x ∈ l, (Lit.int .u8 x).wf = true) : ∀ x ∈ l, 0 ≤ x ∧ x < 256 := fun x hx => by
  have := h x hx
  have h2 : 0 ≤ x ∧ x ≤ 255 := by simpa [Lit.wf, IntKind.min, IntKind.max, IntKind.signed, IntKind.bits] using this
  omega
theorem gfRoots_walk (A0 : Option Addr) (c0 : Nat) (l0 : List Int) (A1 : Option Addr) (c1 : Nat) (l1 : List Int) (w : World) (hr0 : Kd.C (Kd.int .u8) w A0 l0.length l0) (hc0 : l0.length ≤ c0) (_y0 : l0.length * 1 ≤ 140737488351232) (w0 : ∀ x ∈ l0, (Lit.int .u8 x).wf = true) (hr1 : Kd.C (Kd.int .u8) w A1 l1.length l1) (hc1 : l1.length ≤ c1) (_y1 : l1.length * 1 ≤ 140737488351232) (w1 : ∀ x ∈ l1, (Lit.int .u8 x).wf = true) :
    Calls Try.prog 3 #[.slice A0 l0.length c0, .slice A1 l1.length c1] w fun e w' => e = .returned (.bool true) ∧ Below w.heap.size w w' := by
  obtain ⟨p, rfl⟩ := Iz_of (u8s_bd w0)
  obtain ⟨q, rfl⟩ := Iz_of (u8s_bd w1)
  obtain ⟨k, hk⟩ := (roots_ev p q).rounds
  exact fareboxlaw32_GfRoots.calls k A0 c0 _ A1 c1 _ true w hr0 hc0 hr1 hc1 hk
end Go.Proofs.Yticfidlclofbbaa.Lr
