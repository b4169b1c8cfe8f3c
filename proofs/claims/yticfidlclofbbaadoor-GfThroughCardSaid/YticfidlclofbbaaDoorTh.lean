/- The law GfThrough, in plain lists: through points of unlike x goes one polynomial of a degree below their number, and no other. -/
import Derived.Test.YticfidlclofbbaaDoorLt2
import Derived.Test.YticfidlclofbbaaDoorIn
namespace Go.Proofs.YticfidlclofbbaaDoor.Lt
open Go.RowKit Go.Proofs.YticfidlclofbbaaDoorW.PrintWords FB Go.Proofs.YticfidlclofbbaaDoor.G

theorem shortL_take_zero (l : List F) (n : Nat) (h : n < l.length) (hz : l.getD n 0 = 0) : shortL (l.take (n + 1)) = shortL (l.take n) := by
  rw [List.take_succ_eq_append_getElem h]
  have : l[n] = 0 := by simpa [List.getD_eq_getElem?_getD, h] using hz
  rw [this, shortL_snoc_zero]
theorem shortL_take_ne (l : List F) (n : Nat) (h : n < l.length) (hz : l.getD n 0 ≠ 0) : shortL (l.take (n + 1)) = l.take (n + 1) := by
  rw [List.take_succ_eq_append_getElem h]
  have : l[n] ≠ 0 := by simpa [List.getD_eq_getElem?_getD, h] using hz
  exact shortL_snoc_ne _ _ this
theorem trim_loop (l : List F) (hl : l.length ≤ 140737488355328) : ∀ n : Nat, n ≤ l.length → Ev (fun k => fareboxlaw32_trim.l0 k (Iz l) (n : Int)) (Iz (shortL (l.take n))) := by
  intro n
  induction n with
  | zero =>
    intro _
    refine Ev.step (f := fun _ => some (Iz (shortL (l.take 0)))) (fun k => ?_) (Ev.now _)
    simp only [fareboxlaw32_trim.l0]
    rw [if_neg (by omega), if_pos (by omega), if_pos (by omega)]
    rfl
  | succ n ih =>
    intro hn
    have e1 : wrap64 (((n + 1 : Nat) : Int) - 1) = (n : Int) := by rw [w64 _ (by omega) (by omega)]; omega
    by_cases hz : l.getD n 0 = 0
    · rw [shortL_take_zero l n (by omega) hz]
      refine Ev.step (f := fun k => fareboxlaw32_trim.l0 k (Iz l) (n : Int)) (fun k => ?_) (ih (by omega))
      simp only [fareboxlaw32_trim.l0]
      rw [e1, if_pos (by omega), if_pos (by omega), if_pos (by rw [Iz_length]; omega), rd_IzN, hz, if_pos zF_zero]
    · rw [shortL_take_ne l n (by omega) hz]
      refine Ev.step (f := fun _ => some (Iz (l.take (n + 1)))) (fun k => ?_) (Ev.now _)
      simp only [fareboxlaw32_trim.l0]
      rw [e1, if_pos (by omega), if_pos (by omega), if_pos (by rw [Iz_length]; omega), rd_IzN, if_neg (fun h => hz (zF_eq_zero.1 h)), if_pos (by omega), if_pos (by rw [Iz_length]; omega), Iz_take]
      rfl
theorem trim_ev (l : List F) (hl : l.length ≤ 140737488355328) : Ev (fun k => fareboxlaw32_trim.f k (Iz l)) (Iz (shortL l)) := by
  have := trim_loop l hl l.length (Nat.le_refl _)
  rw [List.take_length] at this
  refine Ev.congr (fun k => ?_) this
  unfold fareboxlaw32_trim.f
  rw [Iz_length]

theorem Ev.ifT {α : Type} {c : Prop} [Decidable c] {f g : Nat → Option α} {r : α} (h : c) (e : Ev f r) : Ev (fun k => if c then f k else g k) r := Ev.congr (fun _ => if_pos h) e
theorem Ev.ifF {α : Type} {c : Prop} [Decidable c] {f g : Nat → Option α} {r : α} (h : ¬ c) (e : Ev g r) : Ev (fun k => if c then f k else g k) r := Ev.congr (fun _ => if_neg h) e
theorem evL_shortL (l : List F) (x : F) : evL (shortL l) x = evL l x := by
  rw [← evL_of_below (shortL l) x l.length (shortL_length l), of_shortL]; rfl
theorem nxt (i : Nat) (h : i ≤ 140737488355328) : wrap64 ((i : Int) + 1) = ((i + 1 : Nat) : Int) := by rw [w64 _ (by omega) (by omega)]; omega
theorem tk1 (l : List F) (i : Nat) (h : i < l.length) : l.take (i + 1) = l.take i ++ [l.getD i 0] := by
  rw [List.take_succ_eq_append_getElem h]; simp [List.getD_eq_getElem?_getD, h]
theorem Iz_one (a : F) : [zF a] = Iz [a] := rfl
theorem l4_ev (X Y Q : List F) (hl : X.length = Y.length) (hn : X.Nodup) (hQ : Q.length ≤ X.length) (hv : ∀ j, j < X.length → evL Q (X.getD j 0) = Y.getD j 0) (d : Nat) : ∀ i : Nat, X.length - i = d → i ≤ X.length →
    Ev (fun k => fareboxlaw32_GfThrough.l4 k (Iz X) (Iz Y) (Iz Q) (i : Int)) true := by
  have h256 := F.nodup_length hn
  induction d with
  | zero =>
    intro i hd hi
    refine Ev.step (fun k => by simp only [fareboxlaw32_GfThrough.l4]; rw [if_neg (by rw [Iz_length]; omega)]) ?_
    by_cases h0 : X.length = 0
    · refine Ev.ifT (by rw [Iz_length]; omega) ?_
      refine Ev.bind (f := fun _ t => some (t == 1)) (mul_ev 1 1) ?_
      rw [F.mul_one]; exact Ev.now _
    · refine Ev.ifF (by rw [Iz_length]; omega) (Ev.ifT (by rw [Iz_length]; omega) ?_)
      have e0 : rd (Iz X) 0 = zF (X.getD 0 0) := rd_IzN X 0
      have e1 : rd (Iz Y) 0 = zF (Y.getD 0 0) := rd_IzN Y 0
      refine Ev.congr (fun k => by rw [Option.bind_some, e0, e1, Iz_one, Iz_one, ← Iz_append]) ?_
      refine Ev.ifT (by rw [Iz_length, Iz_length]; simp; omega) (Ev.ifT (by rw [Iz_length]; omega) ?_)
      refine Ev.congr (fun k => by rw [Option.bind_some, ← Iz_append]) ?_
      refine Ev.ifT (by rw [Iz_length, Iz_length]; simp; omega) ?_
      refine Ev.bind (interp_twice (X ++ [X.getD 0 0]) (Y ++ [Y.getD 0 0]) (by simp [hl]) (by simp; omega) (fun h => ?_)) ?_
      · have h2 := List.nodup_append.1 h
        refine h2.2.2 (X.getD 0 0) ?_ _ (List.mem_singleton.2 rfl) rfl
        rw [List.getD_eq_getElem?_getD, List.getElem?_eq_getElem (show 0 < X.length by omega)]
        exact List.getElem_mem _
      · have e2 : ([1] : List Int) = Iz [1] := rfl
        refine Ev.congr (fun k => by rw [Option.bind_some, e2, ← Iz_append]) ?_
        refine Ev.ifT (by rw [Iz_length, Iz_length]; simp; omega) ?_
        refine Ev.bind (interp_odd X (Y ++ [1]) (by simp; omega)) ?_
        refine Ev.ifF (by decide) ?_
        exact Ev.now _
  | succ d ih =>
    intro i hd hi
    refine Ev.step (fun k => by simp only [fareboxlaw32_GfThrough.l4]; rw [if_pos (by rw [Iz_length]; omega), if_pos (by omega), rd_IzN, rd_IzN, nxt i (by omega)]) ?_
    refine Ev.bind (polyEval_ev Q (X.getD i 0) (by omega)) ?_
    refine Ev.ifT (by rw [Iz_length]; omega) (Ev.ifT (by rw [hv i (by omega)]) ?_)
    exact ih (i + 1) (by omega) (by omega)
theorem l3_ev (X Y C : List F) (hl : X.length = Y.length) (hn : X.Nodup) (hC : C.length ≤ X.length) (d : Nat) : ∀ i : Nat, X.length - i = d → i ≤ X.length →
    Ev (fun k => fareboxlaw32_GfThrough.l3 k (Iz X) (Iz Y) (Iz ((X.take i).map (evL C))) (Iz C) (i : Int)) true := by
  have h256 := F.nodup_length hn
  induction d with
  | zero =>
    intro i hd hi
    obtain rfl : i = X.length := by omega
    rw [List.take_length]
    obtain ⟨Q, sQ, lQ, vQ, hQ⟩ := interp_ev X Y hl hn
    obtain ⟨R, sR, lR, vR, hR⟩ := interp_ev X (X.map (evL C)) (by simp) hn
    have hRC : R = shortL C := by
      refine short_unique hn sR (short_shortL C) lR (Nat.le_trans (shortL_length C) hC) (fun x hx => ?_)
      obtain ⟨j, hj, rfl⟩ := List.mem_iff_getElem.1 hx
      have h1 := vR j hj
      have e1 : X.getD j 0 = X[j] := by simp [List.getD_eq_getElem?_getD, hj]
      have e2 : (X.map (evL C)).getD j 0 = evL C X[j] := by simp [List.getD_eq_getElem?_getD, hj]
      rw [e1, e2] at h1
      rw [h1, evL_shortL]
    refine Ev.step (fun k => by simp only [fareboxlaw32_GfThrough.l3]; rw [if_neg (by rw [Iz_length]; omega)]) ?_
    refine Ev.bind hQ (Ev.bind hR ?_)
    refine Ev.ifT rfl (Ev.ifT rfl (Ev.ifF (by rw [Iz_length, Iz_length]; omega) ?_))
    have ls := shortL_length C
    refine Ev.bind (trim_ev C (by omega)) ?_
    rw [hRC]
    refine Ev.bind (same_ev (shortL C) (shortL C) (by omega)) ?_
    rw [decide_eq_true rfl]
    refine Ev.step (fun k => by simp only [fareboxlaw32_GfThrough.j6]; rw [if_neg (by decide)]) ?_
    exact l4_ev X Y Q hl hn lQ vQ X.length 0 (by omega) (by omega)
  | succ d ih =>
    intro i hd hi
    refine Ev.step (fun k => by simp only [fareboxlaw32_GfThrough.l3]; rw [if_pos (by rw [Iz_length]; omega), if_pos (by omega), rd_IzN, nxt i (by omega)]) ?_
    refine Ev.bind (polyEval_ev C (X.getD i 0) (by omega)) ?_
    refine Ev.congr (fun k => by rw [Option.bind_some, Iz_one, ← Iz_append]) ?_
    refine Ev.ifT (by rw [Iz_length, Iz_length]; simp; omega) ?_
    have h3 := ih (i + 1) (by omega) (by omega)
    rw [tk1 X i (by omega), List.map_append] at h3
    exact h3
theorem l2_ev (p X Y : List F) (hl : X.length = Y.length) (hn : X.Nodup) (d : Nat) : ∀ i : Nat, p.length - i = d → i ≤ p.length → i ≤ X.length →
    Ev (fun k => fareboxlaw32_GfThrough.l2 k (Iz p) (Iz X) (Iz Y) [] (Iz (p.take i)) (i : Int)) true := by
  have h256 := F.nodup_length hn
  have hgo : ∀ C : List F, C.length ≤ X.length → Ev (fun k => fareboxlaw32_GfThrough.j4 k (Iz X) (Iz Y) [] (Iz C)) true := by
    intro C hC
    have h3 := l3_ev X Y C hl hn hC X.length 0 (by omega) (by omega)
    rw [List.take_zero] at h3
    exact Ev.step (fun k => by simp only [fareboxlaw32_GfThrough.j4]; rfl) h3
  induction d with
  | zero =>
    intro i hd hi hx
    refine Ev.step (fun k => by simp only [fareboxlaw32_GfThrough.l2]; rw [if_neg (by rw [Iz_length]; omega)]) ?_
    exact hgo _ (by rw [List.length_take]; omega)
  | succ d ih =>
    intro i hd hi hx
    refine Ev.step (fun k => by simp only [fareboxlaw32_GfThrough.l2]; rw [if_pos (by rw [Iz_length]; omega)]) ?_
    by_cases h : i < X.length
    · refine Ev.ifT (by rw [Iz_length]; omega) (Ev.ifT (by omega) ?_)
      refine Ev.congr (fun k => by rw [Option.bind_some, rd_IzN, Iz_one, ← Iz_append, nxt i (by omega)]) ?_
      refine Ev.ifT (by rw [Iz_length, Iz_length, List.length_take]; simp; omega) ?_
      have h3 := ih (i + 1) (by omega) (by omega) (by omega)
      rw [tk1 p i (by omega)] at h3
      exact h3
    · refine Ev.ifF (by rw [Iz_length]; omega) ?_
      exact hgo _ (by rw [List.length_take]; omega)
theorem l1_ev (xs ys p X Y : List F) (i : Nat) (hi : i < xs.length) (hi2 : i < ys.length) (hb : xs.length ≤ 140737488351232) (hl : X.length = Y.length) (hn : X.Nodup)
    (hgo : ∀ X' Y' : List F, X'.length = Y'.length → X'.Nodup → Ev (fun k => fareboxlaw32_GfThrough.l0 k (Iz xs) (Iz ys) (Iz p) (Iz X') (Iz Y') ((i + 1 : Nat) : Int)) true) (d : Nat) : ∀ (j : Nat) (b : Bool), X.length - j = d → j ≤ X.length → (b = true ↔ xs.getD i 0 ∉ X.take j) →
    Ev (fun k => fareboxlaw32_GfThrough.l1 k (Iz xs) (Iz ys) (Iz p) (Iz X) (Iz Y) (i : Int) b (j : Int)) true := by
  have h256 := F.nodup_length hn
  induction d with
  | zero =>
    intro j b hd hj hbb
    obtain rfl : j = X.length := by omega
    rw [List.take_length] at hbb
    refine Ev.step (fun k => by simp only [fareboxlaw32_GfThrough.l1]; rw [if_neg (by rw [Iz_length]; omega), nxt i (by omega)]) ?_
    cases b with
    | false => exact Ev.ifF (by decide) (hgo X Y hl hn)
    | true =>
      refine Ev.ifT rfl (Ev.ifT (by omega) (Ev.ifT (by rw [Iz_length]; omega) ?_))
      refine Ev.congr (fun k => by rw [Option.bind_some, rd_IzN, rd_IzN, Iz_one, Iz_one, ← Iz_append]) ?_
      refine Ev.ifT (by rw [Iz_length, Iz_length]; simp; omega) (Ev.ifT (by rw [Iz_length]; omega) ?_)
      refine Ev.congr (fun k => by rw [Option.bind_some, ← Iz_append]) ?_
      refine Ev.ifT (by rw [Iz_length, Iz_length]; simp; omega) ?_
      refine hgo _ _ (by simp [hl]) (List.nodup_append.2 ⟨hn, List.nodup_cons.2 ⟨List.not_mem_nil, List.nodup_nil⟩, fun a ha c hc => ?_⟩)
      rw [List.mem_singleton] at hc
      rintro rfl
      exact hbb.1 rfl (hc ▸ ha)
  | succ d ih =>
    intro j b hd hj hbb
    have htk := tk1 X j (by omega)
    cases b with
    | true =>
      refine Ev.step (fun k => by simp only [fareboxlaw32_GfThrough.l1]; rw [if_pos (by rw [Iz_length]; omega), if_pos trivial, if_pos (by omega), if_pos (by omega), if_pos (by rw [Iz_length]; omega), rd_IzN, rd_IzN, nxt j (by omega)]) (ih (j + 1) _ (by omega) (by omega) ?_)
      have h1 := hbb.1 rfl
      rw [htk, List.mem_append, List.mem_singleton, bne_iff_ne, Ne, zF_inj]
      constructor
      · rintro h (h2 | h2)
        · exact h1 h2
        · exact h h2.symm
      · intro h h2
        exact h (.inr h2.symm)
    | false =>
      refine Ev.step (fun k => by simp only [fareboxlaw32_GfThrough.l1]; rw [if_pos (by rw [Iz_length]; omega), if_neg (by decide), nxt j (by omega)]) (ih (j + 1) false (by omega) (by omega) ?_)
      have h1 : xs.getD i 0 ∈ X.take j := Decidable.byContradiction (fun h => by simpa using hbb.2 h)
      rw [htk]
      exact ⟨fun e => Bool.noConfusion e, fun h => absurd (List.mem_append_left _ h1) h⟩
theorem l0_ev (xs ys p : List F) (hb : xs.length ≤ 140737488351232) (d : Nat) : ∀ (i : Nat) (X Y : List F), xs.length - i = d → i ≤ xs.length → X.length = Y.length → X.Nodup →
    Ev (fun k => fareboxlaw32_GfThrough.l0 k (Iz xs) (Iz ys) (Iz p) (Iz X) (Iz Y) (i : Int)) true := by
  have hend : ∀ (i : Nat) (X Y : List F), X.length = Y.length → X.Nodup → Ev (fun k => fareboxlaw32_GfThrough.j1 k (Iz xs) (Iz ys) (Iz p) (Iz X) (Iz Y) [] [] (i : Int) false) true := by
    intro i X Y hl hn
    refine Ev.step (fun k => by simp only [fareboxlaw32_GfThrough.j1]; rw [if_neg (by decide)]) ?_
    have h2 := l2_ev p X Y hl hn p.length 0 (by omega) (by omega) (by omega)
    rw [List.take_zero] at h2
    exact h2
  induction d with
  | zero =>
    intro i X Y hd hi hl hn
    exact Ev.step (fun k => by simp only [fareboxlaw32_GfThrough.l0]; rw [if_neg (by rw [Iz_length]; omega)]) (hend i X Y hl hn)
  | succ d ih =>
    intro i X Y hd hi hl hn
    refine Ev.step (fun k => by simp only [fareboxlaw32_GfThrough.l0]; rw [if_pos (by rw [Iz_length]; omega)]) ?_
    by_cases hy : i < ys.length
    · refine Ev.ifT (by rw [Iz_length]; omega) ?_
      by_cases h6 : i < 600
      · rw [decide_eq_true (by omega)]
        refine Ev.step (fun k => by simp only [fareboxlaw32_GfThrough.j1]; rw [if_pos trivial]) ?_
        exact l1_ev xs ys p X Y i (by omega) hy hb hl hn (fun X' Y' h1 h2 => ih (i + 1) X' Y' (by omega) (by omega) h1 h2) X.length 0 true (by omega) (by omega) (by simp)
      · rw [decide_eq_false (by omega)]
        exact hend i X Y hl hn
    · exact Ev.ifF (by rw [Iz_length]; omega) (hend i X Y hl hn)
theorem through_ev (xs ys p : List F) (hb : xs.length ≤ 140737488351232) : Ev (fun k => fareboxlaw32_GfThrough.f k (Iz xs) (Iz ys) (Iz p)) true := l0_ev xs ys p hb xs.length 0 [] [] (by omega) (by omega) rfl List.nodup_nil
theorem u8s_bd {l : List Int} (h : ∀ x ∈ l, (Lit.int .u8 x).wf = true) : ∀ x ∈ l, 0 ≤ x ∧ x < 256 := fun x hx => by
  have := h x hx
  have h2 : 0 ≤ x ∧ x ≤ 255 := by simpa [Lit.wf, IntKind.min, IntKind.max, IntKind.signed, IntKind.bits] using this
  omega
theorem gfThrough_walk (A0 : Option Addr) (c0 : Nat) (l0 : List Int) (A1 : Option Addr) (c1 : Nat) (l1 : List Int) (A2 : Option Addr) (c2 : Nat) (l2 : List Int) (w : World) (hr0 : Kd.C (Kd.int .u8) w A0 l0.length l0) (hc0 : l0.length ≤ c0) (y0 : l0.length * 1 ≤ 140737488351232) (w0 : ∀ x ∈ l0, (Lit.int .u8 x).wf = true) (hr1 : Kd.C (Kd.int .u8) w A1 l1.length l1) (hc1 : l1.length ≤ c1) (_y1 : l1.length * 1 ≤ 140737488351232) (w1 : ∀ x ∈ l1, (Lit.int .u8 x).wf = true) (hr2 : Kd.C (Kd.int .u8) w A2 l2.length l2) (hc2 : l2.length ≤ c2) (_y2 : l2.length * 1 ≤ 140737488351232) (w2 : ∀ x ∈ l2, (Lit.int .u8 x).wf = true) (ht : TabW w) :
    Calls Tryd.prog 6 #[.slice A0 l0.length c0, .slice A1 l1.length c1, .slice A2 l2.length c2] w fun e w' => e = .returned (.bool true) ∧ Below w.heap.size w w' := by
  obtain ⟨p, rfl⟩ := Iz_of (u8s_bd w0)
  obtain ⟨q, rfl⟩ := Iz_of (u8s_bd w1)
  obtain ⟨r, rfl⟩ := Iz_of (u8s_bd w2)
  obtain ⟨k, hk⟩ := (through_ev p q r (by rw [Iz_length] at y0; omega)).rounds
  exact fareboxlaw32_GfThrough.calls k A0 c0 _ A1 c1 _ A2 c2 _ true w hr0 hc0 hr1 hc1 hr2 hc2 hk ht
end Go.Proofs.YticfidlclofbbaaDoor.Lt
