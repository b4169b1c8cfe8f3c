/- The calls of law34.RsDecodes, told over rows that are known by the range of their blocks and by the type of what they hold. -/
import Derived.Test.YtgcibhbhbgoacaaDoorDw
import Derived.Test.YtgcibhbhbgoacaaDoorIr
namespace Go.Proofs.YtgcibhbhbgoacaaDoor
open Go.Proofs.YtgcibhbhbgoacaaDoor.G FB
open Go.RowKit Go.Proofs.YtgcibhbhbgoacaaDoorW.PrintWords Go.Proofs.YtgcibhbhbgoacaaDoorW.PrintLast Go.Proofs.YtgcibhbhbgoacaaDoorW.PrintMore
set_option linter.unusedVariables false
def Ty (t : TypeId) (w : World) (k : Nat) : Prop := ∃ cells, w.heap[k]? = some (.cells cells t (0, 0))
/-- a row of numbers of the call's own, in a block between lo and hi -/
def RwI (w0 w : World) (lo hi : Nat) (v : Value) (xs : List Int) : Prop := Kd.R (Kd.int .i64) 3 w w0.heap.size (fun k => lo ≤ k ∧ k < hi) v xs
section
variable {w0 w w1 : World} {lo hi lo2 hi2 nb base : Nat} {v u vh : Value} {xs ys hs : List Int} {ok S : Nat → Prop}
theorem R_ty (h : Kd.R (Kd.int .u8) 5 w base ok v xs) : ∀ k, v.ownBlock = some k → Ty 5 w k := fun k hk => by
  obtain ⟨_, _, _, q, hq, cells, hc⟩ := (Kd.R_bound h).1 k hk
  rcases List.mem_cons.1 hq with rfl | hq
  · exact ⟨cells, hc⟩
  · cases (show q ∈ ([] : List TypeId) from hq)
theorem RI_ty (h : Kd.R (Kd.int .i64) 3 w base ok v xs) : ∀ k, v.ownBlock = some k → Ty 3 w k := fun k hk => by
  obtain ⟨_, _, _, q, hq, cells, hc⟩ := (Kd.R_bound h).1 k hk
  rcases List.mem_cons.1 hq with rfl | hq
  · exact ⟨cells, hc⟩
  · cases (show q ∈ ([] : List TypeId) from hq)
theorem Ty.ne {k : Nat} (h : Ty 5 w k) (h2 : Ty 3 w k) : False := by
  obtain ⟨a, ha⟩ := h
  obtain ⟨b, hb⟩ := h2
  rw [ha] at hb
  injection hb with e
  injection e with _ e2
  exact absurd e2 (by decide)
theorem RwI.rd (h : RwI w0 w lo hi v xs) : RdI w v xs := RdI.of_R h
theorem RwI.below (h : RwI w0 w lo hi v xs) (hb : Below w.heap.size w w1) : RwI w0 w1 lo hi v xs := Kd.R_below h hb
theorem RwI.kept (h : RwI w0 w lo hi v xs) (hk : Kept w w1 S) (hs : ∀ k, S k → k < lo ∨ hi ≤ k) : RwI w0 w1 lo hi v xs := Kd.R_kept h hk fun k hk2 hS => by have := hs k hS; omega
theorem RwI.kept5 (h : RwI w0 w lo hi v xs) (hk : Kept w w1 S) (hs : ∀ k, S k → Ty 5 w k) : RwI w0 w1 lo hi v xs := by
  have h2 : Kd.R (Kd.int .i64) 3 w w0.heap.size (fun k => (lo ≤ k ∧ k < hi) ∧ Ty 3 w k) v xs := Kd.R_mono (Kd.R_tight rfl h) fun k hk2 => ⟨h.1 k hk2.symm, RI_ty h k hk2.symm⟩
  exact Kd.R_mono (Kd.R_kept h2 hk fun k hk2 hS => (hs k hS).ne hk2.2) fun k hk2 => hk2.1
theorem Rw.kept3 (h : Rw w0 w lo hi v xs) (hk : Kept w w1 S) (hs : ∀ k, S k → Ty 3 w k) : Rw w0 w1 lo hi v xs := by
  have h2 : Kd.R (Kd.int .u8) 5 w w0.heap.size (fun k => (lo ≤ k ∧ k < hi) ∧ Ty 5 w k) v xs := Kd.R_mono (Kd.R_tight rfl h) fun k hk2 => ⟨h.1 k hk2.symm, R_ty h k hk2.symm⟩
  exact Kd.R_mono (Kd.R_kept h2 hk fun k hk2 hS => hk2.2.ne (hs k hS)) fun k hk2 => hk2.1
theorem Tr.kept3 (h : Tr w0 w lo hi v xs) (hk : Kept w w1 S) (hs : ∀ k, S k → Ty 3 w k) : Tr w0 w1 lo hi v xs :=
  h.map fun u ys e hR => by
    have h2 : Kd.R (Kd.int .u8) 5 w w0.heap.size (fun k => (lo ≤ k ∧ k < hi) ∧ Ty 5 w k) u ys := Kd.R_mono (Kd.R_tight rfl hR) fun k hk2 => ⟨hR.1 k hk2.symm, R_ty hR k hk2.symm⟩
    exact Kd.R_mono (Kd.R_kept h2 hk fun k hk2 hS => hk2.2.ne (hs k hS)) fun k hk2 => hk2.1
theorem RwI.of_new (h : Kd.R (Kd.int .i64) 3 w1 w.heap.size (fun _ => True) v xs) (h0 : w0.heap.size ≤ w.heap.size) (hn : nb ≤ w.heap.size) : RwI w0 w1 nb w1.heap.size v xs :=
  Kd.R_lower (Kd.R_mono (Kd.R_bound h) fun k hk => ⟨Nat.le_trans hn hk.2.1, hk.2.2.1⟩) h0
theorem Rw.of_new2 (h : Kd.R (Kd.int .u8) 5 w1 w.heap.size (fun _ => True) v xs) (h0 : w0.heap.size ≤ w.heap.size) (hn : nb ≤ w.heap.size) : Rw w0 w1 nb w1.heap.size v xs :=
  Kd.R_lower (Kd.R_mono (Kd.R_bound h) fun k hk => ⟨Nat.le_trans hn hk.2.1, hk.2.2.1⟩) h0
theorem sameI_w (k : Nat) (r : Bool) (ha : RdI w v xs) (hb : RdI w u ys) (h : fareboxlaw34_sameInts.f k xs ys = some r) :
    Calls Tryd.prog 26 #[v, u] w fun e w' => e = .returned (.bool r) ∧ Below w.heap.size w w' := by
  obtain ⟨A, c, rfl, hc, hC⟩ := ha
  obtain ⟨B, d, rfl, hd, hD⟩ := hb
  exact (fareboxlaw34_sameInts.calls k A c xs B d ys r w hC hc hD hd h).mono fun e w' ⟨he, hb⟩ => ⟨he, hb.below⟩
theorem syn_w (k : Nat) (n : Int) (r1 : List Int) (r2 : Int) (hd : Rd w u xs) (h : rs_Syndromes.f k xs n = some (r1, r2)) (ht : TabW w) (h0 : w0.heap.size ≤ w.heap.size) (hn : nb ≤ w.heap.size) :
    Calls Tryd.prog 22 #[u, .int .i64 n] w fun e w' => ∃ v nb2, e = .returned (.tuple #[v, .int .i64 r2]) ∧ Below w.heap.size w w' ∧ nb ≤ nb2 ∧ nb2 ≤ w'.heap.size ∧ Rw w0 w' nb nb2 v r1 := by
  obtain ⟨A, c, rfl, hc, hC⟩ := hd
  exact (rs_Syndromes.calls k A c xs n r1 r2 w hC hc h ht).mono fun e w' ⟨v, he, ho, hb⟩ => ⟨v, w'.heap.size, he, hb, Nat.le_trans hn hb.size, Nat.le_refl _, Rw.of_new2 ho h0 hn⟩
theorem rsyn_n (k : Nat) (n : Int) (r1 : List Int) (r2 : Int) (hd : Rd w u xs) (h : Rd.fareboxref34_Syndromes.f k xs n = some (r1, r2)) (h0 : w0.heap.size ≤ w.heap.size) (hn : nb ≤ w.heap.size) :
    Calls Tryd.prog 23 #[u, .int .i64 n] w fun e w' => ∃ v nb2, e = .returned (.tuple #[v, .int .i64 r2]) ∧ Below w.heap.size w w' ∧ nb ≤ nb2 ∧ nb2 ≤ w'.heap.size ∧ Rw w0 w' nb nb2 v r1 :=
  (rsyn_w k n r1 r2 hd h).mono fun e w' ⟨v, he, hb, ho⟩ => ⟨v, w'.heap.size, he, hb, Nat.le_trans hn hb.size, Nat.le_refl _, Rw.of_new2 ho h0 hn⟩
theorem dec_w (W : List F) (n : Int) (r1 : List F) (r2 : List Nat) (r3 : Int) (hdec : decR W n hs = (r1, r2, r3)) (hhl : hs.length ≤ 17592186044415) (hd : Rd w u (Iz W)) (hh : RdI w vh hs) (ht : TabW w) (h0 : w0.heap.size ≤ w.heap.size) (hn : nb ≤ w.heap.size) :
    Calls Tryd.prog 24 #[u, .int .i64 n, vh] w fun e w' => ∃ v1 v2 nb2, e = .returned (.tuple #[v1, v2, .int .i64 r3]) ∧ Below w.heap.size w w' ∧ nb ≤ nb2 ∧ nb2 ≤ w'.heap.size ∧ Rw w0 w' nb nb2 v1 (Iz r1) ∧ RwI w0 w' nb nb2 v2 (r2.map Int.ofNat) := by
  obtain ⟨A, c, rfl, hc, hC⟩ := hd
  obtain ⟨B, d, rfl, hd, hD⟩ := hh
  refine (rs_Decode.calls A c (Iz W) n B d hs (Iz r1) (r2.map Int.ofNat) r3 w hC hc hD hd (by rw [rs_Decode.at W n hs hhl, hdec]) ht).mono fun e w' ⟨v1, v2, he, h1, h2, hb⟩ => ?_
  exact ⟨v1, v2, w'.heap.size, he, hb, Nat.le_trans hn hb.size, Nat.le_refl _, Rw.of_new2 h1 h0 hn, RwI.of_new h2 h0 hn⟩
theorem rdec_w (W : List F) (n : Int) (r1 : List F) (r2 : List Nat) (r3 : Int) (hdec : decR W n hs = (r1, r2, r3)) (hW : W.length ≤ 140737488351232) (hhl : hs.length ≤ 17592186044415) (hd : Rd w u (Iz W)) (hh : RdI w vh hs) (h0 : w0.heap.size ≤ w.heap.size) (hn : nb ≤ w.heap.size) :
    Calls Tryd.prog 25 #[u, .int .i64 n, vh] w fun e w' => ∃ v1 v2 nb2, e = .returned (.tuple #[v1, v2, .int .i64 r3]) ∧ Below w.heap.size w w' ∧ nb ≤ nb2 ∧ nb2 ≤ w'.heap.size ∧ Rw w0 w' nb nb2 v1 (Iz r1) ∧ RwI w0 w' nb nb2 v2 (r2.map Int.ofNat) :=
  (fareboxref34_Decode.full W n hs r1 r2 r3 hdec hW hhl u vh w hd hh).mono fun e w' ⟨v1, v2, he, hb, h1, h2⟩ => ⟨v1, v2, w'.heap.size, he, hb, Nat.le_trans hn hb.size, Nat.le_refl _, Rw.of_new2 h1 h0 hn, RwI.of_new h2 h0 hn⟩
theorem let_k (ho : Rw w0 w lo hi v xs) (hB : Below w0.heap.size w0 w) (hbd : xs.length ≤ 140737488351232) :
    Calls Tryd.prog 16 #[v] w fun e w' => ∃ n ys, e = .returned (.int .i64 n) ∧ ys.length = xs.length ∧ Below w0.heap.size w0 w' ∧ Rw w0 w' lo hi v ys ∧ Kept w w' (fun k => (lo ≤ k ∧ k < hi) ∧ Ty 5 w k) :=
  (fareboxlaw34_let.calls _ v xs w0 w hB ho hbd).mono fun e w' ⟨⟨n, he⟩, hb, ⟨ys, hl, hR⟩, hk⟩ =>
    ⟨n, ys, he, hl, hb, Kd.R_mono hR (fun k hk2 => ho.1 k hk2.symm), hk.mono (fun k hk2 => ⟨ho.1 k hk2.symm, R_ty ho k hk2.symm⟩)⟩
theorem turn_k (k : Nat) (p q : List Int) (ha : Tr w0 w lo hi v xs) (hB : Below w0.heap.size w0 w) (hn : nb ≤ w.heap.size) (h : Re.fareboxlaw34_turned.f k xs = some (p, q)) :
    Calls Tryd.prog 20 #[v] w fun e w' => ∃ u nb2, e = .returned u ∧ Below w0.heap.size w0 w' ∧ nb ≤ nb2 ∧ nb2 ≤ w'.heap.size ∧ Rw w0 w' nb nb2 u p ∧ Tr w0 w' lo hi v q ∧ Kept w w' (fun k => (lo ≤ k ∧ k < hi) ∧ Ty 5 w k) := by
  have hown : ∀ k, v.ownBlock = some k → lo ≤ k ∧ k < hi := (Tl.R ha).1
  have hty := R_ty (Tl.R ha)
  have hat : Tl w w0.heap.size (fun k => some k = v.ownBlock) marks v xs := ha.map fun u ys e hR => by rw [← e]; exact Kd.R_tight rfl hR
  refine (fareboxlaw34_turned.full k _ v xs p q marks w0 w hB hat h).mono fun e w' ⟨u, he, hu, hv, hb, hk⟩ => ?_
  refine ⟨u, w'.heap.size, he, hb, Nat.le_trans hn hk.1, Nat.le_refl _, ?_, ?_, hk.mono (fun k hk2 => ⟨hown k hk2.symm, hty k hk2.symm⟩)⟩
  · exact Kd.R_mono (Kd.R_bound hu) fun k hk2 => ⟨(hk2.1.1).elim (fun h => absurd h hk2.1.2) (fun h => Nat.le_trans hn h), hk2.2.2.1⟩
  · exact hv.map fun u ys e hR => Kd.R_mono (Kd.R_tight rfl hR) fun k hk2 => hown k (by rw [← e]; exact hk2.symm)
theorem rooms_k (ha : Rw w0 w lo hi v xs) (hb : Rw w0 w lo2 hi2 u ys) (hne : hi ≤ lo2 ∨ hi2 ≤ lo) (hB : Below w0.heap.size w0 w) (hla : xs.length ≤ 140737488351232) (hlb : ys.length ≤ 140737488351232) :
    Calls Tryd.prog 19 #[v, u] w fun e w' => e = .returned (.bool true) ∧ Below w0.heap.size w0 w' ∧ Rw w0 w' lo hi v xs ∧ Rw w0 w' lo2 hi2 u ys ∧ Kept w w' (fun k => ((lo ≤ k ∧ k < hi) ∨ (lo2 ≤ k ∧ k < hi2)) ∧ Ty 5 w k) := by
  refine (fareboxlaw34_rooms.calls _ _ v u xs ys w0 w hB ha hb (fun k h1 h2 => by have := ha.1 k h1; have := hb.1 k h2; omega) hla hlb).mono fun e w' ⟨he, h1, h2, h3, h4⟩ => ?_
  exact ⟨he, h1, Kd.R_mono h2 fun k hk => ha.1 k hk.symm, Kd.R_mono h3 fun k hk => hb.1 k hk.symm, h4.mono fun k hk => hk.elim (fun e => ⟨.inl (ha.1 k e.symm), R_ty ha k e.symm⟩) (fun e => ⟨.inr (hb.1 k e.symm), R_ty hb k e.symm⟩)⟩
theorem irooms_k (ha : RwI w0 w lo hi v xs) (hb : RwI w0 w lo2 hi2 u ys) (hne : hi ≤ lo2 ∨ hi2 ≤ lo) (hB : Below w0.heap.size w0 w) (hla : xs.length ≤ 17592186044000) (hlb : ys.length ≤ 17592186044000) :
    Calls Tryd.prog 27 #[v, u] w fun e w' => e = .returned (.bool true) ∧ Below w0.heap.size w0 w' ∧ RwI w0 w' lo hi v xs ∧ RwI w0 w' lo2 hi2 u ys ∧ Kept w w' (fun k => ((lo ≤ k ∧ k < hi) ∨ (lo2 ≤ k ∧ k < hi2)) ∧ Ty 3 w k) := by
  refine (fareboxlaw34_intRooms.calls _ _ v u xs ys w0 w hB ha hb (fun k h1 h2 => by have := ha.1 k h1; have := hb.1 k h2; omega) hla hlb).mono fun e w' ⟨he, h1, h2, h3, h4⟩ => ?_
  exact ⟨he, h1, Kd.R_mono h2 fun k hk => ha.1 k hk.symm, Kd.R_mono h3 fun k hk => hb.1 k hk.symm, h4.mono fun k hk => hk.elim (fun e => ⟨.inl (ha.1 k e.symm), RI_ty ha k e.symm⟩) (fun e => ⟨.inr (hb.1 k e.symm), RI_ty hb k e.symm⟩)⟩
theorem RdI.pre {A : Option Addr} {n m c : Nat} {z : Int} (h : RwI w0 w lo hi (.slice A m c) (xs ++ [z])) (hn : n = xs.length) : RdI w (.slice A n c) xs := by
  subst hn
  have h2 := Kd.R_take (m := xs.length) h (by rw [List.length_append]; omega)
  rw [List.take_left] at h2
  exact RdI.of_R h2
theorem gap_cell {ad : Addr} {n m c : Nat} {z : Int} (h : RwI w0 w lo hi (.slice (some ad) m c) (xs ++ [z])) (hn : n = xs.length) : w.cell? (ad.add n) = some (.int .i64 z) := by
  subst hn
  obtain ⟨ad1, e1, hx⟩ := Kd.at_int (Kd.R_reads' h).2.2 (xs.length : Int) (by omega) (by rw [List.length_append, List.length_singleton]; omega)
  cases e1
  rw [Int.toNat_natCast] at hx
  rw [hx]
  congr 2
  unfold rd
  rw [Int.toNat_natCast, List.getD_eq_getElem?_getD, List.getElem?_append_right (Nat.le_refl _), Nat.sub_self]
  rfl
end
end Go.Proofs.YtgcibhbhbgoacaaDoor
