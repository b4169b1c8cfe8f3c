import Derived.Test.YtgcibhbhbgoacaaDoorCm
import Derived.Test.YtgcibhbhbgoacaaDoorMt
import Derived.Test.YtgcibhbhbgoacaaDoorSvb
import Derived.StillTailTactics
import Derived.Deep.QuietTactic
import Derived.BigQuiet
import Derived.Deep.RegionHeld3
import Derived.Deep.DrawnRows
import Derived.Test.YtgcibhbhbgoacaaDoorVa
import Derived.Test.YtgcibhbhbgoacaaDoorSv
namespace Go.Proofs.YtgcibhbhbgoacaaDoor
open Go.Proofs.YtgcibhbhbgoacaaDoor.G FB
open Go.RowKit Go.Proofs.YtgcibhbhbgoacaaDoorW.PrintWords Go.Proofs.YtgcibhbhbgoacaaDoorW.PrintLast Go.Proofs.YtgcibhbhbgoacaaDoorW.PrintMore
set_option linter.unusedVariables false
set_option linter.unusedSimpArgs false

set_option maxHeartbeats 8000000 in
set_option maxRecDepth 100000 in
theorem solve0.calls (w : World) : Calls Tryd.prog 65 #[.slice none 0 0] w fun e w' => ∃ v0 : Value, e = .returned (.tuple #[v0, .bool true]) ∧ Kd.R (Kd.int .u8) 5 w' w.heap.size (fun _ => True) v0 [] ∧ Below w.heap.size w w' := by
  go_enter Tryd.func65, Tryd.ntmps65
  go_wp2
  go_loopg [18] 1 (fun kq v18 w' => v18 = .int .i64 0 ∧ w' = w)
  case atStart => exact ⟨rfl, rfl⟩
  case round =>
    obtain ⟨rfl, rfl⟩ := hrel
    go_wp2_with ((with_reducible refine gate_dst (N := 135) rfl ?_); refine Kd.R_make (Kd.int .u8) wr.heap.size 5 rfl (N := 135) rfl 22 _ _ rfl 0 rfl rfl Tryd.underlying22 (.int .u8 0) 1 info5 rfl (by decide) (by omega) 0 (ok := fun _ => True) (okp := fun _ => True) rfl (fun _ hk => hk) trivial (by omega) (by simp) (Below.refl _ _) (Nat.le_refl _) ?_; intro v1 w5 ho hb hg hnew; clear hg hnew; have HO := Aside0.mk ho; have HB := Aside0.mk hb; clear ho hb)
    go_loopg [138] 1 (fun kq v138 w' => v138 = .int .i64 0 ∧ w' = w5)
    case atStart => exact ⟨rfl, rfl⟩
    case round =>
      obtain ⟨rfl, rfl⟩ := hrel
      go_wp2
      go_ret2
      exact ⟨v1, rfl, HO.out, HB.out⟩
end Go.Proofs.YtgcibhbhbgoacaaDoor

namespace Go.Proofs.YtgcibhbhbgoacaaDoor
open Go.Proofs.YtgcibhbhbgoacaaDoor.G FB
open Go.RowKit Go.Proofs.YtgcibhbhbgoacaaDoorW.PrintWords Go.Proofs.YtgcibhbhbgoacaaDoorW.PrintLast Go.Proofs.YtgcibhbhbgoacaaDoorW.PrintMore
set_option linter.unusedVariables false
set_option linter.unusedSimpArgs false

theorem info22 : (Tryd.prog.info? 22).map (fun i => (i.zero, i.size, i.bytes)) = some (some (.slice none 0 0), 1, 24) := by kernel_rfl
structure RowsW (w : World) (base : Nat) (v : Value) (r m : Nat) (bs cc : Nat → Nat) (M : Nat → Nat → F) : Prop where
  own : w.ownsRow base 22 1 v r ((List.range r).map fun i => Value.slice (some ⟨bs i, 0, none⟩) m (cc i))
  row : ∀ i, i < r → (Kd.int .u8).R 5 w base (fun _ => True) (.slice (some ⟨bs i, 0, none⟩) m (cc i)) ((List.range m).map fun j => zF (M i j))
  inj : ∀ i j, i < r → j < r → bs i = bs j → i = j
theorem RowsW.nil (w : World) (base m : Nat) (bs cc : Nat → Nat) (M : Nat → Nat → F) : RowsW w base (.slice none 0 0) 0 m bs cc M :=
  ⟨World.ownsRow_nil _ _ _ _, fun i hi => by omega, fun i j hi => by omega⟩
theorem own_below {w w' : World} {base e size n : Nat} {v : Value} {xs : List Value} (h : w.ownsRow base e size v n xs) (hb : Below w.heap.size w w') : w'.ownsRow base e size v n xs := by
  refine ⟨h.1, ?_⟩
  rcases h.2 with h0 | ⟨g, cap, cur, h1, h2, h3, h4⟩
  · exact .inl h0
  · exact .inr ⟨g, cap, cur, h1, h2, (hb.block g (blk_lt h3)).trans h3, h4⟩
theorem RowsW.below {w w' : World} {base : Nat} {v : Value} {r m : Nat} {bs cc : Nat → Nat} {M : Nat → Nat → F} (h : RowsW w base v r m bs cc M) (hb : Below w.heap.size w w') : RowsW w' base v r m bs cc M :=
  ⟨own_below h.own hb, fun i hi => Kd.R_below (h.row i hi) hb, h.inj⟩
theorem RowsW.push {W w1 : World} {base : Nat} {v v1 : Value} {r m : Nat} {bs cc : Nat → Nat} {M : Nat → Nat → F} (h : RowsW W base v r m bs cc M) {g c B1 : Nat} (hm : 0 < m)
    (hr : (Kd.int .u8).R 5 W B1 (fun _ => True) (.slice (some ⟨g, 0, none⟩) m c) ((List.range m).map fun j => zF (M r j))) (hB : ∀ i, i < r → bs i < B1) (hbase : base ≤ B1)
    (hown : w1.ownsRow base 22 1 v1 (r + 1) (((List.range r).map fun i => Value.slice (some ⟨bs i, 0, none⟩) m (cc i)) ++ [Value.slice (some ⟨g, 0, none⟩) m c])) (hg : W.grownBy w1 v.ownBlock) :
    RowsW w1 base v1 (r + 1) m (fun i => if i = r then g else bs i) (fun i => if i = r then c else cc i) M := by
  have hgB : B1 ≤ g := Kd.R_base hr g rfl
  have hty : ∀ k, v.ownBlock = some k → ∃ cells, W.heap[k]? = some (.cells cells 22 (0, 0)) := fun k hk => own_typed h.own k hk
  refine ⟨?_, fun i hi => ?_, fun i j hi hj e => ?_⟩
  · have e1 : (List.range (r + 1)).map (fun i => Value.slice (some ⟨if i = r then g else bs i, 0, none⟩) m (if i = r then c else cc i)) = ((List.range r).map fun i => Value.slice (some ⟨bs i, 0, none⟩) m (cc i)) ++ [Value.slice (some ⟨g, 0, none⟩) m c] := by
      rw [List.range_succ, List.map_append]
      congr 1
      · exact List.map_congr_left fun i hi => by rw [List.mem_range] at hi; rw [if_neg (by omega), if_neg (by omega)]
      · simp
    rw [e1]
    exact hown
  · by_cases e : i = r
    · subst e
      simp only [if_true]
      exact Kd.R_lower (Kd.R_over' hr hty (fun q hq => by simp [Kd.int, Kd.scalar] at hq; omega) hg) hbase
    · simp only [if_neg e]
      exact Kd.R_over' (h.row i (by omega)) hty (fun q hq => by simp [Kd.int, Kd.scalar] at hq; omega) hg
  · have e : (if i = r then g else bs i) = (if j = r then g else bs j) := e
    by_cases e1 : i = r
    · by_cases e2 : j = r
      · omega
      · rw [if_pos e1, if_neg e2] at e
        have := hB j (by omega)
        omega
    · by_cases e2 : j = r
      · rw [if_neg e1, if_pos e2] at e
        have := hB i (by omega)
        omega
      · rw [if_neg e1, if_neg e2] at e
        exact h.inj i j (by omega) (by omega) e
theorem RowsW.lt {w : World} {base : Nat} {v : Value} {r m : Nat} {bs cc : Nat → Nat} {M : Nat → Nat → F} (h : RowsW w base v r m bs cc M) : ∀ i, i < r → bs i < w.heap.size :=
  fun i hi => Kd.R_lt (h.row i hi) _ rfl
theorem frozen_typed {w : World} {g e : Nat} {cells : Array Value} (h : w.heap[g]? = some (.cells cells e (0, 0))) (a : Addr) (ha : a.block = g) : w.frozen? a = false := by
  subst ha
  simp [World.frozen?, h]
theorem plain_add (g j : Nat) : (⟨g, 0, none⟩ : Addr).add j = ⟨g, j, none⟩ := by unfold Addr.add; split <;> simp_all
theorem RowsW.mat {w : World} {base : Nat} {v : Value} {r m : Nat} {bs cc : Nat → Nat} {M : Nat → Nat → F} (h : RowsW w base v r m bs cc M) (hr : 0 < r) (hm : 0 < m) :
    ∃ g c, v = .slice (some ⟨g, 0, none⟩) r c ∧ r ≤ c ∧ base ≤ g ∧ Mat w ⟨g, 0, none⟩ (fun i => ⟨bs i, 0, none⟩) cc r m (zM M) ∧ (∀ i, i < r → m ≤ cc i) ∧ ∀ i, i < r → base ≤ bs i := by
  obtain ⟨g, c, he, hgb, hgl⟩ := h.own.form hr
  have hown := h.own
  rw [he] at hown
  obtain ⟨cg, hcg⟩ := own_typed h.own g (by rw [he]; rfl)
  have hrc : r ≤ c := by
    rcases hown.2 with ⟨h0, _⟩ | ⟨g', cap, cur, h1, _, _, h4, _⟩
    · cases h0
    · injection h1 with _ _ e3; omega
  refine ⟨g, c, he, hrc, hgb, ⟨fun i hi => ?_, fun i j hi hj => ?_, rfl, fun _ _ => rfl, fun i hi e => ?_, fun i j hi hj e => h.inj i j hi hj e, fun a ha => ?_⟩, fun i hi => (Kd.R_reads' (h.row i hi)).2.1, fun i hi => Kd.R_base (h.row i hi) _ rfl⟩
  · exact h.own.cells (g := g) (by rw [he]; rfl) i _ (by simp [hi])
  · have h1 := (Kd.R_celln 0 (h.row i hi) (j : Int) (by omega) (by omega)).1
    rw [Int.toNat_natCast] at h1
    rw [plain_add, h1]
    simp [rdOf, zM, hj]
  · obtain ⟨ci, hci⟩ := Kd.R_typed (h.row i hi) (bs i) rfl
    have e' : bs i = g := e
    rw [e', hcg] at hci
    injection hci with hci
    injection hci with _ h2
    cases h2
  · rcases ha with e | ⟨i, hi, e⟩
    · exact frozen_typed hcg a e
    · obtain ⟨ci, hci⟩ := Kd.R_typed (h.row i hi) (bs i) rfl
      exact frozen_typed hci a e
/-- the decoder's struct: the word, the number of check bytes, the holes, the syndromes, the turned syndromes -/
structure DecW (w : World) (D : Nat) (Aw : Option Addr) (cw : Nat) (W : List F) (check : Nat) (Ah : Option Addr) (ch : Nat) (H : List Nat) (As : Option Addr) (cs : Nat) (S : List F) : Prop where
  c0 : w.cell? ⟨D, 0, none⟩ = some (.slice Aw W.length cw)
  c1 : w.cell? ⟨D, 1, none⟩ = some (.int .i64 check)
  c2 : w.cell? ⟨D, 2, none⟩ = some (.slice Ah H.length ch)
  c3 : w.cell? ⟨D, 3, none⟩ = some (.slice As S.length cs)
  rW : (Kd.int .u8).C w Aw W.length (Iz W)
  rH : (Kd.int .i64).C w Ah H.length (H.map Int.ofNat)
  rS : (Kd.int .u8).C w As S.length (Iz S)
  kW : W.length ≤ cw
  kH : H.length ≤ ch
  kS : S.length ≤ cs
theorem DecW.below {w w' : World} {D : Nat} {Aw : Option Addr} {cw : Nat} {W : List F} {check : Nat} {Ah : Option Addr} {ch : Nat} {H : List Nat} {As : Option Addr} {cs : Nat} {S : List F} (h : DecW w D Aw cw W check Ah ch H As cs S) (hb : Below w.heap.size w w') : DecW w' D Aw cw W check Ah ch H As cs S :=
  { h with
    c0 := (hb.cell (World.block_lt_of_cell? _ _ h.c0)).trans h.c0
    c1 := (hb.cell (World.block_lt_of_cell? _ _ h.c1)).trans h.c1
    c2 := (hb.cell (World.block_lt_of_cell? _ _ h.c2)).trans h.c2
    c3 := (hb.cell (World.block_lt_of_cell? _ _ h.c3)).trans h.c3
    rW := Kd.C_below h.rW hb
    rH := Kd.C_below h.rH hb
    rS := Kd.C_below h.rS hb }
structure TurnW (w : World) (D : Nat) (At : Option Addr) (ct : Nat) (T : List F) : Prop where
  c4 : w.cell? ⟨D, 4, none⟩ = some (.slice At T.length ct)
  rT : (Kd.int .u8).C w At T.length (Iz T)
  kT : T.length ≤ ct
theorem TurnW.below {w w' : World} {D : Nat} {At : Option Addr} {ct : Nat} {T : List F} (h : TurnW w D At ct T) (hb : Below w.heap.size w w') : TurnW w' D At ct T :=
  { h with
    c4 := (hb.cell (World.block_lt_of_cell? _ _ h.c4)).trans h.c4
    rT := Kd.C_below h.rT hb }
theorem C_cellF {w : World} {A : Option Addr} {L : List F} (h : (Kd.int .u8).C w A L.length (Iz L)) {i : Nat} (hi : i < L.length) : ∃ ad, A = some ad ∧ w.cell? (ad.add i) = some (.int .u8 (zF (L.getD i 0))) := by
  have h' : (Kd.int .u8).C w A (Iz L).length (Iz L) := by rw [Iz_length]; exact h
  obtain ⟨ad, e, hc⟩ := Kd.at_int h' (i : Int) (by omega) (by rw [Iz_length]; omega)
  refine ⟨ad, e, ?_⟩
  rw [Int.toNat_natCast, rd_IzN] at hc
  exact hc
theorem loc_exp (n p : Nat) (hp : p < n) (hn : n ≤ 255) : gf_Exp.f ((n : Int) - 1 - p) = some (zF (loc n p)) := by
  rw [exp_at _ (by simp [Lit.wf, IntKind.min, IntKind.max, IntKind.signed, IntKind.bits]; omega)]
  unfold expF loc
  rw [show (((n : Int) - 1 - p) % 255).toNat = (n - 1 - p) by omega]
set_option maxHeartbeats 8000000 in
theorem locator.calls {D n c : Nat} {A : Option Addr} {p : Nat} {w : World} (h : w.cell? ⟨D, 0, none⟩ = some (.slice A n c)) (hp : p < n) (hn : n ≤ 255) (ht : TabW w) :
    Calls Tryd.prog 64 #[.pointer (some ⟨D, 0, none⟩), .int .i64 p] w fun e w' => e = .returned (.int .u8 (zF (loc n p))) ∧ Drawn0 w w' := by
  have HT := Aside0.mk ht
  clear ht
  have hx := loc_exp n p hp hn
  have HX := Aside0.mk hx
  clear hx
  go_enter Tryd.func64, Tryd.ntmps64
  go_wp2_with (go_at_call 35; (with_reducible refine (gf_Exp.calls _ _ _ HX.out HT.out).mono ?_); rintro e w' ⟨rfl, ⟨nd, rfl⟩⟩)
  go_ret
  exact ⟨rfl, ⟨nd, rfl⟩⟩
end Go.Proofs.YtgcibhbhbgoacaaDoor

namespace Go.Proofs.YtgcibhbhbgoacaaDoor
open Go.Proofs.YtgcibhbhbgoacaaDoor.G FB
open Go.RowKit Go.Proofs.YtgcibhbhbgoacaaDoorW.PrintWords Go.Proofs.YtgcibhbhbgoacaaDoorW.PrintLast Go.Proofs.YtgcibhbhbgoacaaDoorW.PrintMore

theorem solveR.calls (w0 : World) {w : World} {v : Value} {e : Nat} {bs cc : Nat → Nat} {M : Nat → Nat → F} (h : RowsW w w0.heap.size v e (e + 1) bs cc M) (h0 : e = 0 → v = .slice none 0 0) (he : e ≤ 64) (ht : TabW w) (h2 : 2 ≤ w0.heap.size) (hb : Below w0.heap.size w0 w) :
    Calls Tryd.prog 65 #[v] w fun en w' => ∃ v0 : Value, en = .returned (.tuple #[v0, .bool (solveM e e 0 M).isSome]) ∧ Kd.R (Kd.int .u8) 5 w' w.heap.size (fun _ => True) v0 (((solveM e e 0 M).map fun M' => (List.range e).map fun i => zF (M' i e)).getD []) ∧ Below w0.heap.size w0 w' := by
  rcases Nat.eq_zero_or_pos e with h3 | h3
  · subst h3
    rw [h0 rfl]
    refine (solve0.calls w).mono ?_
    rintro en w' ⟨v0, rfl, hr, hb1⟩
    exact ⟨v0, rfl, hr, hb.trans (hb1.mono hb.size)⟩
  · obtain ⟨g, c, rfl, hc, hg, hM, hcc, hbs⟩ := h.mat h3 (by omega)
    refine (solve.calls w0 ⟨g, 0, none⟩ e c h3 he hc (fun i => ⟨bs i, 0, none⟩) cc M w hM hcc ⟨Nat.le_trans h2 hg, fun i hi => Nat.le_trans h2 (hbs i hi)⟩ ht hb ⟨hg, hbs⟩).mono ?_
    rintro en w' ⟨v0, rfl, hr, hk⟩
    exact ⟨v0, rfl, hr, hk.bel⟩
end Go.Proofs.YtgcibhbhbgoacaaDoor
