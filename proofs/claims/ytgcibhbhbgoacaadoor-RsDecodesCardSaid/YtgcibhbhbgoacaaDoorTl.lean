import Derived.Test.YtgcibhbhbgoacaaDoorRe
import Derived.Test.YtgcibhbhbgoacaaDoorG0
import Derived.Maps.AppendAt
namespace Go.Proofs.YtgcibhbhbgoacaaDoor
open Go.RowKit Go.Proofs.YtgcibhbhbgoacaaDoorW.PrintWords Go.Proofs.YtgcibhbhbgoacaaDoorW.PrintLast Go.Proofs.YtgcibhbhbgoacaaDoorW.PrintMore
def Tl (w : World) (base : Nat) (ok : Nat → Prop) (tl : List Int) (v : Value) (xs : List Int) : Prop :=
  ∃ A c, v = .slice A xs.length c ∧ xs.length + tl.length ≤ c ∧ Kd.R (Kd.int .u8) 5 w base ok (.slice A (xs.length + tl.length) c) (xs ++ tl)
section
variable {w w1 : World} {base n c : Nat} {ok ok' : Nat → Prop} {tl xs : List Int} {v u v1 : Value} {A : Option Addr}
theorem own_same {A : Option Addr} {n m c : Nat} : (Value.slice A n c).ownBlock = (Value.slice A m c).ownBlock := by cases A <;> rfl
theorem Tl.R (h : Tl w base ok tl v xs) : Kd.R (Kd.int .u8) 5 w base ok v xs := by
  obtain ⟨A, c, rfl, hl, hR⟩ := h
  have := Kd.R_take (m := xs.length) hR (by rw [List.length_append]; omega)
  rwa [List.take_left] at this
theorem Tl.map (h : Tl w base ok tl v xs) (hm : ∀ u ys, u.ownBlock = v.ownBlock → Kd.R (Kd.int .u8) 5 w base ok u ys → Kd.R (Kd.int .u8) 5 w1 base ok' u ys) : Tl w1 base ok' tl v xs := by
  obtain ⟨A, c, rfl, hl, hR⟩ := h
  exact ⟨A, c, rfl, hl, hm _ _ own_same hR⟩
theorem Tl.mono (h : Tl w base ok tl v xs) (hok : ∀ k, ok k → ok' k) : Tl w base ok' tl v xs := h.map fun _ _ _ hR => Kd.R_mono hR hok
theorem Tl.below (h : Tl w base ok tl v xs) (hb : Below w.heap.size w w1) : Tl w1 base ok tl v xs := h.map fun _ _ _ hR => Kd.R_below hR hb
theorem Tl.alloc (h : Tl w base ok tl v xs) (o : Obj) : Tl (w.alloc o) base ok tl v xs := h.map fun _ _ _ hR => Kd.R_alloc hR o
theorem Tl.drew (h : Tl w base ok tl v xs) : Tl w.drew base ok tl v xs := h.map fun _ _ _ hR => Kd.R_drew hR
theorem Tl.drewN (h : Tl w base ok tl v xs) (m : Nat) : Tl (w.drewN m) base ok tl v xs := h.map fun _ _ _ hR => Kd.R_drewN hR m
theorem Tl.after {u : Value} (h : Tl w base (fun k => ok k ∧ some k ≠ u.ownBlock) tl v xs) (hg : w.grownBy w1 u.ownBlock) (hat : v1.ownBlock = u.ownBlock ∨ ∃ b, v1.ownBlock = some b ∧ w.heap.size ≤ b) : Tl w1 base (fun k => ok k ∧ some k ≠ v1.ownBlock) tl v xs :=
  h.map fun _ _ _ hR => Kd.R_after hR hg hat
theorem Tl.kept {S : Nat → Prop} {w2 : World} (h : Tl w base ok tl v xs) (hk : Kept w w2 S) (hne : ∀ k, ok k → ¬ S k) : Tl w2 base ok tl v xs := h.map fun _ _ _ hR => Kd.R_kept hR hk hne
theorem Tl.putg {g : Nat} (h : Tl w base ok tl (.slice (some ⟨g, 0, none⟩) n c) xs) (i : Int) (x : Int) (h0 : 0 ≤ i) (h1 : i < (xs.length : Int)) :
    Tl (w.setCell ⟨g, i.toNat, none⟩ (.int .u8 x)) base ok tl (.slice (some ⟨g, 0, none⟩) n c) (xs.set i.toNat x) ∧ w.grownBy (w.setCell ⟨g, i.toNat, none⟩ (.int .u8 x)) (some g) := by
  obtain ⟨A, c', e, hl, hR⟩ := h
  injection e with ea en ec
  subst ea en ec
  obtain ⟨p1, p2⟩ := Kd.R_putg hR i x
  refine ⟨⟨_, _, by rw [List.length_set], by rw [List.length_set]; exact hl, ?_⟩, p2⟩
  rw [List.length_set, ← List.set_append_left _ _ (by omega)]
  exact p1
end
end Go.Proofs.YtgcibhbhbgoacaaDoor

namespace Go.Proofs.YtgcibhbhbgoacaaDoor
open Go.RowKit Go.Proofs.YtgcibhbhbgoacaaDoorW.PrintWords
theorem run_append_keeps {P : Program} {w : World} (base : Nat) (t ty e : TypeId) (i : TypeInfo) (z : Value) (bytes : Nat) (ht : P.underlying t = some (.slice e)) (hi : P.info? e = some i) (hz : i.zero = some z)
    (hsize : i.size = 1) (hby : i.bytes = bytes) (v : Value) (n : Nat) (xs : List Value) (hown : w.ownsRow base e 1 v n xs) (a : Addr) (m c : Nat) (news : List Value) (hl : news.length = m)
    (hnews : ∀ j u, news[j]? = some u → w.cell? (a.add j) = some u) (h1 : ∀ u ∈ news, u.oneCell' = true) (h63 : n + m ≤ maxLen) (hbytes : (n + m) * bytes ≤ 140737488355328) (v' : Value) (w' : World)
    (hr : (Builtin.append_ #[t, t] ty #[v, .slice (some a) m c]).run P w = .ok v' w') : w'.ownsRow base e 1 v n xs := by
  have hsmall : n + m ≤ 9223372036854775807 := by simp only [maxLen] at h63; omega
  have hl1 : news.length = m * i.size := by rw [hl, hsize, Nat.mul_one]
  obtain ⟨hxl, hcase⟩ := hown
  rcases hcase with ⟨rfl, hn⟩ | ⟨g, cap, cur, rfl, hbg, hg, hnc, hcm, hcs, htake⟩
  · exact ⟨hxl, .inl ⟨rfl, hn⟩⟩
  · by_cases hroom : n + m ≤ cap
    · have hfit : n * i.size + news.length ≤ cur.size := by rw [hl, hcs, hsize]; omega
      have hr2 := run_append_room (P := P) w t ty e i ht hi g n cap cur hg a m c news hl1 hnews h1 hroom hfit
      rw [hr2] at hr
      injection hr with e1 e2
      rw [← e2]
      refine ⟨hxl, .inr ⟨g, cap, _, rfl, hbg, setRow_heap w g cur _ e _ hg, hnc, hcm, ?_, ?_⟩⟩
      · simp only [List.size_toArray, List.length_append, List.length_take, List.length_drop, Array.length_toList, hsize]
        omega
      · rw [hsize, ← htake]
        simp only [List.append_assoc]
        rw [List.take_append_of_le_length (by rw [List.length_take, Array.length_toList]; omega), List.take_take, Nat.min_self]
    · have holds : ∀ j u, xs[j]? = some u → w.cell? ((⟨g, 0, none⟩ : Addr).add j) = some u := World.ownsRow.cells (g := g) (show w.ownsRow base e 1 _ n xs from ⟨hxl, .inr ⟨g, cap, cur, rfl, hbg, hg, hnc, hcm, hcs, htake⟩⟩) rfl
      have hr2 := run_append_grow (P := P) w t ty e i z ht hi hz ⟨g, 0, none⟩ n cap xs (by rw [hxl, hsize]) holds a m c news hl1 hnews (by omega) (by omega) (growslice_fits (by omega) (by rw [hby]; exact hbytes))
      rw [hr2] at hr
      injection hr with e1 e2
      rw [← e2]
      refine ⟨hxl, .inr ⟨g, cap, cur, rfl, hbg, ?_, hnc, hcm, hcs, htake⟩⟩
      have hlt : g < w.heap.size := by
        rcases Nat.lt_or_ge g w.heap.size with h | h
        · exact h
        · rw [Array.getElem?_eq_none h] at hg; cases hg
      exact (heap_alloc_old w.drew _ hlt).trans hg
/-- append(v, x) of one number, behind 'at_builtin', with one limb more than R_append has: the elder row reads as before -/
theorem R_appendK {P : Program} {ops : Array Oper} {rest : List Oper} {o : Oper} {a : Act} {Q : Exit → Act → World → Prop} (k : IntKind) {w0 W : World} (base : Nat) (hgd : o.guard = none) (s x : Operand) (t e : TypeId) (z : Value) (bytes : Nat)
    (ho : o.op = .call { callee := .builtin .append, args := #[s, x], argTypes := #[t, t] })
    (ht : P.underlying t = some (.slice e)) (hinfo : (P.info? e).map (fun i => (i.zero, i.size, i.bytes)) = some (some z, 1, bytes)) (hz : z.cells.size = 1) (hb0 : 0 < bytes)
    (v : Value) (xs : List Int) (p : Int) (ok : Nat → Prop) (hs : a.eval s = v) (hx : a.eval x = .slice (some ⟨W.heap.size, 0, none⟩) 1 1)
    (hfresh : ∀ k, W.heap.size ≤ k → ok k) (HO : (Kd.int k).R e W base ok v xs) (HB : Below base w0 W) (hbase : base ≤ W.heap.size) (hl : (xs.length + 1) * bytes ≤ 140737488355328)
    (h : ∀ v1 w1, (Kd.int k).R e w1 base ok v1 (xs ++ [p]) → (Kd.int k).R e w1 base ok v xs → Below base w0 w1 → W.grownBy w1 v.ownBlock → (v1.ownBlock = v.ownBlock ∨ ∃ b, v1.ownBlock = some b ∧ W.heap.size ≤ b) → wpList P ops Q rest (a.put o.dst v1) w1) :
    wpList P ops Q (o :: rest) a (W.alloc (.cells #[.int k p] e)) := by
  obtain ⟨i, hi, hzz⟩ := Option.map_eq_some_iff.1 hinfo
  simp only [Prod.mk.injEq] at hzz
  obtain ⟨hz0, hz1, hz2⟩ := hzz
  have hlen : xs.length + 1 ≤ 140737488355328 := Nat.le_trans (Nat.le_mul_of_pos_right _ hb0) hl
  have hown := (Kd.own_of_R HO).alloc (.cells #[.int k p] e)
  have hnews := cell_one_new W (.int k p) e
  have hone : ∀ u ∈ [Value.int k p], u.oneCell' = true := fun u hu => by rw [List.mem_singleton] at hu; rw [hu]; rfl
  refine wpList_plain hgd fun K hK => ?_
  obtain ⟨v1, w1, hrun, h2, hg, _, hat⟩ := run_append_own_at (P := P) (W.alloc (.cells #[.int k p] e)) base t o.type e i z 1 bytes ht hi hz0 hz1 hz2 hz (by omega) v xs.length _ hown ⟨W.heap.size, 0, none⟩ 1 1 [.int k p] rfl hnews hone (by simp only [maxLen]; omega) hl (by simp; omega)
  have hold := run_append_keeps base t o.type e i z bytes ht hi hz0 hz1 hz2 v xs.length _ hown ⟨W.heap.size, 0, none⟩ 1 1 [.int k p] rfl hnews hone (by simp only [maxLen]; omega) hl v1 w1 hrun
  have hat' : v1.ownBlock = v.ownBlock ∨ ∃ b, v1.ownBlock = some b ∧ W.heap.size ≤ b := by
    rcases hat with hat | hat
    · exact .inl hat
    · exact .inr ⟨_, hat, by simp⟩
  unfold Oper.wp execOp
  simp only [ho, resolve, invoke, builtin, Sem.run_bind, Sem.run_pure, Result.andThen_ok, List.map_toArray, List.map_cons, List.map_nil, hs, hx, hrun]
  refine hK _ _ (h v1 w1 (Kd.R_of_own ?_ fun k hk => ?_) (Kd.R_of_own hold HO.1) ((HB.alloc hbase _).grown hg (by simp; omega) (own_base (Kd.own_of_R HO))) (World.grownBy.trans (World.grownBy_alloc W _ _) hg) hat')
  · rw [List.length_append, List.length_singleton]
    unfold encs at h2 ⊢
    rw [List.map_append]; exact h2
  · rcases hat' with hat | ⟨b, hb, hle⟩
    · exact HO.1 k (hat ▸ hk)
    · rw [hb] at hk
      injection hk with hk
      exact hfresh k (by omega)
/-- a shorter row in the same block reads as before, too -/
theorem R_pre {W w1 : World} {base : Nat} {ok oka : Nat → Prop} {v va : Value} {xs zs : List Int} {k : IntKind} {e : TypeId} (h : (Kd.int k).R e W base ok v (xs ++ zs)) (h1 : (Kd.int k).R e w1 base ok v (xs ++ zs)) (ha : (Kd.int k).R e W base oka va xs) (hg : W.grownBy w1 v.ownBlock) : (Kd.int k).R e w1 base oka va xs := by
  by_cases hb : va.ownBlock = v.ownBlock
  · have o1 := Kd.own_of_R h
    have o2 := Kd.own_of_R ha
    rcases o2.2 with ⟨rfl, hn⟩ | ⟨g, cap, cur, rfl, hbg, hg2, hnc, hcm, hcs, htake⟩
    · obtain rfl : xs = [] := List.eq_nil_of_length_eq_zero hn
      exact Kd.R_nil _ _ _ _ _
    · rcases o1.2 with ⟨rfl, hn⟩ | ⟨g', cap', cur', rfl, hbg', hg2', hnc', hcm', hcs', htake'⟩
      · cases hb
      · obtain rfl : g = g' := by injection hb
        rw [hg2] at hg2'
        injection hg2' with e1
        injection e1 with e1
        subst e1
        obtain rfl : cap = cap' := by omega
        have := Kd.R_take (m := xs.length) h1 (by rw [List.length_append]; omega)
        rw [List.take_left] at this
        exact Kd.R_mono (Kd.R_tight rfl this) (fun k hk => ha.1 k hk.symm)
  · exact Kd.R_mono (Kd.R_grown (Kd.R_tight rfl ha) hg (fun k hk he => hb (hk.symm.trans he))) (fun k hk => ha.1 k hk.symm)
end Go.Proofs.YtgcibhbhbgoacaaDoor

namespace Go.Proofs.YtgcibhbhbgoacaaDoor
open Go.Proofs.YtgcibhbhbgoacaaDoor.G Go.Proofs.YtgcibhbhbgoacaaDoor.Re
open Go.RowKit Go.Proofs.YtgcibhbhbgoacaaDoorW.PrintWords Go.Proofs.YtgcibhbhbgoacaaDoorW.PrintLast Go.Proofs.YtgcibhbhbgoacaaDoorW.PrintMore
set_option linter.unusedVariables false
set_option linter.unusedSimpArgs false
def marks : List Int := List.replicate 80 165
theorem mark_step {l0 x3 y : List Int} {i : Int} (h : x3 = l0 ++ List.replicate i.toNat 165) (h0 : 0 ≤ i) (h1 : i < 80) (hy : y = x3 ++ [165]) : y = l0 ++ List.replicate (wrap64 (i + 1)).toNat 165 ∧ 0 ≤ wrap64 (i + 1) ∧ wrap64 (i + 1) ≤ 80 := by
  have e : wrap64 (i + 1) = i + 1 := by unfold wrap64; omega
  rw [e]
  refine ⟨?_, by omega, by omega⟩
  rw [hy, h, show (i + 1).toNat = i.toNat + 1 by omega, List.replicate_succ', List.append_assoc]
theorem mark_tl {w : World} {base c : Nat} {ok : Nat → Prop} {A : Option Addr} {x3 y l0 tl : List Int} (h : Kd.R (Kd.int .u8) 5 w base ok (.slice A x3.length c) x3) (hx : x3 = l0 ++ tl) (hy : y = l0) : Tl w base ok tl (.slice A y.length c) y := by
  subst hx hy
  have := (Kd.R_reads' h).2.1
  rw [List.length_append] at h this
  exact ⟨A, c, rfl, this, h⟩
theorem mark_end {w : World} {base c : Nat} {ok : Nat → Prop} {A : Option Addr} {x3 y l0 : List Int} {i : Int} (h : Kd.R (Kd.int .u8) 5 w base ok (.slice A x3.length c) x3) (hx : x3 = l0 ++ List.replicate i.toNat 165) (h1 : i ≤ 80) (h2 : ¬ i < 80) (hy : y = x3.take ((l0.length : Int) : Int).toNat) : Tl w base ok marks (.slice A y.length c) y := by
  obtain rfl : i = 80 := by omega
  exact mark_tl h (l0 := l0) hx (by rw [hy, hx, Int.toNat_natCast, List.take_left])
set_option maxHeartbeats 8000000 in
set_option maxRecDepth 100000 in
theorem fareboxlaw34_marked.full (k : Nat) (A0 : Option Addr) (c0 : Nat) (l0 : List Int) (r : List Int) (w : World) (hr0 : Kd.C (Kd.int .u8) w A0 l0.length l0) (hc0 : l0.length ≤ c0) (h : fareboxlaw34_marked.f k l0 = some r) :
    Calls Tryd.prog 12 #[.slice A0 l0.length c0] w fun e w' => ∃ v0_ : Value, e = .returned (v0_) ∧ Tl w' w.heap.size (fun _ => True) marks v0_ r ∧ Below w.heap.size w w' := by
  have HR0 := Aside0.mk hr0
  have HC0 := Aside0.mk hc0
  clear hr0 hc0
  have HB := Aside0.mk (Below.refl w.heap.size w)
  have H : (if ([] : List Int).length + l0.length < 140737488355328 then (fareboxlaw34_marked.l0 k l0 (([] : List Int) ++ l0) 0) else (none)) = some r := h
  clear h
  by_cases c2 : ([] : List Int).length + l0.length < 140737488355328
  · rw [if_pos c2] at H
    have LMc2 := Aside0.mk c2
    clear c2
    obtain ⟨y163, hy163⟩ : ∃ y_ : List Int, y_ = (([] : List Int) ++ l0) := ⟨_, rfl⟩
    replace H : (fareboxlaw34_marked.l0 k l0 y163 0) = some r := by first | (rw [hy163]; with_reducible exact H) | (have H2_ := (Option.bind_some _ _).symm.trans H; rw [hy163]; with_reducible exact H2_) | (have H2_ := (Option.bind_some _ _).symm.trans H; with_reducible exact H2_) | with_reducible exact H | (rw [hy163]; exact H) | exact H
    have Ny163 := Aside0.mk hy163
    clear hy163
    have H' := Aside0.mk H
    clear H
    go_enter Tryd.func12, Tryd.ntmps12
    go_wp2_with (first | ((with_reducible refine gate_builtin (b := .append) (xs := #[.tmp 5, .tmp 6]) rfl ?_); at_builtin; refine Kd.R_append_rows (Kd.int .u8) (w0 := w) w.heap.size rfl (.tmp 5) (.tmp 6) 22 5 (.int .u8 0) 1 rfl Tryd.underlying22 Go.Proofs.YtgcibhbhbgoacaaDoor.Re.info5 rfl (by decide) (by omega) (.slice none 0 0) ([] : List Int) l0 _ _ _ (fun _ => True) (fun _ => False) rfl rfl ?aO ?aR (fun _ _ h => h) (fun _ h => h.elim) ?aF ?aB ?aS ?aL ?_; (case aR => repeat (first | exact HR0.out | (with_reducible refine Kd.C_alloc ?_ _) | (with_reducible refine Kd.C_drewN ?_ _) | (with_reducible refine Kd.C_drew ?_))); (case aB => exact (by repeat (first | (with_reducible first | exact HB.out | apply below_alloc | apply pw_below_drewN | apply below_drew1) | exact HB.out))); (case aF => exact (fun _ _ => trivial)); (case aO => exact ((Kd.R_nil _ _ _ _ (fun _ => True)))); (case aS => exact (below_size (by repeat (first | (with_reducible first | exact HB.out | apply below_alloc | apply pw_below_drewN | apply below_drew1) | exact HB.out)))); (case aL => have := LMc2.out; omega); intro v164 w3 ho hb hg hat; rw [← Ny163.out] at ho; have n0_ := Aside0.mk (hb); have n1_ := Aside0.mk (ho); clear HB; have HB := n0_; have HO165 := n1_; clear n0_ n1_; clear ho hb hg hat))
    go_loopg [3, 4] k (fun kq v3 v4 w' => ∃ (x3_1 : List Int) (x4_1 : Int), v4 = .int .i64 x4_1 ∧ Aside0 (fareboxlaw34_marked.l0 kq l0 x3_1 x4_1 = some r) ∧ Aside0 (kq ≤ k) ∧ Aside0 (Kd.R (Kd.int .u8) 5 w' w.heap.size (fun _ => True) v3 x3_1) ∧ Aside0 (Below w.heap.size w w') ∧ Aside0 (x3_1 = l0 ++ List.replicate x4_1.toNat 165 ∧ 0 ≤ x4_1 ∧ x4_1 ≤ 80))
    case atStart => exact ⟨(y163), (0), (by first | rfl | (simp; done) | (simp [*]; done) | (exfalso; simp_all; done)), H', ⟨Nat.le_refl _⟩, ⟨by (with_reducible repeat (first | apply Kd.R_alloc | apply Kd.R_drewN | apply Kd.R_drew)); exact HO165.out⟩, ⟨by repeat (first | (with_reducible first | exact HB.out | apply below_alloc | apply pw_below_drewN | apply below_drew1) | exact HB.out)⟩, ⟨by simp [Ny163.out], by decide, by decide⟩⟩
    case round =>
      clear H'
      try clear c1
      try clear c2
      try clear p2
      obtain ⟨x3_1, x4_1, rfl, HA, HK1, HO_3, HB, HX⟩ := hrel
      cases gk with
      | zero => exact absurd HA.out (by simp [fareboxlaw34_marked.l0])
      | succ k1 =>
        have H := HA.out
        clear HA
        simp only [fareboxlaw34_marked.l0] at H
        by_cases c4 : x4_1 < 80
        · rw [if_pos c4] at H
          have c4b0 : decide (x4_1 < 80) = true := decide_eq_true c4
          clear c4
          by_cases c5 : x3_1.length < 140737488355328
          · rw [if_pos c5] at H
            have LMc5 := Aside0.mk c5
            clear c5
            obtain ⟨y166, hy166⟩ : ∃ y_ : List Int, y_ = (x3_1 ++ [165]) := ⟨_, rfl⟩
            replace H : (fareboxlaw34_marked.l0 k1 l0 y166 (wrap64 (x4_1 + 1))) = some r := by first | (rw [hy166]; with_reducible exact H) | (have H2_ := (Option.bind_some _ _).symm.trans H; rw [hy166]; with_reducible exact H2_) | (have H2_ := (Option.bind_some _ _).symm.trans H; with_reducible exact H2_) | with_reducible exact H | (rw [hy166]; exact H) | exact H
            have Ny166 := Aside0.mk hy166
            clear hy166
            have H' := Aside0.mk H
            clear H
            go_wp2_with (first | ((with_reducible refine gate_builtin (b := .append) (xs := #[.tmp 12, .tmp 13]) rfl ?_); at_builtin; refine Kd.R_append (Kd.int .u8) (w0 := w) w.heap.size rfl (.tmp 12) (.tmp 13) 22 5 (.int .u8 0) 1 rfl Tryd.underlying22 Go.Proofs.YtgcibhbhbgoacaaDoor.Re.info5 rfl (by decide) (by omega) u3 x3_1 165 [.int .u8 165] (fun _ => True) (fun _ => False) rfl rfl ?aP (fun _ hk => hk.elim) ?aF ?aO ?aB ?aS ?aL ?_; (case aP => exact rfl); (case aB => exact (by repeat (first | (with_reducible first | exact HB.out | apply below_alloc | apply pw_below_drewN | apply below_drew1) | exact HB.out))); (case aF => exact (fun _ _ => trivial)); (case aO => exact (by (with_reducible repeat (first | apply Kd.R_alloc | apply Kd.R_drewN | apply Kd.R_drew)); exact HO_3.out)); (case aS => exact (below_size (by repeat (first | (with_reducible first | exact HB.out | apply below_alloc | apply pw_below_drewN | apply below_drew1) | exact HB.out)))); (case aL => have := LMc5.out; omega); intro v167 w6 ho hb hg hat; rw [← Ny166.out] at ho; have n0_ := Aside0.mk (hb); have n1_ := Aside0.mk (ho); clear HB; clear HO_3; have HB := n0_; have HO168 := n1_; clear n0_ n1_; clear ho hb hg hat))
            go_roundg k1
            case measure => have := HK1.out; omega
            case rel => exact ⟨(y166), (wrap64 (x4_1 + 1)), (by first | rfl | (simp; done) | (simp [*]; done) | (exfalso; simp_all; done)), H', ⟨by have := HK1.out; omega⟩, ⟨by (with_reducible repeat (first | apply Kd.R_alloc | apply Kd.R_drewN | apply Kd.R_drew)); exact HO168.out⟩, ⟨by repeat (first | (with_reducible first | exact HB.out | apply below_alloc | apply pw_below_drewN | apply below_drew1) | exact HB.out)⟩, ⟨mark_step HX.out.1 HX.out.2.1 (of_decide_eq_true c4b0) Ny166.out⟩⟩
          · rw [if_neg c5] at H
            exact absurd H (by simp)
        · rw [if_neg c4] at H
          have c4b0 : decide (x4_1 < 80) = false := decide_eq_false c4
          clear c4
          by_cases c7 : 0 ≤ (l0.length : Int)
          · rw [if_pos c7] at H
            have c7b0 := eq_true c7
            have c7b1 : decide (0 ≤ (l0.length : Int)) = true := decide_eq_true c7
            clear c7
            by_cases c8 : (l0.length : Int) ≤ (x3_1.length : Int)
            · rw [if_pos c8] at H
              have c8b0 := eq_true c8
              have c8b1 : decide ((l0.length : Int) ≤ (x3_1.length : Int)) = true := decide_eq_true c8
              clear c8
              obtain ⟨y169, hy169⟩ : ∃ y_ : List Int, y_ = (x3_1.take ((l0.length : Int) : Int).toNat) := ⟨_, rfl⟩
              replace H : (some y169) = some r := by first | (rw [hy169]; with_reducible exact H) | (have H2_ := (Option.bind_some _ _).symm.trans H; rw [hy169]; with_reducible exact H2_) | (have H2_ := (Option.bind_some _ _).symm.trans H; with_reducible exact H2_) | with_reducible exact H | (rw [hy169]; exact H) | exact H
              have Ny169 := Aside0.mk hy169
              clear hy169
              obtain rfl := Option.some.inj H
              obtain ⟨Ao9, co9, eo9⟩ := Kd.R_slice HO_3.out
              subst eo9
              have q10 : ((l0.length : Int) : Int) ≤ ((x3_1.length : Int) : Int) := of_decide_eq_true (by first | (with_reducible assumption) | assumption)
              obtain ⟨i010, hi010, _, hsz10, _⟩ := info_parts Go.Proofs.YtgcibhbhbgoacaaDoor.Re.info5
              have hcut10 := cut_to (P := Tryd.prog) 22 5 .i64 Tryd.underlying22 hi010 Ao9 x3_1.length co9 (l0.length : Int) (of_decide_eq_true (by first | (with_reducible assumption) | assumption)) q10 (Kd.R_reads' HO_3.out).2.1
              have hr10 := Kd.R_take (m := ((l0.length : Int) : Int).toNat) HO_3.out (by omega)
              have hy10 : y169.length = ((l0.length : Int) : Int).toNat := (by rw [Ny169.out, List.length_take]; omega)
              rw [← Ny169.out] at hr10
              rw [← hy10] at hr10 hcut10
              clear hy10 hi010 hsz10
              have HO171 := Aside0.mk (mark_end HO_3.out HX.out.1 HX.out.2.2 (of_decide_eq_false c4b0) Ny169.out)
              clear HX HO_3
              clear hr10
              replace q10 := eq_true q10
              go_wp2
              go_ret
              exact ⟨_, by first | rfl | (simp [errW_none, errW_some] <;> rfl) | (simp [*, errW_none, errW_some] <;> rfl), by (with_reducible repeat (first | apply Tl.alloc | apply Tl.drewN | apply Tl.drew)); exact HO171.out, by repeat (first | (with_reducible first | exact HB.out | apply below_alloc | apply pw_below_drewN | apply below_drew1) | exact HB.out)⟩
            · rw [if_neg c8] at H
              exact absurd H (by simp)
          · rw [if_neg c7] at H
            exact absurd H (by simp)
  · rw [if_neg c2] at H
    exact absurd H (by simp)

end Go.Proofs.YtgcibhbhbgoacaaDoor

namespace Go.Proofs.YtgcibhbhbgoacaaDoor
open Go.Proofs.YtgcibhbhbgoacaaDoor.G Go.Proofs.YtgcibhbhbgoacaaDoor.Re
open Go.RowKit Go.Proofs.YtgcibhbhbgoacaaDoorW.PrintWords Go.Proofs.YtgcibhbhbgoacaaDoorW.PrintLast Go.Proofs.YtgcibhbhbgoacaaDoorW.PrintMore
set_option linter.unusedVariables false
set_option linter.unusedSimpArgs false
set_option maxHeartbeats 8000000 in
set_option maxRecDepth 100000 in
theorem fareboxlaw34_turned.full (k : Nat) (P0_ : Nat → Prop) (u9000_ : Value) (l0 : List Int) (r1 : List Int) (r2 : List Int) (tl : List Int) (w0 w : World) (hB : Below w0.heap.size w0 w) (ho0 : Tl w w0.heap.size P0_ tl u9000_ l0) (h : fareboxlaw34_turned.f k l0 = some (r1, r2)) :
    Calls Tryd.prog 20 #[u9000_] w fun e w' => ∃ v0_ : Value, e = .returned (v0_) ∧ Kd.R (Kd.int .u8) 5 w' w0.heap.size (fun k_ => (P0_ k_ ∨ w.heap.size ≤ k_) ∧ some k_ ≠ (u9000_ : Value).ownBlock) v0_ r1 ∧ Tl w' w0.heap.size (fun k_ => (P0_ k_ ∨ w.heap.size ≤ k_)) tl u9000_ r2 ∧ Below w0.heap.size w0 w' ∧ Kept w w' (fun k_ => P0_ k_) := by
  have HO0 := Aside0.mk (show Tl w w0.heap.size (fun k_ => (P0_ k_ ∨ w.heap.size ≤ k_)) tl u9000_ l0 from Tl.mono ho0 (fun k_ hk => (.inl hk)))
  have HK := Aside0.mk (Kept.refl w (fun k_ => P0_ k_))
  have HW0 := Aside0.mk hB.size
  have HB := Aside0.mk hB
  clear hB
  have H : (fareboxlaw34_turned.l0 k l0 ([] : List Int) 0) = some (r1, r2) := h
  clear h
  have H' := Aside0.mk H
  clear H
  go_enter Tryd.func20, Tryd.ntmps20
  go_wp2
  go_loopg [3, 4] k (fun kq v3 v4 w' => ∃ (x0_1 : List Int) (x3_1 : List Int) (x4_1 : Int), v4 = .int .i64 x4_1 ∧ Aside0 (fareboxlaw34_turned.l0 kq x0_1 x3_1 x4_1 = some (r1, r2)) ∧ Aside0 (kq ≤ k) ∧ Aside0 (Tl w' w0.heap.size (fun k_ => (P0_ k_ ∨ w.heap.size ≤ k_) ∧ some k_ ≠ (v3 : Value).ownBlock) tl u9000_ x0_1) ∧ Aside0 (Kd.R (Kd.int .u8) 5 w' w0.heap.size (fun k_ => (P0_ k_ ∨ w.heap.size ≤ k_) ∧ some k_ ≠ (u9000_ : Value).ownBlock) v3 x3_1) ∧ Aside0 (Kept w w' (fun k_ => P0_ k_)) ∧ Aside0 (Below w0.heap.size w0 w'))
  case atStart => exact ⟨(l0), (([] : List Int)), (0), (by first | rfl | (simp; done) | (simp [*]; done) | (exfalso; simp_all; done)), H', ⟨Nat.le_refl _⟩, ⟨by (with_reducible repeat (first | apply Tl.alloc | apply Tl.drewN | apply Tl.drew)); exact Tl.mono HO0.out (fun _ hk => ⟨hk, (by simp [Value.ownBlock])⟩)⟩, ⟨by first | exact Kd.R_nil _ _ _ _ _ | exact Kd.N_nil _ _ _ _ _ | exact Kd.V_nil _ _ _ _ _ | exact Kd.Q_nil _ _ _ _ _ | exact Kd.S_nil _ _ _ _ _⟩, ⟨by repeat (first | (with_reducible first | exact HK.out | apply Kept.alloc | apply Kept.drewN | apply Kept.drew) | exact HK.out)⟩, ⟨by repeat (first | (with_reducible first | exact HB.out | apply below_alloc | apply pw_below_drewN | apply below_drew1) | exact HB.out)⟩⟩
  case round =>
    clear H'
    obtain ⟨x0_1, x3_1, x4_1, rfl, HA, HK1, HO_0, HO_3, HK, HB⟩ := hrel
    cases gk with
    | zero => exact absurd HA.out (by simp [fareboxlaw34_turned.l0])
    | succ k1 =>
      have H := HA.out
      clear HA
      simp only [fareboxlaw34_turned.l0] at H
      by_cases c2 : x4_1 < (x0_1.length : Int)
      · rw [if_pos c2] at H
        have c2b0 : decide (x4_1 < (x0_1.length : Int)) = true := decide_eq_true c2
        clear c2
        by_cases c3 : 0 ≤ x4_1
        · rw [if_pos c3] at H
          have c3b0 : decide (0 ≤ x4_1) = true := decide_eq_true c3
          clear c3
          obtain ⟨y173, hy173⟩ : ∃ y_ : List Int, y_ = (x0_1.set (x4_1 : Int).toNat (Go.bits .xor .u8 (rd x0_1 x4_1) ((wrap64 ((Int.tmod x4_1 7) + 1)) % 256))) := ⟨_, rfl⟩
          replace H : (if x3_1.length < 140737488355328 then (fareboxlaw34_turned.l0 k1 y173 (x3_1 ++ [rd y173 x4_1]) (wrap64 (x4_1 + 1))) else (none)) = some (r1, r2) := by first | (rw [hy173]; with_reducible exact H) | (have H2_ := (Option.bind_some _ _).symm.trans H; rw [hy173]; with_reducible exact H2_) | (have H2_ := (Option.bind_some _ _).symm.trans H; with_reducible exact H2_) | with_reducible exact H | (rw [hy173]; exact H) | exact H
          have Ny173 := Aside0.mk hy173
          clear hy173
          by_cases c5 : x3_1.length < 140737488355328
          · rw [if_pos c5] at H
            have LMc5 := Aside0.mk c5
            clear c5
            obtain ⟨y175, hy175⟩ : ∃ y_ : List Int, y_ = (x3_1 ++ [rd y173 x4_1]) := ⟨_, rfl⟩
            replace H : (fareboxlaw34_turned.l0 k1 y173 y175 (wrap64 (x4_1 + 1))) = some (r1, r2) := by first | (rw [hy175]; with_reducible exact H) | (have H2_ := (Option.bind_some _ _).symm.trans H; rw [hy175]; with_reducible exact H2_) | (have H2_ := (Option.bind_some _ _).symm.trans H; with_reducible exact H2_) | with_reducible exact H | (rw [hy175]; exact H) | exact H
            have Ny175 := Aside0.mk hy175
            clear hy175
            have H' := Aside0.mk H
            clear H
            obtain ⟨Ao6, co6, eo6⟩ := Kd.R_slice (Tl.R HO_0.out)
            subst eo6
            have p172 : 0 ≤ (x4_1 : Int) := of_decide_eq_true (by first | (with_reducible assumption) | assumption)
            have q172 : x4_1 < (x0_1.length : Int) := of_decide_eq_true (by first | (with_reducible assumption) | assumption)
            obtain ⟨ad172, e172, hx172_0⟩ := Kd.at_int (Kd.R_reads' (Tl.R HO_0.out)).2.2 x4_1 p172 q172
            cases e172
            replace p172 := eq_true p172
            replace q172 := eq_true q172
            have p4 : 0 ≤ (x4_1 : Int) := of_decide_eq_true (by first | (with_reducible assumption) | assumption)
            have q4 : (x4_1 : Int) < ((x0_1.length : Int) : Int) := of_decide_eq_true (by first | (with_reducible assumption) | assumption)
            obtain ⟨go4, co4, eo4, gb4, gl4, cl4, HG4⟩ := Kd.R_form (Tl.R HO_0.out) (by omega)
            (first | cases eo4 | (injection eo4 with ea_ en_ ec_; (first | subst ea_ | (injection ea_ with ea_; subst ea_)); subst ec_; clear en_))
            have GB4 := Aside0.mk gb4
            have GG4 := Aside0.mk HG4
            clear gb4 gl4 HG4
            have HMgo4 := Aside0.mk (show (P0_ go4 ∨ w.heap.size ≤ go4) from ((Tl.R HO_0.out).1 _ rfl).1)
            (first | simp only [add_plain] at hx172_0 | skip)
            obtain ⟨hx4_0, hf4_0⟩ := Kd.R_celln 0 (Tl.R HO_0.out) (x4_1 : Int) p4 q4
            replace p4 := eq_true p4
            replace q4 := eq_true q4
            have HP7 := Tl.putg HO_0.out (x4_1 : Int) (Go.bits .xor .u8 (rd x0_1 x4_1) ((wrap64 ((Int.tmod x4_1 7) + 1)) % 256)) (of_eq_true p4) (of_eq_true q4)
            go_wp2_with (first | ((with_reducible refine gate_store (t := 5) (p := 22) rfl ?_); refine store_event (t := 5) (p := 22) (v := ?vo_w8) (w1 := (wr.setCell ⟨go4, (x4_1 : Int).toNat, none⟩ (.int .u8 (Go.bits .xor .u8 (rd x0_1 x4_1) ((wrap64 ((Int.tmod x4_1 7) + 1)) % 256))))) ?hg ?ho ?hn ?hr ?_; (case ho => rfl); (case hg => rfl); (case hn => rfl); (case hr => first | (go_simp; done) | (go_simp; rfl)); intro w8 hw; have hg : wr.grownBy w8 (some go4) := (by rw [hw]; exact HP7.2); have hp_ : Tl w8 w0.heap.size (fun k_ => (P0_ k_ ∨ w.heap.size ≤ k_) ∧ some k_ ≠ (u3 : Value).ownBlock) tl (.slice (some ⟨go4, 0, none⟩) x0_1.length co6) y173 := (by rw [hw, Ny173.out]; exact HP7.1); clear HP7; have n0_ := Aside0.mk (hp_); have n1_ := Aside0.mk (Kd.R_after (v := (.slice (some ⟨go4, 0, none⟩) x0_1.length co6)) (v1 := (.slice (some ⟨go4, 0, none⟩) x0_1.length co6)) (ok := (fun k_ => (P0_ k_ ∨ w.heap.size ≤ k_))) (by (with_reducible repeat (first | apply Kd.R_alloc | apply Kd.R_drewN | apply Kd.R_drew)); exact HO_3.out) hg (.inl rfl)); have n2_ := Aside0.mk ((by rw [hw]; exact below_set (HB.out) GB4.out : Below w0.heap.size w0 w8)); have n3_ := Aside0.mk (Kept.of_grown (S := (fun k_ => P0_ k_)) hg (by repeat (first | (with_reducible first | exact HK.out | apply Kept.alloc | apply Kept.drewN | apply Kept.drew) | exact HK.out)) (fun k_ e_ => ((Tl.R HO_0.out).1 k_ e_).1)); clear HO_0; clear HO_3; clear HB; clear HK; have HO_0 := n0_; have HO_3 := n1_; have HB := n2_; have HK := n3_; clear n0_ n1_ n2_ n3_; clear hg hw hp_; have p174 : 0 ≤ (x4_1 : Int) := of_decide_eq_true (by first | (with_reducible assumption) | assumption); have q174 : x4_1 < (y173.length : Int) := (by have h_ : (x4_1 : Int) < ((x0_1.length : Int) : Int) := of_decide_eq_true (by first | (with_reducible assumption) | assumption); first | (have e_ := (Kd.R_reads' (Tl.R HO_0.out)).1; omega) | simpa only [Ny173.out, List.length_set] using h_); have ql174 : ((x4_1 : Int) < ((x0_1.length : Int) : Int)) = True := eq_true (of_decide_eq_true (by first | (with_reducible assumption) | assumption)); obtain ⟨ad174, e174, hx174_0⟩ := Kd.at_int (Kd.R_reads' (Tl.R HO_0.out)).2.2 x4_1 p174 q174; obtain rfl : (⟨go4, 0, none⟩ : Addr) = ad174 := (by injection e174); (first | simp only [add_plain] at hx174_0 | simp only [add_at] at hx174_0 | simp only [Addr.add, Nat.zero_add] at hx174_0 | skip); replace p174 := eq_true p174; replace q174 := eq_true q174) | ((with_reducible refine gate_builtin (b := .append) (xs := #[.tmp 23, .tmp 28]) rfl ?_); at_builtin; refine Kd.R_append (Kd.int .u8) (w0 := w0) w0.heap.size rfl (.tmp 23) (.tmp 28) 22 5 (.int .u8 0) 1 rfl Tryd.underlying22 Go.Proofs.YtgcibhbhbgoacaaDoor.Re.info5 rfl (by decide) (by omega) u3 x3_1 (rd y173 x4_1) [.int .u8 (rd y173 x4_1)] (fun k_ => (P0_ k_ ∨ w.heap.size ≤ k_) ∧ some k_ ≠ (.slice (some ⟨go4, 0, none⟩) x0_1.length co6 : Value).ownBlock) (fun _ => False) rfl rfl ?aP (fun _ hk => hk.elim) ?aF ?aO ?aB ?aS ?aL ?_; (case aP => exact rfl); (case aB => exact (by repeat (first | (with_reducible first | exact HB.out | apply below_alloc | apply pw_below_drewN | apply below_drew1) | exact HB.out))); (case aF => exact (fun k_ hk => ⟨(.inr (Nat.le_trans (by first | exact HK.out.1 | exact (show Kept w _ (fun k_ => P0_ k_) from by repeat (first | (with_reducible first | exact HK.out | apply Kept.alloc | apply Kept.drewN | apply Kept.drew) | exact HK.out)).1) hk)), Kd.fresh' (Kd.R_lt (Tl.R (by (with_reducible repeat (first | apply Tl.alloc | apply Tl.drewN | apply Tl.drew)); exact HO_0.out))) k_ hk⟩)); (case aO => exact (by (with_reducible repeat (first | apply Kd.R_alloc | apply Kd.R_drewN | apply Kd.R_drew)); exact HO_3.out)); (case aS => exact (below_size (by repeat (first | (with_reducible first | exact HB.out | apply below_alloc | apply pw_below_drewN | apply below_drew1) | exact HB.out)))); (case aL => have := LMc5.out; omega); intro v176 w9 ho hb hg hat; rw [← Ny175.out] at ho; have n0_ := Aside0.mk (Tl.after (ok := (fun k_ => (P0_ k_ ∨ w.heap.size ≤ k_))) (by (with_reducible repeat (first | apply Tl.alloc | apply Tl.drewN | apply Tl.drew)); exact HO_0.out) hg hat); have n1_ := Aside0.mk (hb); have n2_ := Aside0.mk (Kept.of_grown (S := (fun k_ => P0_ k_)) hg (by repeat (first | (with_reducible first | exact HK.out | apply Kept.alloc | apply Kept.drewN | apply Kept.drew) | exact HK.out)) (fun k_ e_ => (HO_3.out.1 k_ e_).1)); have n3_ := Aside0.mk (ho); clear HO_0; clear HB; clear HK; clear HO_3; have HO_0 := n0_; have HB := n1_; have HK := n2_; have HO177 := n3_; clear n0_ n1_ n2_ n3_; clear ho hb hg hat))
            go_roundg k1
            case measure => have := HK1.out; omega
            case rel => exact ⟨(y173), (y175), (wrap64 (x4_1 + 1)), (by first | rfl | (simp; done) | (simp [*]; done) | (exfalso; simp_all; done)), H', ⟨by have := HK1.out; omega⟩, ⟨by (with_reducible repeat (first | apply Tl.alloc | apply Tl.drewN | apply Tl.drew)); exact HO_0.out⟩, ⟨by (with_reducible repeat (first | apply Kd.R_alloc | apply Kd.R_drewN | apply Kd.R_drew)); exact HO177.out⟩, ⟨by repeat (first | (with_reducible first | exact HK.out | apply Kept.alloc | apply Kept.drewN | apply Kept.drew) | exact HK.out)⟩, ⟨by repeat (first | (with_reducible first | exact HB.out | apply below_alloc | apply pw_below_drewN | apply below_drew1) | exact HB.out)⟩⟩
          · rw [if_neg c5] at H
            exact absurd H (by simp)
        · rw [if_neg c3] at H
          exact absurd H (by simp)
      · rw [if_neg c2] at H
        have c2b0 : decide (x4_1 < (x0_1.length : Int)) = false := decide_eq_false c2
        clear c2
        simp only [Option.some.injEq, Prod.mk.injEq] at H
        obtain ⟨rfl, rfl⟩ := H
        obtain ⟨Ao10, co10, eo10⟩ := Kd.R_slice (Tl.R HO_0.out)
        subst eo10
        go_wp2
        go_ret
        exact ⟨_, by first | rfl | (simp [errW_none, errW_some] <;> rfl) | (simp [*, errW_none, errW_some] <;> rfl), by (with_reducible repeat (first | apply Kd.R_alloc | apply Kd.R_drewN | apply Kd.R_drew)); exact HO_3.out, by (with_reducible repeat (first | apply Tl.alloc | apply Tl.drewN | apply Tl.drew)); exact Tl.mono HO_0.out (fun _ hk => hk.1), by repeat (first | (with_reducible first | exact HB.out | apply below_alloc | apply pw_below_drewN | apply below_drew1) | exact HB.out), by repeat (first | (with_reducible first | exact HK.out | apply Kept.alloc | apply Kept.drewN | apply Kept.drew) | exact HK.out)⟩

end Go.Proofs.YtgcibhbhbgoacaaDoor

namespace Go.Proofs.YtgcibhbhbgoacaaDoor
open Go.Proofs.YtgcibhbhbgoacaaDoor.G
open Go.RowKit Go.Proofs.YtgcibhbhbgoacaaDoorW.PrintWords Go.Proofs.YtgcibhbhbgoacaaDoorW.PrintLast Go.Proofs.YtgcibhbhbgoacaaDoorW.PrintMore
set_option linter.unusedVariables false
set_option linter.unusedSimpArgs false
theorem cut_cap {P : Program} (t e : TypeId) (kh : IntKind) {i : TypeInfo} (ht : P.underlying t = some (.slice e)) (hi : P.info? e = some i) (A : Option Addr) (n c : Nat) (j : Int) (h0 : 0 ≤ j) (hm : j ≤ c) :
    ∀ W : World, (Instr.slice t (.slice A n c) none (some (.int kh j)) none).run P W = .ok (.slice A j.toNat c) W := by
  intro W
  have hel : P.elem t = e := by simp [Program.elem, ht]
  have hu : P.underlying t = some (.slice (P.elem t)) := by rw [hel]; exact ht
  have ha : (A.map fun x => x.add 0) = A := by cases A <;> simp [Addr.add]
  rw [run_slice_h W t A n c hu kh j h0 (by omega), hel]
  simp [sizeOf, typeInfo, hi, sliced, Result.andThen, ha]
theorem marks_length : marks.length = 80 := List.length_replicate ..
theorem rd_marks (xs : List Int) (i : Int) (h0 : (xs.length : Int) ≤ i) (h1 : i < ((xs ++ marks).length : Int)) : rd (xs ++ marks) i = 165 := by
  rw [List.length_append, marks_length] at h1
  unfold rd marks
  rw [List.getD_eq_getElem?_getD, List.getElem?_append_right (by omega), List.getElem?_replicate, if_pos (by omega)]
  rfl
set_option maxHeartbeats 8000000 in
set_option maxRecDepth 100000 in
theorem fareboxlaw34_left.full (k : Nat) (v : Value) (xs ys : List Int) (B : Option Addr) (cB : Nat) (base : Nat) (ok : Nat → Prop) (r : Bool) (w : World) (hl : Tl w base ok marks v xs) (hb : Kd.C (Kd.int .u8) w B ys.length ys) (hcb : ys.length ≤ cB) (hlen : ys.length = xs.length) (hbd : xs.length ≤ 140737488351232)
    (h : fareboxlaw34_same.f k xs ys = some r) : Calls Tryd.prog 15 #[v, .slice B ys.length cB] w fun e w' => e = .returned (.bool r) ∧ Drawn0 w w' := by
  have hsame := hl.R
  obtain ⟨A, c, rfl, hc, hR⟩ := hl
  have hS := Aside0.mk hsame
  have HB := Aside0.mk hb
  have HCB := Aside0.mk hcb
  have HH := Aside0.mk h
  clear hsame hb hcb h
  have hc80 : xs.length + 80 ≤ c := by rw [marks_length] at hc; exact hc
  obtain ⟨LL, hLL⟩ : ∃ L : List Int, L = xs ++ marks := ⟨_, rfl⟩
  have hLn : LL.length = xs.length + 80 := by rw [hLL, List.length_append, marks_length]
  have hC : Kd.C (Kd.int .u8) w A LL.length LL := by
    have := (Kd.R_reads' hR).2.2
    rw [← hLL] at this
    exact this
  have HC := Aside0.mk hC
  have HM := Aside0.mk (show ∀ i : Int, (xs.length : Int) ≤ i → i < (LL.length : Int) → rd LL i = 165 from fun i a b => by rw [hLL] at b ⊢; exact rd_marks xs i a b)
  clear hC hR hLL hc
  have e1 : IntKind.i64.wrap ((ys.length : Int) + 80) = ((LL.length : Nat) : Int) := by rw [i64_w, hLn, hlen]; unfold wrap64; omega
  have q0 := cut_cap (P := Tryd.prog) 22 5 .i64 Tryd.underlying22 (info_parts Go.Proofs.YtgcibhbhbgoacaaDoor.Re.info5).choose_spec.1 A xs.length c (LL.length : Int) (by omega) (by rw [hLn]; omega)
  rw [Int.toNat_natCast] at q0
  have HL := Aside0.mk hLn
  have HE := Aside0.mk hlen
  have HD := Aside0.mk hbd
  have HL2 := Aside0.mk (show LL.length ≤ 140737488351332 from by omega)
  clear hLn hlen hbd hc80
  go_enter Tryd.func15, Tryd.ntmps15
  go_wp2
  repeat (go_quiet (fail); try go_wp2)
  go_loopg [6] 80 (fun kq v6 w' => ∃ (j : Int), v6 = .int .i64 j ∧ Aside0 ((ys.length : Int) ≤ j ∧ j + kq = (LL.length : Int)) ∧ Drawn0 w w')
  case atStart => exact ⟨(ys.length : Int), (by first | rfl | (simp; done)), ⟨⟨Int.le_refl _, by rw [HL.out, HE.out]; omega⟩⟩, by repeat (first | exact Drawn0.refl _ | apply Drawn0.step)⟩
  case round =>
    obtain ⟨j, rfl, HJ, ⟨m1, rfl⟩⟩ := hrel
    cases gk with
    | succ k1 =>
      have c2b0 : decide (j < (LL.length : Int)) = true := decide_eq_true (by have := HJ.out.2; omega)
      have p1 : 0 ≤ j := by have := HJ.out.1; omega
      have q1 : j < (LL.length : Int) := of_decide_eq_true c2b0
      obtain ⟨ad1, e1_, hx1⟩ := Kd.at_int HC.out j p1 q1
      rw [HM.out j (by have := HJ.out.1; have := HE.out; omega) q1] at hx1
      cases e1_
      have e2 : IntKind.i64.wrap (j + 1) = j + 1 := by have := HL2.out; rw [i64_w]; unfold wrap64; omega
      replace p1 := eq_true p1
      replace q1 := eq_true q1
      go_wp2
      repeat (go_quiet (fail); try go_wp2)
      go_roundg k1
      case measure => omega
      case rel => exact ⟨j + 1, (by first | rfl | (simp; done) | (simp [*]; done)), ⟨⟨by have := HJ.out.1; omega, by have := HJ.out.2; omega⟩⟩, by repeat (first | exact Drawn0.refl _ | apply Drawn0.step)⟩
    | zero =>
      have c2b0 : decide (j < (LL.length : Int)) = false := decide_eq_false (by have := HJ.out.2; omega)
      go_wp2_with (go_at_call 11; (with_reducible refine (fareboxlaw34_same.calls k _ _ xs _ _ ys r _ ?side1 ?side2 ?side3 ?side4 HH.out).mono ?_); (case side1 => exact Kd.C_drewN (Kd.R_reads' hS.out).2.2 _); (case side2 => exact (Kd.R_reads' hS.out).2.1); (case side3 => exact Kd.C_drewN HB.out _); (case side4 => exact HCB.out); rintro e w' ⟨rfl, ⟨nd, rfl⟩⟩; (try first | exact ⟨rfl, _, World.drewN_drewN _ _ _⟩ | exact ⟨rfl, _, Eq.trans (World.drewN_drewN _ _ _) (congrArg (World.drewN _) (Nat.add_assoc _ _ _))⟩))

      go_ret
      exact ⟨rfl, by repeat (first | exact Drawn0.refl _ | apply Drawn0.step)⟩
end Go.Proofs.YtgcibhbhbgoacaaDoor

namespace Go.Proofs.YtgcibhbhbgoacaaDoor
open Go.Proofs.YtgcibhbhbgoacaaDoor.G
open Go.RowKit Go.Proofs.YtgcibhbhbgoacaaDoorW.PrintWords Go.Proofs.YtgcibhbhbgoacaaDoorW.PrintLast Go.Proofs.YtgcibhbhbgoacaaDoorW.PrintMore
set_option linter.unusedVariables false
set_option linter.unusedSimpArgs false
set_option maxHeartbeats 8000000 in
set_option maxRecDepth 100000 in
theorem fareboxlaw34_let.calls (P : Nat → Prop) (v : Value) (xs : List Int) (w0 w : World) (hB : Below w0.heap.size w0 w) (ho : Kd.R (Kd.int .u8) 5 w w0.heap.size P v xs) (hbd : xs.length ≤ 140737488351232) :
    Calls Tryd.prog 16 #[v] w fun e w' => (∃ n, e = .returned (.int .i64 n)) ∧ Below w0.heap.size w0 w' ∧ (∃ ys : List Int, ys.length = xs.length ∧ Kd.R (Kd.int .u8) 5 w' w0.heap.size (fun k_ => some k_ = v.ownBlock) v ys) ∧ Kept w w' (fun k_ => some k_ = v.ownBlock) := by
  have HO0 := Aside0.mk (Kd.R_tight rfl ho)
  have HK := Aside0.mk (Kept.refl w (fun k_ => some k_ = v.ownBlock))
  have HD := Aside0.mk hbd
  have HW0 := Aside0.mk hB.size
  have HB := Aside0.mk hB
  clear hB hbd ho
  go_enter Tryd.func16, Tryd.ntmps16
  go_wp2
  go_loopg [3] xs.length (fun kq v3 w' => ∃ (x3 : Int) (ys : List Int), v3 = .int .i64 x3 ∧ Aside0 (ys.length = xs.length ∧ 0 ≤ x3 ∧ x3 + kq = (xs.length : Int)) ∧ Aside0 (Kd.R (Kd.int .u8) 5 w' w0.heap.size (fun k_ => some k_ = v.ownBlock) v ys) ∧ Aside0 (Kept w w' (fun k_ => some k_ = v.ownBlock)) ∧ Aside0 (Below w0.heap.size w0 w'))
  case atStart => exact ⟨0, xs, rfl, ⟨⟨rfl, by decide, by omega⟩⟩, ⟨by (with_reducible repeat (first | apply Kd.R_alloc | apply Kd.R_drewN | apply Kd.R_drew)); exact HO0.out⟩, ⟨by repeat (first | (with_reducible first | exact HK.out | apply Kept.alloc | apply Kept.drewN | apply Kept.drew) | exact HK.out)⟩, ⟨by repeat (first | (with_reducible first | exact HB.out | apply below_alloc | apply pw_below_drewN | apply below_drew1) | exact HB.out)⟩⟩
  case round =>
    obtain ⟨x3, ys, rfl, HX, HO, HK, HB⟩ := hrel
    clear HO0
    obtain ⟨A, c, ev⟩ := Kd.R_slice HO.out
    cases gk with
    | succ k1 =>
      obtain ⟨go4, co4, eo4, gb4, gl4, cl4, HG4⟩ := Kd.R_form HO.out (by have := HX.out; omega)
      subst eo4
      have p4 : 0 ≤ x3 := HX.out.2.1
      have q4 : x3 < (ys.length : Int) := by have := HX.out; omega
      have c2b0 : decide (x3 < (ys.length : Int)) = true := decide_eq_true q4
      obtain ⟨hx4_0, hf4_0⟩ := Kd.R_celln 0 HO.out x3 p4 q4
      have HP7 := Kd.R_putg HO.out x3 51
      have GB4 := Aside0.mk gb4
      have GG4 := Aside0.mk HG4
      clear gb4 gl4 HG4 ev
      have e2 : IntKind.i64.wrap (x3 + 1) = x3 + 1 := by have := HX.out; have := HD.out; rw [i64_w]; unfold wrap64; omega
      replace p4 := eq_true p4
      replace q4 := eq_true q4
      go_wp2
      go_roundg k1
      case measure => omega
      case rel => exact ⟨x3 + 1, ys.set x3.toNat 51, (by first | rfl | (simp; done) | (simp [*]; done)), ⟨⟨by rw [List.length_set]; exact HX.out.1, by have := HX.out.2.1; omega, by have := HX.out.2.2; omega⟩⟩, ⟨by (with_reducible repeat (first | apply Kd.R_alloc | apply Kd.R_drewN | apply Kd.R_drew)); exact HP7.1⟩, ⟨by repeat (first | (with_reducible first | exact Kept.of_grown HP7.2 HK.out (fun k_ e_ => .inl e_.symm) | apply Kept.alloc | apply Kept.drewN | apply Kept.drew) | exact Kept.of_grown HP7.2 HK.out (fun k_ e_ => .inl e_.symm))⟩, ⟨by repeat (first | (with_reducible first | exact below_set HB.out GB4.out | apply below_alloc | apply pw_below_drewN | apply below_drew1) | exact below_set HB.out GB4.out)⟩⟩
    | zero =>
      have c2b0 : decide (x3 < (ys.length : Int)) = false := decide_eq_false (by have := HX.out; omega)
      obtain ⟨S, hS⟩ : ∃ S : Nat → Prop, S = fun k_ => some k_ = v.ownBlock := ⟨_, rfl⟩
      have HO2 := Aside0.mk (show Kd.R (Kd.int .u8) 5 wr w0.heap.size S v ys from by rw [hS]; exact HO.out)
      have HK2 := Aside0.mk (show Kept w wr S from by rw [hS]; exact HK.out)
      have HY := Aside0.mk (show ys.length = xs.length from HX.out.1)
      have HS := Aside0.mk hS
      clear HO HK HX hS
      subst ev
      go_wp2
      go_loopg [4, 5] 300 (fun kq v4 v5 w' => ∃ (n : Nat), v5 = .int .i64 (n : Int) ∧ Aside0 (n + kq = 300) ∧ Aside0 (Kd.R (Kd.int .u8) 5 w' w0.heap.size (fun k_ => S k_ ∨ w.heap.size ≤ k_) v4 (ys ++ List.replicate n 68)) ∧ Aside0 (Kd.R (Kd.int .u8) 5 w' w0.heap.size S (.slice A ys.length c) ys) ∧ Aside0 (Kept w w' S) ∧ Aside0 (Below w0.heap.size w0 w'))
      case atStart => exact ⟨0, rfl, ⟨rfl⟩, ⟨by rw [List.replicate_zero, List.append_nil]; (with_reducible repeat (first | apply Kd.R_alloc | apply Kd.R_drewN | apply Kd.R_drew)); exact Kd.R_mono HO2.out (fun _ h_ => .inl h_)⟩, ⟨by (with_reducible repeat (first | apply Kd.R_alloc | apply Kd.R_drewN | apply Kd.R_drew)); exact HO2.out⟩, ⟨by repeat (first | (with_reducible first | exact HK2.out | apply Kept.alloc | apply Kept.drewN | apply Kept.drew) | exact HK2.out)⟩, ⟨by repeat (first | (with_reducible first | exact HB.out | apply below_alloc | apply pw_below_drewN | apply below_drew1) | exact HB.out)⟩⟩
      case round =>
        clear HO2 HK2
        obtain ⟨n, rfl, HX, HO, HVA, HK, HB⟩ := hrel
        cases gk with
        | succ k2 =>
          have c3b0 : decide ((n : Int) < 300) = true := decide_eq_true (by have := HX.out; omega)
          have e3 : IntKind.i64.wrap ((n : Int) + 1) = ((n + 1 : Nat) : Int) := by have := HX.out; rw [i64_w]; unfold wrap64; omega
          have HZ := Aside0.mk (show (ys ++ List.replicate n (68 : Int)).length < 140737488355328 from by rw [List.length_append, List.length_replicate]; have := HX.out; have := HD.out; have := HY.out; omega)
          go_wp2_with (first | ((with_reducible refine gate_builtin (b := .append) (xs := #[.tmp 20, .tmp 21]) rfl ?_); at_builtin; refine R_appendK .u8 (w0 := w0) w0.heap.size rfl (.tmp 20) (.tmp 21) 22 5 (.int .u8 0) 1 rfl Tryd.underlying22 Go.Proofs.YtgcibhbhbgoacaaDoor.Re.info5 rfl (by decide) u4 (ys ++ List.replicate n 68) 68 (fun k_ => S k_ ∨ w.heap.size ≤ k_) rfl rfl ?aF ?aO ?aB ?aS ?aL ?_; (case aB => exact (by repeat (first | (with_reducible first | exact HB.out | apply below_alloc | apply pw_below_drewN | apply below_drew1) | exact HB.out))); (case aF => exact (fun k_ hk => .inr (Nat.le_trans (show Kept w _ S from by repeat (first | (with_reducible first | exact HK.out | apply Kept.alloc | apply Kept.drewN | apply Kept.drew) | exact HK.out)).1 hk))); (case aO => exact (by (with_reducible repeat (first | apply Kd.R_alloc | apply Kd.R_drewN | apply Kd.R_drew)); exact HO.out)); (case aS => exact (below_size (by repeat (first | (with_reducible first | exact HB.out | apply below_alloc | apply pw_below_drewN | apply below_drew1) | exact HB.out)))); (case aL => have := HZ.out; omega); intro v176 w9 ho he hb hg hat; have n1_ := Aside0.mk (hb); have n3_ := Aside0.mk (ho); rw [List.append_assoc, ← List.replicate_succ'] at n3_; have n2_ := Aside0.mk (Kept.of_grown (S := S) hg (by repeat (first | (with_reducible first | exact HK.out | apply Kept.alloc | apply Kept.drewN | apply Kept.drew) | exact HK.out)) (fun k_ e_ => (HO.out.1 k_ e_))); have n4_ := Aside0.mk (R_pre (by (with_reducible repeat (first | apply Kd.R_alloc | apply Kd.R_drewN | apply Kd.R_drew)); exact HO.out) he (by (with_reducible repeat (first | apply Kd.R_alloc | apply Kd.R_drewN | apply Kd.R_drew)); exact HVA.out) hg); clear HO HB HK HVA; have HB := n1_; have HK := n2_; have HO := n3_; have HVA := n4_; clear n1_ n2_ n3_ n4_ ho he hb hg hat))
          go_roundg k2
          case measure => omega
          case rel => exact ⟨n + 1, (by first | rfl | (simp; done) | (simp [*]; done)), ⟨by have := HX.out; omega⟩, ⟨by (with_reducible repeat (first | apply Kd.R_alloc | apply Kd.R_drewN | apply Kd.R_drew)); exact HO.out⟩, ⟨by (with_reducible repeat (first | apply Kd.R_alloc | apply Kd.R_drewN | apply Kd.R_drew)); exact HVA.out⟩, ⟨by repeat (first | (with_reducible first | exact HK.out | apply Kept.alloc | apply Kept.drewN | apply Kept.drew) | exact HK.out)⟩, ⟨by repeat (first | (with_reducible first | exact HB.out | apply below_alloc | apply pw_below_drewN | apply below_drew1) | exact HB.out)⟩⟩
        | zero =>
          have c3b0 : decide ((n : Int) < 300) = false := decide_eq_false (by have := HX.out; omega)
          obtain ⟨A4, c4, e4⟩ := Kd.R_slice HO.out
          subst e4
          go_wp2
          go_ret
          exact ⟨⟨_, rfl⟩, by repeat (first | (with_reducible first | exact HB.out | apply below_alloc | apply pw_below_drewN | apply below_drew1) | exact HB.out), ⟨ys, HY.out, by rw [← HS.out]; exact (by (with_reducible repeat (first | apply Kd.R_alloc | apply Kd.R_drewN | apply Kd.R_drew)); exact HVA.out)⟩, by rw [← HS.out]; exact (by repeat (first | (with_reducible first | exact HK.out | apply Kept.alloc | apply Kept.drewN | apply Kept.drew) | exact HK.out))⟩
end Go.Proofs.YtgcibhbhbgoacaaDoor

namespace Go.Proofs.YtgcibhbhbgoacaaDoor
open Go.Proofs.YtgcibhbhbgoacaaDoor.G
open Go.RowKit Go.Proofs.YtgcibhbhbgoacaaDoorW.PrintWords Go.Proofs.YtgcibhbhbgoacaaDoorW.PrintLast Go.Proofs.YtgcibhbhbgoacaaDoorW.PrintMore
set_option linter.unusedVariables false
set_option linter.unusedSimpArgs false
theorem rep_succ (xs : List Int) (n : Nat) (x : Int) : (xs ++ List.replicate n x) ++ [x] = xs ++ List.replicate (n + 1) x := by rw [List.append_assoc, List.replicate_succ']
set_option maxHeartbeats 8000000 in
set_option maxRecDepth 100000 in
theorem fareboxlaw34_rooms.calls (Pa Pb : Nat → Prop) (va vb : Value) (xs ys : List Int) (w0 w : World) (hB : Below w0.heap.size w0 w) (ha : Kd.R (Kd.int .u8) 5 w w0.heap.size Pa va xs) (hb : Kd.R (Kd.int .u8) 5 w w0.heap.size Pb vb ys) (hne : ∀ k, va.ownBlock = some k → vb.ownBlock = some k → False) (hla : xs.length ≤ 140737488351232) (hlb : ys.length ≤ 140737488351232) :
    Calls Tryd.prog 19 #[va, vb] w fun e w' => e = .returned (.bool true) ∧ Below w0.heap.size w0 w' ∧ Kd.R (Kd.int .u8) 5 w' w0.heap.size (fun k => some k = va.ownBlock) va xs ∧ Kd.R (Kd.int .u8) 5 w' w0.heap.size (fun k => some k = vb.ownBlock) vb ys ∧ Kept w w' (fun k_ => some k_ = va.ownBlock ∨ some k_ = vb.ownBlock) := by
  obtain ⟨Sa, hSa⟩ : ∃ S : Nat → Prop, S = fun k_ => some k_ = va.ownBlock := ⟨_, rfl⟩
  obtain ⟨Sb, hSb⟩ : ∃ S : Nat → Prop, S = fun k_ => some k_ = vb.ownBlock := ⟨_, rfl⟩
  obtain ⟨S, hS⟩ : ∃ S : Nat → Prop, S = fun k_ => some k_ = va.ownBlock ∨ some k_ = vb.ownBlock := ⟨_, rfl⟩
  have HSa := Aside0.mk (show ∀ k, Sa k → S k from fun k h => by rw [hSa] at h; rw [hS]; exact .inl h)
  have HSb := Aside0.mk (show ∀ k, Sb k → S k from fun k h => by rw [hSb] at h; rw [hS]; exact .inr h)
  have HVA := Aside0.mk (show Kd.R (Kd.int .u8) 5 w w0.heap.size Sa va xs from by rw [hSa]; exact Kd.R_tight rfl ha)
  have HVB := Aside0.mk (show Kd.R (Kd.int .u8) 5 w w0.heap.size Sb vb ys from by rw [hSb]; exact Kd.R_tight rfl hb)
  have HNx := Aside0.mk (show ∀ k, Sb k → ¬ (Sa k ∨ w.heap.size ≤ k) from fun k h h2 => by
    rw [hSb] at h
    rcases h2 with h2 | h2
    · rw [hSa] at h2; exact hne k h2.symm h.symm
    · have := Kd.R_lt hb k h.symm; omega)
  have HLt := Aside0.mk (show ∀ k, Sa k → k < w.heap.size from fun k h => by rw [hSa] at h; exact Kd.R_lt ha k h.symm)
  have HK := Aside0.mk (Kept.refl w S)
  have HLA := Aside0.mk hla
  have HLB := Aside0.mk hlb
  have HE := Aside0.mk (And.intro hSa (And.intro hSb hS))
  have HB := Aside0.mk hB
  clear hB ha hb hne hla hlb hSa hSb hS
  obtain ⟨Aa, ca, eva⟩ := Kd.R_slice HVA.out
  obtain ⟨Ab, cb, evb⟩ := Kd.R_slice HVB.out
  subst eva evb
  go_enter Tryd.func19, Tryd.ntmps19
  go_wp2
  go_loopg [5, 7] 64 (fun kq v5 v7 w' => ∃ (n : Nat), v7 = .int .i64 (n : Int) ∧ Aside0 (n + kq = 64) ∧ Aside0 (Kd.R (Kd.int .u8) 5 w' w0.heap.size (fun k => Sa k ∨ w.heap.size ≤ k) v5 (xs ++ List.replicate n 33)) ∧ Aside0 (Kd.R (Kd.int .u8) 5 w' w0.heap.size Sa (.slice Aa xs.length ca) xs) ∧ Aside0 (Kd.R (Kd.int .u8) 5 w' w0.heap.size Sb (.slice Ab ys.length cb) ys) ∧ Aside0 (Kept w w' S) ∧ Aside0 (Below w0.heap.size w0 w'))
  case atStart => exact ⟨0, rfl, ⟨rfl⟩, ⟨by rw [List.replicate_zero, List.append_nil]; (with_reducible repeat (first | apply Kd.R_alloc | apply Kd.R_drewN | apply Kd.R_drew)); exact Kd.R_mono HVA.out (fun _ h_ => .inl h_)⟩, ⟨by (with_reducible repeat (first | apply Kd.R_alloc | apply Kd.R_drewN | apply Kd.R_drew)); exact HVA.out⟩, ⟨by (with_reducible repeat (first | apply Kd.R_alloc | apply Kd.R_drewN | apply Kd.R_drew)); exact HVB.out⟩, ⟨by repeat (first | (with_reducible first | exact HK.out | apply Kept.alloc | apply Kept.drewN | apply Kept.drew) | exact HK.out)⟩, ⟨by repeat (first | (with_reducible first | exact HB.out | apply below_alloc | apply pw_below_drewN | apply below_drew1) | exact HB.out)⟩⟩
  case round =>
    clear HVA HVB
    obtain ⟨n, rfl, HX, HO, HVA, HVB, HK, HB⟩ := hrel
    cases gk with
    | succ k1 =>
      have c2b0 : decide ((n : Int) < 64) = true := decide_eq_true (by have := HX.out; omega)
      have e2 : IntKind.i64.wrap ((n : Int) + 1) = ((n + 1 : Nat) : Int) := by have := HX.out; rw [i64_w]; unfold wrap64; omega
      have HZ := Aside0.mk (show (xs ++ List.replicate n (33 : Int)).length < 140737488355328 from by rw [List.length_append, List.length_replicate]; have := HX.out; have := HLA.out; omega)
      go_wp2_with (first | ((with_reducible refine gate_builtin (b := .append) (xs := #[.tmp 16, .tmp 17]) rfl ?_); at_builtin; refine R_appendK .u8 (w0 := w0) w0.heap.size rfl (.tmp 16) (.tmp 17) 22 5 (.int .u8 0) 1 rfl Tryd.underlying22 Go.Proofs.YtgcibhbhbgoacaaDoor.Re.info5 rfl (by decide) u5 (xs ++ List.replicate n 33) 33 (fun k => Sa k ∨ w.heap.size ≤ k) rfl rfl ?aF ?aO ?aB ?aS ?aL ?_; (case aB => exact (by repeat (first | (with_reducible first | exact HB.out | apply below_alloc | apply pw_below_drewN | apply below_drew1) | exact HB.out))); (case aF => exact (fun k_ hk => .inr (Nat.le_trans (show Kept w _ S from by repeat (first | (with_reducible first | exact HK.out | apply Kept.alloc | apply Kept.drewN | apply Kept.drew) | exact HK.out)).1 hk))); (case aO => exact (by (with_reducible repeat (first | apply Kd.R_alloc | apply Kd.R_drewN | apply Kd.R_drew)); exact HO.out)); (case aS => exact (below_size (by repeat (first | (with_reducible first | exact HB.out | apply below_alloc | apply pw_below_drewN | apply below_drew1) | exact HB.out)))); (case aL => have := HZ.out; omega); intro v176 w9 ho he hb hg hat; have n1_ := Aside0.mk (hb); have n3_ := Aside0.mk (ho); rw [rep_succ] at n3_; have n2_ := Aside0.mk (Kept.of_grown (S := S) hg (by repeat (first | (with_reducible first | exact HK.out | apply Kept.alloc | apply Kept.drewN | apply Kept.drew) | exact HK.out)) (fun k_ e_ => (HO.out.1 k_ e_).imp (HSa.out k_) id)); have n4_ := Aside0.mk (R_pre (by (with_reducible repeat (first | apply Kd.R_alloc | apply Kd.R_drewN | apply Kd.R_drew)); exact HO.out) he (by (with_reducible repeat (first | apply Kd.R_alloc | apply Kd.R_drewN | apply Kd.R_drew)); exact HVA.out) hg); have n5_ := Aside0.mk (Kd.R_grown (by (with_reducible repeat (first | apply Kd.R_alloc | apply Kd.R_drewN | apply Kd.R_drew)); exact HVB.out) hg (fun k_ hk_ e_ => HNx.out k_ hk_ (HO.out.1 k_ e_.symm))); clear HO HB HK HVA HVB; have HB := n1_; have HK := n2_; have HO := n3_; have HVA := n4_; have HVB := n5_; clear n1_ n2_ n3_ n4_ n5_ ho he hb hg hat))
      go_roundg k1
      case measure => omega
      case rel => exact ⟨n + 1, (by first | rfl | (simp; done) | (simp [*]; done)), ⟨by have := HX.out; omega⟩, ⟨by (with_reducible repeat (first | apply Kd.R_alloc | apply Kd.R_drewN | apply Kd.R_drew)); exact HO.out⟩, ⟨by (with_reducible repeat (first | apply Kd.R_alloc | apply Kd.R_drewN | apply Kd.R_drew)); exact HVA.out⟩, ⟨by (with_reducible repeat (first | apply Kd.R_alloc | apply Kd.R_drewN | apply Kd.R_drew)); exact HVB.out⟩, ⟨by repeat (first | (with_reducible first | exact HK.out | apply Kept.alloc | apply Kept.drewN | apply Kept.drew) | exact HK.out)⟩, ⟨by repeat (first | (with_reducible first | exact HB.out | apply below_alloc | apply pw_below_drewN | apply below_drew1) | exact HB.out)⟩⟩
    | zero =>
      have c2b0 : decide ((n : Int) < 64) = false := decide_eq_false (by have := HX.out; omega)
      obtain rfl : n = 64 := by have := HX.out; omega
      obtain ⟨X, hX⟩ : ∃ X : List Int, X = xs ++ List.replicate 64 33 := ⟨_, rfl⟩
      rw [← hX] at HO
      have HXl := Aside0.mk (show X.length = xs.length + 64 from by rw [hX, List.length_append, List.length_replicate])
      have HXr := Aside0.mk (show ∀ i : Int, (xs.length : Int) ≤ i → i < (X.length : Int) → rd X i = 33 from fun i a b => by
        rw [hX, List.length_append, List.length_replicate] at b
        rw [hX]
        unfold rd
        rw [List.getD_eq_getElem?_getD, List.getElem?_append_right (by omega), List.getElem?_replicate, if_pos (by omega)]
        rfl)
      clear hX HX
      obtain ⟨A5, c5, e5⟩ := Kd.R_slice HO.out
      subst e5
      obtain ⟨m1, hm1⟩ : ∃ m : Nat, m = wr.heap.size := ⟨_, rfl⟩
      have HM := Aside0.mk (show w.heap.size ≤ m1 from by rw [hm1]; exact HK.out.1)
      have HM2 := Aside0.mk (show m1 ≤ wr.heap.size from Nat.le_of_eq hm1)
      have HO5 := Aside0.mk (show Kd.R (Kd.int .u8) 5 wr w0.heap.size (fun k => (Sa k ∨ w.heap.size ≤ k) ∧ k < m1) (.slice A5 X.length c5) X from Kd.R_mono (Kd.R_bound HO.out) (fun k hk => ⟨hk.1, by rw [hm1]; exact hk.2.2.1⟩))
      clear HO hm1
      go_wp2
      go_loopg [6, 8] 64 (fun kq v6 v8 w' => ∃ (n : Nat), v8 = .int .i64 (n : Int) ∧ Aside0 (n + kq = 64) ∧ Aside0 (m1 ≤ w'.heap.size) ∧ Aside0 (Kd.R (Kd.int .u8) 5 w' w0.heap.size (fun k => Sb k ∨ m1 ≤ k) v6 (ys ++ List.replicate n 34)) ∧ Aside0 (Kd.R (Kd.int .u8) 5 w' w0.heap.size (fun k => (Sa k ∨ w.heap.size ≤ k) ∧ k < m1) (.slice A5 X.length c5) X) ∧ Aside0 (Kd.R (Kd.int .u8) 5 w' w0.heap.size Sa (.slice Aa xs.length ca) xs) ∧ Aside0 (Kd.R (Kd.int .u8) 5 w' w0.heap.size Sb (.slice Ab ys.length cb) ys) ∧ Aside0 (Kept w w' S) ∧ Aside0 (Below w0.heap.size w0 w'))
      case atStart => exact ⟨0, rfl, ⟨rfl⟩, ⟨HM2.out⟩, ⟨by rw [List.replicate_zero, List.append_nil]; (with_reducible repeat (first | apply Kd.R_alloc | apply Kd.R_drewN | apply Kd.R_drew)); exact Kd.R_mono HVB.out (fun _ h_ => .inl h_)⟩, ⟨by (with_reducible repeat (first | apply Kd.R_alloc | apply Kd.R_drewN | apply Kd.R_drew)); exact HO5.out⟩, ⟨by (with_reducible repeat (first | apply Kd.R_alloc | apply Kd.R_drewN | apply Kd.R_drew)); exact HVA.out⟩, ⟨by (with_reducible repeat (first | apply Kd.R_alloc | apply Kd.R_drewN | apply Kd.R_drew)); exact HVB.out⟩, ⟨by repeat (first | (with_reducible first | exact HK.out | apply Kept.alloc | apply Kept.drewN | apply Kept.drew) | exact HK.out)⟩, ⟨by repeat (first | (with_reducible first | exact HB.out | apply below_alloc | apply pw_below_drewN | apply below_drew1) | exact HB.out)⟩⟩
      case round =>
        clear HVA HVB HO5 HM2
        obtain ⟨n, rfl, HX, HM2, HO, HO5, HVA, HVB, HK, HB⟩ := hrel
        cases gk with
        | succ k2 =>
          have c3b0 : decide ((n : Int) < 64) = true := decide_eq_true (by have := HX.out; omega)
          have e3 : IntKind.i64.wrap ((n : Int) + 1) = ((n + 1 : Nat) : Int) := by have := HX.out; rw [i64_w]; unfold wrap64; omega
          have HZ := Aside0.mk (show (ys ++ List.replicate n (34 : Int)).length < 140737488355328 from by rw [List.length_append, List.length_replicate]; have := HX.out; have := HLB.out; omega)
          go_wp2_with (first | ((with_reducible refine gate_builtin (b := .append) (xs := #[.tmp 23, .tmp 24]) rfl ?_); at_builtin; refine R_appendK .u8 (w0 := w0) w0.heap.size rfl (.tmp 23) (.tmp 24) 22 5 (.int .u8 0) 1 rfl Tryd.underlying22 Go.Proofs.YtgcibhbhbgoacaaDoor.Re.info5 rfl (by decide) u6 (ys ++ List.replicate n 34) 34 (fun k => Sb k ∨ m1 ≤ k) rfl rfl ?aF ?aO ?aB ?aS ?aL ?_; (case aB => exact (by repeat (first | (with_reducible first | exact HB.out | apply below_alloc | apply pw_below_drewN | apply below_drew1) | exact HB.out))); (case aF => exact (fun k_ hk => .inr (Nat.le_trans HM2.out hk))); (case aO => exact (by (with_reducible repeat (first | apply Kd.R_alloc | apply Kd.R_drewN | apply Kd.R_drew)); exact HO.out)); (case aS => exact (below_size (by repeat (first | (with_reducible first | exact HB.out | apply below_alloc | apply pw_below_drewN | apply below_drew1) | exact HB.out)))); (case aL => have := HZ.out; omega); intro v176 w9 ho he hb hg hat; have n1_ := Aside0.mk (hb); have n3_ := Aside0.mk (ho); rw [rep_succ] at n3_; have n2_ := Aside0.mk (Kept.of_grown (S := S) hg (by repeat (first | (with_reducible first | exact HK.out | apply Kept.alloc | apply Kept.drewN | apply Kept.drew) | exact HK.out)) (fun k_ e_ => (HO.out.1 k_ e_).imp (HSb.out k_) (Nat.le_trans HM.out))); have n4_ := Aside0.mk (Kd.R_grown (by (with_reducible repeat (first | apply Kd.R_alloc | apply Kd.R_drewN | apply Kd.R_drew)); exact HVA.out) hg (fun k_ hk_ e_ => Or.elim (HO.out.1 k_ e_.symm) (fun h_ => HNx.out k_ h_ (.inl hk_)) (fun h_ => absurd (Nat.lt_of_lt_of_le (HLt.out k_ hk_) (Nat.le_trans HM.out h_)) (Nat.lt_irrefl _)))); have n5_ := Aside0.mk (R_pre (by (with_reducible repeat (first | apply Kd.R_alloc | apply Kd.R_drewN | apply Kd.R_drew)); exact HO.out) he (by (with_reducible repeat (first | apply Kd.R_alloc | apply Kd.R_drewN | apply Kd.R_drew)); exact HVB.out) hg); have n6_ := Aside0.mk (Kd.R_grown (by (with_reducible repeat (first | apply Kd.R_alloc | apply Kd.R_drewN | apply Kd.R_drew)); exact HO5.out) hg (fun k_ (hk_ : (Sa k_ ∨ w.heap.size ≤ k_) ∧ k_ < m1) e_ => Or.elim (HO.out.1 k_ e_.symm) (fun h_ => HNx.out k_ h_ hk_.1) (fun h_ => absurd (Nat.lt_of_lt_of_le hk_.2 h_) (Nat.lt_irrefl _)))); have n7_ := Aside0.mk (Nat.le_trans HM2.out hg.size); clear HO HO5 HB HK HVA HVB HM2; have HB := n1_; have HK := n2_; have HO := n3_; have HVA := n4_; have HVB := n5_; have HO5 := n6_; have HM2 := n7_; clear n1_ n2_ n3_ n4_ n5_ n6_ n7_ ho he hb hg hat))
          go_roundg k2
          case measure => omega
          case rel => exact ⟨n + 1, (by first | rfl | (simp; done) | (simp [*]; done)), ⟨by have := HX.out; omega⟩, ⟨HM2.out⟩, ⟨by (with_reducible repeat (first | apply Kd.R_alloc | apply Kd.R_drewN | apply Kd.R_drew)); exact HO.out⟩, ⟨by (with_reducible repeat (first | apply Kd.R_alloc | apply Kd.R_drewN | apply Kd.R_drew)); exact HO5.out⟩, ⟨by (with_reducible repeat (first | apply Kd.R_alloc | apply Kd.R_drewN | apply Kd.R_drew)); exact HVA.out⟩, ⟨by (with_reducible repeat (first | apply Kd.R_alloc | apply Kd.R_drewN | apply Kd.R_drew)); exact HVB.out⟩, ⟨by repeat (first | (with_reducible first | exact HK.out | apply Kept.alloc | apply Kept.drewN | apply Kept.drew) | exact HK.out)⟩, ⟨by repeat (first | (with_reducible first | exact HB.out | apply below_alloc | apply pw_below_drewN | apply below_drew1) | exact HB.out)⟩⟩
        | zero =>
          have c3b0 : decide ((n : Int) < 64) = false := decide_eq_false (by have := HX.out; omega)
          obtain rfl : n = 64 := by have := HX.out; omega
          obtain ⟨Y, hY⟩ : ∃ Y : List Int, Y = ys ++ List.replicate 64 34 := ⟨_, rfl⟩
          rw [← hY] at HO
          have eY : IntKind.i64.wrap ((ys.length : Int) + 64) = (Y.length : Int) := by have := HLB.out; rw [hY, List.length_append, List.length_replicate, i64_w]; unfold wrap64; omega
          clear hY HX
          obtain ⟨A6, c6, e6⟩ := Kd.R_slice HO.out
          subst e6
          go_wp2
          go_loopg [9] 64 (fun kq v9 w' => ∃ (j : Int), v9 = .int .i64 j ∧ Aside0 ((xs.length : Int) ≤ j ∧ j + kq = (X.length : Int)) ∧ Aside0 (Kd.R (Kd.int .u8) 5 w' w0.heap.size (fun k => (Sa k ∨ w.heap.size ≤ k) ∧ k < m1) (.slice A5 X.length c5) X) ∧ Aside0 (Kd.R (Kd.int .u8) 5 w' w0.heap.size Sa (.slice Aa xs.length ca) xs) ∧ Aside0 (Kd.R (Kd.int .u8) 5 w' w0.heap.size Sb (.slice Ab ys.length cb) ys) ∧ Aside0 (Kept w w' S) ∧ Aside0 (Below w0.heap.size w0 w'))
          case atStart => exact ⟨(xs.length : Int), (by first | rfl | (simp; done)), ⟨⟨Int.le_refl _, by rw [HXl.out]; omega⟩⟩, ⟨by (with_reducible repeat (first | apply Kd.R_alloc | apply Kd.R_drewN | apply Kd.R_drew)); exact HO5.out⟩, ⟨by (with_reducible repeat (first | apply Kd.R_alloc | apply Kd.R_drewN | apply Kd.R_drew)); exact HVA.out⟩, ⟨by (with_reducible repeat (first | apply Kd.R_alloc | apply Kd.R_drewN | apply Kd.R_drew)); exact HVB.out⟩, ⟨by repeat (first | (with_reducible first | exact HK.out | apply Kept.alloc | apply Kept.drewN | apply Kept.drew) | exact HK.out)⟩, ⟨by repeat (first | (with_reducible first | exact HB.out | apply below_alloc | apply pw_below_drewN | apply below_drew1) | exact HB.out)⟩⟩
          case round =>
            clear HVA HVB HO5 HO HM2
            obtain ⟨j, rfl, HJ, HO5, HVA, HVB, HK, HB⟩ := hrel
            cases gk with
            | succ k3 =>
              have q1 : j < (X.length : Int) := by have := HJ.out.2; omega
              have p1 : 0 ≤ j := by have := HJ.out.1; omega
              have c4b0 : decide (j < (X.length : Int)) = true := decide_eq_true q1
              obtain ⟨ad1, e1_, hx1⟩ := Kd.at_int (Kd.R_reads' HO5.out).2.2 j p1 q1
              rw [HXr.out j HJ.out.1 q1] at hx1
              cases e1_
              have e4 : IntKind.i64.wrap (j + 1) = j + 1 := by have := HXl.out; have := HLA.out; rw [i64_w]; unfold wrap64; omega
              replace p1 := eq_true p1
              replace q1 := eq_true q1
              go_wp2
              repeat (go_quiet (fail); try go_wp2)
              go_roundg k3
              case measure => omega
              case rel => exact ⟨j + 1, (by first | rfl | (simp; done) | (simp [*]; done)), ⟨⟨by have := HJ.out.1; omega, by have := HJ.out.2; omega⟩⟩, ⟨by (with_reducible repeat (first | apply Kd.R_alloc | apply Kd.R_drewN | apply Kd.R_drew)); exact HO5.out⟩, ⟨by (with_reducible repeat (first | apply Kd.R_alloc | apply Kd.R_drewN | apply Kd.R_drew)); exact HVA.out⟩, ⟨by (with_reducible repeat (first | apply Kd.R_alloc | apply Kd.R_drewN | apply Kd.R_drew)); exact HVB.out⟩, ⟨by repeat (first | (with_reducible first | exact HK.out | apply Kept.alloc | apply Kept.drewN | apply Kept.drew) | exact HK.out)⟩, ⟨by repeat (first | (with_reducible first | exact HB.out | apply below_alloc | apply pw_below_drewN | apply below_drew1) | exact HB.out)⟩⟩
            | zero =>
              have c4b0 : decide (j < (X.length : Int)) = false := decide_eq_false (by have := HJ.out.2; omega)
              go_wp2
              repeat (go_quiet (fail); try go_wp2)
              go_ret
              exact ⟨by first | rfl | (simp; done), by repeat (first | (with_reducible first | exact HB.out | apply below_alloc | apply pw_below_drewN | apply below_drew1) | exact HB.out), by rw [← HE.out.1]; exact (by (with_reducible repeat (first | apply Kd.R_alloc | apply Kd.R_drewN | apply Kd.R_drew)); exact HVA.out), by rw [← HE.out.2.1]; exact (by (with_reducible repeat (first | apply Kd.R_alloc | apply Kd.R_drewN | apply Kd.R_drew)); exact HVB.out), by rw [← HE.out.2.2]; exact (by repeat (first | (with_reducible first | exact HK.out | apply Kept.alloc | apply Kept.drewN | apply Kept.drew) | exact HK.out))⟩
end Go.Proofs.YtgcibhbhbgoacaaDoor
