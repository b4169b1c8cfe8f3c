/- law34.intRooms: two answers are grown, one behind the other: neither writes into the other, and both read as before. -/
import Derived.Test.YtgcibhbhbgoacaaDoorTl
namespace Go.Proofs.YtgcibhbhbgoacaaDoor
open Go.Proofs.YtgcibhbhbgoacaaDoor.G
open Go.RowKit Go.Proofs.YtgcibhbhbgoacaaDoorW.PrintWords Go.Proofs.YtgcibhbhbgoacaaDoorW.PrintLast Go.Proofs.YtgcibhbhbgoacaaDoorW.PrintMore
set_option linter.unusedVariables false
set_option linter.unusedSimpArgs false
set_option maxHeartbeats 8000000 in
set_option maxRecDepth 100000 in
theorem fareboxlaw34_intRooms.calls (Pa Pb : Nat → Prop) (va vb : Value) (xs ys : List Int) (w0 w : World) (hB : Below w0.heap.size w0 w) (ha : Kd.R (Kd.int .i64) 3 w w0.heap.size Pa va xs) (hb : Kd.R (Kd.int .i64) 3 w w0.heap.size Pb vb ys) (hne : ∀ k, va.ownBlock = some k → vb.ownBlock = some k → False) (hla : xs.length ≤ 17592186044000) (hlb : ys.length ≤ 17592186044000) :
    Calls Tryd.prog 27 #[va, vb] w fun e w' => e = .returned (.bool true) ∧ Below w0.heap.size w0 w' ∧ Kd.R (Kd.int .i64) 3 w' w0.heap.size (fun k => some k = va.ownBlock) va xs ∧ Kd.R (Kd.int .i64) 3 w' w0.heap.size (fun k => some k = vb.ownBlock) vb ys ∧ Kept w w' (fun k_ => some k_ = va.ownBlock ∨ some k_ = vb.ownBlock) := by
  obtain ⟨Sa, hSa⟩ : ∃ S : Nat → Prop, S = fun k_ => some k_ = va.ownBlock := ⟨_, rfl⟩
  obtain ⟨Sb, hSb⟩ : ∃ S : Nat → Prop, S = fun k_ => some k_ = vb.ownBlock := ⟨_, rfl⟩
  obtain ⟨S, hS⟩ : ∃ S : Nat → Prop, S = fun k_ => some k_ = va.ownBlock ∨ some k_ = vb.ownBlock := ⟨_, rfl⟩
  have HSa := Aside0.mk (show ∀ k, Sa k → S k from fun k h => by rw [hSa] at h; rw [hS]; exact .inl h)
  have HSb := Aside0.mk (show ∀ k, Sb k → S k from fun k h => by rw [hSb] at h; rw [hS]; exact .inr h)
  have HVA := Aside0.mk (show Kd.R (Kd.int .i64) 3 w w0.heap.size Sa va xs from by rw [hSa]; exact Kd.R_tight rfl ha)
  have HVB := Aside0.mk (show Kd.R (Kd.int .i64) 3 w w0.heap.size Sb vb ys from by rw [hSb]; exact Kd.R_tight rfl hb)
  have HNx := Aside0.mk (show ∀ k, Sb k → ¬ (Sa k ∨ w.heap.size ≤ k) from fun k h h2 => by
    rw [hSb] at h
    rcases h2 with h2 | h2
    · rw [hSa] at h2; exact hne k h2.symm h.symm
    · have := Kd.R_lt hb k h.symm; omega)
  have HLt := Aside0.mk (show ∀ k, Sa k → k < w.heap.size from fun k h => by rw [hSa] at h; exact Kd.R_lt ha k h.symm)
  have HK := Aside0.mk (Kept.refl w S)
  have HLA := Aside0.mk hla
  have HLB := Aside0.mk hlb
  have HE := Aside0.mk (And.intro hSa (And.intro hSb hS))
  have HB := Aside0.mk hB
  clear hB ha hb hne hla hlb hSa hSb hS
  obtain ⟨Aa, ca, eva⟩ := Kd.R_slice HVA.out
  obtain ⟨Ab, cb, evb⟩ := Kd.R_slice HVB.out
  subst eva evb
  go_enter Tryd.func27, Tryd.ntmps27
  go_wp2
  go_loopg [5, 7] 64 (fun kq v5 v7 w' => ∃ (n : Nat), v7 = .int .i64 (n : Int) ∧ Aside0 (n + kq = 64) ∧ Aside0 (Kd.R (Kd.int .i64) 3 w' w0.heap.size (fun k => Sa k ∨ w.heap.size ≤ k) v5 (xs ++ List.replicate n (-21))) ∧ Aside0 (Kd.R (Kd.int .i64) 3 w' w0.heap.size Sa (.slice Aa xs.length ca) xs) ∧ Aside0 (Kd.R (Kd.int .i64) 3 w' w0.heap.size Sb (.slice Ab ys.length cb) ys) ∧ Aside0 (Kept w w' S) ∧ Aside0 (Below w0.heap.size w0 w'))
  case atStart => exact ⟨0, rfl, ⟨rfl⟩, ⟨by rw [List.replicate_zero, List.append_nil]; (with_reducible repeat (first | apply Kd.R_alloc | apply Kd.R_drewN | apply Kd.R_drew)); exact Kd.R_mono HVA.out (fun _ h_ => .inl h_)⟩, ⟨by (with_reducible repeat (first | apply Kd.R_alloc | apply Kd.R_drewN | apply Kd.R_drew)); exact HVA.out⟩, ⟨by (with_reducible repeat (first | apply Kd.R_alloc | apply Kd.R_drewN | apply Kd.R_drew)); exact HVB.out⟩, ⟨by repeat (first | (with_reducible first | exact HK.out | apply Kept.alloc | apply Kept.drewN | apply Kept.drew) | exact HK.out)⟩, ⟨by repeat (first | (with_reducible first | exact HB.out | apply below_alloc | apply pw_below_drewN | apply below_drew1) | exact HB.out)⟩⟩
  case round =>
    clear HVA HVB
    obtain ⟨n, rfl, HX, HO, HVA, HVB, HK, HB⟩ := hrel
    cases gk with
    | succ k1 =>
      have c2b0 : decide ((n : Int) < 64) = true := decide_eq_true (by have := HX.out; omega)
      have e2 : IntKind.i64.wrap ((n : Int) + 1) = ((n + 1 : Nat) : Int) := by have := HX.out; rw [i64_w]; unfold wrap64; omega
      have HZ := Aside0.mk (show (xs ++ List.replicate n (-21 : Int)).length < 17592186044416 from by rw [List.length_append, List.length_replicate]; have := HX.out; have := HLA.out; omega)
      go_wp2_with (first | ((with_reducible refine gate_builtin (b := .append) (xs := #[.tmp 16, .tmp 17]) rfl ?_); at_builtin; refine R_appendK .i64 (w0 := w0) w0.heap.size rfl (.tmp 16) (.tmp 17) 37 3 (.int .i64 0) 8 rfl Tryd.underlying37 Go.Proofs.YtgcibhbhbgoacaaDoor.Re.info3 rfl (by decide) u5 (xs ++ List.replicate n (-21)) (-21) (fun k => Sa k ∨ w.heap.size ≤ k) rfl rfl ?aF ?aO ?aB ?aS ?aL ?_; (case aB => exact (by repeat (first | (with_reducible first | exact HB.out | apply below_alloc | apply pw_below_drewN | apply below_drew1) | exact HB.out))); (case aF => exact (fun k_ hk => .inr (Nat.le_trans (show Kept w _ S from by repeat (first | (with_reducible first | exact HK.out | apply Kept.alloc | apply Kept.drewN | apply Kept.drew) | exact HK.out)).1 hk))); (case aO => exact (by (with_reducible repeat (first | apply Kd.R_alloc | apply Kd.R_drewN | apply Kd.R_drew)); exact HO.out)); (case aS => exact (below_size (by repeat (first | (with_reducible first | exact HB.out | apply below_alloc | apply pw_below_drewN | apply below_drew1) | exact HB.out)))); (case aL => have := HZ.out; omega); intro v176 w9 ho he hb hg hat; have n1_ := Aside0.mk (hb); have n3_ := Aside0.mk (ho); rw [rep_succ] at n3_; have n2_ := Aside0.mk (Kept.of_grown (S := S) hg (by repeat (first | (with_reducible first | exact HK.out | apply Kept.alloc | apply Kept.drewN | apply Kept.drew) | exact HK.out)) (fun k_ e_ => (HO.out.1 k_ e_).imp (HSa.out k_) id)); have n4_ := Aside0.mk (R_pre (by (with_reducible repeat (first | apply Kd.R_alloc | apply Kd.R_drewN | apply Kd.R_drew)); exact HO.out) he (by (with_reducible repeat (first | apply Kd.R_alloc | apply Kd.R_drewN | apply Kd.R_drew)); exact HVA.out) hg); have n5_ := Aside0.mk (Kd.R_grown (by (with_reducible repeat (first | apply Kd.R_alloc | apply Kd.R_drewN | apply Kd.R_drew)); exact HVB.out) hg (fun k_ hk_ e_ => HNx.out k_ hk_ (HO.out.1 k_ e_.symm))); clear HO HB HK HVA HVB; have HB := n1_; have HK := n2_; have HO := n3_; have HVA := n4_; have HVB := n5_; clear n1_ n2_ n3_ n4_ n5_ ho he hb hg hat))
      go_roundg k1
      case measure => omega
      case rel => exact ⟨n + 1, (by first | rfl | (simp; done) | (simp [*]; done)), ⟨by have := HX.out; omega⟩, ⟨by (with_reducible repeat (first | apply Kd.R_alloc | apply Kd.R_drewN | apply Kd.R_drew)); exact HO.out⟩, ⟨by (with_reducible repeat (first | apply Kd.R_alloc | apply Kd.R_drewN | apply Kd.R_drew)); exact HVA.out⟩, ⟨by (with_reducible repeat (first | apply Kd.R_alloc | apply Kd.R_drewN | apply Kd.R_drew)); exact HVB.out⟩, ⟨by repeat (first | (with_reducible first | exact HK.out | apply Kept.alloc | apply Kept.drewN | apply Kept.drew) | exact HK.out)⟩, ⟨by repeat (first | (with_reducible first | exact HB.out | apply below_alloc | apply pw_below_drewN | apply below_drew1) | exact HB.out)⟩⟩
    | zero =>
      have c2b0 : decide ((n : Int) < 64) = false := decide_eq_false (by have := HX.out; omega)
      obtain rfl : n = 64 := by have := HX.out; omega
      obtain ⟨X, hX⟩ : ∃ X : List Int, X = xs ++ List.replicate 64 (-21) := ⟨_, rfl⟩
      rw [← hX] at HO
      have HXl := Aside0.mk (show X.length = xs.length + 64 from by rw [hX, List.length_append, List.length_replicate])
      have HXr := Aside0.mk (show ∀ i : Int, (xs.length : Int) ≤ i → i < (X.length : Int) → rd X i = -21 from fun i a b => by
        rw [hX, List.length_append, List.length_replicate] at b
        rw [hX]
        unfold rd
        rw [List.getD_eq_getElem?_getD, List.getElem?_append_right (by omega), List.getElem?_replicate, if_pos (by omega)]
        rfl)
      clear hX HX
      obtain ⟨A5, c5, e5⟩ := Kd.R_slice HO.out
      subst e5
      obtain ⟨m1, hm1⟩ : ∃ m : Nat, m = wr.heap.size := ⟨_, rfl⟩
      have HM := Aside0.mk (show w.heap.size ≤ m1 from by rw [hm1]; exact HK.out.1)
      have HM2 := Aside0.mk (show m1 ≤ wr.heap.size from Nat.le_of_eq hm1)
      have HO5 := Aside0.mk (show Kd.R (Kd.int .i64) 3 wr w0.heap.size (fun k => (Sa k ∨ w.heap.size ≤ k) ∧ k < m1) (.slice A5 X.length c5) X from Kd.R_mono (Kd.R_bound HO.out) (fun k hk => ⟨hk.1, by rw [hm1]; exact hk.2.2.1⟩))
      clear HO hm1
      go_wp2
      go_loopg [6, 8] 64 (fun kq v6 v8 w' => ∃ (n : Nat), v8 = .int .i64 (n : Int) ∧ Aside0 (n + kq = 64) ∧ Aside0 (m1 ≤ w'.heap.size) ∧ Aside0 (Kd.R (Kd.int .i64) 3 w' w0.heap.size (fun k => Sb k ∨ m1 ≤ k) v6 (ys ++ List.replicate n (-22))) ∧ Aside0 (Kd.R (Kd.int .i64) 3 w' w0.heap.size (fun k => (Sa k ∨ w.heap.size ≤ k) ∧ k < m1) (.slice A5 X.length c5) X) ∧ Aside0 (Kd.R (Kd.int .i64) 3 w' w0.heap.size Sa (.slice Aa xs.length ca) xs) ∧ Aside0 (Kd.R (Kd.int .i64) 3 w' w0.heap.size Sb (.slice Ab ys.length cb) ys) ∧ Aside0 (Kept w w' S) ∧ Aside0 (Below w0.heap.size w0 w'))
      case atStart => exact ⟨0, rfl, ⟨rfl⟩, ⟨HM2.out⟩, ⟨by rw [List.replicate_zero, List.append_nil]; (with_reducible repeat (first | apply Kd.R_alloc | apply Kd.R_drewN | apply Kd.R_drew)); exact Kd.R_mono HVB.out (fun _ h_ => .inl h_)⟩, ⟨by (with_reducible repeat (first | apply Kd.R_alloc | apply Kd.R_drewN | apply Kd.R_drew)); exact HO5.out⟩, ⟨by (with_reducible repeat (first | apply Kd.R_alloc | apply Kd.R_drewN | apply Kd.R_drew)); exact HVA.out⟩, ⟨by (with_reducible repeat (first | apply Kd.R_alloc | apply Kd.R_drewN | apply Kd.R_drew)); exact HVB.out⟩, ⟨by repeat (first | (with_reducible first | exact HK.out | apply Kept.alloc | apply Kept.drewN | apply Kept.drew) | exact HK.out)⟩, ⟨by repeat (first | (with_reducible first | exact HB.out | apply below_alloc | apply pw_below_drewN | apply below_drew1) | exact HB.out)⟩⟩
      case round =>
        clear HVA HVB HO5 HM2
        obtain ⟨n, rfl, HX, HM2, HO, HO5, HVA, HVB, HK, HB⟩ := hrel
        cases gk with
        | succ k2 =>
          have c3b0 : decide ((n : Int) < 64) = true := decide_eq_true (by have := HX.out; omega)
          have e3 : IntKind.i64.wrap ((n : Int) + 1) = ((n + 1 : Nat) : Int) := by have := HX.out; rw [i64_w]; unfold wrap64; omega
          have HZ := Aside0.mk (show (ys ++ List.replicate n (-22 : Int)).length < 17592186044416 from by rw [List.length_append, List.length_replicate]; have := HX.out; have := HLB.out; omega)
          go_wp2_with (first | ((with_reducible refine gate_builtin (b := .append) (xs := #[.tmp 23, .tmp 24]) rfl ?_); at_builtin; refine R_appendK .i64 (w0 := w0) w0.heap.size rfl (.tmp 23) (.tmp 24) 37 3 (.int .i64 0) 8 rfl Tryd.underlying37 Go.Proofs.YtgcibhbhbgoacaaDoor.Re.info3 rfl (by decide) u6 (ys ++ List.replicate n (-22)) (-22) (fun k => Sb k ∨ m1 ≤ k) rfl rfl ?aF ?aO ?aB ?aS ?aL ?_; (case aB => exact (by repeat (first | (with_reducible first | exact HB.out | apply below_alloc | apply pw_below_drewN | apply below_drew1) | exact HB.out))); (case aF => exact (fun k_ hk => .inr (Nat.le_trans HM2.out hk))); (case aO => exact (by (with_reducible repeat (first | apply Kd.R_alloc | apply Kd.R_drewN | apply Kd.R_drew)); exact HO.out)); (case aS => exact (below_size (by repeat (first | (with_reducible first | exact HB.out | apply below_alloc | apply pw_below_drewN | apply below_drew1) | exact HB.out)))); (case aL => have := HZ.out; omega); intro v176 w9 ho he hb hg hat; have n1_ := Aside0.mk (hb); have n3_ := Aside0.mk (ho); rw [rep_succ] at n3_; have n2_ := Aside0.mk (Kept.of_grown (S := S) hg (by repeat (first | (with_reducible first | exact HK.out | apply Kept.alloc | apply Kept.drewN | apply Kept.drew) | exact HK.out)) (fun k_ e_ => (HO.out.1 k_ e_).imp (HSb.out k_) (Nat.le_trans HM.out))); have n4_ := Aside0.mk (Kd.R_grown (by (with_reducible repeat (first | apply Kd.R_alloc | apply Kd.R_drewN | apply Kd.R_drew)); exact HVA.out) hg (fun k_ hk_ e_ => Or.elim (HO.out.1 k_ e_.symm) (fun h_ => HNx.out k_ h_ (.inl hk_)) (fun h_ => absurd (Nat.lt_of_lt_of_le (HLt.out k_ hk_) (Nat.le_trans HM.out h_)) (Nat.lt_irrefl _)))); have n5_ := Aside0.mk (R_pre (by (with_reducible repeat (first | apply Kd.R_alloc | apply Kd.R_drewN | apply Kd.R_drew)); exact HO.out) he (by (with_reducible repeat (first | apply Kd.R_alloc | apply Kd.R_drewN | apply Kd.R_drew)); exact HVB.out) hg); have n6_ := Aside0.mk (Kd.R_grown (by (with_reducible repeat (first | apply Kd.R_alloc | apply Kd.R_drewN | apply Kd.R_drew)); exact HO5.out) hg (fun k_ (hk_ : (Sa k_ ∨ w.heap.size ≤ k_) ∧ k_ < m1) e_ => Or.elim (HO.out.1 k_ e_.symm) (fun h_ => HNx.out k_ h_ hk_.1) (fun h_ => absurd (Nat.lt_of_lt_of_le hk_.2 h_) (Nat.lt_irrefl _)))); have n7_ := Aside0.mk (Nat.le_trans HM2.out hg.size); clear HO HO5 HB HK HVA HVB HM2; have HB := n1_; have HK := n2_; have HO := n3_; have HVA := n4_; have HVB := n5_; have HO5 := n6_; have HM2 := n7_; clear n1_ n2_ n3_ n4_ n5_ n6_ n7_ ho he hb hg hat))
          go_roundg k2
          case measure => omega
          case rel => exact ⟨n + 1, (by first | rfl | (simp; done) | (simp [*]; done)), ⟨by have := HX.out; omega⟩, ⟨HM2.out⟩, ⟨by (with_reducible repeat (first | apply Kd.R_alloc | apply Kd.R_drewN | apply Kd.R_drew)); exact HO.out⟩, ⟨by (with_reducible repeat (first | apply Kd.R_alloc | apply Kd.R_drewN | apply Kd.R_drew)); exact HO5.out⟩, ⟨by (with_reducible repeat (first | apply Kd.R_alloc | apply Kd.R_drewN | apply Kd.R_drew)); exact HVA.out⟩, ⟨by (with_reducible repeat (first | apply Kd.R_alloc | apply Kd.R_drewN | apply Kd.R_drew)); exact HVB.out⟩, ⟨by repeat (first | (with_reducible first | exact HK.out | apply Kept.alloc | apply Kept.drewN | apply Kept.drew) | exact HK.out)⟩, ⟨by repeat (first | (with_reducible first | exact HB.out | apply below_alloc | apply pw_below_drewN | apply below_drew1) | exact HB.out)⟩⟩
        | zero =>
          have c3b0 : decide ((n : Int) < 64) = false := decide_eq_false (by have := HX.out; omega)
          obtain rfl : n = 64 := by have := HX.out; omega
          obtain ⟨Y, hY⟩ : ∃ Y : List Int, Y = ys ++ List.replicate 64 (-22) := ⟨_, rfl⟩
          rw [← hY] at HO
          have eY : IntKind.i64.wrap ((ys.length : Int) + 64) = (Y.length : Int) := by have := HLB.out; rw [hY, List.length_append, List.length_replicate, i64_w]; unfold wrap64; omega
          clear hY HX
          obtain ⟨A6, c6, e6⟩ := Kd.R_slice HO.out
          subst e6
          go_wp2
          go_loopg [9] 64 (fun kq v9 w' => ∃ (j : Int), v9 = .int .i64 j ∧ Aside0 ((xs.length : Int) ≤ j ∧ j + kq = (X.length : Int)) ∧ Aside0 (Kd.R (Kd.int .i64) 3 w' w0.heap.size (fun k => (Sa k ∨ w.heap.size ≤ k) ∧ k < m1) (.slice A5 X.length c5) X) ∧ Aside0 (Kd.R (Kd.int .i64) 3 w' w0.heap.size Sa (.slice Aa xs.length ca) xs) ∧ Aside0 (Kd.R (Kd.int .i64) 3 w' w0.heap.size Sb (.slice Ab ys.length cb) ys) ∧ Aside0 (Kept w w' S) ∧ Aside0 (Below w0.heap.size w0 w'))
          case atStart => exact ⟨(xs.length : Int), (by first | rfl | (simp; done)), ⟨⟨Int.le_refl _, by rw [HXl.out]; omega⟩⟩, ⟨by (with_reducible repeat (first | apply Kd.R_alloc | apply Kd.R_drewN | apply Kd.R_drew)); exact HO5.out⟩, ⟨by (with_reducible repeat (first | apply Kd.R_alloc | apply Kd.R_drewN | apply Kd.R_drew)); exact HVA.out⟩, ⟨by (with_reducible repeat (first | apply Kd.R_alloc | apply Kd.R_drewN | apply Kd.R_drew)); exact HVB.out⟩, ⟨by repeat (first | (with_reducible first | exact HK.out | apply Kept.alloc | apply Kept.drewN | apply Kept.drew) | exact HK.out)⟩, ⟨by repeat (first | (with_reducible first | exact HB.out | apply below_alloc | apply pw_below_drewN | apply below_drew1) | exact HB.out)⟩⟩
          case round =>
            clear HVA HVB HO5 HO HM2
            obtain ⟨j, rfl, HJ, HO5, HVA, HVB, HK, HB⟩ := hrel
            cases gk with
            | succ k3 =>
              have q1 : j < (X.length : Int) := by have := HJ.out.2; omega
              have p1 : 0 ≤ j := by have := HJ.out.1; omega
              have c4b0 : decide (j < (X.length : Int)) = true := decide_eq_true q1
              obtain ⟨ad1, e1_, hx1⟩ := Kd.at_int (Kd.R_reads' HO5.out).2.2 j p1 q1
              rw [HXr.out j HJ.out.1 q1] at hx1
              cases e1_
              have e4 : IntKind.i64.wrap (j + 1) = j + 1 := by have := HXl.out; have := HLA.out; rw [i64_w]; unfold wrap64; omega
              replace p1 := eq_true p1
              replace q1 := eq_true q1
              go_wp2
              repeat (go_quiet (fail); try go_wp2)
              go_roundg k3
              case measure => omega
              case rel => exact ⟨j + 1, (by first | rfl | (simp; done) | (simp [*]; done)), ⟨⟨by have := HJ.out.1; omega, by have := HJ.out.2; omega⟩⟩, ⟨by (with_reducible repeat (first | apply Kd.R_alloc | apply Kd.R_drewN | apply Kd.R_drew)); exact HO5.out⟩, ⟨by (with_reducible repeat (first | apply Kd.R_alloc | apply Kd.R_drewN | apply Kd.R_drew)); exact HVA.out⟩, ⟨by (with_reducible repeat (first | apply Kd.R_alloc | apply Kd.R_drewN | apply Kd.R_drew)); exact HVB.out⟩, ⟨by repeat (first | (with_reducible first | exact HK.out | apply Kept.alloc | apply Kept.drewN | apply Kept.drew) | exact HK.out)⟩, ⟨by repeat (first | (with_reducible first | exact HB.out | apply below_alloc | apply pw_below_drewN | apply below_drew1) | exact HB.out)⟩⟩
            | zero =>
              have c4b0 : decide (j < (X.length : Int)) = false := decide_eq_false (by have := HJ.out.2; omega)
              go_wp2
              repeat (go_quiet (fail); try go_wp2)
              go_ret
              exact ⟨by first | rfl | (simp; done), by repeat (first | (with_reducible first | exact HB.out | apply below_alloc | apply pw_below_drewN | apply below_drew1) | exact HB.out), by rw [← HE.out.1]; exact (by (with_reducible repeat (first | apply Kd.R_alloc | apply Kd.R_drewN | apply Kd.R_drew)); exact HVA.out), by rw [← HE.out.2.1]; exact (by (with_reducible repeat (first | apply Kd.R_alloc | apply Kd.R_drewN | apply Kd.R_drew)); exact HVB.out), by rw [← HE.out.2.2]; exact (by repeat (first | (with_reducible first | exact HK.out | apply Kept.alloc | apply Kept.drewN | apply Kept.drew) | exact HK.out))⟩
end Go.Proofs.YtgcibhbhbgoacaaDoor
