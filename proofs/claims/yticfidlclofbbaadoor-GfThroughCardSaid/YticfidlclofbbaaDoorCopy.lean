/- The builtin copy into a row of the call's own, in the words of the printed walks. -/
import Derived.Test.YticfidlclofbbaaDoorG0
import Derived.Laws.CopyOwn
namespace Go.Proofs.YticfidlclofbbaaDoor
open Go.RowKit Go.Proofs.YticfidlclofbbaaDoorW.PrintWords
/-- 'copy(xs, ys)', xs a row of the call's own, ys whatever is read: xs holds the first of ys, and behind them what it held. -/
theorem copy_rows {P : Program} {w0 w : World} {ops : Array Oper} {rest : List Oper} {o : Oper} {a : Act} {Q : Exit → Act → World → Prop} (hgd : o.guard = none) (d s : Operand) (dT sT : TypeId)
    (ho : o.op = .call { callee := .builtin .copy, args := #[d, s], argTypes := #[dT, sT] }) (e : TypeId) (k : IntKind) (hu : P.underlying dT = some (.slice e)) (hsz : (P.info? e).map (·.size) = some 1)
    (A : Option Addr) (n c : Nat) (xs : List Int) (A2 : Option Addr) (m c2 : Nat) (ys : List Int) (hd : a.eval d = .slice A n c) (hs : a.eval s = .slice A2 m c2) {base : Nat} {ok : Nat → Prop}
    (hx : Kd.R (Kd.int k) e w base ok (.slice A n c) xs) (hy : Kd.C (Kd.int k) w A2 m ys) (hb : Below w0.heap.size w0 w) (hB : w0.heap.size ≤ base)
    (h : ∀ w', Kd.R (Kd.int k) e w' base ok (.slice A n c) (ys.take (Nat.min m n) ++ xs.drop (Nat.min m n)) → Below w0.heap.size w0 w' → wpList P ops Q rest (a.put o.dst (goInt (Nat.min m n))) w') :
    wpList P ops Q (o :: rest) a w := by
  obtain ⟨hn, _, _⟩ := Kd.R_reads' hx
  have hm : ys.length = m := hy.1
  have hle : Nat.min m n ≤ m := Nat.min_le_left _ _
  have hle2 : Nat.min m n ≤ n := Nat.min_le_right _ _
  have law0 := fun (h0 : Nat.min m n = 0) => wpList_copy_nothing (P := P) (w := w) (ops := ops) (rest := rest) (o := o) (a := a) (Q := Q) hgd d s dT sT ho e hu hsz A A2 n c m c2 hd hs h0
  have law1 := fun (g : Nat) (ad : Addr) (hA : A = some ⟨g, 0, none⟩) (hA2 : A2 = some ad) (cur : Array Value) (hg : w.heap[g]? = some (.cells cur e (0, 0))) (cs : List Value) (hn : cs.length = Nat.min m n) =>
    wpList_copy_own (P := P) (w := w) (ops := ops) (rest := rest) (o := o) (a := a) (Q := Q) hgd d s dT sT ho e hu hsz g 0 n c ad m c2 (by rw [hd, hA]) (by rw [hs, hA2]) cur e hg cs hn
  generalize Nat.min m n = q at *
  by_cases h0 : q = 0
  · subst h0
    exact law0 rfl (h w (by simpa using hx) hb)
  · have hown := Kd.own_of_R hx
    obtain ⟨h1, h2⟩ := hown
    rcases h2 with ⟨hv, hz⟩ | ⟨g, cap, cur, hv, hbg, hh, hnc, hcm, hcs, hcur⟩
    · omega
    · injection hv with e1 e2 e3
      obtain ⟨ad, hA2, hrd⟩ := (Kd.reads_of_C (d := (0 : Int)) hy).2.2 (by omega)
      have hcl : (encs (Value.int k) (ys.take q)).length = q := by simp [encs]; omega
      have hcur2 : cur.toList.length = cap := by rw [Array.length_toList, hcs, Nat.mul_one]
      refine law1 g ad e1 hA2 cur hh (encs (Value.int k) (ys.take q)) hcl ?_ (by rw [hcl]; omega) ?_ ?_
      · intro j v hj
        have hjl : j < q := by
          rw [← hcl]; exact (List.getElem?_eq_some_iff.1 hj).1
        rw [hrd j (by omega)]
        have hys : ys[j]? = some (ys.getD j 0) := by rw [List.getD_eq_getElem?_getD, List.getElem?_eq_getElem (show j < ys.length by omega)]; rfl
        unfold encs at hj
        rw [List.getElem?_map, List.getElem?_take, if_pos hjl, hys] at hj
        exact hj
      · intro v hv
        simp only [encs, List.mem_map] at hv
        obtain ⟨x, _, rfl⟩ := hv
        rfl
      · rw [hcl]
        refine h _ ?_ (below_setRow hb (Nat.le_trans hB hbg) _)
        have hlen : (ys.take q ++ xs.drop q).length = xs.length := by
          rw [List.length_append, List.length_take, List.length_drop]; omega
        refine Kd.R_of_own ?_ hx.1
        rw [hlen]
        refine ⟨by unfold encs; rw [List.length_map, hlen, Nat.mul_one], .inr ⟨g, cap, _, by rw [e1, e2, e3], hbg, setRow_heap w g cur _ e _ hh, hnc, hcm, ?_, ?_⟩⟩
        · simp only [List.take_zero, List.nil_append, List.size_toArray, List.length_append, hcl, List.length_drop, hcur2, Nat.zero_add]
          omega
        · have hc2 : cur.toList.take xs.length = encs (Value.int k) xs := by rw [Nat.mul_one] at hcur; exact hcur
          have h3 : (encs (Value.int k) (ys.take q) ++ cur.toList.drop q).take xs.length = encs (Value.int k) (ys.take q) ++ encs (Value.int k) (xs.drop q) := by
            rw [List.take_append, hcl]
            congr 1
            · rw [List.take_of_length_le (by rw [hcl]; omega)]
            · rw [← List.drop_take, hc2]
              unfold encs; rw [List.map_drop]
          simp only [List.take_zero, List.nil_append, Nat.zero_add, Nat.mul_one]
          rw [h3]
          unfold encs; rw [List.map_append]
end Go.Proofs.YticfidlclofbbaaDoor
