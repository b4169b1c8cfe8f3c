import Derived.Test.YtgcibhbhbgoacaaDoorLst
namespace FB

theorem evL_canon {p : PS} {d : Nat} (h : p.below d) (x : F) : evL (canon p d) x = PS.ev d p x := by
  rw [← evL_of_below _ _ d (canon_length _ _), of_canon h]
theorem add_below (p q : List F) : (PS.of p + PS.of q).below (max p.length q.length) := ((PS.of_below p).mono (by omega)).add ((PS.of_below q).mono (by omega))
def addP (p q : List F) : List F := canon (PS.of p + PS.of q) (max p.length q.length)
theorem of_addP (p q : List F) : PS.of (addP p q) = PS.of p + PS.of q := of_canon (add_below p q)
theorem evL_addP (p q : List F) (x : F) : evL (addP p q) x = evL p x + evL q x := by
  unfold addP; rw [evL_canon (add_below p q), PS.ev_add, evL_of_below _ _ _ (by omega), evL_of_below _ _ _ (by omega)]
theorem addP_length (p q : List F) : (addP p q).length ≤ max p.length q.length := canon_length _ _
theorem short_addP (p q : List F) : Short (addP p q) := short_canon _ _
def scL (c : F) (p : List F) : List F := p.map (· * c)
theorem of_scL (c : F) (p : List F) : PS.of (scL c p) = PS.sc c (PS.of p) := by
  apply PS.ext; intro n
  show (p.map (· * c)).getD n 0 = c * p.getD n 0
  rw [List.getD_eq_getElem?_getD, List.getElem?_map, List.getD_eq_getElem?_getD]
  cases p[n]? with
  | none => simp [F.mul_zero]
  | some a => simp [F.mul_comm]
theorem scL_length (c : F) (p : List F) : (scL c p).length = p.length := List.length_map ..
theorem evL_scL (c : F) (p : List F) (x : F) : evL (scL c p) x = c * evL p x := by
  unfold evL; rw [scL_length, of_scL, PS.ev_sc]
def linL (rs : List F) : List F := canon (PS.lin rs) (rs.length + 1)
theorem of_linL (rs : List F) : PS.of (linL rs) = PS.lin rs := of_canon (PS.lin_below rs)
theorem short_linL (rs : List F) : Short (linL rs) := short_canon _ _
theorem linL_length (rs : List F) : (linL rs).length = rs.length + 1 := by
  have h1 : (linL rs).length ≤ _ := canon_length _ _
  have h2 : ¬ (linL rs).length ≤ rs.length := by
    intro h
    have := PS.of_below (linL rs) _ h
    rw [of_linL, PS.lin_top] at this
    exact F.one_ne_zero this
  omega
theorem linL_nil : linL [] = [1] := by
  refine Short.eq (short_canon _ _) (short_of_last (fun _ => by decide)) ?_
  show PS.of (linL []) = PS.of [1]
  rw [of_linL]
  apply PS.ext; intro n
  match n with
  | 0 => rfl
  | n + 1 => rfl
theorem evL_linL (rs : List F) (x : F) : evL (linL rs) x = 0 ↔ x ∈ rs := by
  unfold linL; rw [evL_canon (PS.lin_below rs)]; exact PS.lin_root_iff rs x
theorem xa_eq (x : F) : PS.xa x = PS.C x + PS.sh 1 1 := by
  apply PS.ext; intro n
  rw [PS.add_at]
  match n with
  | 0 => show x = x + 0; rw [F.add_zero]
  | 1 => rw [PS.C_succ, F.zero_add, PS.sh_succ_at, PS.sh_zero]; rfl
  | n + 2 => rw [PS.C_succ, F.zero_add, PS.sh_succ_at, PS.sh_zero]; rfl
theorem linL_cons (x : F) (rs : List F) : addP (0 :: linL rs) (scL x (linL rs)) = linL (x :: rs) := by
  refine Short.eq (short_addP _ _) (short_linL _) ?_
  rw [of_addP, of_cons, of_scL, of_linL, of_linL]
  show _ = PS.xa x * PS.lin rs
  rw [xa_eq, PS.add_mul, PS.C_mul, PS.sh_mul, PS.one_mul, PS.add_comm (PS.sc x _)]
  congr 1
  apply PS.ext; intro n
  rw [PS.add_at]
  cases n with
  | zero => rw [PS.C_zero, F.zero_add]
  | succ n => rw [PS.C_succ, F.zero_add]
/-- below a number of unlike points a polynomial is told by its values there -/
theorem short_unique {xs : List F} (hn : xs.Nodup) {p q : List F} (hp : Short p) (hq : Short q) (lp : p.length ≤ xs.length) (lq : q.length ≤ xs.length) (h : ∀ x ∈ xs, evL p x = evL q x) : p = q := by
  refine hp.eq hq (PS.add_eq_zero.1 (PS.zero_of_roots hn (d := xs.length) (((PS.of_below p).mono lp).add ((PS.of_below q).mono lq)) (fun r hr => ?_) (Nat.le_refl _)))
  rw [PS.ev_add, evL_of_below _ _ _ lp, evL_of_below _ _ _ lq, h r hr, F.add_self]
/-- one point more -/
def nwC (p rs : List F) (x y : F) : F := (y + evL p x) * F.inv (evL (linL rs) x)
def nwP (p rs : List F) (x y : F) : List F := addP p (scL (nwC p rs x y) (linL rs))
theorem nwP_length {p rs : List F} (x y : F) (h : p.length ≤ rs.length) : (nwP p rs x y).length ≤ rs.length + 1 := by
  have := addP_length p (scL (nwC p rs x y) (linL rs))
  rw [scL_length, linL_length] at this
  unfold nwP; omega
theorem nwP_old {p rs : List F} (x y : F) {a : F} (h : a ∈ rs) : evL (nwP p rs x y) a = evL p a := by
  unfold nwP; rw [evL_addP, evL_scL, (evL_linL rs a).2 h, F.mul_zero, F.add_zero]
theorem nwP_new {p rs : List F} (x y : F) (h : x ∉ rs) : evL (nwP p rs x y) x = y := by
  have hne : evL (linL rs) x ≠ 0 := fun e => h ((evL_linL rs x).1 e)
  unfold nwP nwC; rw [evL_addP, evL_scL, F.mul_assoc, F.inv_mul hne, F.mul_one, F.add_comm y, F.add_cancel]
/-- the polynomial through points: point by point -/
def thr : List F → List F → List F → List F → List F
  | p, rs, x :: xs, y :: ys => thr (nwP p rs x y) (x :: rs) xs ys
  | p, _, _, _ => p
theorem nodup_bound : ∀ (n : Nat) (l : List Nat), l.Nodup → (∀ x ∈ l, x < n) → l.length ≤ n
  | 0, l, _, h => by
    cases l with
    | nil => simp
    | cons a l => exact absurd (h a (List.mem_cons_self ..)) (by omega)
  | n + 1, l, hn, h => by
    by_cases hm : n ∈ l
    · have h1 := nodup_bound n (l.erase n) (hn.erase n) (fun x hx => by
        have h2 := (List.Nodup.mem_erase_iff hn).1 hx
        have := h x h2.2
        have := h2.1
        omega)
      rw [List.length_erase_of_mem hm] at h1
      omega
    · have h1 := nodup_bound n l hn (fun x hx => by
        have h2 := h x hx
        have : x ≠ n := fun e => hm (e ▸ hx)
        omega)
      omega
theorem nodup_rev {l : List F} : l.reverse.Nodup ↔ l.Nodup := by
  unfold List.Nodup; rw [List.pairwise_reverse]
  exact ⟨fun h => h.imp (fun e => e.symm), fun h => h.imp (fun e => e.symm)⟩
theorem F.nodup_length {l : List F} (h : l.Nodup) : l.length ≤ 256 := by
  have := nodup_bound 256 (l.map F.n) (List.Pairwise.map F.n (fun a b (hab : a ≠ b) (e : a.n = b.n) => hab (F.ext e)) h) (fun x hx => by
    obtain ⟨a, _, rfl⟩ := List.mem_map.1 hx; exact a.lt)
  simpa using this
end FB
