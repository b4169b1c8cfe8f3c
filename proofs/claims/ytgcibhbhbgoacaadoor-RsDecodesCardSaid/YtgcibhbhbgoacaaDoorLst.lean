import Derived.Test.YtgcibhbhbgoacaaDoorPol
namespace FB

/-- without zeros at its end -/
def shortL : List F → List F
  | [] => []
  | a :: l => match shortL l with
    | [] => if a = 0 then [] else [a]
    | b :: r => a :: b :: r
theorem of_shortL : ∀ l : List F, PS.of (shortL l) = PS.of l
  | [] => rfl
  | a :: l => by
    have ih := of_shortL l
    have cons : ∀ (a : F) (x y : List F), PS.of x = PS.of y → PS.of (a :: x) = PS.of (a :: y) := by
      intro a x y h
      apply PS.ext; intro n
      cases n with
      | zero => rfl
      | succ n => exact congrFun h n
    unfold shortL
    cases h : shortL l with
    | nil =>
      rw [h] at ih
      by_cases ha : a = 0
      · simp only [ha, if_true]
        apply PS.ext; intro n
        cases n with
        | zero => rfl
        | succ n => exact congrFun ih n
      · simp only [ha, if_false]
        exact cons a _ _ ih
    | cons b r =>
      rw [h] at ih
      exact cons a _ _ ih
theorem shortL_length : ∀ l : List F, (shortL l).length ≤ l.length
  | [] => Nat.le_refl _
  | a :: l => by
    have ih := shortL_length l
    unfold shortL
    cases h : shortL l with
    | nil => by_cases ha : a = 0 <;> simp [ha]
    | cons b r => rw [h] at ih; simpa using ih
theorem shortL_zero : ∀ l : List F, PS.of l = 0 → shortL l = []
  | [], _ => rfl
  | a :: l, h => by
    have ha : a = 0 := congrFun h 0
    have hl : PS.of l = 0 := PS.ext fun n => congrFun h (n + 1)
    unfold shortL
    rw [shortL_zero l hl]
    simp [ha]
/-- lists of one polynomial have one short form -/
theorem shortL_eq : ∀ l l' : List F, PS.of l = PS.of l' → shortL l = shortL l'
  | [], l', h => (shortL_zero l' h.symm).symm
  | a :: l, [], h => shortL_zero (a :: l) h
  | a :: l, b :: l', h => by
    have ha : a = b := congrFun h 0
    have hl : PS.of l = PS.of l' := PS.ext fun n => congrFun h (n + 1)
    subst ha
    unfold shortL
    rw [shortL_eq l l' hl]
theorem shortL_idem (l : List F) : shortL (shortL l) = shortL l := shortL_eq _ _ (of_shortL l)
theorem shortL_last : ∀ l : List F, shortL l ≠ [] → (shortL l).getD ((shortL l).length - 1) 0 ≠ 0
  | [], h => absurd rfl h
  | a :: l, h => by
    unfold shortL at h ⊢
    cases e : shortL l with
    | nil =>
      rw [e] at h
      by_cases ha : a = 0
      · simp [ha] at h
      · simp [ha]
    | cons b r =>
      have ih := shortL_last l (by rw [e]; simp)
      rw [e] at ih
      simpa using ih
/-- the list is in its short form -/
def Short (l : List F) : Prop := shortL l = l
theorem short_shortL (l : List F) : Short (shortL l) := shortL_idem l
theorem Short.last {l : List F} (h : Short l) (hn : l ≠ []) : l.getD (l.length - 1) 0 ≠ 0 := by
  have := shortL_last l (by rw [h]; exact hn)
  rwa [h] at this
theorem short_of_last : ∀ {l : List F}, (l ≠ [] → l.getD (l.length - 1) 0 ≠ 0) → Short l
  | [], _ => rfl
  | [a], h => by
    have ha : a ≠ 0 := by simpa using h
    simp [Short, shortL, ha]
  | a :: b :: l, h => by
    have ih : Short (b :: l) := short_of_last (fun _ => by simpa using h)
    show shortL (a :: b :: l) = _
    unfold shortL
    rw [ih]
/-- the length of a short list is the least bound -/
theorem Short.length_le {l : List F} (h : Short l) {d : Nat} (hd : (PS.of l).below d) : l.length ≤ d := by
  by_cases hn : l = []
  · subst hn; exact Nat.zero_le _
  · have h1 := h.last hn
    have h2 : 0 < l.length := List.length_pos_iff.2 hn
    rcases Nat.lt_or_ge (l.length - 1) d with h3 | h3
    · omega
    · exact absurd (hd _ h3) h1
theorem shortL_length_le {l : List F} {d : Nat} (hd : (PS.of l).below d) : (shortL l).length ≤ d :=
  (short_shortL l).length_le (by rw [of_shortL]; exact hd)

/-- c times x to the power of k -/
def PS.mono (k : Nat) (c : F) : PS := PS.sh k (PS.C c)
theorem PS.mono_at (k : Nat) (c : F) (n : Nat) : PS.mono k c n = if n = k then c else 0 := by
  unfold PS.mono PS.sh PS.C
  by_cases h : n < k
  · rw [if_pos h, if_neg (by omega)]
  · rw [if_neg h]
    by_cases e : n = k
    · rw [if_pos (by omega), if_pos e]
    · rw [if_neg (by omega), if_neg e]
theorem PS.mono_mul (k : Nat) (c : F) (p : PS) : PS.mono k c * p = PS.sh k (PS.sc c p) := by
  rw [PS.mono, PS.sh_mul, PS.C_mul]
theorem PS.mono_below (k : Nat) (c : F) : (PS.mono k c).below (k + 1) := fun n hn => by rw [PS.mono_at, if_neg (by omega)]
/-- a list in which one element is raised -/
theorem of_set_add (l : List F) (k : Nat) (c : F) (h : k < l.length) : PS.of (l.set k (l.getD k 0 + c)) = PS.of l + PS.mono k c := by
  apply PS.ext; intro n
  rw [PS.add_at, PS.mono_at]
  show (l.set k (l.getD k 0 + c)).getD n 0 = l.getD n 0 + _
  by_cases e : n = k
  · subst e; simp [List.getD_eq_getElem?_getD, h]
  · simp [List.getD_eq_getElem?_getD, e, F.add_zero, Ne.symm e]
theorem of_set (l : List F) (k : Nat) (c : F) (h : k < l.length) : PS.of (l.set k c) = fun n => if n = k then c else PS.of l n := by
  apply PS.ext; intro n
  show (l.set k c).getD n 0 = _
  by_cases e : n = k
  · subst e; simp [List.getD_eq_getElem?_getD, h]
  · simp [List.getD_eq_getElem?_getD, e, Ne.symm e, PS.of]
theorem of_replicate (n : Nat) : PS.of (List.replicate n 0) = 0 := by
  apply PS.ext; intro k
  show (List.replicate n 0).getD k 0 = 0
  by_cases h : k < n <;> simp [List.getD_eq_getElem?_getD, h]
theorem of_cons (a : F) (l : List F) : PS.of (a :: l) = PS.C a + PS.sh 1 (PS.of l) := by
  apply PS.ext; intro n
  cases n with
  | zero => rw [PS.add_at, PS.C_zero, PS.sh_succ_zero, F.add_zero]; rfl
  | succ n => rw [PS.add_at, PS.C_succ, PS.sh_succ_at, PS.sh_zero, F.zero_add]; rfl
theorem of_append (l m : List F) : PS.of (l ++ m) = PS.of l + PS.sh l.length (PS.of m) := by
  apply PS.ext; intro n
  rw [PS.add_at]
  show (l ++ m).getD n 0 = l.getD n 0 + PS.sh l.length (PS.of m) n
  unfold PS.sh
  by_cases h : n < l.length
  · simp [List.getD_eq_getElem?_getD, h, F.add_zero, List.getElem?_append]
  · simp [List.getD_eq_getElem?_getD, h, F.zero_add, List.getElem?_append, PS.of]
theorem of_snoc (l : List F) (a : F) : PS.of (l ++ [a]) = PS.of l + PS.mono l.length a := by
  rw [of_append]; congr 1
  have : PS.of [a] = PS.C a := by
    rw [of_cons, PS.of_nil]
    apply PS.ext; intro n
    rw [PS.add_at]; unfold PS.sh
    by_cases h : n < 1 <;> simp [h, F.add_zero, PS.zero_at]
  rw [this]; rfl
theorem of_eq_iff {l m : List F} (h : l.length = m.length) : PS.of l = PS.of m ↔ l = m := by
  constructor
  · intro e
    apply List.ext_getElem h
    intro i h1 h2
    have := congrFun e i
    simpa [PS.of, List.getD_eq_getElem?_getD, h1, h2] using this
  · rintro rfl; rfl
end FB
