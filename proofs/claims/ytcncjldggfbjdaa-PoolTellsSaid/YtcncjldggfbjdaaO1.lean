namespace Go.Proofs.Ytcncjldggfbjdaa.O

/-- The order by which what the quotients leave is handed out: the greater remainder first, of equal ones the smaller index. -/
def lt (r : List Int) (a b : Int) : Bool := decide (r.getD b.toNat 0 < r.getD a.toNat 0) || (decide (r.getD a.toNat 0 = r.getD b.toNat 0) && decide (a < b))
theorem lt_irrefl (r : List Int) (a : Int) : lt r a a = false := by simp [lt]
theorem lt_asymm {r : List Int} {a b : Int} (h : lt r a b = true) : lt r b a = false := by
  simp only [lt, Bool.or_eq_true, Bool.and_eq_true, decide_eq_true_eq, Bool.or_eq_false_iff, Bool.and_eq_false_iff, decide_eq_false_iff_not] at h ⊢
  omega
theorem lt_trans {r : List Int} {a b c : Int} (h : lt r a b = true) (h2 : lt r b c = true) : lt r a c = true := by
  simp only [lt, Bool.or_eq_true, Bool.and_eq_true, decide_eq_true_eq] at h h2 ⊢
  omega
theorem lt_total {r : List Int} {a b : Int} (h : a ≠ b) : lt r a b = true ∨ lt r b a = true := by
  simp only [lt, Bool.or_eq_true, Bool.and_eq_true, decide_eq_true_eq]
  omega

/-- The list with the elements at i and j exchanged. -/
def swap (xs : List Int) (i j : Nat) : List Int := (xs.set i (xs.getD j 0)).set j (xs.getD i 0)
theorem swap_length (xs : List Int) (i j : Nat) : (swap xs i j).length = xs.length := by simp [swap]
theorem swap_at (xs : List Int) (i j k : Nat) (hi : i < xs.length) (hj : j < xs.length) :
    (swap xs i j).getD k 0 = if k = j then xs.getD i 0 else if k = i then xs.getD j 0 else xs.getD k 0 := by
  simp only [swap, List.getD_eq_getElem?_getD, List.getElem?_set, List.length_set]
  by_cases h1 : k = j
  · subst h1; simp [hj]
  · by_cases h2 : k = i
    · subst h2; simp [hi, h1, Ne.symm h1]
    · simp [h1, h2, Ne.symm h1, Ne.symm h2]
/-- One list comes out of another one by exchanges of elements in [a, b). -/
inductive Swaps (a b : Nat) : List Int → List Int → Prop
  | refl (xs) : Swaps a b xs xs
  | step {xs ys} (i j : Nat) : Swaps a b xs ys → a ≤ i → i < b → a ≤ j → j < b → i < ys.length → j < ys.length → Swaps a b xs (swap ys i j)
theorem Swaps.length {a b : Nat} {xs ys : List Int} (h : Swaps a b xs ys) : ys.length = xs.length := by
  induction h with
  | refl => rfl
  | step i j _ _ _ _ _ _ _ ih => rw [swap_length, ih]
theorem Swaps.trans {a b : Nat} {xs ys zs : List Int} (h : Swaps a b xs ys) (h2 : Swaps a b ys zs) : Swaps a b xs zs := by
  induction h2 with
  | refl => exact h
  | step i j _ h3 h4 h5 h6 h7 h8 ih => exact Swaps.step i j ih h3 h4 h5 h6 h7 h8
theorem Swaps.mono {a b c d : Nat} {xs ys : List Int} (h : Swaps a b xs ys) (h1 : c ≤ a) (h2 : b ≤ d) : Swaps c d xs ys := by
  induction h with
  | refl => exact .refl _
  | step i j _ h3 h4 h5 h6 h7 h8 ih => exact Swaps.step i j ih (by omega) (by omega) (by omega) (by omega) h7 h8
theorem Swaps.outside {a b : Nat} {xs ys : List Int} (h : Swaps a b xs ys) (k : Nat) (hk : k < a ∨ b ≤ k) : ys.getD k 0 = xs.getD k 0 := by
  induction h with
  | refl => rfl
  | step i j _ h3 h4 h5 h6 h7 h8 ih => rw [swap_at _ _ _ _ h7 h8, if_neg (by omega), if_neg (by omega), ih]
theorem Swaps.inside {a b : Nat} {xs ys : List Int} (h : Swaps a b xs ys) : ∀ k, a ≤ k → k < b → ∃ m, a ≤ m ∧ m < b ∧ ys.getD k 0 = xs.getD m 0 := by
  induction h with
  | refl => exact fun k h1 h2 => ⟨k, h1, h2, rfl⟩
  | step i j _ h3 h4 h5 h6 h7 h8 ih =>
    intro k h1 h2
    rw [swap_at _ _ _ _ h7 h8]
    split
    · exact ih i h3 h4
    · split
      · exact ih j h5 h6
      · exact ih k h1 h2
theorem getD_eq (xs : List Int) (k : Nat) (h : k < xs.length) : xs.getD k 0 = xs[k] := by simp [h]
theorem swap_count (xs : List Int) (i j : Nat) (hi : i < xs.length) (hj : j < xs.length) (p : Int → Bool) : (swap xs i j).countP p = xs.countP p := by
  have h1 : ∀ x ∈ xs, p x = true → 0 < xs.countP p := fun x hx hp => List.countP_pos_iff.2 ⟨x, hx, hp⟩
  have hpi := h1 _ (List.getElem_mem hi)
  have hpj := h1 _ (List.getElem_mem hj)
  have e : swap xs i j = (xs.set i xs[j]).set j xs[i] := by unfold swap; rw [getD_eq _ _ hi, getD_eq _ _ hj]
  rw [e, List.countP_set (by simpa using hj), List.countP_set hi, List.getElem_set]
  by_cases e : i = j
  · subst e; simp only [if_true]; split <;> simp_all <;> omega
  · rw [if_neg e]
    cases h2 : p xs[i] <;> cases h3 : p xs[j] <;> simp_all
theorem Swaps.count {a b : Nat} {xs ys : List Int} (h : Swaps a b xs ys) (p : Int → Bool) : ys.countP p = xs.countP p := by
  induction h with
  | refl => rfl
  | step i j _ h3 h4 h5 h6 h7 h8 ih => rw [swap_count _ _ _ h7 h8, ih]
/-- The numbers from 0 to n-1. -/
def idx (n : Nat) : List Int := (List.range n).map Int.ofNat
theorem idx_length (n : Nat) : (idx n).length = n := by simp [idx]
theorem idx_at (n k : Nat) (h : k < n) : (idx n).getD k 0 = k := by simp [idx, h]
/-- Elements in [a, b) stand in the order. -/
def Sorted (r : List Int) (ys : List Int) (a b : Nat) : Prop := ∀ p q, a ≤ p → p < q → q < b → lt r (ys.getD p 0) (ys.getD q 0) = true
/-- How many stand before i. -/
def rank (r : List Int) (i : Int) : Nat := (idx r.length).countP fun j => lt r j i
theorem countP_all {p : Int → Bool} : ∀ {l : List Int}, (∀ x ∈ l, p x = true) → l.countP p = l.length
  | [], _ => rfl
  | x :: l, h => by rw [List.countP_cons_of_pos (h x (by simp)), countP_all fun y hy => h y (by simp [hy])]; rfl
theorem countP_none {p : Int → Bool} : ∀ {l : List Int}, (∀ x ∈ l, p x = false) → l.countP p = 0
  | [], _ => rfl
  | x :: l, h => by rw [List.countP_cons_of_neg (by simp [h x (by simp)]), countP_none fun y hy => h y (by simp [hy])]
/-- In the order, each element's place is its rank. -/
theorem rank_at (r ys : List Int) (h : Swaps 0 r.length (idx r.length) ys) (hs : Sorted r ys 0 r.length) (p : Nat) (hp : p < r.length) : rank r (ys.getD p 0) = p := by
  have hl : ys.length = r.length := by rw [h.length, idx_length]
  unfold rank
  rw [← h.count]
  have e : ys = ys.take p ++ ys.drop p := (List.take_append_drop p ys).symm
  have h1 : (ys.take p).countP (fun j => lt r j (ys.getD p 0)) = p := by
    rw [countP_all, List.length_take]; · omega
    intro x hx
    obtain ⟨k, hk, rfl⟩ := List.mem_iff_getElem.1 hx
    rw [List.length_take] at hk
    rw [List.getElem_take, ← getD_eq _ _ (by omega)]
    exact hs k p (by omega) (by omega) hp
  have h2 : (ys.drop p).countP (fun j => lt r j (ys.getD p 0)) = 0 := by
    rw [countP_none]
    intro x hx
    obtain ⟨k, hk, rfl⟩ := List.mem_iff_getElem.1 hx
    rw [List.length_drop] at hk
    rw [List.getElem_drop, ← getD_eq _ _ (by omega)]
    by_cases e : k = 0
    · subst e; exact lt_irrefl _ _
    · exact lt_asymm (hs p (p + k) (by omega) (by omega) (by omega))
  have h3 : ys.countP (fun j => lt r j (ys.getD p 0)) = (ys.take p ++ ys.drop p).countP (fun j => lt r j (ys.getD p 0)) := by rw [List.take_append_drop]
  rw [h3, List.countP_append, h1, h2]
  omega

/-! Insertion: the element at j, which is i, is on its way down. -/
structure Inn (r : List Int) (a i j : Nat) (ys0 ys : List Int) : Prop where
  sw : Swaps a (i + 1) ys0 ys
  at_ : ys.getD j 0 = i
  lo : ∀ p, a ≤ p → p ≤ i → p ≠ j → ys.getD p 0 < i
  so : ∀ p q, a ≤ p → p < q → q ≤ i → p ≠ j → q ≠ j → lt r (ys.getD p 0) (ys.getD q 0) = true
  up : ∀ q, j < q → q ≤ i → lt r (ys.getD j 0) (ys.getD q 0) = true
theorem Inn.step {r : List Int} {a i j : Nat} {ys0 ys : List Int} (h : Inn r a i j ys0 ys) (ha : a < j) (hj : j ≤ i) (hl : i < ys.length) (hlt : lt r (ys.getD j 0) (ys.getD (j - 1) 0) = true) : Inn r a i (j - 1) ys0 (swap ys j (j - 1)) := by
  have hs := fun k => swap_at ys j (j - 1) k (by omega) (by omega)
  refine ⟨Swaps.step j (j - 1) h.sw (by omega) (by omega) (by omega) (by omega) (by omega) (by omega), ?_, fun p h1 h2 h3 => ?_, fun p q h1 h2 h3 h4 h5 => ?_, fun q h1 h2 => ?_⟩
  · rw [hs, if_pos rfl]; exact h.at_
  · rw [hs, if_neg h3]
    split
    · exact h.lo (j - 1) (by omega) (by omega) (by omega)
    · exact h.lo p h1 h2 ‹_›
  · rw [hs, hs, if_neg h4, if_neg h5]
    by_cases e1 : p = j
    · rw [if_pos e1, if_neg (by omega)]
      exact h.so (j - 1) q (by omega) (by omega) h3 (by omega) (by omega)
    · rw [if_neg e1]
      by_cases e2 : q = j
      · rw [if_pos e2]
        exact h.so p (j - 1) h1 (by omega) (by omega) e1 (by omega)
      · rw [if_neg e2]
        exact h.so p q h1 h2 h3 e1 e2
  · rw [hs, hs, if_pos rfl, if_neg (by omega)]
    split
    · exact hlt
    · exact h.up q (by omega) h2
theorem Inn.done {r : List Int} {a i j : Nat} {ys0 ys : List Int} (h : Inn r a i j ys0 ys) (ha : a ≤ j) (hj : j ≤ i) (he : j = a ∨ lt r (ys.getD j 0) (ys.getD (j - 1) 0) = false) : Sorted r ys a (i + 1) := by
  intro p q h1 h2 h3
  by_cases e1 : p = j
  · subst e1; exact h.up q h2 (by omega)
  · by_cases e2 : q = j
    · subst e2
      rcases he with he | he
      · omega
      · have hne : ys.getD (q - 1) 0 ≠ ys.getD q 0 := by
          have := h.lo (q - 1) (by omega) (by omega) (by omega)
          rw [h.at_]; omega
        have hl : lt r (ys.getD (q - 1) 0) (ys.getD q 0) = true := by
          rcases lt_total (r := r) hne with h' | h'
          · exact h'
          · rw [h'] at he; cases he
        by_cases e3 : p = q - 1
        · subst e3; exact hl
        · exact lt_trans (h.so p (q - 1) h1 (by omega) (by omega) e1 (by omega)) hl
    · exact h.so p q h1 h2 (by omega) e1 e2
/-- So far: the elements in [a, i) stand in the order, and the others are untouched. -/
structure Out (r : List Int) (a i : Nat) (ys0 ys : List Int) : Prop where
  sw : Swaps a i ys0 ys
  so : Sorted r ys a i
theorem Out.first (r : List Int) (a : Nat) (ys0 : List Int) : Out r a (a + 1) ys0 ys0 := ⟨.refl _, fun p q h1 h2 h3 => by omega⟩
theorem Out.inn {r : List Int} {a i : Nat} {ys0 ys : List Int} (h : Out r a i ys0 ys) (ha : a < i) (h0 : ∀ k, a ≤ k → k ≤ i → ys0.getD k 0 = k) : Inn r a i i ys0 ys := by
  refine ⟨h.sw.mono (Nat.le_refl _) (by omega), ?_, fun p h1 h2 h3 => ?_, fun p q h1 h2 h3 h4 h5 => h.so p q h1 h2 (by omega), fun q h1 h2 => by omega⟩
  · rw [h.sw.outside i (by omega)]; exact h0 i (by omega) (by omega)
  · obtain ⟨m, h4, h5, h6⟩ := h.sw.inside p h1 (by omega)
    rw [h6, h0 m h4 (by omega)]; omega
theorem Inn.out {r : List Int} {a i j : Nat} {ys0 ys : List Int} (h : Inn r a i j ys0 ys) (ha : a ≤ j) (hj : j ≤ i) (he : j = a ∨ lt r (ys.getD j 0) (ys.getD (j - 1) 0) = false) : Out r a (i + 1) ys0 ys := ⟨h.sw, h.done ha hj he⟩
/-- How two remainders compare. -/
def cmpI (a b : Int) : Int := if a < b then -1 else if b < a then 1 else 0
theorem cmp_lt {r : List Int} {x y : Int} (h : y < x) : decide (cmpI (r.getD y.toNat 0) (r.getD x.toNat 0) < 0) = lt r x y := by
  unfold cmpI lt
  generalize r.getD y.toNat 0 = u
  generalize r.getD x.toNat 0 = v
  rw [decide_eq_false (show ¬ x < y by omega), Bool.and_false, Bool.or_false]
  by_cases h1 : u < v
  · rw [if_pos h1, decide_eq_true h1]; rfl
  · rw [if_neg h1, decide_eq_false h1]
    split <;> rfl
end Go.Proofs.Ytcncjldggfbjdaa.O
