import Derived.Test.YtcncjldggfbjdaaO2
namespace Go.Proofs.Ytcncjldggfbjdaa.O

theorem Inn.ends {r : List Int} {i : Nat} {ys0 : List Int} : ∀ (j : Nat) (ys : List Int), i < ys.length → j ≤ i → Inn r 0 i j ys0 ys → ∃ ys', Out r 0 (i + 1) ys0 ys' ∧ ys'.length = ys.length
  | 0, ys, _, hj, h => ⟨ys, h.out (Nat.zero_le _) hj (.inl rfl), rfl⟩
  | j + 1, ys, hl, hj, h => by
    cases hlt : lt r (ys.getD (j + 1) 0) (ys.getD (j + 1 - 1) 0) with
    | false => exact ⟨ys, h.out (Nat.zero_le _) hj (.inr hlt), rfl⟩
    | true =>
      obtain ⟨ys', h1, h2⟩ := Inn.ends j (swap ys (j + 1) j) (by rw [swap_length]; exact hl) (by omega) (h.step (by omega) hj hl hlt)
      exact ⟨ys', h1, by rw [h2, swap_length]⟩
theorem Out.exists (r : List Int) (n : Nat) : ∀ i, 1 ≤ i → i ≤ n → ∃ ys, Out r 0 i (idx n) ys ∧ ys.length = n
  | 0, h, _ => absurd h (by omega)
  | 1, _, _ => ⟨idx n, Out.first r 0 _, idx_length n⟩
  | i + 2, _, h2 => by
    obtain ⟨ys, h3, h4⟩ := Out.exists r n (i + 1) (by omega) (by omega)
    obtain ⟨ys', h5, h6⟩ := Inn.ends (i + 1) ys (by omega) (Nat.le_refl _) (h3.inn (by omega) (fun k _ hk => idx_at _ _ (by omega)))
    exact ⟨ys', h5, by omega⟩
/-- The indices can be put into the order. -/
theorem order_exists (r : List Int) : ∃ ys, Swaps 0 r.length (idx r.length) ys ∧ Sorted r ys 0 r.length := by
  rcases Nat.eq_zero_or_pos r.length with h | h
  · exact ⟨idx r.length, .refl _, fun p q h1 h2 h3 => by omega⟩
  · obtain ⟨ys, h1, _⟩ := Out.exists r r.length r.length h (Nat.le_refl _)
    exact ⟨ys, h1.sw, h1.so⟩
theorem sum_set : ∀ (xs : List Int) (m : Nat) (v : Int), m < xs.length → (xs.set m v).sum = xs.sum - xs.getD m 0 + v
  | [], _, _, h => absurd h (by simp)
  | x :: xs, 0, v, _ => by simp; omega
  | x :: xs, m + 1, v, h => by
    have := sum_set xs m v (by simpa using h)
    simp only [List.set_cons_succ, List.sum_cons, List.getD_cons_succ]
    omega
theorem bump_sum (t : Int) (l : List Int) : ∀ k : Nat, k ≤ l.length → (bump t l k).sum = (quots t l).sum + k
  | 0, _ => by rw [show ((0 : Nat) : Int) = 0 from rfl, bump_zero]; omega
  | k + 1, h => by
    obtain ⟨ys, h1, h2⟩ := order_exists (rests t l)
    rw [rests_length] at h1 h2
    obtain ⟨m, _, hm, hme⟩ := h1.inside k (Nat.zero_le _) (by omega)
    rw [idx_at _ _ hm] at hme
    obtain ⟨h3, h4⟩ := bump_succ t l ys h1 h2 k m (by omega) hme
    have ih := bump_sum t l k (by omega)
    rw [Int.natCast_add, Int.natCast_one, h4, sum_set _ _ _ (by rw [bump_length]; exact h3), ih]
    omega
/-- The parts have the sum t. -/
theorem share_sum {t : Int} {l : List Int} (hW : 0 < l.sum) : (shareL t l).sum = t := by
  obtain ⟨h1, h2⟩ := left_bd t l hW
  obtain ⟨k, hk⟩ := Int.eq_ofNat_of_zero_le h1
  unfold shareL
  rw [hk, bump_sum t l k (by omega)]
  unfold leftOf at hk
  omega
theorem sum_le_count : ∀ {l : List Int} {W : Int}, 0 ≤ W → (∀ x ∈ l, x ≤ W) → l.sum ≤ (l.countP fun x => decide (0 < x)) * W
  | [], _, _, _ => by simp
  | x :: l, W, h0, h => by
    have h1 := h x (by simp); have h2 := sum_le_count (l := l) h0 (fun y hy => h y (by simp [hy]))
    rw [List.sum_cons, List.countP_cons]
    by_cases hx : 0 < x
    · simp only [hx, decide_true, if_true, Int.natCast_add, Int.natCast_one, Int.add_mul]
      omega
    · simp only [hx, decide_false]
      simp
      omega
theorem countP_map_idx (r : List Int) (p : Int → Bool) : (idx r.length).countP (fun j => p (r.getD j.toNat 0)) = r.countP p := by
  have e : r = (idx r.length).map fun j => r.getD j.toNat 0 := by
    refine List.ext_getElem (by simp [idx]) fun i h1 h2 => ?_
    simp [idx, h1]
  conv => rhs; rw [e]
  rw [List.countP_map]
  rfl
theorem countP_mono {p q : Int → Bool} : ∀ {l : List Int}, (∀ x ∈ l, p x = true → q x = true) → l.countP p ≤ l.countP q
  | [], _ => Nat.le_refl _
  | x :: l, h => by
    have := countP_mono (l := l) (fun y hy => h y (by simp [hy]))
    rw [List.countP_cons, List.countP_cons]
    have hx := h x (by simp)
    cases hp : p x <;> cases hq : q x <;> simp_all <;> omega
/-- What gets one more has a remainder. -/
theorem rank_rest {t : Int} {l : List Int} (hW : 0 < l.sum) {i : Nat} (hi : i < l.length) (h : (rank (rests t l) (i : Nat) : Int) < leftOf t l) : 0 < (rests t l).getD i 0 := by
  have hr0 : ∀ x ∈ rests t l, 0 ≤ x ∧ x ≤ l.sum := fun x hx => by
    obtain ⟨y, _, rfl⟩ := List.mem_map.1 hx
    exact ⟨Int.emod_nonneg _ (by omega), Int.le_of_lt (Int.emod_lt_of_pos _ hW)⟩
  have h1 := sum_le_count (l := rests t l) (W := l.sum) (by omega) (fun x hx => (hr0 x hx).2)
  rw [← left_eq, Int.mul_comm] at h1
  have h2 : leftOf t l ≤ ((rests t l).countP fun x => decide (0 < x) : Nat) := Int.le_of_mul_le_mul_right h1 hW
  by_cases hz : 0 < (rests t l).getD i 0
  · exact hz
  · have hi0 : (rests t l).getD i 0 = 0 := by
      have := hr0 _ (List.getElem_mem (show i < (rests t l).length by rw [rests_length]; exact hi))
      rw [← getD_eq _ _ (by rw [rests_length]; exact hi)] at this
      omega
    have h3 : ((rests t l).countP fun x => decide (0 < x)) ≤ rank (rests t l) (i : Nat) := by
      rw [← countP_map_idx]
      unfold rank
      refine countP_mono fun x _ hx => ?_
      simp only [decide_eq_true_eq] at hx
      simp only [lt, Int.toNat_natCast, Bool.or_eq_true, decide_eq_true_eq]
      left; omega
    omega
/-- A part is its proportion, rounded down or up, and at most its weight. -/
theorem share_at {t : Int} {l : List Int} (h0 : ∀ x ∈ l, 0 ≤ x) (hW : 0 < l.sum) (ht0 : 0 ≤ t) (ht : t ≤ l.sum) (i : Nat) (hi : i < l.length) :
    0 ≤ (shareL t l).getD i 0 ∧ (shareL t l).getD i 0 ≤ l.getD i 0 ∧ ((shareL t l).getD i 0 = t * l.getD i 0 / l.sum ∨ ((shareL t l).getD i 0 = t * l.getD i 0 / l.sum + 1 ∧ 0 < t * l.getD i 0 % l.sum)) := by
  have hx := h0 _ (List.getElem_mem hi)
  have hq := quot_le h0 hW ht (List.getElem_mem hi)
  rw [← getD_eq _ _ hi] at hx hq
  have hq0 : 0 ≤ t * l.getD i 0 / l.sum := Int.ediv_nonneg (Int.mul_nonneg ht0 hx) (by omega)
  have e := bump_at t l (leftOf t l) i hi
  have hdm := Int.mul_ediv_add_emod (t * l.getD i 0) l.sum
  unfold shareL
  rw [e]
  by_cases h : (rank (rests t l) (i : Nat) : Int) < leftOf t l
  · rw [if_pos h]
    have hr := rank_rest hW hi h
    rw [rests_at _ _ _ hi] at hr
    refine ⟨by omega, ?_, .inr ⟨rfl, hr⟩⟩
    -- the quotient is below the weight
    have h1 : t * l.getD i 0 ≤ l.sum * l.getD i 0 := Int.mul_le_mul_of_nonneg_right ht hx
    by_cases he : t * l.getD i 0 / l.sum = l.getD i 0
    · rw [he] at hdm; omega
    · omega
  · rw [if_neg h]
    exact ⟨by omega, by omega, .inl (by omega)⟩
theorem share_length (t : Int) (l : List Int) : (shareL t l).length = l.length := bump_length ..
/-- Dividing everything gives the weights. -/
theorem share_whole {l : List Int} (hW : 0 < l.sum) : shareL l.sum l = l := by
  have e : quots l.sum l = l := by
    refine ext_getD (quots_length ..) fun i hi => ?_
    rw [quots_length] at hi
    rw [quots_at _ _ _ hi, Int.mul_ediv_cancel_left _ (by omega)]
  unfold shareL leftOf
  rw [e, Int.sub_self, bump_zero, e]
end Go.Proofs.Ytcncjldggfbjdaa.O
