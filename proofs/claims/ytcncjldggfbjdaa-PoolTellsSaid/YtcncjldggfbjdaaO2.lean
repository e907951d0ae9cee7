import Derived.Test.YtcncjldggfbjdaaO1
namespace Go.Proofs.Ytcncjldggfbjdaa.O

theorem Swaps.surj {a b : Nat} {xs ys : List Int} (h : Swaps a b xs ys) : ∀ m, m < xs.length → ∃ k, k < xs.length ∧ ys.getD k 0 = xs.getD m 0 := by
  induction h with
  | refl => exact fun m hm => ⟨m, hm, rfl⟩
  | step i j h0 h3 h4 h5 h6 h7 h8 ih =>
    intro m hm
    obtain ⟨k, hk, e⟩ := ih m hm
    have hl := h0.length
    by_cases e1 : k = i
    · subst e1; exact ⟨j, by omega, by rw [swap_at _ _ _ _ h7 h8, if_pos rfl, e]⟩
    · by_cases e2 : k = j
      · subst e2; exact ⟨i, by omega, by rw [swap_at _ _ _ _ h7 h8, if_neg (fun h => e1 h.symm), if_pos rfl, e]⟩
      · exact ⟨k, hk, by rw [swap_at _ _ _ _ h7 h8, if_neg e2, if_neg e1, e]⟩

/-- Remainders and quotients of a division of t by the weights l. -/
def rests (t : Int) (l : List Int) : List Int := l.map fun x => t * x % l.sum
def quots (t : Int) (l : List Int) : List Int := l.map fun x => t * x / l.sum
theorem rests_length (t : Int) (l : List Int) : (rests t l).length = l.length := by simp [rests]
theorem quots_length (t : Int) (l : List Int) : (quots t l).length = l.length := by simp [quots]
theorem quots_at (t : Int) (l : List Int) (i : Nat) (h : i < l.length) : (quots t l).getD i 0 = t * l.getD i 0 / l.sum := by simp [quots, h]
theorem rests_at (t : Int) (l : List Int) (i : Nat) (h : i < l.length) : (rests t l).getD i 0 = t * l.getD i 0 % l.sum := by simp [rests, h]
/-- What the quotients leave. -/
def leftOf (t : Int) (l : List Int) : Int := t - (quots t l).sum
def bump (t : Int) (l : List Int) (k : Int) : List Int := (List.range l.length).map fun i => t * l.getD i 0 / l.sum + if (rank (rests t l) (i : Nat) : Int) < k then 1 else 0
/-- The parts: the quotients, and one more for the greatest remainders. -/
def shareL (t : Int) (l : List Int) : List Int := bump t l (leftOf t l)
theorem bump_length (t : Int) (l : List Int) (k : Int) : (bump t l k).length = l.length := by simp [bump]
theorem bump_at (t : Int) (l : List Int) (k : Int) (i : Nat) (h : i < l.length) : (bump t l k).getD i 0 = t * l.getD i 0 / l.sum + if (rank (rests t l) (i : Nat) : Int) < k then 1 else 0 := by simp [bump, h]
theorem ext_getD {xs ys : List Int} (hl : xs.length = ys.length) (h : ∀ i, i < xs.length → xs.getD i 0 = ys.getD i 0) : xs = ys := by
  refine List.ext_getElem hl fun i h1 h2 => ?_
  have := h i h1
  rwa [getD_eq _ _ h1, getD_eq _ _ h2] at this
theorem bump_zero (t : Int) (l : List Int) : bump t l 0 = quots t l := by
  refine ext_getD (by rw [bump_length, quots_length]) fun i hi => ?_
  rw [bump_length] at hi
  rw [bump_at _ _ _ _ hi, quots_at _ _ _ hi, if_neg (by omega)]
  omega
theorem getD_set' (ys : List Int) (i k : Nat) (v : Int) (hi : i < ys.length) : (ys.set i v).getD k 0 = if k = i then v else ys.getD k 0 := by
  rw [List.getD_eq_getElem?_getD, List.getElem?_set, List.getD_eq_getElem?_getD]
  by_cases e : k = i
  · subst e; rw [if_pos rfl, if_pos hi, if_pos rfl]; rfl
  · rw [if_neg (fun h => e h.symm), if_neg e]
/-- The element that stands at k in the order gets one more. -/
theorem bump_succ (t : Int) (l ys : List Int) (hs : Swaps 0 l.length (idx l.length) ys) (ho : Sorted (rests t l) ys 0 l.length) (k m : Nat) (hk : k < l.length) (hm : ys.getD k 0 = m) :
    m < l.length ∧ bump t l (k + 1) = (bump t l k).set m ((bump t l k).getD m 0 + 1) := by
  have hr := rests_length t l
  have hra : ∀ p, p < l.length → rank (rests t l) (ys.getD p 0) = p := fun p hp => rank_at (rests t l) ys (by rw [hr]; exact hs) (by rw [hr]; exact ho) p (by omega)
  obtain ⟨m', h1, h2, h3⟩ := hs.inside k (by omega) hk
  rw [idx_at _ _ h2] at h3
  have hmm : m = m' := by omega
  subst hmm
  refine ⟨h2, ext_getD (by simp [bump_length]) fun i hi => ?_⟩
  rw [bump_length] at hi
  rw [getD_set' _ _ _ _ (by rw [bump_length]; exact h2), bump_at _ _ _ _ hi, bump_at _ _ _ _ h2, bump_at _ _ _ _ hi]
  have e := hra k hk
  rw [hm] at e
  by_cases h : i = m
  · subst h
    rw [if_pos rfl, e, if_pos (by omega), if_neg (by omega)]
    omega
  · rw [if_neg h]
    have : rank (rests t l) (i : Nat) ≠ k := by
      intro hk2
      obtain ⟨p, hp, e2⟩ := hs.surj i (by rw [idx_length]; exact hi)
      rw [idx_length] at hp
      rw [idx_at _ _ hi] at e2
      have e3 := hra p hp
      rw [e2, hk2] at e3
      subst e3
      rw [e2] at hm
      omega
    congr 1
    by_cases h4 : rank (rests t l) (i : Nat) < k
    · rw [if_pos (by omega), if_pos (by omega)]
    · rw [if_neg (by omega), if_neg (by omega)]
theorem sum_nonneg : ∀ {l : List Int}, (∀ x ∈ l, 0 ≤ x) → 0 ≤ l.sum
  | [], _ => by simp
  | x :: l, h => by rw [List.sum_cons]; have := h x (by simp); have := sum_nonneg (l := l) (fun y hy => h y (by simp [hy])); omega
theorem sum_le_card : ∀ {l : List Int} {W : Int}, (∀ x ∈ l, x ≤ W) → l.sum ≤ l.length * W
  | [], _, _ => by simp
  | x :: l, W, h => by
    have := h x (by simp); have := sum_le_card (l := l) (W := W) (fun y hy => h y (by simp [hy]))
    rw [List.sum_cons, List.length_cons, Int.natCast_add, Int.add_mul]; omega
theorem sum_mul_left (t W : Int) : ∀ l : List Int, (l.map fun x => t * x).sum = t * l.sum
  | [] => by simp
  | x :: l => by rw [List.map_cons, List.sum_cons, List.sum_cons, sum_mul_left t W l, Int.mul_add]
theorem sum_div_mod (W : Int) : ∀ l : List Int, l.sum = W * (l.map fun x => x / W).sum + (l.map fun x => x % W).sum
  | [] => by simp
  | x :: l => by
    rw [List.map_cons, List.map_cons, List.sum_cons, List.sum_cons, List.sum_cons, sum_div_mod W l, Int.mul_add]
    have := Int.mul_ediv_add_emod x W
    omega
/-- The remainders together are what is left, times the sum. -/
theorem left_eq (t : Int) (l : List Int) : l.sum * leftOf t l = (rests t l).sum := by
  have h1 := sum_mul_left t l.sum l
  have h2 := sum_div_mod l.sum (l.map fun x => t * x)
  rw [List.map_map, List.map_map] at h2
  have e1 : (quots t l) = List.map ((fun x => x / l.sum) ∘ fun x => t * x) l := rfl
  have e2 : (rests t l) = List.map ((fun x => x % l.sum) ∘ fun x => t * x) l := rfl
  rw [← e1, ← e2, h1] at h2
  unfold leftOf
  rw [Int.mul_sub, Int.mul_comm l.sum t]
  omega
theorem left_bd (t : Int) (l : List Int) (hW : 0 < l.sum) : 0 ≤ leftOf t l ∧ leftOf t l ≤ l.length := by
  have h := left_eq t l
  have h1 : 0 ≤ (rests t l).sum := sum_nonneg (fun x hx => by
    obtain ⟨y, _, rfl⟩ := List.mem_map.1 hx
    exact Int.emod_nonneg _ (by omega))
  have h2 : (rests t l).sum ≤ l.length * l.sum := by
    have := sum_le_card (l := rests t l) (W := l.sum) (fun x hx => by
      obtain ⟨y, _, rfl⟩ := List.mem_map.1 hx
      exact Int.le_of_lt (Int.emod_lt_of_pos _ hW))
    rwa [rests_length] at this
  rw [← h] at h1 h2
  constructor
  · by_cases hn : leftOf t l < 0
    · have := Int.mul_neg_of_pos_of_neg hW hn; omega
    · omega
  · rw [Int.mul_comm] at h2
    exact Int.le_of_mul_le_mul_right h2 hW
theorem quots_nonneg {t : Int} {l : List Int} (h0 : ∀ x ∈ l, 0 ≤ x) (ht : 0 ≤ t) : ∀ q ∈ quots t l, 0 ≤ q := fun q hq => by
  obtain ⟨y, hy, rfl⟩ := List.mem_map.1 hq
  exact Int.ediv_nonneg (Int.mul_nonneg ht (h0 y hy)) (sum_nonneg h0)
theorem take_sum_le {l : List Int} (h0 : ∀ x ∈ l, 0 ≤ x) (k : Nat) : 0 ≤ (l.take k).sum ∧ (l.take k).sum ≤ l.sum := by
  have e : l.sum = (l.take k).sum + (l.drop k).sum := by rw [← List.sum_append, List.take_append_drop]
  have h1 := sum_nonneg (l := l.take k) (fun x hx => h0 x (List.mem_of_mem_take hx))
  have h2 := sum_nonneg (l := l.drop k) (fun x hx => h0 x (List.mem_of_mem_drop hx))
  omega
theorem mem_le_sum {l : List Int} (h0 : ∀ x ∈ l, 0 ≤ x) {x : Int} (hx : x ∈ l) : x ≤ l.sum := by
  induction l with
  | nil => cases hx
  | cons y l ih =>
    rw [List.sum_cons]
    have hy := h0 y (by simp)
    have hl := sum_nonneg (l := l) (fun z hz => h0 z (by simp [hz]))
    rcases List.mem_cons.1 hx with rfl | hx
    · omega
    · have := ih (fun z hz => h0 z (by simp [hz])) hx
      omega
/-- A quotient is at most its weight. -/
theorem quot_le {t : Int} {l : List Int} (h0 : ∀ x ∈ l, 0 ≤ x) (hW : 0 < l.sum) (ht : t ≤ l.sum) {x : Int} (hx : x ∈ l) : t * x / l.sum ≤ x := by
  have h1 : t * x ≤ l.sum * x := Int.mul_le_mul_of_nonneg_right ht (h0 x hx)
  have h2 := Int.ediv_le_ediv hW h1
  rwa [Int.mul_ediv_cancel_left _ (by omega)] at h2
end Go.Proofs.Ytcncjldggfbjdaa.O
