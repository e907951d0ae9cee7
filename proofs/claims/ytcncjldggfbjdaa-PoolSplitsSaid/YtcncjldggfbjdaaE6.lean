import Derived.Test.YtcncjldggfbjdaaE5
namespace Go.Proofs.Ytcncjldggfbjdaa.E
open Go.RowKit Go.Proofs.YtcncjldggfbjdaaW.PrintWords Go.Proofs.YtcncjldggfbjdaaW.PrintLast Go.Proofs.YtcncjldggfbjdaaW.PrintMore Go.Proofs.Ytcncjldggfbjdaa.G0 Go.Proofs.Ytcncjldggfbjdaa.G1 Go.Proofs.Ytcncjldggfbjdaa.G2 Go.Proofs.Ytcncjldggfbjdaa.PEx
set_option linter.unusedVariables false
set_option linter.unusedSimpArgs false

theorem share_none (l : List Int) : O.shareL 0 l = List.replicate l.length 0 := by
  refine O.ext_getD (by simp [O.shareL, O.bump_length]) fun i hi => ?_
  unfold O.shareL at hi ⊢
  rw [O.bump_length] at hi
  rw [O.bump_at _ _ _ _ hi]
  have hq : O.leftOf 0 l = 0 := by
    have e : O.quots 0 l = List.replicate l.length 0 := by
      unfold O.quots
      refine List.ext_getElem (by simp) fun i h1 h2 => by simp
    unfold O.leftOf
    rw [e]
    simp
  rw [hq, if_neg (by omega)]
  simp [hi]
theorem sum_zero {l : List Int} (h : ∀ x ∈ l, 0 ≤ x) (hs : l.sum = 0) : l = List.replicate l.length 0 := by
  refine O.ext_getD (by simp) fun i hi => ?_
  have h1 := h _ (List.getElem_mem hi)
  have h2 := O.mem_le_sum h (List.getElem_mem hi)
  rw [O.getD_eq _ _ hi]
  simp [hi]
  omega
/-- Dividing everything gives the weights. -/
theorem Pool.whole {l : List Int} (h : Pool l) : O.shareL l.sum l = l := by
  by_cases hW : 0 < l.sum
  · exact O.share_whole hW
  · have h0 : l.sum = 0 := by have := O.sum_nonneg h.nn; omega
    rw [h0, share_none]
    exact (sum_zero h.nn h0).symm
theorem sum_sub : ∀ (xs ys zs : List Int), ys.length = xs.length → zs.length = xs.length → (∀ i, i < xs.length → zs.getD i 0 = xs.getD i 0 - ys.getD i 0) → zs.sum = xs.sum - ys.sum
  | [], ys, zs, h1, h2, _ => by
    obtain rfl := List.eq_nil_of_length_eq_zero h1
    obtain rfl := List.eq_nil_of_length_eq_zero h2
    rfl
  | x :: xs, [], zs, h1, _, _ => by simp at h1
  | x :: xs, y :: ys, [], _, h2, _ => by simp at h2
  | x :: xs, y :: ys, z :: zs, h1, h2, h => by
    have h0 := h 0 (by simp)
    simp only [List.getD_cons_zero] at h0
    have := sum_sub xs ys zs (by simpa using h1) (by simpa using h2) (fun i hi => by
      have := h (i + 1) (by simpa using hi)
      simpa only [List.getD_cons_succ] using this)
    rw [List.sum_cons, List.sum_cons, List.sum_cons, this, h0]
    omega
/-- What is taken of a right pool. -/
def takeT (l : List Int) (n : Int) : List Int := if 0 < n then O.shareL (mn n l.sum) l else List.replicate l.length 0
theorem takeT_length (l : List Int) (n : Int) : (takeT l n).length = l.length := by
  unfold takeT
  split
  · exact O.share_length _ _
  · simp
theorem take_ev {l : List Int} (h : Pool l) (n : Int) : Ev (fun k => pool_Take.f k l n) (takeT l n, lessL l (takeT l n)) := by
  have hl := h.len
  have hs0 := O.sum_nonneg h.nn
  unfold pool_Take.f
  by_cases hn : 0 < n
  · refine Ev.congr (f := fun k => (pool_right.f k l).bind fun t351 => pool_Take.j0 k l n (List.replicate l.length 0) t351) (fun k => by rw [if_pos (by omega), if_pos (by omega)]; simp only [Option.bind_some, Int.toNat_natCast]; rw [if_pos hn]) ?_
    have hr := right_ev l h.R (by omega)
    have hb : rightB l = true := by
      have := pool_iff.2 h
      simp only [Bool.and_eq_true] at this
      exact this.2.2.2
    rw [hb] at hr
    refine Ev.bind hr ?_
    refine Ev.step (f := fun k => (pool_Total.f k l).bind fun t352 => ((exact_Share.f (mn n t352) l).bind fun bt353 => (if bt353.2 = true then ((pool_less.f l bt353.1).bind fun t357 => (some (bt353.1, t357))) else ((pool_less.f l (List.replicate l.length 0)).bind fun t360 => (some (List.replicate l.length 0, t360)))))) (fun k => by simp only [pool_Take.j0]; rw [if_pos trivial]) ?_
    refine Ev.bind h.total ?_
    have ok : shareOk (mn n l.sum) l = true := by
      unfold shareOk shareSum
      simp only [Bool.and_eq_true, decide_eq_true_eq, Bool.not_eq_true', List.any_eq_false]
      refine ⟨⟨by omega, fun x hx => ?_⟩, ⟨⟨h.sm, ?_⟩, ?_⟩⟩
      · have := h.bd hx
        simp [badW]; omega
      · unfold mn; split <;> omega
      · unfold mn; split <;> omega
    have hf : exact_Share.f (mn n l.sum) l = some (O.shareL (mn n l.sum) l, true) := by
      unfold exact_Share.f
      rw [if_neg (by omega), if_pos ok]
    have e : takeT l n = O.shareL (mn n l.sum) l := by unfold takeT; rw [if_pos hn]
    refine Ev.congr (fun k => ?_) (Ev.now _)
    rw [hf]
    simp only [Option.bind_some, if_true]
    rw [less_now _ _ (by rw [O.share_length]; exact Nat.le_refl _) (by omega), e]
    rfl
  · refine Ev.congr (f := fun k => pool_Take.j0 k l n (List.replicate l.length 0) false) (fun k => by rw [if_pos (by omega), if_pos (by omega)]; simp only [Option.bind_some, Int.toNat_natCast]; rw [if_neg hn]) ?_
    have e : takeT l n = List.replicate l.length 0 := by unfold takeT; rw [if_neg hn]
    refine Ev.step (fun k => ?_) (Ev.now _)
    simp only [pool_Take.j0]
    rw [if_neg (by simp), less_now _ _ (by simp) (by omega), e]
    rfl
theorem takeT_eq {l : List Int} (h : Pool l) {n : Int} (hn : 0 ≤ n) : takeT l n = O.shareL (mn n l.sum) l := by
  unfold takeT
  by_cases h0 : 0 < n
  · rw [if_pos h0]
  · rw [if_neg h0]
    have hs0 := O.sum_nonneg h.nn
    have e : mn n l.sum = 0 := by unfold mn; split <;> omega
    rw [e, share_none]
/-- What is taken, and what is left. -/
structure Split (l : List Int) (m : Int) (a b : List Int) : Prop where
  la : a.length = l.length
  lb : b.length = l.length
  a0 : ∀ i, i < l.length → 0 ≤ a.getD i 0
  al : ∀ i, i < l.length → a.getD i 0 ≤ l.getD i 0
  ab : ∀ i, i < l.length → b.getD i 0 = l.getD i 0 - a.getD i 0
  near : 0 < l.sum → ∀ i, i < l.length → a.getD i 0 = m * l.getD i 0 / l.sum ∨ (a.getD i 0 = m * l.getD i 0 / l.sum + 1 ∧ 0 < m * l.getD i 0 % l.sum)
  sa : a.sum = m
  sb : b.sum = l.sum - m
theorem take_split {l : List Int} (h : Pool l) {n : Int} (hn : 0 ≤ n) : Split l (mn n l.sum) (takeT l n) (lessL l (takeT l n)) := by
  have hs0 := O.sum_nonneg h.nn
  have hl := h.len
  rw [takeT_eq h hn]
  have hm0 : 0 ≤ mn n l.sum := by unfold mn; split <;> omega
  have hm1 : mn n l.sum ≤ l.sum := by unfold mn; split <;> omega
  generalize mn n l.sum = m at *
  have hA : ∀ i, i < l.length → 0 ≤ (O.shareL m l).getD i 0 ∧ (O.shareL m l).getD i 0 ≤ l.getD i 0 := fun i hi => by
    by_cases hW : 0 < l.sum
    · have := O.share_at h.nn hW hm0 hm1 i hi
      exact ⟨this.1, this.2.1⟩
    · have e : m = 0 := by omega
      rw [e, share_none]
      have e0 : (List.replicate l.length (0 : Int)).getD i 0 = 0 := by simp [hi]
      rw [e0]
      exact ⟨Int.le_refl 0, (h.at_ i).1⟩
  have hsum : (O.shareL m l).sum = m := by
    by_cases hW : 0 < l.sum
    · exact O.share_sum hW
    · have e : m = 0 := by omega
      rw [e, share_none]
      simp
  have hB : ∀ i, i < l.length → (lessL l (O.shareL m l)).getD i 0 = l.getD i 0 - (O.shareL m l).getD i 0 := fun i hi => by
    have := hA i hi
    have := h.at_ i
    rw [lessL_at _ _ _ hi, if_pos (by rw [O.share_length]; exact hi), wIn (by omega) (by omega)]
  refine ⟨O.share_length _ _, lessL_length _ _, fun i hi => (hA i hi).1, fun i hi => (hA i hi).2, hB, fun hW i hi => (O.share_at h.nn hW hm0 hm1 i hi).2.2, hsum, ?_⟩
  have := sum_sub l (O.shareL m l) (lessL l (O.shareL m l)) (O.share_length _ _) (lessL_length _ _) hB
  omega
theorem Split.pools {l a b : List Int} {m : Int} (h : Pool l) (s : Split l m a b) (hm : 0 ≤ m) (hm2 : m ≤ l.sum) : Pool a ∧ Pool b := by
  refine ⟨⟨fun x hx => ?_, by rw [s.sa]; have := h.sm; omega, by rw [s.la]; exact h.len⟩, ⟨fun x hx => ?_, by rw [s.sb]; have := h.sm; omega, by rw [s.lb]; exact h.len⟩⟩
  · obtain ⟨i, hi, rfl⟩ := List.mem_iff_getElem.1 hx
    rw [← O.getD_eq _ _ hi]
    exact s.a0 i (by rw [← s.la]; exact hi)
  · obtain ⟨i, hi, rfl⟩ := List.mem_iff_getElem.1 hx
    have hi' : i < l.length := by rw [← s.lb]; exact hi
    rw [← O.getD_eq _ _ hi, s.ab i hi']
    have := s.al i hi'
    omega
end Go.Proofs.Ytcncjldggfbjdaa.E
