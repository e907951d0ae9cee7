/-
  The law ExactShares in plain terms: the parts have the sum total, each is its proportion rounded down or up, and those rounded up come first by remainder and index.
-/
import Derived.Test.YtcncjldggfbjdaaO3
import Derived.Test.YtcncjldggfbjdaaS1
import Derived.Test.YtcncjldggfbjdaaO2
import Derived.Test.YtcncjldggfbjdaaPExx9
import Derived.Test.YtcncjldggfbjdaaPExx3
import Derived.Test.YtcncjldggfbjdaaG2
import Derived.Test.YtcncjldggfbjdaaE2
import Derived.Test.YtcncjldggfbjdaaPExx5
import Derived.Test.YtcncjldggfbjdaaPExx10
set_option linter.unusedVariables false
namespace Go.Proofs.Ytcncjldggfbjdaa.O
theorem rank_mono {r : List Int} {i k : Int} (h : lt r i k = true) : rank r i ≤ rank r k := countP_mono fun x _ hx => lt_trans hx h
theorem share_mono {t : Int} {l : List Int} (h0 : ∀ x ∈ l, 0 ≤ x) (hW : 0 < l.sum) (ht0 : 0 ≤ t) (i k : Nat) (hi : i < l.length) (hk : k < l.length) (h : l.getD k 0 < l.getD i 0) :
    (shareL t l).getD k 0 ≤ (shareL t l).getD i 0 := by
  have ei := bump_at t l (leftOf t l) i hi
  have ek := bump_at t l (leftOf t l) k hk
  have hle : t * l.getD k 0 ≤ t * l.getD i 0 := Int.mul_le_mul_of_nonneg_left (by omega) ht0
  have hq : t * l.getD k 0 / l.sum ≤ t * l.getD i 0 / l.sum := Int.ediv_le_ediv hW hle
  unfold shareL
  rw [ei, ek]
  by_cases hlt : t * l.getD k 0 / l.sum < t * l.getD i 0 / l.sum
  · split <;> split <;> omega
  have he : t * l.getD k 0 / l.sum = t * l.getD i 0 / l.sum := by omega
  by_cases hb : (rank (rests t l) (k : Nat) : Int) < leftOf t l
  · have hr := rank_rest hW hk hb
    rw [rests_at _ _ _ hk] at hr
    have htp : 0 < t := by
      rcases Int.lt_or_eq_of_le ht0 with h1 | h1
      · exact h1
      · rw [← h1] at hr; simp at hr
    have hlt2 : t * l.getD k 0 < t * l.getD i 0 := Int.mul_lt_mul_of_pos_left h htp
    have d1 := Int.mul_ediv_add_emod (t * l.getD k 0) l.sum
    have d2 := Int.mul_ediv_add_emod (t * l.getD i 0) l.sum
    rw [he] at d1
    have hrr : t * l.getD k 0 % l.sum < t * l.getD i 0 % l.sum := by omega
    have hl : lt (rests t l) (i : Nat) (k : Nat) = true := by
      simp only [lt, Int.toNat_natCast, Bool.or_eq_true, decide_eq_true_eq]
      left
      rw [rests_at _ _ _ hi, rests_at _ _ _ hk]; exact hrr
    have hm := rank_mono hl
    rw [if_pos hb, if_pos (by omega)]
    omega
  · rw [if_neg hb]
    split <;> omega
theorem share_rest {t : Int} {l : List Int} (h0 : ∀ x ∈ l, 0 ≤ x) (hW : 0 < l.sum) (ht0 : 0 ≤ t) (ht : t ≤ l.sum) (i : Nat) (hi : i < l.length) :
    -1 ≤ l.getD i 0 - (shareL t l).getD i 0 - (shareL (l.sum - t) l).getD i 0 ∧ l.getD i 0 - (shareL t l).getD i 0 - (shareL (l.sum - t) l).getD i 0 ≤ 1 := by
  obtain ⟨_, _, a3⟩ := share_at h0 hW ht0 ht i hi
  obtain ⟨_, _, b3⟩ := share_at h0 hW (show 0 ≤ l.sum - t by omega) (by omega) i hi
  have d1 := Int.mul_ediv_add_emod (t * l.getD i 0) l.sum
  have d2 := Int.mul_ediv_add_emod ((l.sum - t) * l.getD i 0) l.sum
  have r1 := Int.emod_nonneg (t * l.getD i 0) (show l.sum ≠ 0 by omega)
  have r2 := Int.emod_nonneg ((l.sum - t) * l.getD i 0) (show l.sum ≠ 0 by omega)
  have s1 := Int.emod_lt_of_pos (t * l.getD i 0) hW
  have s2 := Int.emod_lt_of_pos ((l.sum - t) * l.getD i 0) hW
  generalize (shareL t l).getD i 0 = x at *
  generalize (shareL (l.sum - t) l).getD i 0 = u at *
  have hsub : (l.sum - t) * l.getD i 0 = l.sum * l.getD i 0 - t * l.getD i 0 := Int.sub_mul ..
  generalize t * l.getD i 0 / l.sum = q1 at *
  generalize (l.sum - t) * l.getD i 0 / l.sum = q2 at *
  generalize t * l.getD i 0 % l.sum = m1 at *
  generalize (l.sum - t) * l.getD i 0 % l.sum = m2 at *
  have hd : l.sum * (l.getD i 0 - q1 - q2) = m1 + m2 := by
    rw [Int.mul_sub, Int.mul_sub]; omega
  generalize hdd : l.getD i 0 - q1 - q2 = d at *
  have g1 : d < 2 := by
    apply Int.not_le.1; intro h
    have := Int.mul_le_mul_of_nonneg_left h (show 0 ≤ l.sum by omega)
    omega
  have g2 : 0 ≤ d := by
    apply Int.not_lt.1; intro h
    have := Int.mul_le_mul_of_nonneg_left (show d ≤ -1 by omega) (show 0 ≤ l.sum by omega)
    omega
  by_cases h1 : d = 0
  · rw [h1, Int.mul_zero] at hd
    omega
  · omega
end Go.Proofs.Ytcncjldggfbjdaa.O
namespace Go.Proofs.Ytcncjldggfbjdaa.E
open Go.RowKit Go.Proofs.YtcncjldggfbjdaaW.PrintWords Go.Proofs.YtcncjldggfbjdaaW.PrintLast Go.Proofs.YtcncjldggfbjdaaW.PrintMore Go.Proofs.Ytcncjldggfbjdaa.G1 Go.Proofs.Ytcncjldggfbjdaa.O
set_option linter.unusedVariables false
set_option linter.unusedSimpArgs false

theorem rd_getD (xs : List Int) (i : Nat) : rd xs (i : Int) = xs.getD i 0 := by simp [rd]
theorem drop_cons (l : List Int) (i : Nat) (h : i < l.length) : l.drop i = l.getD i 0 :: l.drop (i + 1) := by rw [List.drop_eq_getElem_cons h, O.getD_eq _ _ h]
theorem wrap_succ (i n : Nat) (h : i < n) (hn : n ≤ 9223372036854775807) : wrap64 ((i : Int) + 1) = ((i + 1 : Nat) : Int) := by unfold wrap64; omega
theorem R_getD {l : List Int} (h : l.all i64R = true) (i : Nat) : i64R (l.getD i 0) = true := by
  rw [List.all_eq_true] at h
  by_cases hi : i < l.length
  · rw [O.getD_eq _ _ hi]; exact h _ (List.getElem_mem hi)
  · rw [List.getD_eq_getElem?_getD, List.getElem?_eq_none (by omega)]; rfl
theorem wf_R {x : Int} (h : (Lit.int .i64 x).wf = true) : i64R x = true := by
  rw [i64R_iff]
  simp only [Lit.wf] at h
  simpa [show IntKind.i64.min = -9223372036854775808 from rfl] using h
end Go.Proofs.Ytcncjldggfbjdaa.E
namespace Go.Proofs.Ytcncjldggfbjdaa.E
open Go.RowKit Go.Proofs.YtcncjldggfbjdaaW.PrintWords Go.Proofs.YtcncjldggfbjdaaW.PrintLast Go.Proofs.YtcncjldggfbjdaaW.PrintMore Go.Proofs.Ytcncjldggfbjdaa.G0 Go.Proofs.Ytcncjldggfbjdaa.G1 Go.Proofs.Ytcncjldggfbjdaa.G2 Go.Proofs.Ytcncjldggfbjdaa.PEx
set_option linter.unusedVariables false
set_option linter.unusedSimpArgs false
/-- At most 64 weights, none less than 0, and their sum is a volume. -/
structure Whole (l : List Int) : Prop where
  len : l.length ≤ 64
  nn : ∀ x ∈ l, 0 ≤ x
  sm : l.sum ≤ 1125899906842624
theorem take_succ_sum' (l : List Int) (i : Nat) (h : i < l.length) : (l.take (i + 1)).sum = (l.take i).sum + l.getD i 0 := by
  rw [List.take_succ_eq_append_getElem h, List.sum_append, O.getD_eq _ _ h]; simp
theorem Whole.take {l : List Int} (h : Whole l) (i : Nat) : 0 ≤ (l.take i).sum ∧ (l.take i).sum ≤ l.sum := O.take_sum_le h.nn i
open Classical in
noncomputable def wholeF (l : List Int) : Int × Bool := if Whole l then (l.sum, true) else (0, false)
theorem whole_ev (l : List Int) (hR : l.all i64R = true) : Ev (fun k => bournelaw01_whole.f k l) (wholeF l) := by
  unfold bournelaw01_whole.f
  by_cases hl : (l.length : Int) > 64
  · refine Ev.congr (fun k => by rw [if_pos hl]) ?_
    unfold wholeF
    rw [if_neg (fun h => by have := h.len; omega)]
    exact Ev.now _
  refine Ev.congr (fun k => by rw [if_neg hl]) ?_
  have go : ∀ d i : Nat, l.length - i = d → i ≤ l.length → (∀ x ∈ l.take i, 0 ≤ x) → (l.take i).sum ≤ 1125899906842624 → Ev (fun k => bournelaw01_whole.l0 k l (l.take i).sum i) (wholeF l) := by
    intro d
    induction d with
    | zero =>
      intro i h1 h2 h3 h4
      obtain rfl : i = l.length := by omega
      rw [List.take_length] at *
      refine Ev.step (fun k => ?_) (Ev.now _)
      simp only [bournelaw01_whole.l0]
      rw [if_neg (by omega)]
      unfold wholeF
      rw [if_pos ⟨by omega, h3, h4⟩]
    | succ d ih =>
      intro i h1 h2 h3 h4
      have hi : i < l.length := by omega
      have h0 := O.sum_nonneg h3
      have hx := i64R_iff.1 (R_getD hR i)
      have hts := take_succ_sum' l i hi
      have bad : ¬ Whole l → wholeF l = (0, false) := fun h => by unfold wholeF; rw [if_neg h]
      by_cases c1 : l.getD i 0 < 0
      · rw [bad (fun h => by
          have := h.nn l[i] (List.getElem_mem hi)
          rw [O.getD_eq _ _ hi] at c1; omega)]
        refine Ev.step (fun k => ?_) (Ev.now _)
        simp only [bournelaw01_whole.l0]
        rw [if_pos (by omega), if_pos (by omega), rd_getD, if_pos c1]
      have ew : wrap64 (1125899906842624 - (l.take i).sum) = 1125899906842624 - (l.take i).sum := by unfold wrap64; omega
      by_cases c2 : l.getD i 0 > 1125899906842624 - (l.take i).sum
      · rw [bad (fun h => by
          have h5 := (h.take (i + 1)).2
          have h6 := h.sm
          omega)]
        refine Ev.step (fun k => ?_) (Ev.now _)
        simp only [bournelaw01_whole.l0]
        rw [if_pos (by omega), if_pos (by omega), rd_getD, if_neg c1, ew, if_pos c2]
      · have ew2 : wrap64 ((l.take i).sum + l.getD i 0) = (l.take (i + 1)).sum := by rw [hts]; unfold wrap64; omega
        refine Ev.step (fun k => ?_) (ih (i + 1) (by omega) (by omega) (fun x hx' => by
          rw [List.take_succ_eq_append_getElem hi, List.mem_append, List.mem_singleton] at hx'
          rcases hx' with hx' | rfl
          · exact h3 x hx'
          · rw [O.getD_eq _ _ hi] at c1; omega) (by omega))
        simp only [bournelaw01_whole.l0]
        rw [if_pos (by omega), if_pos (by omega), rd_getD, if_neg c1, ew, if_neg c2, ew2, wrap_succ i l.length hi (by omega)]
  have := go l.length 0 (by omega) (by omega) (by simp) (by simp)
  simpa using this
theorem same01_ev (xs ys : List Int) (hl : xs.length ≤ 9223372036854775807) : Ev (fun k => bourneref01_Same.f k xs ys) (decide (xs = ys)) := by
  by_cases hlen : xs.length = ys.length
  · have go : ∀ d i : Nat, xs.length - i = d → i ≤ xs.length → (∀ j, j < i → xs.getD j 0 = ys.getD j 0) → Ev (fun k => bourneref01_Same.l0 k xs ys i) (decide (xs = ys)) := by
      intro d
      induction d with
      | zero =>
        intro i h1 h2 h3
        obtain rfl : i = xs.length := by omega
        have e : xs = ys := O.ext_getD hlen h3
        rw [decide_eq_true e]
        exact Ev.step (fun k => by simp only [bourneref01_Same.l0]; rw [if_neg (by omega)]) (Ev.now _)
      | succ d ih =>
        intro i h1 h2 h3
        by_cases hx : xs.getD i 0 = ys.getD i 0
        · refine Ev.step (fun k => ?_) (ih (i + 1) (by omega) (by omega) (fun j hj => by
            by_cases e : j = i
            · subst e; exact hx
            · exact h3 j (by omega)))
          simp only [bourneref01_Same.l0]
          rw [if_pos (by omega), if_pos (by omega), if_pos (by omega), rd_getD, rd_getD, if_pos hx, wrap_succ i _ (by omega) hl]
        · rw [decide_eq_false (fun e => hx (by rw [e]))]
          refine Ev.step (fun k => ?_) (Ev.now _)
          simp only [bourneref01_Same.l0]
          rw [if_pos (by omega), if_pos (by omega), if_pos (by omega), rd_getD, rd_getD, if_neg hx]
    unfold bourneref01_Same.f
    exact Ev.congr (fun k => by rw [if_pos (by omega)]; rfl) (go xs.length 0 (by omega) (by omega) (fun j hj => by omega))
  · rw [decide_eq_false (fun e => hlen (by rw [e]))]
    unfold bourneref01_Same.f
    exact Ev.congr (fun k => by rw [if_neg (by omega)]) (Ev.now _)
theorem shareOk_iff {t : Int} {l : List Int} : shareOk t l = true ↔ Whole l ∧ 0 ≤ t ∧ t ≤ l.sum := by
  simp only [shareOk, shareSum, Bool.and_eq_true, decide_eq_true_eq, Bool.not_eq_true', List.any_eq_false, badW, Bool.not_eq_true]
  constructor
  · rintro ⟨⟨h1, h2⟩, ⟨h3, h4⟩, h5⟩
    refine ⟨⟨h1, fun x hx => ?_, h3⟩, h4, h5⟩
    have := h2 x hx
    simp at this
    omega
  · rintro ⟨h, h4, h5⟩
    refine ⟨⟨h.len, fun x hx => ?_⟩, ⟨h.sm, h4⟩, h5⟩
    have h1 := h.nn x hx
    have h2 := O.mem_le_sum h.nn hx
    have h3 := h.sm
    simp
    omega
end Go.Proofs.Ytcncjldggfbjdaa.E
namespace Go.Proofs.Ytcncjldggfbjdaa.E
open Go.RowKit Go.Proofs.YtcncjldggfbjdaaW.PrintWords Go.Proofs.YtcncjldggfbjdaaW.PrintLast Go.Proofs.YtcncjldggfbjdaaW.PrintMore Go.Proofs.Ytcncjldggfbjdaa.G0 Go.Proofs.Ytcncjldggfbjdaa.G1 Go.Proofs.Ytcncjldggfbjdaa.G2 Go.Proofs.Ytcncjldggfbjdaa.PEx
set_option linter.unusedVariables false
set_option linter.unusedSimpArgs false
theorem small_now : bournelaw01_small.f 40 = some true := by decide +kernel
theorem small_ev : Ev (fun k => bournelaw01_small.f k) true := Ev.of (bournelaw01_small.mono) small_now
end Go.Proofs.Ytcncjldggfbjdaa.E
namespace Go.Proofs.Ytcncjldggfbjdaa.Pure
open Go.RowKit Go.Proofs.Ytcncjldggfbjdaa.PEx Go.Proofs.YtcncjldggfbjdaaW.PrintWords Go.Proofs.YtcncjldggfbjdaaW.PrintLast Go.Proofs.YtcncjldggfbjdaaW.PrintMore Go.Proofs.Ytcncjldggfbjdaa.E Go.Proofs.Ytcncjldggfbjdaa.G1 Go.Proofs.Ytcncjldggfbjdaa.G2
set_option linter.unusedVariables false
set_option linter.unusedSimpArgs false

theorem rank_first {t : Int} {l : List Int} {m n : Nat} (hm : m < l.length) (hn : n < l.length) (h1 : (O.rank (O.rests t l) (m : Nat) : Int) < O.leftOf t l) (h2 : ¬ (O.rank (O.rests t l) (n : Nat) : Int) < O.leftOf t l) :
    (O.rests t l).getD n 0 < (O.rests t l).getD m 0 ∨ ((O.rests t l).getD n 0 = (O.rests t l).getD m 0 ∧ m < n) := by
  have hne : ((m : Nat) : Int) ≠ (n : Nat) := by
    intro e
    have e' : m = n := by omega
    subst e'; exact h2 h1
  rcases O.lt_total (r := O.rests t l) hne with h | h
  · simp only [O.lt, Int.toNat_natCast, Bool.or_eq_true, Bool.and_eq_true, decide_eq_true_eq] at h
    rcases h with h | ⟨h, h'⟩
    · exact .inl h
    · exact .inr ⟨h.symm, by omega⟩
  · have := O.rank_mono h
    omega
/-- The quotients and remainders of a division, and how the parts lie to them. -/
structure Parts (t : Int) (l : List Int) (x : List Int) (q r : Nat → Int) : Prop where
  sc : ∀ i, i < l.length → scaleF t (l.getD i 0) (mx l.sum 1) = (q i, r i, true)
  q0 : ∀ i, i < l.length → 0 ≤ q i ∧ q i ≤ 1125899906842624 ∧ 0 ≤ r i
  up : ∀ i, i < l.length → x.getD i 0 = q i ∨ (x.getD i 0 = q i + 1 ∧ 0 < r i)
  le : ∀ i, i < l.length → x.getD i 0 ≤ l.getD i 0
  ord : ∀ m n, m < l.length → n < l.length → x.getD m 0 = q m + 1 → x.getD n 0 = q n → r n < r m ∨ (r n = r m ∧ m < n)
  sum : x.sum = t
  nn : ∀ y ∈ x, 0 ≤ y
  len : x.length = l.length
theorem zeros' {l : List Int} (h : ∀ x ∈ l, 0 ≤ x) (hs : l.sum = 0) (i : Nat) (hi : i < l.length) : l.getD i 0 = 0 := by
  have h1 := h _ (List.getElem_mem hi)
  have h2 := O.mem_le_sum h (List.getElem_mem hi)
  rw [O.getD_eq _ _ hi]; omega
theorem sum_zeros : ∀ n : Nat, (List.replicate n (0 : Int)).sum = 0
  | 0 => rfl
  | n + 1 => by rw [List.replicate_succ, List.sum_cons, sum_zeros n]; rfl
theorem parts {t : Int} {l : List Int} (h : Whole l) (h0 : 0 ≤ t) (h1 : t ≤ l.sum) : ∃ q r, Parts t l (O.shareL t l) q r := by
  have hs0 := O.sum_nonneg h.nn
  have hsm := h.sm
  have hbd : ∀ i, i < l.length → 0 ≤ l.getD i 0 ∧ l.getD i 0 ≤ l.sum := fun i hi => by
    have h1 := h.nn _ (List.getElem_mem hi)
    have h2 := O.mem_le_sum h.nn (List.getElem_mem hi)
    rw [O.getD_eq _ _ hi]; omega
  by_cases hW : 0 < l.sum
  · have em : mx l.sum 1 = l.sum := by unfold mx; split <;> omega
    refine ⟨fun i => t * l.getD i 0 / l.sum, fun i => t * l.getD i 0 % l.sum, ⟨fun i hi => ?_, fun i hi => ?_, fun i hi => ?_, fun i hi => ?_, fun m n hm hn e1 e2 => ?_, ?_, fun y hy => ?_, O.share_length t l⟩⟩
    · have b := hbd i hi
      have hq := O.quot_le h.nn hW h1 (List.getElem_mem hi)
      rw [← O.getD_eq _ _ hi] at hq
      rw [em]
      unfold scaleF
      rw [if_pos]
      simp only [scaleOk, Bool.and_eq_true, decide_eq_true_eq]
      generalize t * l.getD i 0 / l.sum = q at *
      exact ⟨⟨⟨⟨⟨⟨h0, by omega⟩, b.1⟩, by omega⟩, by omega⟩, by omega⟩, by omega⟩
    · have b := hbd i hi
      have hq := O.quot_le h.nn hW h1 (List.getElem_mem hi)
      rw [← O.getD_eq _ _ hi] at hq
      refine ⟨Int.ediv_nonneg (Int.mul_nonneg h0 b.1) hs0, ?_, Int.emod_nonneg _ (by omega)⟩
      show t * l.getD i 0 / l.sum ≤ 1125899906842624
      omega
    · exact (O.share_at h.nn hW h0 h1 i hi).2.2
    · exact (O.share_at h.nn hW h0 h1 i hi).2.1
    · have em1 := O.bump_at t l (O.leftOf t l) m hm
      have en1 := O.bump_at t l (O.leftOf t l) n hn
      have e3 : O.shareL t l = O.bump t l (O.leftOf t l) := rfl
      rw [← e3] at em1 en1
      have e1 : (O.shareL t l).getD m 0 = t * l.getD m 0 / l.sum + 1 := e1
      have e2 : (O.shareL t l).getD n 0 = t * l.getD n 0 / l.sum := e2
      have c1 : (O.rank (O.rests t l) (m : Nat) : Int) < O.leftOf t l := by
        apply Decidable.byContradiction; intro hc
        rw [if_neg hc] at em1
        omega
      have c2 : ¬ (O.rank (O.rests t l) (n : Nat) : Int) < O.leftOf t l := by
        intro hc
        rw [if_pos hc] at en1
        omega
      have := rank_first hm hn c1 c2
      rwa [O.rests_at _ _ _ hm, O.rests_at _ _ _ hn] at this
    · exact O.share_sum hW
    · obtain ⟨i, hi, rfl⟩ := List.mem_iff_getElem.1 hy
      rw [← O.getD_eq _ _ hi]
      rw [O.share_length] at hi
      exact (O.share_at h.nn hW h0 h1 i hi).1
  · have e0 : l.sum = 0 := by omega
    have et : t = 0 := by omega
    subst et
    rw [share_zero e0 rfl]
    have hz := zeros' h.nn e0
    have hx : ∀ i, i < l.length → (List.replicate l.length (0 : Int)).getD i 0 = 0 := fun i hi => by simp [hi]
    refine ⟨fun _ => 0, fun _ => 0, ⟨fun i hi => ?_, fun i hi => by omega, fun i hi => .inl (hx i hi), fun i hi => ?_, fun m n hm hn e1 e2 => ?_, sum_zeros _, fun y hy => ?_, by simp⟩⟩
    · rw [hz i hi, e0]; rfl
    · rw [hx i hi, hz i hi]; exact Int.le_refl _
    · rw [hx m hm] at e1; omega
    · rw [List.mem_replicate] at hy; omega
/-- The least remainder that was rounded up so far, and the greatest that was rounded down. -/
def Worst (x : List Int) (q r : Nat → Int) (i : Nat) (worst last : Int) : Prop := worst < 0 ∨ ∃ m : Nat, m < i ∧ last = m ∧ worst = r m ∧ x.getD m 0 = q m + 1
def Best (x : List Int) (q r : Nat → Int) (i : Nat) (best first : Int) : Prop := best < 0 ∨ ∃ n : Nat, n < i ∧ first = n ∧ best = r n ∧ x.getD n 0 = q n
theorem Worst.succ {x : List Int} {q r : Nat → Int} {i : Nat} {worst last : Int} (h : Worst x q r i worst last) : Worst x q r (i + 1) worst last := by
  rcases h with h | ⟨m, a, b, c, e⟩
  · exact .inl h
  · exact .inr ⟨m, by omega, b, c, e⟩
theorem Best.succ {x : List Int} {q r : Nat → Int} {i : Nat} {best first : Int} (h : Best x q r i best first) : Best x q r (i + 1) best first := by
  rcases h with h | ⟨m, a, b, c, e⟩
  · exact .inl h
  · exact .inr ⟨m, by omega, b, c, e⟩
theorem shares_loop {t : Int} {l x : List Int} {q r : Nat → Int} (hP : Parts t l x q r) (hl : l.length ≤ 64) (ht : t ≤ 1125899906842624) :
    Ev (fun k => bournelaw01_ExactShares.l0 k t l true l.sum x 0 (-1) 0 (-1) 0 0) true := by
  have hx0 := hP.nn
  have hxlen := hP.len
  have step : ∀ d i : Nat, ∀ worst last best first : Int, l.length - i = d → i ≤ l.length →
      Worst x q r i worst last → Best x q r i best first →
      Ev (fun k => bournelaw01_ExactShares.l0 k t l true l.sum x (x.take i).sum worst last best first i) true := by
    intro d
    induction d with
    | zero =>
      intro i worst last best first h1 h2 hw hb
      obtain rfl : i = l.length := by omega
      refine Ev.step (fun k => ?_) (Ev.now _)
      simp only [bournelaw01_ExactShares.l0]
      rw [if_neg (by omega), ← hxlen, List.take_length, if_pos hP.sum, if_pos trivial]
      rcases hw with hw | ⟨m, hm, rfl, rfl, em⟩
      · rw [if_pos hw]
      · rcases hb with hb | ⟨n, hn, rfl, rfl, en⟩
        · rw [if_neg (by have := hP.q0 m hm; omega), if_pos hb]
        · rw [if_neg (by have := hP.q0 m hm; omega), if_neg (by have := hP.q0 n hn; omega)]
          rcases hP.ord m n hm hn em en with h | ⟨h, h'⟩
          · rw [if_pos (show r m > r n by omega)]
          · rw [if_neg (by omega), if_pos h.symm, decide_eq_true (by omega)]
    | succ d ih =>
      intro i worst last best first h1 h2 hw hb
      have hi : i < l.length := by omega
      have hsx : x.getD i 0 = x[i]'(by omega) := O.getD_eq _ _ _
      have hts := take_succ_sum' x i (by omega)
      have hb1 := O.take_sum_le hx0 i
      have hb2 := O.take_sum_le hx0 (i + 1)
      have hsum := hP.sum
      have ew := Aside0.mk (show wrap64 ((x.take i).sum + x.getD i 0) = (x.take (i + 1)).sum by rw [hts]; unfold wrap64; omega)
      obtain ⟨q1, q2, q3⟩ := hP.q0 i hi
      have eq1 := Aside0.mk (show wrap64 (q i + 1) = q i + 1 by unfold wrap64; omega)
      have hle := hP.le i hi
      have hsc := hP.sc i hi
      have hwi := Aside0.mk (show wrap64 ((i : Int) + 1) = ((i + 1 : Nat) : Int) from wrap_succ i l.length hi (by omega))
      have wid := hw.succ
      have bid := hb.succ
      have go := ih (i + 1)
      have j2 : Ev (fun k => bournelaw01_ExactShares.j2 k t l true l.sum x (x.take (i + 1)).sum worst last best first i (q i) (r i) false) true := by
        rcases hP.up i hi with hu | ⟨hu, hr⟩
        · have j3 : Ev (fun k => bournelaw01_ExactShares.j3 k t l true l.sum x (x.take (i + 1)).sum worst last best first i (q i) (r i) false) true := by
            by_cases hbr : r i > best
            · refine Ev.step (fun k => ?_) (go worst last (r i) i (by omega) (by omega) wid (.inr ⟨i, by omega, rfl, rfl, hu⟩))
              simp only [bournelaw01_ExactShares.j3]
              rw [if_neg (by simp), if_pos (by omega), if_pos (by omega), rd_getD, if_pos hu, if_pos hbr, hwi.out]
            · refine Ev.step (fun k => ?_) (go worst last best first (by omega) (by omega) wid bid)
              simp only [bournelaw01_ExactShares.j3]
              rw [if_neg (by simp), if_pos (by omega), if_pos (by omega), rd_getD, if_pos hu, if_neg hbr, hwi.out]
          refine Ev.step (fun k => ?_) j3
          simp only [bournelaw01_ExactShares.j2]
          rw [if_neg (by simp), if_pos (by omega), if_pos (by omega), rd_getD, eq1.out, if_neg (by omega)]
        · have j3t : Ev (fun k => bournelaw01_ExactShares.j3 k t l true l.sum x (x.take (i + 1)).sum worst last best first i (q i) (r i) true) true := by
            refine Ev.step (fun k => ?_) (go (r i) i best first (by omega) (by omega) (.inr ⟨i, by omega, rfl, rfl, hu⟩) bid)
            simp only [bournelaw01_ExactShares.j3]
            rw [if_pos trivial, if_pos (by omega), if_pos (by omega), rd_getD, if_neg (by omega), hwi.out]
          have j3f : Ev (fun k => bournelaw01_ExactShares.j3 k t l true l.sum x (x.take (i + 1)).sum worst last best first i (q i) (r i) false) true := by
            refine Ev.step (fun k => ?_) (go worst last best first (by omega) (by omega) wid bid)
            simp only [bournelaw01_ExactShares.j3]
            rw [if_neg (by simp), if_pos (by omega), if_pos (by omega), rd_getD, if_neg (by omega), hwi.out]
          by_cases hw0 : worst < 0
          · refine Ev.step (fun k => ?_) j3t
            simp only [bournelaw01_ExactShares.j2]
            rw [if_neg (by simp), if_pos (by omega), if_pos (by omega), rd_getD, eq1.out, if_pos hu, if_pos hw0]
          · by_cases hrw : r i ≤ worst
            · refine Ev.step (fun k => ?_) j3t
              simp only [bournelaw01_ExactShares.j2]
              rw [if_neg (by simp), if_pos (by omega), if_pos (by omega), rd_getD, eq1.out, if_pos hu, if_neg hw0, decide_eq_true hrw]
            · refine Ev.step (fun k => ?_) j3f
              simp only [bournelaw01_ExactShares.j2]
              rw [if_neg (by simp), if_pos (by omega), if_pos (by omega), rd_getD, eq1.out, if_pos hu, if_neg hw0, decide_eq_false hrw]
      have hsv := scale_ev t (l.getD i 0) (mx l.sum 1)
      rw [hsc] at hsv
      refine Ev.step (f := fun k => (exact_Scale.f k t (l.getD i 0) (mx l.sum 1)).bind fun bt245 => if x.getD i 0 = bt245.1 then (if x.getD i 0 > l.getD i 0 then bournelaw01_ExactShares.j2 k t l true l.sum x (x.take (i + 1)).sum worst last best first i bt245.1 bt245.2.1 true else (if x.getD i 0 = wrap64 (bt245.1 + 1) then bournelaw01_ExactShares.j2 k t l true l.sum x (x.take (i + 1)).sum worst last best first i bt245.1 bt245.2.1 (bt245.2.1 == 0) else bournelaw01_ExactShares.j2 k t l true l.sum x (x.take (i + 1)).sum worst last best first i bt245.1 bt245.2.1 false)) else (if x.getD i 0 = wrap64 (bt245.1 + 1) then (if x.getD i 0 > l.getD i 0 then bournelaw01_ExactShares.j2 k t l true l.sum x (x.take (i + 1)).sum worst last best first i bt245.1 bt245.2.1 true else bournelaw01_ExactShares.j2 k t l true l.sum x (x.take (i + 1)).sum worst last best first i bt245.1 bt245.2.1 (bt245.2.1 == 0)) else bournelaw01_ExactShares.j2 k t l true l.sum x (x.take (i + 1)).sum worst last best first i bt245.1 bt245.2.1 true)) (fun k => ?_) (Ev.bind hsv ?_)
      · simp only [bournelaw01_ExactShares.l0]
        rw [if_pos (by omega), if_pos (by omega), if_pos (by omega), rd_getD, rd_getD, ew.out]
      · refine Ev.congr (fun k => ?_) j2
        simp only []
        rw [eq1.out]
        rcases hP.up i hi with hu | ⟨hu, hr⟩
        · rw [if_pos hu, if_neg (by omega), if_neg (by omega)]
        · rw [if_neg (by omega), if_pos hu, if_neg (by omega), show (r i == 0) = false from by rw [beq_eq_false_iff_ne]; omega]
  have := step l.length 0 (-1) 0 (-1) 0 (by omega) (by omega) (.inl (by omega)) (.inl (by omega))
  simpa using this
theorem ExactShares : bournelaw01_ExactShares.Pure := by
  intro t l hwt hl1 hl2 hwf
  have hR : l.all i64R = true := by rw [List.all_eq_true]; exact fun x hx => wf_R (hwf x hx)
  apply Ev.rounds
  unfold bournelaw01_ExactShares.f
  refine Ev.bind small_ev ?_
  refine Ev.bind (whole_ev l hR) ?_
  by_cases hok : shareOk t l = true
  · have hf : exact_Share.f t l = some (O.shareL t l, true) := by unfold exact_Share.f; rw [if_pos hok]
    obtain ⟨hw, h0, h1⟩ := shareOk_iff.1 hok
    obtain ⟨q, r, hP⟩ := parts hw h0 h1
    have e : wholeF l = (l.sum, true) := by unfold wholeF; rw [if_pos hw]
    have hloop := shares_loop hP hw.len (by have := hw.sm; omega)
    rw [e, hf]
    have hlen := hP.len
    refine Ev.congr (f := fun k => bournelaw01_ExactShares.j0 k t l true l.sum (O.shareL t l) true false) (fun k => ?_) (Ev.step (fun k => ?_) hloop)
    · simp only [Option.bind_some]
      rw [if_pos trivial, if_pos (by omega), decide_eq_true h1]; rfl
    · simp only [bournelaw01_ExactShares.j0]
      rw [if_neg (by simp), if_pos trivial, if_pos (by omega)]
  · have hf : exact_Share.f t l = some ([], false) := by unfold exact_Share.f; rw [if_neg hok]
    have out : ∀ w, Ev (fun k => bournelaw01_ExactShares.j0 k t l true w [] false false) true := fun w => Ev.step (fun k => by
      simp only [bournelaw01_ExactShares.j0]; rw [if_neg (by simp), if_neg (by simp), if_pos trivial]; rfl) (Ev.now _)
    rw [hf]
    by_cases hw : Whole l
    · have e : wholeF l = (l.sum, true) := by unfold wholeF; rw [if_pos hw]
      rw [e]
      by_cases c1 : t ≥ 0
      · refine Ev.congr (fun k => ?_) (out l.sum)
        simp only [Option.bind_some]
        rw [if_pos trivial, if_pos c1, decide_eq_false (fun h => hok (shareOk_iff.2 ⟨hw, c1, h⟩))]; rfl
      · refine Ev.congr (fun k => ?_) (out l.sum)
        simp only [Option.bind_some]
        rw [if_pos trivial, if_neg c1]; rfl
    · have e : wholeF l = (0, false) := by unfold wholeF; rw [if_neg hw]
      rw [e]
      refine Ev.congr (fun k => ?_) (out 0)
      simp only [Option.bind_some]
      rw [if_neg (by simp)]; rfl
end Go.Proofs.Ytcncjldggfbjdaa.Pure
