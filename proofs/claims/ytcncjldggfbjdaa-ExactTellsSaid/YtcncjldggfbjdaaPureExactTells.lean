/-
  The law ExactTells in plain terms: what the program computes is what the reference computes.
-/
import Derived.Test.YtcncjldggfbjdaaO3
import Derived.Test.YtcncjldggfbjdaaS1
import Derived.Test.YtcncjldggfbjdaaO2
import Derived.Test.YtcncjldggfbjdaaPExx9
import Derived.Test.YtcncjldggfbjdaaPExx3
import Derived.Test.YtcncjldggfbjdaaG2
import Derived.Test.YtcncjldggfbjdaaE2
import Derived.Test.YtcncjldggfbjdaaPExx5
import Derived.Test.YtcncjldggfbjdaaPExx4
import Derived.Test.YtcncjldggfbjdaaG1
import Derived.Test.YtcncjldggfbjdaaPEtx1
set_option linter.unusedVariables false
namespace Go.Proofs.Ytcncjldggfbjdaa.O
theorem rank_mono {r : List Int} {i k : Int} (h : lt r i k = true) : rank r i ≤ rank r k := countP_mono fun x _ hx => lt_trans hx h
theorem share_mono {t : Int} {l : List Int} (h0 : ∀ x ∈ l, 0 ≤ x) (hW : 0 < l.sum) (ht0 : 0 ≤ t) (i k : Nat) (hi : i < l.length) (hk : k < l.length) (h : l.getD k 0 < l.getD i 0) :
    (shareL t l).getD k 0 ≤ (shareL t l).getD i 0 := by
  have ei := bump_at t l (leftOf t l) i hi
  have ek := bump_at t l (leftOf t l) k hk
  have hle : t * l.getD k 0 ≤ t * l.getD i 0 := Int.mul_le_mul_of_nonneg_left (by omega) ht0
  have hq : t * l.getD k 0 / l.sum ≤ t * l.getD i 0 / l.sum := Int.ediv_le_ediv hW hle
  unfold shareL
  rw [ei, ek]
  by_cases hlt : t * l.getD k 0 / l.sum < t * l.getD i 0 / l.sum
  · split <;> split <;> omega
  have he : t * l.getD k 0 / l.sum = t * l.getD i 0 / l.sum := by omega
  by_cases hb : (rank (rests t l) (k : Nat) : Int) < leftOf t l
  · have hr := rank_rest hW hk hb
    rw [rests_at _ _ _ hk] at hr
    have htp : 0 < t := by
      rcases Int.lt_or_eq_of_le ht0 with h1 | h1
      · exact h1
      · rw [← h1] at hr; simp at hr
    have hlt2 : t * l.getD k 0 < t * l.getD i 0 := Int.mul_lt_mul_of_pos_left h htp
    have d1 := Int.mul_ediv_add_emod (t * l.getD k 0) l.sum
    have d2 := Int.mul_ediv_add_emod (t * l.getD i 0) l.sum
    rw [he] at d1
    have hrr : t * l.getD k 0 % l.sum < t * l.getD i 0 % l.sum := by omega
    have hl : lt (rests t l) (i : Nat) (k : Nat) = true := by
      simp only [lt, Int.toNat_natCast, Bool.or_eq_true, decide_eq_true_eq]
      left
      rw [rests_at _ _ _ hi, rests_at _ _ _ hk]; exact hrr
    have hm := rank_mono hl
    rw [if_pos hb, if_pos (by omega)]
    omega
  · rw [if_neg hb]
    split <;> omega
theorem share_rest {t : Int} {l : List Int} (h0 : ∀ x ∈ l, 0 ≤ x) (hW : 0 < l.sum) (ht0 : 0 ≤ t) (ht : t ≤ l.sum) (i : Nat) (hi : i < l.length) :
    -1 ≤ l.getD i 0 - (shareL t l).getD i 0 - (shareL (l.sum - t) l).getD i 0 ∧ l.getD i 0 - (shareL t l).getD i 0 - (shareL (l.sum - t) l).getD i 0 ≤ 1 := by
  obtain ⟨_, _, a3⟩ := share_at h0 hW ht0 ht i hi
  obtain ⟨_, _, b3⟩ := share_at h0 hW (show 0 ≤ l.sum - t by omega) (by omega) i hi
  have d1 := Int.mul_ediv_add_emod (t * l.getD i 0) l.sum
  have d2 := Int.mul_ediv_add_emod ((l.sum - t) * l.getD i 0) l.sum
  have r1 := Int.emod_nonneg (t * l.getD i 0) (show l.sum ≠ 0 by omega)
  have r2 := Int.emod_nonneg ((l.sum - t) * l.getD i 0) (show l.sum ≠ 0 by omega)
  have s1 := Int.emod_lt_of_pos (t * l.getD i 0) hW
  have s2 := Int.emod_lt_of_pos ((l.sum - t) * l.getD i 0) hW
  generalize (shareL t l).getD i 0 = x at *
  generalize (shareL (l.sum - t) l).getD i 0 = u at *
  have hsub : (l.sum - t) * l.getD i 0 = l.sum * l.getD i 0 - t * l.getD i 0 := Int.sub_mul ..
  generalize t * l.getD i 0 / l.sum = q1 at *
  generalize (l.sum - t) * l.getD i 0 / l.sum = q2 at *
  generalize t * l.getD i 0 % l.sum = m1 at *
  generalize (l.sum - t) * l.getD i 0 % l.sum = m2 at *
  have hd : l.sum * (l.getD i 0 - q1 - q2) = m1 + m2 := by
    rw [Int.mul_sub, Int.mul_sub]; omega
  generalize hdd : l.getD i 0 - q1 - q2 = d at *
  have g1 : d < 2 := by
    apply Int.not_le.1; intro h
    have := Int.mul_le_mul_of_nonneg_left h (show 0 ≤ l.sum by omega)
    omega
  have g2 : 0 ≤ d := by
    apply Int.not_lt.1; intro h
    have := Int.mul_le_mul_of_nonneg_left (show d ≤ -1 by omega) (show 0 ≤ l.sum by omega)
    omega
  by_cases h1 : d = 0
  · rw [h1, Int.mul_zero] at hd
    omega
  · omega
end Go.Proofs.Ytcncjldggfbjdaa.O
namespace Go.Proofs.Ytcncjldggfbjdaa.E
open Go.RowKit Go.Proofs.YtcncjldggfbjdaaW.PrintWords Go.Proofs.YtcncjldggfbjdaaW.PrintLast Go.Proofs.YtcncjldggfbjdaaW.PrintMore Go.Proofs.Ytcncjldggfbjdaa.G1 Go.Proofs.Ytcncjldggfbjdaa.O
set_option linter.unusedVariables false
set_option linter.unusedSimpArgs false

theorem rd_getD (xs : List Int) (i : Nat) : rd xs (i : Int) = xs.getD i 0 := by simp [rd]
theorem drop_cons (l : List Int) (i : Nat) (h : i < l.length) : l.drop i = l.getD i 0 :: l.drop (i + 1) := by rw [List.drop_eq_getElem_cons h, O.getD_eq _ _ h]
theorem wrap_succ (i n : Nat) (h : i < n) (hn : n ≤ 9223372036854775807) : wrap64 ((i : Int) + 1) = ((i + 1 : Nat) : Int) := by unfold wrap64; omega
theorem R_getD {l : List Int} (h : l.all i64R = true) (i : Nat) : i64R (l.getD i 0) = true := by
  rw [List.all_eq_true] at h
  by_cases hi : i < l.length
  · rw [O.getD_eq _ _ hi]; exact h _ (List.getElem_mem hi)
  · rw [List.getD_eq_getElem?_getD, List.getElem?_eq_none (by omega)]; rfl
theorem wf_R {x : Int} (h : (Lit.int .i64 x).wf = true) : i64R x = true := by
  rw [i64R_iff]
  simp only [Lit.wf] at h
  simpa [show IntKind.i64.min = -9223372036854775808 from rfl] using h
end Go.Proofs.Ytcncjldggfbjdaa.E
namespace Go.Proofs.Ytcncjldggfbjdaa.E
open Go.RowKit Go.Proofs.YtcncjldggfbjdaaW.PrintWords Go.Proofs.YtcncjldggfbjdaaW.PrintLast Go.Proofs.YtcncjldggfbjdaaW.PrintMore Go.Proofs.Ytcncjldggfbjdaa.G0 Go.Proofs.Ytcncjldggfbjdaa.G1 Go.Proofs.Ytcncjldggfbjdaa.G2 Go.Proofs.Ytcncjldggfbjdaa.PEx
set_option linter.unusedVariables false
set_option linter.unusedSimpArgs false
/-- At most 64 weights, none less than 0, and their sum is a volume. -/
structure Whole (l : List Int) : Prop where
  len : l.length ≤ 64
  nn : ∀ x ∈ l, 0 ≤ x
  sm : l.sum ≤ 1125899906842624
theorem take_succ_sum' (l : List Int) (i : Nat) (h : i < l.length) : (l.take (i + 1)).sum = (l.take i).sum + l.getD i 0 := by
  rw [List.take_succ_eq_append_getElem h, List.sum_append, O.getD_eq _ _ h]; simp
theorem Whole.take {l : List Int} (h : Whole l) (i : Nat) : 0 ≤ (l.take i).sum ∧ (l.take i).sum ≤ l.sum := O.take_sum_le h.nn i
open Classical in
noncomputable def wholeF (l : List Int) : Int × Bool := if Whole l then (l.sum, true) else (0, false)
theorem whole_ev (l : List Int) (hR : l.all i64R = true) : Ev (fun k => bournelaw01_whole.f k l) (wholeF l) := by
  unfold bournelaw01_whole.f
  by_cases hl : (l.length : Int) > 64
  · refine Ev.congr (fun k => by rw [if_pos hl]) ?_
    unfold wholeF
    rw [if_neg (fun h => by have := h.len; omega)]
    exact Ev.now _
  refine Ev.congr (fun k => by rw [if_neg hl]) ?_
  have go : ∀ d i : Nat, l.length - i = d → i ≤ l.length → (∀ x ∈ l.take i, 0 ≤ x) → (l.take i).sum ≤ 1125899906842624 → Ev (fun k => bournelaw01_whole.l0 k l (l.take i).sum i) (wholeF l) := by
    intro d
    induction d with
    | zero =>
      intro i h1 h2 h3 h4
      obtain rfl : i = l.length := by omega
      rw [List.take_length] at *
      refine Ev.step (fun k => ?_) (Ev.now _)
      simp only [bournelaw01_whole.l0]
      rw [if_neg (by omega)]
      unfold wholeF
      rw [if_pos ⟨by omega, h3, h4⟩]
    | succ d ih =>
      intro i h1 h2 h3 h4
      have hi : i < l.length := by omega
      have h0 := O.sum_nonneg h3
      have hx := i64R_iff.1 (R_getD hR i)
      have hts := take_succ_sum' l i hi
      have bad : ¬ Whole l → wholeF l = (0, false) := fun h => by unfold wholeF; rw [if_neg h]
      by_cases c1 : l.getD i 0 < 0
      · rw [bad (fun h => by
          have := h.nn l[i] (List.getElem_mem hi)
          rw [O.getD_eq _ _ hi] at c1; omega)]
        refine Ev.step (fun k => ?_) (Ev.now _)
        simp only [bournelaw01_whole.l0]
        rw [if_pos (by omega), if_pos (by omega), rd_getD, if_pos c1]
      have ew : wrap64 (1125899906842624 - (l.take i).sum) = 1125899906842624 - (l.take i).sum := by unfold wrap64; omega
      by_cases c2 : l.getD i 0 > 1125899906842624 - (l.take i).sum
      · rw [bad (fun h => by
          have h5 := (h.take (i + 1)).2
          have h6 := h.sm
          omega)]
        refine Ev.step (fun k => ?_) (Ev.now _)
        simp only [bournelaw01_whole.l0]
        rw [if_pos (by omega), if_pos (by omega), rd_getD, if_neg c1, ew, if_pos c2]
      · have ew2 : wrap64 ((l.take i).sum + l.getD i 0) = (l.take (i + 1)).sum := by rw [hts]; unfold wrap64; omega
        refine Ev.step (fun k => ?_) (ih (i + 1) (by omega) (by omega) (fun x hx' => by
          rw [List.take_succ_eq_append_getElem hi, List.mem_append, List.mem_singleton] at hx'
          rcases hx' with hx' | rfl
          · exact h3 x hx'
          · rw [O.getD_eq _ _ hi] at c1; omega) (by omega))
        simp only [bournelaw01_whole.l0]
        rw [if_pos (by omega), if_pos (by omega), rd_getD, if_neg c1, ew, if_neg c2, ew2, wrap_succ i l.length hi (by omega)]
  have := go l.length 0 (by omega) (by omega) (by simp) (by simp)
  simpa using this
theorem same01_ev (xs ys : List Int) (hl : xs.length ≤ 9223372036854775807) : Ev (fun k => bourneref01_Same.f k xs ys) (decide (xs = ys)) := by
  by_cases hlen : xs.length = ys.length
  · have go : ∀ d i : Nat, xs.length - i = d → i ≤ xs.length → (∀ j, j < i → xs.getD j 0 = ys.getD j 0) → Ev (fun k => bourneref01_Same.l0 k xs ys i) (decide (xs = ys)) := by
      intro d
      induction d with
      | zero =>
        intro i h1 h2 h3
        obtain rfl : i = xs.length := by omega
        have e : xs = ys := O.ext_getD hlen h3
        rw [decide_eq_true e]
        exact Ev.step (fun k => by simp only [bourneref01_Same.l0]; rw [if_neg (by omega)]) (Ev.now _)
      | succ d ih =>
        intro i h1 h2 h3
        by_cases hx : xs.getD i 0 = ys.getD i 0
        · refine Ev.step (fun k => ?_) (ih (i + 1) (by omega) (by omega) (fun j hj => by
            by_cases e : j = i
            · subst e; exact hx
            · exact h3 j (by omega)))
          simp only [bourneref01_Same.l0]
          rw [if_pos (by omega), if_pos (by omega), if_pos (by omega), rd_getD, rd_getD, if_pos hx, wrap_succ i _ (by omega) hl]
        · rw [decide_eq_false (fun e => hx (by rw [e]))]
          refine Ev.step (fun k => ?_) (Ev.now _)
          simp only [bourneref01_Same.l0]
          rw [if_pos (by omega), if_pos (by omega), if_pos (by omega), rd_getD, rd_getD, if_neg hx]
    unfold bourneref01_Same.f
    exact Ev.congr (fun k => by rw [if_pos (by omega)]; rfl) (go xs.length 0 (by omega) (by omega) (fun j hj => by omega))
  · rw [decide_eq_false (fun e => hlen (by rw [e]))]
    unfold bourneref01_Same.f
    exact Ev.congr (fun k => by rw [if_neg (by omega)]) (Ev.now _)
theorem shareOk_iff {t : Int} {l : List Int} : shareOk t l = true ↔ Whole l ∧ 0 ≤ t ∧ t ≤ l.sum := by
  simp only [shareOk, shareSum, Bool.and_eq_true, decide_eq_true_eq, Bool.not_eq_true', List.any_eq_false, badW, Bool.not_eq_true]
  constructor
  · rintro ⟨⟨h1, h2⟩, ⟨h3, h4⟩, h5⟩
    refine ⟨⟨h1, fun x hx => ?_, h3⟩, h4, h5⟩
    have := h2 x hx
    simp at this
    omega
  · rintro ⟨h, h4, h5⟩
    refine ⟨⟨h.len, fun x hx => ?_⟩, ⟨h.sm, h4⟩, h5⟩
    have h1 := h.nn x hx
    have h2 := O.mem_le_sum h.nn hx
    have h3 := h.sm
    simp
    omega
end Go.Proofs.Ytcncjldggfbjdaa.E
namespace Go.Proofs.Ytcncjldggfbjdaa.E
open Go.RowKit Go.Proofs.YtcncjldggfbjdaaW.PrintWords Go.Proofs.YtcncjldggfbjdaaW.PrintLast Go.Proofs.YtcncjldggfbjdaaW.PrintMore Go.Proofs.Ytcncjldggfbjdaa.G0 Go.Proofs.Ytcncjldggfbjdaa.G1 Go.Proofs.Ytcncjldggfbjdaa.G2 Go.Proofs.Ytcncjldggfbjdaa.PEx
set_option linter.unusedVariables false
set_option linter.unusedSimpArgs false
theorem small_now : bournelaw01_small.f 40 = some true := by decide +kernel
theorem small_ev : Ev (fun k => bournelaw01_small.f k) true := Ev.of (bournelaw01_small.mono) small_now
end Go.Proofs.Ytcncjldggfbjdaa.E
namespace Go.Proofs.Ytcncjldggfbjdaa.E
open Go.RowKit Go.Proofs.Ytcncjldggfbjdaa.PEx Go.Proofs.Ytcncjldggfbjdaa.G1 Go.Proofs.YtcncjldggfbjdaaW.PrintWords
set_option linter.unusedVariables false
set_option linter.unusedSimpArgs false
def subS (a b : Int) : Int := if a - b > 9223372036854775807 then 9223372036854775807 else if a - b < -9223372036854775808 then -9223372036854775808 else a - b
theorem subS_R (a b : Int) : i64R (subS a b) = true := by
  unfold subS
  rw [i64R_iff]
  split
  · omega
  · split <;> omega
theorem sub_now {a b : Int} (ha : i64R a = true) (hb : i64R b = true) : exact_Sub.f a b = some (subS a b) := by
  rw [i64R_iff] at ha hb
  unfold exact_Sub.f exact_end.f subS
  simp only [Option.bind_some, beq_iff_eq, bne_iff_ne, ne_eq, decide_eq_true_eq, decide_eq_decide]
  by_cases h1 : a < 0 <;> by_cases h2 : b < 0
  · rw [if_neg (by omega), if_neg (by omega), if_neg (by omega)]
    congr 1; unfold wrap64; omega
  · rw [if_pos (by omega)]
    by_cases h3 : a - b < -9223372036854775808
    · rw [if_pos (by unfold wrap64; omega), if_pos h1, if_neg (by omega), if_pos h3]; rfl
    · rw [if_neg (by unfold wrap64; omega), if_neg (by omega), if_neg h3]
      congr 1; unfold wrap64; omega
  · rw [if_pos (by omega)]
    by_cases h3 : a - b > 9223372036854775807
    · rw [if_pos (by unfold wrap64; omega), if_neg h1, if_pos h3]; rfl
    · rw [if_neg (by unfold wrap64; omega), if_neg h3, if_neg (by omega)]
      congr 1; unfold wrap64; omega
  · rw [if_neg (by omega), if_neg (by omega), if_neg (by omega)]
    congr 1; unfold wrap64; omega
def sumF (n : Int) : Int × Bool := if -9223372036854775808 ≤ n ∧ n ≤ 9223372036854775807 then (n, true) else (0, false)
theorem sum_now {l : List Int} (h : l.all i64R = true) : exact_Sum.f l = some (sumF l.sum) := by
  unfold exact_Sum.f sumF; rw [if_pos h]
theorem sumF_R (n : Int) : i64R (sumF n).1 = true := by
  rw [i64R_iff]; unfold sumF; split
  · next h => exact h
  · decide
theorem sumF_true {n : Int} (h : (sumF n).2 = true) : (sumF n).1 = n ∧ -9223372036854775808 ≤ n ∧ n ≤ 9223372036854775807 := by
  unfold sumF at h ⊢
  split at h
  · next h' => rw [if_pos h']; exact ⟨rfl, h'⟩
  · exact absurd h (by simp)
theorem sumF_in {n : Int} (h : -9223372036854775808 ≤ n) (h2 : n ≤ 9223372036854775807) : sumF n = (n, true) := by unfold sumF; rw [if_pos ⟨h, h2⟩]
end Go.Proofs.Ytcncjldggfbjdaa.E
namespace Go.Proofs.Ytcncjldggfbjdaa.F
open Go.RowKit Go.Proofs.YtcncjldggfbjdaaW.PrintWords Go.Proofs.YtcncjldggfbjdaaW.PrintLast Go.Proofs.YtcncjldggfbjdaaW.PrintMore Go.Proofs.Ytcncjldggfbjdaa.G0 Go.Proofs.Ytcncjldggfbjdaa.G1 Go.Proofs.Ytcncjldggfbjdaa.PEx Go.Proofs.Ytcncjldggfbjdaa.E
set_option linter.unusedVariables false
set_option linter.unusedSimpArgs false
theorem and32 (n : Int) : Go.bits .and .i64 n 4294967295 = n % 4294967296 := by
  show IntKind.i64.wrap ((BitVec.ofInt 64 n &&& BitVec.ofInt 64 4294967295).toNat : Int) = _
  have h : (BitVec.ofInt 64 n &&& BitVec.ofInt 64 4294967295).toNat = (n % 4294967296).toNat := by
    rw [BitVec.toNat_and, show (BitVec.ofInt 64 4294967295).toNat = 2 ^ 32 - 1 from rfl, Nat.and_two_pow_sub_one_eq_mod, BitVec.toNat_ofInt]
    omega
  rw [h, IntKind.wrap_i64]
  omega
theorem and_bit (n m : Nat) : n &&& 2 ^ m = n / 2 ^ m % 2 * 2 ^ m := by
  have hb : n.testBit m = decide (n / 2 ^ m % 2 = 1) := Nat.testBit_eq_decide_div_mod_eq
  have h2 := Nat.mod_two_eq_zero_or_one (n / 2 ^ m)
  rcases h2 with h | h
  · rw [h, Nat.zero_mul]
    rw [h] at hb
    refine Nat.eq_of_testBit_eq fun i => ?_
    rw [Nat.testBit_and, Nat.testBit_two_pow, Nat.zero_testBit]
    by_cases e : m = i
    · subst e; rw [hb]; rfl
    · rw [decide_eq_false e, Bool.and_false]
  · rw [h, Nat.one_mul]
    rw [h] at hb
    refine Nat.eq_of_testBit_eq fun i => ?_
    rw [Nat.testBit_and, Nat.testBit_two_pow]
    by_cases e : m = i
    · subst e; rw [hb]; rfl
    · rw [decide_eq_false e, Bool.and_false]
theorem and_pow (n m : Nat) (hn : n < 9223372036854775808) (hm : m < 63) : Go.bits .and .i64 (n : Int) ((2 ^ m : Nat) : Int) = ((n / 2 ^ m % 2 * 2 ^ m : Nat) : Int) := by
  have hp : 2 ^ m < 2 ^ 63 := Nat.pow_lt_pow_right (by omega) hm
  have hp' : 2 ^ m < 9223372036854775808 := hp
  show IntKind.i64.wrap ((BitVec.ofInt 64 (n : Int) &&& BitVec.ofInt 64 ((2 ^ m : Nat) : Int)).toNat : Int) = _
  have h : (BitVec.ofInt 64 (n : Int) &&& BitVec.ofInt 64 ((2 ^ m : Nat) : Int)).toNat = n / 2 ^ m % 2 * 2 ^ m := by
    rw [BitVec.toNat_and, BitVec.toNat_ofInt, BitVec.toNat_ofInt]
    have e1 : ((n : Int) % (2 ^ 64 : Nat)).toNat = n := by omega
    have e2 : (((2 ^ m : Nat) : Int) % (2 ^ 64 : Nat)).toNat = 2 ^ m := by
      generalize 2 ^ m = p at *
      omega
    rw [e1, e2]
    exact and_bit n m
  rw [h, IntKind.wrap_i64]
  have h1 : n / 2 ^ m % 2 * 2 ^ m ≤ 1 * 2 ^ m := Nat.mul_le_mul_right _ (by have := Nat.mod_lt (n / 2 ^ m) (show 0 < 2 by omega); omega)
  generalize n / 2 ^ m % 2 * 2 ^ m = v at *
  generalize 2 ^ m = p at *
  omega
theorem clamp_same (a b c : Int) : bourneref01_Clamp.f a b c = some (if a < b then b else if a > c then c else a) := by
  unfold bourneref01_Clamp.f
  split
  · rfl
  · split <;> rfl
theorem radd_ev {a b : Int} (ha : i64R a = true) (hb : i64R b = true) : Ev (fun k => bourneref01_Add.f k a b) (addS a b) := by
  rw [i64R_iff] at ha hb
  have j : ∀ v : Bool, v = decide (0 < b ∧ a + b > 9223372036854775807) → Ev (fun k => bourneref01_Add.j0 k a b v) (addS a b) := by
    intro v hv
    subst hv
    refine Ev.step (fun k => ?_) (Ev.now _)
    simp only [bourneref01_Add.j0]
    unfold addS
    by_cases c1 : 0 < b ∧ a + b > 9223372036854775807
    · rw [decide_eq_true c1, if_pos rfl, if_pos c1.2]
    · rw [decide_eq_false c1, if_neg (by simp)]
      by_cases c2 : b < 0
      · have e : wrap64 ((-9223372036854775808) - b) = (-9223372036854775808) - b := by unfold wrap64; omega
        rw [if_pos c2, e]
        by_cases c3 : a < (-9223372036854775808) - b
        · rw [if_pos c3, if_neg (show ¬ a + b > 9223372036854775807 by omega), if_pos (by omega)]
        · rw [if_neg c3, if_neg (show ¬ a + b > 9223372036854775807 by omega), if_neg (by omega)]
          congr 1; unfold wrap64; omega
      · rw [if_neg c2, if_neg (show ¬ a + b > 9223372036854775807 by omega), if_neg (by omega)]
        congr 1; unfold wrap64; omega
  unfold bourneref01_Add.f
  by_cases c1 : b > 0
  · have e : wrap64 (9223372036854775807 - b) = 9223372036854775807 - b := by unfold wrap64; omega
    refine Ev.congr (fun k => by rw [if_pos c1, e]) (j _ ?_)
    rw [decide_eq_decide]; omega
  · refine Ev.congr (fun k => by rw [if_neg c1]) (j false ?_)
    rw [decide_eq_false (by omega)]
theorem rsub_ev {a b : Int} (ha : i64R a = true) (hb : i64R b = true) : Ev (fun k => bourneref01_Sub.f k a b) (subS a b) := by
  rw [i64R_iff] at ha hb
  have j : ∀ v : Bool, v = decide (b < 0 ∧ a - b > 9223372036854775807) → Ev (fun k => bourneref01_Sub.j0 k a b v) (subS a b) := by
    intro v hv
    subst hv
    refine Ev.step (fun k => ?_) (Ev.now _)
    simp only [bourneref01_Sub.j0]
    unfold subS
    by_cases c1 : b < 0 ∧ a - b > 9223372036854775807
    · rw [decide_eq_true c1, if_pos rfl, if_pos c1.2]
    · rw [decide_eq_false c1, if_neg (by simp)]
      by_cases c2 : b > 0
      · have e : wrap64 ((-9223372036854775808) + b) = (-9223372036854775808) + b := by unfold wrap64; omega
        rw [if_pos c2, e]
        by_cases c3 : a < (-9223372036854775808) + b
        · rw [if_pos c3, if_neg (show ¬ a - b > 9223372036854775807 by omega), if_pos (by omega)]
        · rw [if_neg c3, if_neg (show ¬ a - b > 9223372036854775807 by omega), if_neg (by omega)]
          congr 1; unfold wrap64; omega
      · rw [if_neg c2, if_neg (show ¬ a - b > 9223372036854775807 by omega), if_neg (by omega)]
        congr 1; unfold wrap64; omega
  unfold bourneref01_Sub.f
  by_cases c1 : b < 0
  · have e : wrap64 (9223372036854775807 + b) = 9223372036854775807 + b := by unfold wrap64; omega
    refine Ev.congr (fun k => by rw [if_pos c1, e]) (j _ ?_)
    rw [decide_eq_decide]; omega
  · refine Ev.congr (fun k => by rw [if_neg c1]) (j false ?_)
    rw [decide_eq_false (by omega)]
/-! The sum, of upper and lower halves. -/
def his (l : List Int) : Int := (l.map fun x => x / 4294967296).sum
def los (l : List Int) : Int := (l.map fun x => x % 4294967296).sum
theorem his_los : ∀ l : List Int, l.sum = his l * 4294967296 + los l
  | [] => rfl
  | x :: l => by
    have := his_los l
    unfold his los at *
    simp only [List.sum_cons, List.map_cons]
    omega
theorem take_snoc (l : List Int) (i : Nat) (h : i < l.length) : l.take (i + 1) = l.take i ++ [l.getD i 0] := by
  rw [List.take_succ_eq_append_getElem h, O.getD_eq _ _ h]
theorem his_snoc (l : List Int) (x : Int) : his (l ++ [x]) = his l + x / 4294967296 := by simp [his]
theorem los_snoc (l : List Int) (x : Int) : los (l ++ [x]) = los l + x % 4294967296 := by simp [los]
theorem half_bd : ∀ l : List Int, l.all i64R = true → -(2147483648 * l.length : Int) ≤ his l ∧ his l ≤ 2147483648 * l.length ∧ 0 ≤ los l ∧ los l ≤ 4294967296 * l.length
  | [], _ => by simp [his, los]
  | x :: l, h => by
    rw [List.all_cons, Bool.and_eq_true, i64R_iff] at h
    have := half_bd l h.2
    unfold his los at *
    simp only [List.sum_cons, List.map_cons, List.length_cons]
    omega
theorem rsum_ev (l : List Int) (hR : l.all i64R = true) (hl : l.length ≤ 1000) : Ev (fun k => bourneref01_Sum.f k l) (sumF l.sum) := by
  have go : ∀ d i : Nat, l.length - i = d → i ≤ l.length → Ev (fun k => bourneref01_Sum.l0 k l (his (l.take i)) (los (l.take i)) i) (sumF l.sum) := by
    intro d
    induction d with
    | zero =>
      intro i h1 h2
      obtain rfl : i = l.length := by omega
      rw [List.take_length]
      have hb := half_bd l hR
      have hs := his_los l
      refine Ev.step (fun k => ?_) (Ev.now _)
      simp only [bourneref01_Sum.l0]
      have e : wrap64 (his l + los l / 4294967296) = his l + los l / 4294967296 := by unfold wrap64; omega
      rw [if_neg (by omega), e, and32]
      generalize his l = H at *
      generalize los l = L at *
      rw [hs]
      unfold sumF
      by_cases c1 : H + L / 4294967296 < -2147483648
      · rw [if_pos c1, if_neg (by omega)]
      · by_cases c2 : H + L / 4294967296 > 2147483647
        · rw [if_neg c1, if_pos c2, if_neg (by omega)]
        · rw [if_neg c1, if_neg c2, if_pos (by omega)]
          congr 2
          unfold wrap64; omega
    | succ d ih =>
      intro i h1 h2
      have hi : i < l.length := by omega
      have hx := i64R_iff.1 (getD_R hR i)
      have hb := half_bd (l.take i) (take_all hR i)
      rw [List.length_take] at hb
      have e1 : wrap64 (his (l.take i) + l.getD i 0 / 4294967296) = his (l.take (i + 1)) := by rw [take_snoc l i hi, his_snoc]; unfold wrap64; omega
      have e2 : wrap64 (los (l.take i) + l.getD i 0 % 4294967296) = los (l.take (i + 1)) := by rw [take_snoc l i hi, los_snoc]; unfold wrap64; omega
      refine Ev.step (fun k => ?_) (ih (i + 1) (by omega) (by omega))
      simp only [bourneref01_Sum.l0]
      rw [if_pos (by omega), if_pos (by omega), rd_getD, and32, e1, e2, wrap_succ i l.length hi (by omega)]
  exact go l.length 0 (by omega) (by omega)
/-! Scale, bit by bit. -/
theorem bit_step (A N D m : Nat) (hD : 0 < D) :
    A * (N / 2 ^ m) / D = 2 * (A * (N / 2 ^ (m + 1)) / D) + (2 * (A * (N / 2 ^ (m + 1)) % D) + A * (N / 2 ^ m % 2)) / D ∧ A * (N / 2 ^ m) % D = (2 * (A * (N / 2 ^ (m + 1)) % D) + A * (N / 2 ^ m % 2)) % D := by
  have e : N / 2 ^ (m + 1) = N / 2 ^ m / 2 := by rw [Nat.pow_succ, Nat.div_div_eq_div_mul]
  rw [e]
  generalize N / 2 ^ m = n
  have h : A * n = (2 * (A * (n / 2) % D) + A * (n % 2)) + D * (2 * (A * (n / 2) / D)) := by
    have h1 := Nat.div_add_mod (A * (n / 2)) D
    have h2 : A * n = 2 * (A * (n / 2)) + A * (n % 2) := by
      conv => lhs; rw [← Nat.div_add_mod n 2]
      rw [Nat.mul_add, Nat.mul_left_comm]
    rw [h2]
    conv => lhs; rw [← h1]
    rw [Nat.mul_add, Nat.mul_left_comm D 2]
    omega
  rw [h, Nat.add_mul_div_left _ _ hD, Nat.add_mul_mod_self_left]
  exact ⟨Nat.add_comm .., rfl⟩
theorem wrap_nat (n : Nat) (h : n ≤ 9223372036854775807) : wrap64 (n : Int) = n := by unfold wrap64; omega
/-- One bit of the quotient and the remainder, in the program's words. -/
theorem bit_words (q s D Q R : Nat) (b1 : Q = 2 * q + s / D) (b2 : R = s % D) (hq : q ≤ 1125899906842624) (hs : s ≤ 4503599627370496) :
    wrap64 (((2 * q : Nat) : Int) + wrap64 (Int.tdiv (s : Int) (D : Int))) = (Q : Int) ∧ Int.tmod (s : Int) (D : Int) = (R : Int) := by
  have hdv : s / D ≤ s := Nat.div_le_self _ _
  rw [Int.tdiv_eq_ediv_of_nonneg (Int.natCast_nonneg _), Int.tmod_eq_emod_of_nonneg (Int.natCast_nonneg _), ← Int.natCast_ediv, ← Int.natCast_emod, b2]
  refine ⟨?_, rfl⟩
  rw [b1]
  generalize s / D = v at *
  rw [wrap_nat v (by omega), ← Int.natCast_add]
  exact wrap_nat _ (by omega)
theorem half_word (p : Nat) (h : p ≤ 1125899906842624) : wrap64 (Int.tdiv (p : Int) 2) = ((p / 2 : Nat) : Int) := by
  rw [Int.tdiv_eq_ediv_of_nonneg (Int.natCast_nonneg _), show ((p : Int) / 2) = ((p / 2 : Nat) : Int) by omega]
  exact wrap_nat _ (by omega)
theorem scale_over (A N D : Nat) (h : 1125899906842624 < A * N / D) : scaleF A N D = (0, 0, false) := by
  unfold scaleF
  rw [if_neg]
  simp only [scaleOk, Bool.and_eq_true, decide_eq_true_eq, not_and]
  intro _ h2
  have hq : (A : Int) * N / D = ((A * N / D : Nat) : Int) := by rw [← Int.natCast_mul, ← Int.natCast_ediv]
  rw [hq] at h2
  omega
theorem scale_in (A N D : Nat) (hA : A ≤ 1125899906842624) (hN : N ≤ 1125899906842624) (hD : 1 ≤ D) (hD2 : D ≤ 1125899906842624) (h : A * N / D ≤ 1125899906842624) : scaleF A N D = (((A * N / D : Nat) : Int), ((A * N % D : Nat) : Int), true) := by
  have hq : (A : Int) * N / D = ((A * N / D : Nat) : Int) := by rw [← Int.natCast_mul, ← Int.natCast_ediv]
  have hr : (A : Int) * N % D = ((A * N % D : Nat) : Int) := by rw [← Int.natCast_mul, ← Int.natCast_emod]
  unfold scaleF
  rw [hq, hr, if_pos]
  simp only [scaleOk, Bool.and_eq_true, decide_eq_true_eq]
  rw [hq]
  generalize A * N / D = q at *
  omega
/-- One round of the loop. -/
theorem rscale_step (A N D : Nat) (hA : A ≤ 1125899906842624) (hD : 1 ≤ D) (hD2 : D ≤ 1125899906842624) (p b q r Q R : Nat) (hp : p ≤ 1125899906842624) (hp0 : 0 < p) (hb : b = 0 ∨ b = 1) (hq : q ≤ 1125899906842624) (hr : r < D)
    (hand : Aside0 (Go.bits .and .i64 (N : Int) (p : Int) = ((b * p : Nat) : Int))) (b1 : Q = 2 * q + (2 * r + A * b) / D) (b2 : R = (2 * r + A * b) % D) (hQ : Q ≤ A * N / D)
    (rest : Q ≤ 1125899906842624 → Ev (fun k => bourneref01_Scale.l0 k A N D (Q : Int) (R : Int) ((p / 2 : Nat) : Int)) (scaleF A N D)) :
    Ev (fun k => bourneref01_Scale.l0 k A N D (q : Int) (r : Int) (p : Int)) (scaleF A N D) := by
  have p0 : (p : Int) > 0 := by omega
  have dn : ¬ (D : Int) = 0 := by omega
  have r2 : 2 * r ≤ 4503599627370496 := by omega
  have r3 : 2 * r + A ≤ 4503599627370496 := by omega
  have v1 : 1125899906842624 < Q → (Q : Int) > 1125899906842624 := by omega
  have v2 : ¬ 1125899906842624 < Q → ¬ (Q : Int) > 1125899906842624 := by omega
  have v3 : ¬ 1125899906842624 < Q → Q ≤ 1125899906842624 := by omega
  have w1 : wrap64 (2 * (q : Int)) = ((2 * q : Nat) : Int) := by rw [show (2 * (q : Int)) = ((2 * q : Nat) : Int) by omega]; exact wrap_nat _ (by omega)
  have w2 : wrap64 (2 * (r : Int)) = ((2 * r : Nat) : Int) := by clear w1; rw [show (2 * (r : Int)) = ((2 * r : Nat) : Int) by omega]; exact wrap_nat _ (by omega)
  have w3 : wrap64 (((2 * r : Nat) : Int) + (A : Int)) = ((2 * r + A : Nat) : Int) := by clear w1 w2; rw [← Int.natCast_add]; exact wrap_nat _ (by omega)
  have eb := half_word p hp
  rcases hb with rfl | rfl
  · rw [Nat.mul_zero, Nat.add_zero] at b1 b2
    have hand := hand.out
    rw [Nat.zero_mul] at hand
    obtain ⟨m1, m2⟩ := bit_words q (2 * r) D Q R b1 b2 hq r2
    have hand' : Go.bits .and .i64 (N : Int) (p : Int) = 0 := hand
    by_cases hv : 1125899906842624 < Q
    · rw [scale_over A N D (Nat.lt_of_lt_of_le hv hQ)]
      refine Ev.step (fun k => ?_) (Ev.now _)
      simp only [bourneref01_Scale.l0]
      rw [if_pos p0, if_pos hand', if_neg dn, w1, w2, m1, if_pos (v1 hv)]
    · refine Ev.step (fun k => ?_) (rest (v3 hv))
      simp only [bourneref01_Scale.l0]
      rw [if_pos p0, if_pos hand', if_neg dn, w1, w2, m1, m2, if_neg (v2 hv), eb]
  · rw [Nat.mul_one] at b1 b2
    have hand := hand.out
    rw [Nat.one_mul] at hand
    obtain ⟨m1, m2⟩ := bit_words q (2 * r + A) D Q R b1 b2 hq r3
    have hand' : ¬ Go.bits .and .i64 (N : Int) (p : Int) = 0 := by
      rw [hand]; clear hand w1 w2 w3 eb m1 m2; omega
    by_cases hv : 1125899906842624 < Q
    · rw [scale_over A N D (Nat.lt_of_lt_of_le hv hQ)]
      refine Ev.step (fun k => ?_) (Ev.now _)
      simp only [bourneref01_Scale.l0]
      rw [if_pos p0, if_neg hand', if_neg dn, w1, w2, w3, m1, if_pos (v1 hv)]
    · refine Ev.step (fun k => ?_) (rest (v3 hv))
      simp only [bourneref01_Scale.l0]
      rw [if_pos p0, if_neg hand', if_neg dn, w1, w2, w3, m1, m2, if_neg (v2 hv), eb]
theorem rscale_loop (A N D : Nat) (hA : A ≤ 1125899906842624) (hN : N ≤ 1125899906842624) (hD : 1 ≤ D) (hD2 : D ≤ 1125899906842624) :
    ∀ m : Nat, m ≤ 50 → A * (N / 2 ^ (m + 1)) / D ≤ 1125899906842624 → Ev (fun k => bourneref01_Scale.l0 k A N D ((A * (N / 2 ^ (m + 1)) / D : Nat) : Int) ((A * (N / 2 ^ (m + 1)) % D : Nat) : Int) ((2 ^ m : Nat) : Int)) (scaleF A N D) := by
  have step : ∀ m : Nat, m ≤ 50 → A * (N / 2 ^ (m + 1)) / D ≤ 1125899906842624 → (A * (N / 2 ^ m) / D ≤ 1125899906842624 → Ev (fun k => bourneref01_Scale.l0 k A N D ((A * (N / 2 ^ m) / D : Nat) : Int) ((A * (N / 2 ^ m) % D : Nat) : Int) ((2 ^ m / 2 : Nat) : Int)) (scaleF A N D)) →
      Ev (fun k => bourneref01_Scale.l0 k A N D ((A * (N / 2 ^ (m + 1)) / D : Nat) : Int) ((A * (N / 2 ^ (m + 1)) % D : Nat) : Int) ((2 ^ m : Nat) : Int)) (scaleF A N D) := by
    intro m hm hle rest
    obtain ⟨b1, b2⟩ := bit_step A N D m hD
    exact rscale_step A N D hA hD hD2 (2 ^ m) (N / 2 ^ m % 2) _ _ _ _ (Nat.le_trans (Nat.pow_le_pow_right (by omega) hm) (Nat.le_of_ble_eq_true rfl)) (Nat.two_pow_pos m) (Nat.mod_two_eq_zero_or_one _) hle (Nat.mod_lt _ hD)
      (Aside0.mk (and_pow N m (Nat.lt_of_le_of_lt hN (by omega)) (by omega))) b1 b2 (Nat.div_le_div_right (Nat.mul_le_mul_left _ (Nat.div_le_self _ _))) rest
  intro m
  induction m with
  | zero =>
    intro hm hle
    refine step 0 hm hle fun h => ?_
    rw [Nat.pow_zero, Nat.div_one] at h ⊢
    rw [scale_in A N D hA hN hD hD2 h]
    refine Ev.step (fun k => ?_) (Ev.now _)
    simp only [bourneref01_Scale.l0]
    rw [if_neg (by simp)]
  | succ m ih =>
    intro hm hle
    refine step (m + 1) hm hle fun h => ?_
    have := ih (by omega) h
    rwa [show 2 ^ (m + 1) / 2 = 2 ^ m by rw [Nat.pow_succ]; omega]
theorem rscale_ev (a b c : Int) : Ev (fun k => bourneref01_Scale.f k a b c) (scaleF a b c) := by
  have no : ¬ (scaleOk a b c = true) → Ev (fun k => bourneref01_Scale.j0 k a b c true) (scaleF a b c) := by
    intro h
    unfold scaleF
    rw [if_neg h]
    exact Ev.step (fun k => by simp only [bourneref01_Scale.j0]; rw [if_pos trivial]) (Ev.now _)
  unfold bourneref01_Scale.f
  by_cases c1 : a < 0
  · exact Ev.congr (fun k => by rw [if_pos c1]) (no (by simp only [scaleOk, Bool.and_eq_true, decide_eq_true_eq]; omega))
  by_cases c2 : a > 1125899906842624
  · exact Ev.congr (fun k => by rw [if_neg c1, if_pos c2]) (no (by simp only [scaleOk, Bool.and_eq_true, decide_eq_true_eq]; omega))
  by_cases c3 : b < 0
  · exact Ev.congr (fun k => by rw [if_neg c1, if_neg c2, if_pos c3]) (no (by simp only [scaleOk, Bool.and_eq_true, decide_eq_true_eq]; omega))
  by_cases c4 : b > 1125899906842624
  · exact Ev.congr (fun k => by rw [if_neg c1, if_neg c2, if_neg c3, if_pos c4]) (no (by simp only [scaleOk, Bool.and_eq_true, decide_eq_true_eq]; omega))
  by_cases c5 : c < 1
  · exact Ev.congr (fun k => by rw [if_neg c1, if_neg c2, if_neg c3, if_neg c4, if_pos c5]) (no (by simp only [scaleOk, Bool.and_eq_true, decide_eq_true_eq]; omega))
  by_cases c6 : c > 1125899906842624
  · exact Ev.congr (fun k => by rw [if_neg c1, if_neg c2, if_neg c3, if_neg c4, if_neg c5, decide_eq_true c6]) (no (by simp only [scaleOk, Bool.and_eq_true, decide_eq_true_eq]; omega))
  refine Ev.congr (fun k => by rw [if_neg c1, if_neg c2, if_neg c3, if_neg c4, if_neg c5, decide_eq_false c6]) ?_
  obtain ⟨A, rfl⟩ := Int.eq_ofNat_of_zero_le (show 0 ≤ a by omega)
  obtain ⟨N, rfl⟩ := Int.eq_ofNat_of_zero_le (show 0 ≤ b by omega)
  obtain ⟨D, rfl⟩ := Int.eq_ofNat_of_zero_le (show 0 ≤ c by omega)
  have hz : N / 2 ^ 51 = 0 := Nat.div_eq_of_lt (by omega)
  have h := rscale_loop A N D (by omega) (by omega) (by omega) (by omega) 50 (by omega) (by rw [hz]; simp)
  rw [hz] at h
  refine Ev.step (fun k => ?_) h
  simp only [bourneref01_Scale.j0]
  rw [if_neg (by simp)]
  simp
end Go.Proofs.Ytcncjldggfbjdaa.F
namespace Go.Proofs.Ytcncjldggfbjdaa.F
open Go.RowKit Go.Proofs.YtcncjldggfbjdaaW.PrintWords Go.Proofs.YtcncjldggfbjdaaW.PrintLast Go.Proofs.YtcncjldggfbjdaaW.PrintMore Go.Proofs.Ytcncjldggfbjdaa.G0 Go.Proofs.Ytcncjldggfbjdaa.G1 Go.Proofs.Ytcncjldggfbjdaa.G2 Go.Proofs.Ytcncjldggfbjdaa.PEx Go.Proofs.Ytcncjldggfbjdaa.E
set_option linter.unusedVariables false
set_option linter.unusedSimpArgs false
/-- Which elements have got one more, after k of them. -/
def moreTo (r : List Int) (k : Nat) : List Bool := (List.range r.length).map fun i => decide (O.rank r (i : Nat) < k)
theorem moreTo_length (r : List Int) (k : Nat) : (moreTo r k).length = r.length := by simp [moreTo]
theorem moreTo_at (r : List Int) (k i : Nat) (h : i < r.length) : rdOf false (moreTo r k) (i : Int) = decide (O.rank r (i : Nat) < k) := by simp [moreTo, rdOf, h]
theorem moreTo_zero (r : List Int) : moreTo r 0 = List.replicate r.length false := by
  refine List.ext_getElem (by simp [moreTo]) fun i h1 h2 => ?_
  simp [moreTo]
/-- Where the k-th of the order stands. -/
theorem rank_place (r : List Int) (k : Nat) (hk : k < r.length) : ∃ m, m < r.length ∧ O.rank r (m : Nat) = k ∧ ∀ j, j < r.length → O.rank r (j : Nat) = k → j = m := by
  obtain ⟨ys, h1, h2⟩ := O.order_exists r
  have hra := fun p hp => O.rank_at r ys h1 h2 p hp
  obtain ⟨m, _, h4, h5⟩ := h1.inside k (by omega) hk
  rw [O.idx_at _ _ h4] at h5
  have e := hra k hk
  rw [h5] at e
  refine ⟨m, h4, e, fun j hj hjk => ?_⟩
  obtain ⟨p, hp, e2⟩ := h1.surj j (by rw [O.idx_length]; exact hj)
  rw [O.idx_length] at hp
  rw [O.idx_at _ _ hj] at e2
  have e3 := hra p hp
  rw [e2, hjk] at e3
  subst e3
  rw [h5] at e2
  omega
/-- The first of the greatest so far, of those that have got none. -/
def Far (r : List Int) (k i : Nat) (b : Int) : Prop := (b = -1 ∧ ∀ j : Nat, j < i → O.rank r (j : Nat) < k) ∨ ∃ c : Nat, b = c ∧ c < i ∧ ¬ O.rank r (c : Nat) < k ∧ ∀ j : Nat, j < i → ¬ O.rank r (j : Nat) < k → j = c ∨ O.lt r c j = true
theorem next_ev (r : List Int) (k m : Nat) (hl : r.length ≤ 1000) (hm : m < r.length) (hr : O.rank r (m : Nat) = k) (hu : ∀ j, j < r.length → O.rank r (j : Nat) = k → j = m) :
    Ev (fun n => bourneref01_next.f n r (moreTo r k)) (m : Int) := by
  have hml := moreTo_length r k
  have go : ∀ d i : Nat, ∀ b : Int, r.length - i = d → i ≤ r.length →
      Far r k i b →
      Ev (fun n => bourneref01_next.l0 n r (moreTo r k) b i) (m : Int) := by
    intro d
    induction d with
    | zero =>
      intro i b h1 h2 h3
      obtain rfl : i = r.length := by omega
      have e : b = m := by
        rcases h3 with ⟨_, h3⟩ | ⟨c, rfl, hc, hn, h3⟩
        · have := h3 m hm; omega
        · rcases h3 m hm (by omega) with h4 | h4
          · rw [h4]
          · have := O.rank_mono h4
            rw [hu c hc (by omega)]
      subst e
      refine Ev.step (fun n => ?_) (Ev.now _)
      simp only [bourneref01_next.l0]
      rw [if_neg (by omega)]
    | succ d ih =>
      intro i b h1 h2 h3
      have hi : i < r.length := by omega
      have hw := Aside0.mk (wrap_succ i r.length hi (by omega))
      by_cases hmore : O.rank r (i : Nat) < k
      · refine Ev.step (fun n => ?_) (ih (i + 1) b (by omega) (by omega) ?_)
        · simp only [bourneref01_next.l0]
          rw [if_pos (by omega), if_pos (by omega), if_pos (by omega), moreTo_at r k i hi, if_pos (decide_eq_true hmore), hw.out]
        · rcases h3 with ⟨h3, h4⟩ | ⟨c, h3, hc, hn, h4⟩
          · refine .inl ⟨h3, fun j hj => ?_⟩
            by_cases e : j = i
            · subst e; exact hmore
            · exact h4 j (by omega)
          · refine .inr ⟨c, h3, by omega, hn, fun j hj hjn => ?_⟩
            by_cases e : j = i
            · subst e; exact absurd hmore hjn
            · exact h4 j (by omega) hjn
      · rcases h3 with ⟨rfl, h4⟩ | ⟨c, rfl, hc, hn, h4⟩
        · refine Ev.step (fun n => ?_) (ih (i + 1) i (by omega) (by omega) (.inr ⟨i, rfl, by omega, hmore, fun j hj hjn => ?_⟩))
          · simp only [bourneref01_next.l0]
            rw [if_pos (by omega), if_pos (by omega), if_pos (by omega), moreTo_at r k i hi, if_neg (by simp [hmore]), if_pos (by omega), hw.out]
          · by_cases e : j = i
            · exact .inl e
            · exact absurd (h4 j (by omega)) hjn
        · by_cases hg : r.getD i 0 > r.getD c 0
          · refine Ev.step (fun n => ?_) (ih (i + 1) i (by omega) (by omega) (.inr ⟨i, rfl, by omega, hmore, fun j hj hjn => ?_⟩))
            · simp only [bourneref01_next.l0]
              rw [if_pos (by omega), if_pos (by omega), if_pos (by omega), moreTo_at r k i hi, if_neg (by simp [hmore]), if_neg (by omega), if_pos (by omega), if_pos (by omega), rd_getD, rd_getD, if_pos hg, hw.out]
            · by_cases e : j = i
              · exact .inl e
              · right
                simp only [O.lt, Int.toNat_natCast, Bool.or_eq_true, Bool.and_eq_true, decide_eq_true_eq]
                rcases h4 j (by omega) hjn with h5 | h5
                · subst h5; exact .inl hg
                · simp only [O.lt, Int.toNat_natCast, Bool.or_eq_true, Bool.and_eq_true, decide_eq_true_eq] at h5
                  left; omega
          · refine Ev.step (fun n => ?_) (ih (i + 1) c (by omega) (by omega) (.inr ⟨c, rfl, by omega, hn, fun j hj hjn => ?_⟩))
            · simp only [bourneref01_next.l0]
              rw [if_pos (by omega), if_pos (by omega), if_pos (by omega), moreTo_at r k i hi, if_neg (by simp [hmore]), if_neg (by omega), if_pos (by omega), if_pos (by omega), rd_getD, rd_getD, if_neg hg, hw.out]
            · by_cases e : j = i
              · subst e
                right
                simp only [O.lt, Int.toNat_natCast, Bool.or_eq_true, Bool.and_eq_true, decide_eq_true_eq]
                omega
              · exact h4 j (by omega) hjn
  unfold bourneref01_next.f
  exact go r.length 0 (-1) (by omega) (by omega) (.inl ⟨rfl, fun j hj => by omega⟩)
theorem bump_at_rank (t : Int) (l : List Int) (k m : Nat) (hk : k < l.length) (hm : m < l.length) (hr : O.rank (O.rests t l) (m : Nat) = k) (hu : ∀ j, j < l.length → O.rank (O.rests t l) (j : Nat) = k → j = m) :
    O.bump t l (k + 1 : Nat) = (O.bump t l k).set m ((O.bump t l k).getD m 0 + 1) ∧ moreTo (O.rests t l) (k + 1) = (moreTo (O.rests t l) k).set m true := by
  constructor
  · refine O.ext_getD (by simp [O.bump_length]) fun i hi => ?_
    rw [O.bump_length] at hi
    rw [O.getD_set' _ _ _ _ (by rw [O.bump_length]; exact hm), O.bump_at _ _ _ _ hi, O.bump_at _ _ _ _ hm, O.bump_at _ _ _ _ hi]
    by_cases e : i = m
    · subst e
      rw [if_pos rfl, if_pos (by omega), if_neg (by omega)]
      omega
    · rw [if_neg e]
      have : O.rank (O.rests t l) (i : Nat) ≠ k := fun h => e (hu i hi h)
      by_cases h4 : O.rank (O.rests t l) (i : Nat) < k
      · rw [if_pos (by omega), if_pos (by omega)]
      · rw [if_neg (by omega), if_neg (by omega)]
  · refine List.ext_getElem (by simp [moreTo]) fun i h1 h2 => ?_
    rw [moreTo_length, O.rests_length] at h1
    rw [List.getElem_set]
    by_cases e : m = i
    · subst e
      rw [if_pos rfl]
      simp [moreTo, hr]
    · rw [if_neg e]
      have : O.rank (O.rests t l) (i : Nat) ≠ k := fun h => e (hu i h1 h).symm
      simp only [moreTo, List.getElem_map, List.getElem_range, decide_eq_decide]
      omega
theorem hand_ev {t : Int} {l : List Int} (h0 : ∀ x ∈ l, 0 ≤ x) (hW : 0 < l.sum) (hs : l.sum ≤ 1125899906842624) (hl : l.length ≤ 64) (ht0 : 0 ≤ t) (ht : t ≤ l.sum) :
    ∀ d k : Nat, O.leftOf t l = d + k → Ev (fun n => bourneref01_Share.l2 n (O.bump t l k) (O.rests t l) d (moreTo (O.rests t l) k)) (O.shareL t l, true) := by
  have hlb := O.left_bd t l hW
  intro d
  induction d with
  | zero =>
    intro k hk
    have e : O.shareL t l = O.bump t l k := by unfold O.shareL; rw [hk]; congr 1; omega
    rw [e]
    refine Ev.step (fun n => ?_) (Ev.now _)
    simp only [bourneref01_Share.l2]
    rw [if_neg (by omega)]
  | succ d ih =>
    intro k hk
    have hkl : k < l.length := by omega
    obtain ⟨m, h1, h2, h3⟩ := rank_place (O.rests t l) k (by rw [O.rests_length]; exact hkl)
    have hn := next_ev (O.rests t l) k m (by rw [O.rests_length]; omega) h1 h2 h3
    rw [O.rests_length] at h1 h3
    obtain ⟨b1, b2⟩ := bump_at_rank t l k m hkl h1 h2 h3
    have hi := ih (k + 1) (by omega)
    rw [b1, b2] at hi
    have hbm : Aside0 (wrap64 ((O.bump t l k).getD m 0 + 1) = (O.bump t l k).getD m 0 + 1) := by
      refine ⟨?_⟩
      have hx := h0 _ (List.getElem_mem h1)
      have hx2 := O.mem_le_sum h0 (List.getElem_mem h1)
      have hq := O.quot_le h0 hW ht (List.getElem_mem h1)
      rw [← O.getD_eq _ _ h1] at hx hq hx2
      have hq0 : 0 ≤ t * l.getD m 0 / l.sum := Int.ediv_nonneg (Int.mul_nonneg ht0 hx) (by omega)
      rw [O.bump_at _ _ _ _ h1, if_neg (by omega)]
      unfold wrap64; omega
    have hwd := Aside0.mk (show wrap64 (((d + 1 : Nat) : Int) - 1) = (d : Int) by unfold wrap64; omega)
    refine Ev.step (f := fun n => (bourneref01_next.f n (O.rests t l) (moreTo (O.rests t l) k)).bind fun t308 => (if 0 ≤ t308 then (if t308 < ((O.bump t l k).length : Int) then (if t308 < ((moreTo (O.rests t l) k).length : Int) then (bourneref01_Share.l2 n ((O.bump t l k).set (t308 : Int).toNat (wrap64 ((rd (O.bump t l k) t308) + 1))) (O.rests t l) d ((moreTo (O.rests t l) k).set (t308 : Int).toNat true)) else (none)) else (none)) else (none))) (fun n => ?_) (Ev.bind hn ?_)
    · simp only [bourneref01_Share.l2]
      rw [if_pos (by omega), hwd.out]
    · refine Ev.congr (fun n => ?_) hi
      rw [if_pos (by omega), if_pos (by rw [O.bump_length]; omega), if_pos (by rw [moreTo_length, O.rests_length]; omega), rd_getD, hbm.out, Int.toNat_natCast]
/-- The first k elements of a list, and zeros behind them. -/
def fillTo (f : List Int) (k : Nat) : List Int := (List.range f.length).map fun i => if i < k then f.getD i 0 else 0
theorem fillTo_length (f : List Int) (k : Nat) : (fillTo f k).length = f.length := by simp [fillTo]
theorem fillTo_at (f : List Int) (k i : Nat) (h : i < f.length) : (fillTo f k).getD i 0 = if i < k then f.getD i 0 else 0 := by simp [fillTo, h]
theorem fillTo_zero (f : List Int) : fillTo f 0 = List.replicate f.length 0 := by
  refine O.ext_getD (by simp [fillTo]) fun i hi => ?_
  rw [fillTo_length] at hi
  rw [fillTo_at _ _ _ hi, if_neg (by omega)]
  simp [hi]
theorem fillTo_all (f : List Int) : fillTo f f.length = f := by
  refine O.ext_getD (fillTo_length _ _) fun i hi => ?_
  rw [fillTo_length] at hi
  rw [fillTo_at _ _ _ hi, if_pos hi]
theorem fillTo_succ (f : List Int) (k : Nat) (hk : k < f.length) : (fillTo f k).set k (f.getD k 0) = fillTo f (k + 1) := by
  refine O.ext_getD (by simp [fillTo]) fun i hi => ?_
  rw [List.length_set, fillTo_length] at hi
  rw [O.getD_set' _ _ _ _ (by rw [fillTo_length]; exact hk), fillTo_at _ _ _ hi, fillTo_at _ _ _ hi]
  by_cases e : i = k
  · subst e; rw [if_pos rfl, if_pos (by omega)]
  · rw [if_neg e]
    by_cases h : i < k
    · rw [if_pos h, if_pos (by omega)]
    · rw [if_neg h, if_neg (by omega)]
theorem take_sum_succ (l : List Int) (i : Nat) (h : i < l.length) : (l.take (i + 1)).sum = (l.take i).sum + l.getD i 0 := by
  rw [take_snoc l i h, List.sum_append]; simp
theorem fill_ev {t : Int} {l : List Int} (h0 : ∀ x ∈ l, 0 ≤ x) (hW : 0 < l.sum) (hs : l.sum ≤ 1125899906842624) (hl : l.length ≤ 64) (ht0 : 0 ≤ t) (ht : t ≤ l.sum) :
    Ev (fun n => bourneref01_Share.l1 n t l l.sum (List.replicate l.length 0) (List.replicate l.length 0) t 0) (O.shareL t l, true) := by
  have hlb := O.left_bd t l hW
  have hq0 := O.quots_nonneg h0 ht0
  have hql := O.quots_length t l
  have hrl := O.rests_length t l
  have hqt : (O.quots t l).sum ≤ t := by have := hlb.1; unfold O.leftOf at this; omega
  have fin : Ev (fun n => bourneref01_Share.j3 n l (O.quots t l) (O.rests t l) (O.leftOf t l)) (O.shareL t l, true) := by
    obtain ⟨d, hd⟩ := Int.eq_ofNat_of_zero_le hlb.1
    have h := hand_ev h0 hW hs hl ht0 ht d 0 (by omega)
    rw [show ((0 : Nat) : Int) = 0 from rfl, O.bump_zero, moreTo_zero, hrl] at h
    refine Ev.step (fun n => ?_) h
    simp only [bourneref01_Share.j3]
    rw [if_pos (by omega), if_pos (by omega), Int.toNat_natCast, hd]
  have go : ∀ d i : Nat, l.length - i = d → i ≤ l.length → Ev (fun n => bourneref01_Share.l1 n t l l.sum (fillTo (O.quots t l) i) (fillTo (O.rests t l) i) (t - ((O.quots t l).take i).sum) i) (O.shareL t l, true) := by
    intro d
    induction d with
    | zero =>
      intro i h1 h2
      obtain rfl : i = l.length := by omega
      have e1 : fillTo (O.quots t l) l.length = O.quots t l := by rw [← hql]; exact fillTo_all _
      have e2 : fillTo (O.rests t l) l.length = O.rests t l := by rw [← hrl]; exact fillTo_all _
      have e3 : (O.quots t l).take l.length = O.quots t l := by rw [← hql]; exact List.take_length
      rw [e1, e2, e3]
      refine Ev.step (fun n => ?_) fin
      simp only [bourneref01_Share.l1]
      rw [if_neg (by omega)]; rfl
    | succ d ih =>
      intro i h1 h2
      have hi : i < l.length := by omega
      have hx := h0 _ (List.getElem_mem hi)
      have hx2 := O.mem_le_sum h0 (List.getElem_mem hi)
      have hq := O.quot_le h0 hW ht (List.getElem_mem hi)
      rw [← O.getD_eq _ _ hi] at hx hq hx2
      have e : scaleF t (l.getD i 0) l.sum = ((O.quots t l).getD i 0, (O.rests t l).getD i 0, true) := by
        rw [O.quots_at _ _ _ hi, O.rests_at _ _ _ hi]
        unfold scaleF
        rw [if_pos]
        simp only [scaleOk, Bool.and_eq_true, decide_eq_true_eq]
        generalize t * l.getD i 0 / l.sum = q at *
        omega
      have hsc := rscale_ev t (l.getD i 0) l.sum
      rw [e] at hsc
      have hts := take_sum_succ (O.quots t l) i (by omega)
      have hb1 := O.take_sum_le hq0 i
      have hb2 := O.take_sum_le hq0 (i + 1)
      have hw := Aside0.mk (show wrap64 (t - ((O.quots t l).take i).sum - (O.quots t l).getD i 0) = t - ((O.quots t l).take (i + 1)).sum by rw [hts]; unfold wrap64; omega)
      have f1 := fillTo_succ (O.quots t l) i (by omega)
      have f2 := fillTo_succ (O.rests t l) i (by omega)
      refine Ev.step (f := fun n => (bourneref01_Scale.f n t (l.getD i 0) l.sum).bind fun bt300 => (if (i : Int) < ((fillTo (O.quots t l) i).length : Int) then (if (i : Int) < ((fillTo (O.rests t l) i).length : Int) then (bourneref01_Share.l1 n t l l.sum ((fillTo (O.quots t l) i).set ((i : Int) : Int).toNat bt300.1) ((fillTo (O.rests t l) i).set ((i : Int) : Int).toNat bt300.2.1) (wrap64 (t - ((O.quots t l).take i).sum - bt300.1)) (wrap64 ((i : Int) + 1))) else (none)) else (none))) (fun n => ?_) (Ev.bind hsc (Ev.congr (fun n => ?_) (ih (i + 1) (by omega) (by omega))))
      · simp only [bourneref01_Share.l1]
        rw [if_pos (by omega), if_pos (by omega), if_pos (by omega), rd_getD]
      · rw [if_pos (by rw [fillTo_length]; omega), if_pos (by rw [fillTo_length]; omega), Int.toNat_natCast, f1, f2, hw.out, wrap_succ i l.length hi (by omega)]
  have := go l.length 0 (by omega) (by omega)
  rw [fillTo_zero, fillTo_zero, hql, hrl] at this
  simpa using this
theorem none_ev {t : Int} {l : List Int} (hW : l.sum = 0) (hl : l.length ≤ 64) (ht : t = 0) :
    Ev (fun n => bourneref01_Share.l1 n t l l.sum (List.replicate l.length 0) (List.replicate l.length 0) t 0) (O.shareL t l, true) := by
  subst ht
  rw [share_zero hW rfl, hW]
  have fin : Ev (fun n => bourneref01_Share.j3 n l (List.replicate l.length 0) (List.replicate l.length 0) 0) (List.replicate l.length 0, true) := by
    refine Ev.step (fun n => ?_) (Ev.step (f := fun _ => some (List.replicate l.length (0 : Int), true)) (g := fun n => bourneref01_Share.l2 n (List.replicate l.length 0) (List.replicate l.length 0) 0 (List.replicate l.length false)) (fun n => ?_) (Ev.now _))
    · simp only [bourneref01_Share.j3]
      rw [if_pos (by omega), if_pos (by omega), Int.toNat_natCast]
    · simp only [bourneref01_Share.l2]
      rw [if_neg (by omega)]
  refine Ev.step (fun n => ?_) fin
  simp only [bourneref01_Share.l1]
  by_cases h : (0 : Int) < (l.length : Int)
  · rw [if_pos h, if_neg (by omega)]
  · rw [if_neg h]
theorem shareOk_parts {t : Int} {l : List Int} : shareOk t l = true ↔ (l.length ≤ 64 ∧ (∀ x ∈ l, 0 ≤ x) ∧ l.sum ≤ 1125899906842624) ∧ 0 ≤ t ∧ t ≤ l.sum := by
  simp only [shareOk, shareSum, Bool.and_eq_true, decide_eq_true_eq, Bool.not_eq_true', List.any_eq_false, badW, Bool.not_eq_true]
  constructor
  · rintro ⟨⟨h1, h2⟩, ⟨h3, h4⟩, h5⟩
    refine ⟨⟨h1, fun x hx => ?_, h3⟩, h4, h5⟩
    have := h2 x hx
    simp at this
    omega
  · rintro ⟨⟨h1, h2, h3⟩, h4, h5⟩
    refine ⟨⟨h1, fun x hx => ?_⟩, ⟨h3, h4⟩, h5⟩
    have h1 := h2 x hx
    have h2 := O.mem_le_sum h2 hx
    simp
    omega
/-- What Share answers, in one pair. -/
def shareB (t : Int) (l : List Int) : List Int × Bool := if shareOk t l = true then (O.shareL t l, true) else ([], false)
theorem shareB_now (t : Int) (l : List Int) : exact_Share.f t l = some (shareB t l) := by
  unfold exact_Share.f shareB
  split <;> rfl
theorem rshare_ev (t : Int) (l : List Int) (hR : l.all i64R = true) : Ev (fun n => bourneref01_Share.f n t l) (shareB t l) := by
  have bad : ¬ ((l.length ≤ 64 ∧ (∀ x ∈ l, 0 ≤ x) ∧ l.sum ≤ 1125899906842624) ∧ 0 ≤ t ∧ t ≤ l.sum) → shareB t l = ([], false) := fun h => by
    unfold shareB
    rw [if_neg (fun h' => h (shareOk_parts.1 h'))]
  unfold bourneref01_Share.f
  by_cases hl : (l.length : Int) > 64
  · rw [bad (fun h => by omega)]
    exact Ev.congr (fun n => by rw [if_pos hl]) (Ev.now _)
  refine Ev.congr (fun n => by rw [if_neg hl]) ?_
  have go : ∀ d i : Nat, l.length - i = d → i ≤ l.length → (∀ x ∈ l.take i, 0 ≤ x) → (l.take i).sum ≤ 1125899906842624 → Ev (fun n => bourneref01_Share.l0 n t l (l.take i).sum i) (shareB t l) := by
    intro d
    induction d with
    | zero =>
      intro i h1 h2 h3 h4
      obtain rfl : i = l.length := by omega
      rw [List.take_length] at *
      have out : ¬ (0 ≤ t ∧ t ≤ l.sum) → Ev (fun n => bourneref01_Share.j1 n t l l.sum true) (shareB t l) := fun h => by
        rw [bad (fun h' => h h'.2)]
        exact Ev.step (fun n => by simp only [bourneref01_Share.j1]; rw [if_pos trivial]) (Ev.now _)
      by_cases c1 : t < 0
      · refine Ev.step (fun n => ?_) (out (by omega))
        simp only [bourneref01_Share.l0]
        rw [if_neg (by omega), if_pos c1]
      · by_cases c2 : t > l.sum
        · refine Ev.step (fun n => ?_) (out (by omega))
          simp only [bourneref01_Share.l0]
          rw [if_neg (by omega), if_neg c1, decide_eq_true c2]
        · have e : shareB t l = (O.shareL t l, true) := by
            unfold shareB
            rw [if_pos (shareOk_parts.2 ⟨⟨by omega, h3, h4⟩, by omega, by omega⟩)]
          have l1 : Ev (fun n => bourneref01_Share.l1 n t l l.sum (List.replicate l.length 0) (List.replicate l.length 0) t 0) (O.shareL t l, true) := by
            have hs0 := O.sum_nonneg h3
            by_cases hW : 0 < l.sum
            · exact fill_ev h3 hW h4 (by omega) (by omega) (by omega)
            · exact none_ev (by omega) (by omega) (by omega)
          rw [e]
          refine Ev.step (g := fun n => bourneref01_Share.l0 n t l l.sum l.length) (f := fun n => bourneref01_Share.j1 n t l l.sum false) (fun n => ?_) (Ev.step (fun n => ?_) l1)
          · simp only [bourneref01_Share.l0]
            rw [if_neg (by omega), if_neg c1, decide_eq_false c2]
          · simp only [bourneref01_Share.j1]
            rw [if_neg (by simp), if_pos (by omega), Int.toNat_natCast, if_pos (by omega)]
    | succ d ih =>
      intro i h1 h2 h3 h4
      have hi : i < l.length := by omega
      have h0 := O.sum_nonneg h3
      have hx := i64R_iff.1 (getD_R hR i)
      have hts := take_sum_succ l i hi
      by_cases c1 : l.getD i 0 < 0
      · rw [bad (fun h => by
          have := h.1.2.1 l[i] (List.getElem_mem hi)
          rw [O.getD_eq _ _ hi] at c1; omega)]
        refine Ev.step (fun n => ?_) (Ev.now _)
        simp only [bourneref01_Share.l0]
        rw [if_pos (by omega), if_pos (by omega), rd_getD, if_pos c1]
      have ew := Aside0.mk (show wrap64 (1125899906842624 - (l.take i).sum) = 1125899906842624 - (l.take i).sum by unfold wrap64; omega)
      by_cases c2 : l.getD i 0 > 1125899906842624 - (l.take i).sum
      · rw [bad (fun h => by
          have h5 := (O.take_sum_le h.1.2.1 (i + 1)).2
          have h6 := h.1.2.2
          omega)]
        refine Ev.step (fun n => ?_) (Ev.now _)
        simp only [bourneref01_Share.l0]
        rw [if_pos (by omega), if_pos (by omega), rd_getD, if_neg c1, ew.out, if_pos c2]
      · have ew2 := Aside0.mk (show wrap64 ((l.take i).sum + l.getD i 0) = (l.take (i + 1)).sum by rw [hts]; unfold wrap64; omega)
        refine Ev.step (fun n => ?_) (ih (i + 1) (by omega) (by omega) (fun x hx' => by
          rw [take_snoc l i hi, List.mem_append, List.mem_singleton] at hx'
          rcases hx' with hx' | rfl
          · exact h3 x hx'
          · omega) (by omega))
        simp only [bourneref01_Share.l0]
        rw [if_pos (by omega), if_pos (by omega), rd_getD, if_neg c1, ew.out, if_neg c2, ew2.out, wrap_succ i l.length hi (by omega)]
  have := go l.length 0 (by omega) (by omega) (by simp) (by simp)
  simpa using this
end Go.Proofs.Ytcncjldggfbjdaa.F
namespace Go.Proofs.Ytcncjldggfbjdaa.Pure
open Go.RowKit Go.Proofs.Ytcncjldggfbjdaa.PEx Go.Proofs.YtcncjldggfbjdaaW.PrintWords Go.Proofs.YtcncjldggfbjdaaW.PrintLast Go.Proofs.YtcncjldggfbjdaaW.PrintMore Go.Proofs.Ytcncjldggfbjdaa.E Go.Proofs.Ytcncjldggfbjdaa.F Go.Proofs.Ytcncjldggfbjdaa.G1 Go.Proofs.Ytcncjldggfbjdaa.G2
set_option linter.unusedVariables false
set_option linter.unusedSimpArgs false

theorem shareB_len (t : Int) (l : List Int) : (shareB t l).1.length ≤ l.length := by
  unfold shareB
  split
  · rw [O.share_length]; exact Nat.le_refl _
  · exact Nat.zero_le _
theorem ev_eq' {α : Type} {o : Option α} {a : α} (h : o = some a) : Ev (fun _ => o) a := h ▸ Ev.now a
theorem ExactTells : bournelaw01_ExactTells.Pure := by
  intro a b c l ha hb hc hl1 hl2 hwf
  have hR : l.all i64R = true := by rw [List.all_eq_true]; exact fun x hx => wf_R (hwf x hx)
  have hA := wf_R ha
  have hB := wf_R hb
  apply Ev.rounds
  unfold bournelaw01_ExactTells.f
  refine Ev.bind small_ev ?_
  by_cases hl : (l.length : Int) > 200
  · exact Ev.congr (fun k => by rw [if_pos hl]) (Ev.now _)
  refine Ev.congr (fun k => by rw [if_neg hl]) ?_
  refine Ev.bind (scale_ev a b c) ?_
  refine Ev.bind (rscale_ev a b c) ?_
  refine Ev.bind (ev_eq' (shareB_now a l)) ?_
  refine Ev.bind (rshare_ev a l hR) ?_
  refine Ev.bind (ev_eq' (sum_now hR)) ?_
  refine Ev.bind (rsum_ev l hR (by omega)) ?_
  have hlen := shareB_len a l
  have same := same01_ev (shareB a l).1 (shareB a l).1 (by omega)
  rw [decide_eq_true rfl] at same
  generalize scaleF a b c = s
  generalize sumF l.sum = n
  have last : Ev (fun k => bournelaw01_ExactTells.j0 k a b c true false) true := by
    refine Ev.step (f := fun k => (bourneref01_Add.f k a b).bind fun t337 => (if addS a b = t337 then ((bourneref01_Sub.f k a b).bind fun t339 => (some (subS a b == t339))) else (some false))) (fun k => ?_) ?_
    · simp only [bournelaw01_ExactTells.j0]
      rw [if_neg (by simp), if_pos trivial, clamp_same, add_now hA hB, sub_now hA hB]
      unfold exact_Clamp.f
      by_cases h1 : a < b
      · simp only [if_pos h1, Option.bind_some, if_true]
      · by_cases h2 : a > c
        · simp only [if_neg h1, if_pos h2, Option.bind_some, if_true]
        · simp only [if_neg h1, if_neg h2, Option.bind_some, if_true]
    · refine Ev.bind (radd_ev hA hB) ?_
      refine Ev.congr (fun k => by rw [if_pos rfl]) ?_
      refine Ev.bind (rsub_ev hA hB) ?_
      refine Ev.congr (fun k => ?_) (Ev.now _)
      simp
  refine Ev.congr (f := fun k => (bourneref01_Same.f k (shareB a l).1 (shareB a l).1).bind fun t333 => (if t333 = true then bournelaw01_ExactTells.j0 k a b c true false else bournelaw01_ExactTells.j0 k a b c true true)) (fun k => ?_) (Ev.bind same (Ev.congr (fun k => by rw [if_pos rfl]) last))
  rw [if_pos rfl, if_pos rfl, if_neg (by simp), if_neg (by simp)]
  congr 1
  funext v
  rw [if_pos rfl, bne_self_eq_false]
end Go.Proofs.Ytcncjldggfbjdaa.Pure
