/-
  Limited subtraction, and the sum of a list, in plain terms.
-/
import Derived.Test.YtcncjldggfbjdaaPExx4
import Derived.Test.YtcncjldggfbjdaaE3
namespace Go.Proofs.Ytcncjldggfbjdaa.E
open Go.RowKit Go.Proofs.Ytcncjldggfbjdaa.PEx Go.Proofs.Ytcncjldggfbjdaa.G1 Go.Proofs.YtcncjldggfbjdaaW.PrintWords
set_option linter.unusedVariables false
set_option linter.unusedSimpArgs false
def subS (a b : Int) : Int := if a - b > 9223372036854775807 then 9223372036854775807 else if a - b < -9223372036854775808 then -9223372036854775808 else a - b
theorem subS_R (a b : Int) : i64R (subS a b) = true := by
  unfold subS
  rw [i64R_iff]
  split
  · omega
  · split <;> omega
theorem sub_now {a b : Int} (ha : i64R a = true) (hb : i64R b = true) : exact_Sub.f a b = some (subS a b) := by
  rw [i64R_iff] at ha hb
  unfold exact_Sub.f exact_end.f subS
  simp only [Option.bind_some, beq_iff_eq, bne_iff_ne, ne_eq, decide_eq_true_eq, decide_eq_decide]
  by_cases h1 : a < 0 <;> by_cases h2 : b < 0
  · rw [if_neg (by omega), if_neg (by omega), if_neg (by omega)]
    congr 1; unfold wrap64; omega
  · rw [if_pos (by omega)]
    by_cases h3 : a - b < -9223372036854775808
    · rw [if_pos (by unfold wrap64; omega), if_pos h1, if_neg (by omega), if_pos h3]; rfl
    · rw [if_neg (by unfold wrap64; omega), if_neg (by omega), if_neg h3]
      congr 1; unfold wrap64; omega
  · rw [if_pos (by omega)]
    by_cases h3 : a - b > 9223372036854775807
    · rw [if_pos (by unfold wrap64; omega), if_neg h1, if_pos h3]; rfl
    · rw [if_neg (by unfold wrap64; omega), if_neg h3, if_neg (by omega)]
      congr 1; unfold wrap64; omega
  · rw [if_neg (by omega), if_neg (by omega), if_neg (by omega)]
    congr 1; unfold wrap64; omega
def sumF (n : Int) : Int × Bool := if -9223372036854775808 ≤ n ∧ n ≤ 9223372036854775807 then (n, true) else (0, false)
theorem sum_now {l : List Int} (h : l.all i64R = true) : exact_Sum.f l = some (sumF l.sum) := by
  unfold exact_Sum.f sumF; rw [if_pos h]
theorem sumF_R (n : Int) : i64R (sumF n).1 = true := by
  rw [i64R_iff]; unfold sumF; split
  · next h => exact h
  · decide
theorem sumF_true {n : Int} (h : (sumF n).2 = true) : (sumF n).1 = n ∧ -9223372036854775808 ≤ n ∧ n ≤ 9223372036854775807 := by
  unfold sumF at h ⊢
  split at h
  · next h' => rw [if_pos h']; exact ⟨rfl, h'⟩
  · exact absurd h (by simp)
theorem sumF_in {n : Int} (h : -9223372036854775808 ≤ n) (h2 : n ≤ 9223372036854775807) : sumF n = (n, true) := by unfold sumF; rw [if_pos ⟨h, h2⟩]
end Go.Proofs.Ytcncjldggfbjdaa.E
