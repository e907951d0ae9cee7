/-
  The law PoolTells in plain terms: what the program computes of pools is what the reference computes.
-/
import Derived.Test.YtcncjldggfbjdaaO3
import Derived.Test.YtcncjldggfbjdaaS1
import Derived.Test.YtcncjldggfbjdaaO2
import Derived.Test.YtcncjldggfbjdaaE2
import Derived.Test.YtcncjldggfbjdaaPEux3
import Derived.Test.YtcncjldggfbjdaaPEux4
import Derived.Test.YtcncjldggfbjdaaPExx3
import Derived.Test.YtcncjldggfbjdaaG1
import Derived.Test.YtcncjldggfbjdaaPEux1
import Derived.Test.YtcncjldggfbjdaaG2
import Derived.Test.YtcncjldggfbjdaaPEux2
set_option linter.unusedVariables false
namespace Go.Proofs.Ytcncjldggfbjdaa.O
theorem rank_mono {r : List Int} {i k : Int} (h : lt r i k = true) : rank r i ≤ rank r k := countP_mono fun x _ hx => lt_trans hx h
end Go.Proofs.Ytcncjldggfbjdaa.O
namespace Go.Proofs.Ytcncjldggfbjdaa.E
open Go.RowKit Go.Proofs.YtcncjldggfbjdaaW.PrintWords Go.Proofs.YtcncjldggfbjdaaW.PrintLast Go.Proofs.YtcncjldggfbjdaaW.PrintMore Go.Proofs.Ytcncjldggfbjdaa.G1 Go.Proofs.Ytcncjldggfbjdaa.O
set_option linter.unusedVariables false
set_option linter.unusedSimpArgs false

theorem rd_getD (xs : List Int) (i : Nat) : rd xs (i : Int) = xs.getD i 0 := by simp [rd]
theorem drop_cons (l : List Int) (i : Nat) (h : i < l.length) : l.drop i = l.getD i 0 :: l.drop (i + 1) := by rw [List.drop_eq_getElem_cons h, O.getD_eq _ _ h]
theorem wrap_succ (i n : Nat) (h : i < n) (hn : n ≤ 9223372036854775807) : wrap64 ((i : Int) + 1) = ((i + 1 : Nat) : Int) := by unfold wrap64; omega
theorem R_getD {l : List Int} (h : l.all i64R = true) (i : Nat) : i64R (l.getD i 0) = true := by
  rw [List.all_eq_true] at h
  by_cases hi : i < l.length
  · rw [O.getD_eq _ _ hi]; exact h _ (List.getElem_mem hi)
  · rw [List.getD_eq_getElem?_getD, List.getElem?_eq_none (by omega)]; rfl
theorem wf_R {x : Int} (h : (Lit.int .i64 x).wf = true) : i64R x = true := by
  rw [i64R_iff]
  simp only [Lit.wf] at h
  simpa [show IntKind.i64.min = -9223372036854775808 from rfl] using h
end Go.Proofs.Ytcncjldggfbjdaa.E
namespace Go.Proofs.Ytcncjldggfbjdaa.E
open Go.RowKit Go.Proofs.YtcncjldggfbjdaaW.PrintWords Go.Proofs.YtcncjldggfbjdaaW.PrintLast Go.Proofs.YtcncjldggfbjdaaW.PrintMore Go.Proofs.Ytcncjldggfbjdaa.G0 Go.Proofs.Ytcncjldggfbjdaa.G1 Go.Proofs.Ytcncjldggfbjdaa.G2 Go.Proofs.Ytcncjldggfbjdaa.PEx Go.Proofs.Ytcncjldggfbjdaa.O
set_option linter.unusedVariables false
set_option linter.unusedSimpArgs false

/-- All elements are nothing less than 0, and the sum is a volume. -/
def rightB (l : List Int) : Bool := l.all (fun x => decide (0 ≤ x)) && decide (l.sum ≤ 1125899906842624)
theorem right_ev (l : List Int) (hR : l.all i64R = true) (hl : l.length ≤ 9223372036854775807) : Ev (fun k => pool_right.f k l) (rightB l) := by
  have go : ∀ d i : Nat, l.length - i = d → i ≤ l.length → (∀ j, j < i → 0 ≤ l.getD j 0) → Ev (fun k => pool_right.l0 k l l (l.length : Int) i) (rightB l) := by
    intro d
    induction d with
    | zero =>
      intro i h1 h2 h3
      obtain rfl : i = l.length := by omega
      have hall : l.all (fun x => decide (0 ≤ x)) = true := by
        rw [List.all_eq_true]
        intro x hx
        obtain ⟨j, hj, rfl⟩ := List.mem_iff_getElem.1 hx
        rw [← O.getD_eq _ _ hj]
        exact decide_eq_true (h3 j hj)
      refine Ev.step (fun k => ?_) (Ev.now _)
      simp only [pool_right.l0]
      rw [if_neg (by omega)]
      unfold exact_Sum.f rightB
      rw [if_pos hR, hall, Bool.true_and]
      simp only [Option.bind_some]
      have h0 := O.sum_nonneg (l := l) (fun x hx => by
        rw [List.all_eq_true] at hall
        exact of_decide_eq_true (hall x hx))
      by_cases hs : -9223372036854775808 ≤ l.sum ∧ l.sum ≤ 9223372036854775807
      · rw [if_pos hs, if_pos rfl]
      · rw [if_neg hs, if_neg (by simp), decide_eq_false (by omega)]
    | succ d ih =>
      intro i h1 h2 h3
      have hi : i < l.length := by omega
      by_cases hx : l.getD i 0 < 0
      · have hb : rightB l = false := by
          unfold rightB
          rw [Bool.and_eq_false_iff]
          left
          rw [List.all_eq_false]
          exact ⟨l[i], List.getElem_mem hi, by rw [← O.getD_eq _ _ hi, decide_eq_true_eq]; omega⟩
        refine Ev.step (fun k => ?_) (Ev.now _)
        simp only [pool_right.l0]
        rw [if_pos (by omega), if_pos (by omega), if_pos (by omega), rd_getD, if_pos hx, hb]
      · refine Ev.step (fun k => ?_) (ih (i + 1) (by omega) (by omega) (fun j hj => by
          by_cases e : j = i
          · subst e; omega
          · exact h3 j (by omega)))
        simp only [pool_right.l0]
        rw [if_pos (by omega), if_pos (by omega), if_pos (by omega), rd_getD, if_neg hx, wrap_succ i _ hi hl]
  exact go l.length 0 (by omega) (by omega) (fun j hj => by omega)
theorem Right_ev (l : List Int) (a : Int) (hR : l.all i64R = true) (hl : l.length ≤ 9223372036854775807) : Ev (fun k => pool_Right.f k l a) (decide (0 ≤ a) && (decide (a ≤ 16) && (decide ((l.length : Int) = a) && rightB l))) := by
  unfold pool_Right.f
  by_cases h1 : a ≥ 0
  · by_cases h2 : a ≤ 16
    · by_cases h3 : (l.length : Int) = a
      · refine Ev.congr (fun k => by rw [if_pos h1, if_pos h2, if_pos h3]) ?_
        rw [decide_eq_true (show 0 ≤ a by omega), decide_eq_true h2, decide_eq_true h3, Bool.true_and, Bool.true_and, Bool.true_and]
        exact Ev.bind (right_ev l hR hl) (Ev.now _)
      · refine Ev.congr (fun k => by rw [if_pos h1, if_pos h2, if_neg h3]) ?_
        rw [decide_eq_false h3, Bool.false_and, Bool.and_false, Bool.and_false]
        exact Ev.now _
    · refine Ev.congr (fun k => by rw [if_pos h1, if_neg h2]) ?_
      rw [decide_eq_false h2, Bool.false_and, Bool.and_false]
      exact Ev.now _
  · refine Ev.congr (fun k => by rw [if_neg h1]) ?_
    rw [decide_eq_false (show ¬ 0 ≤ a by omega), Bool.false_and]
    exact Ev.now _
def totalF (l : List Int) : Int := l.foldl addS 0
theorem total_ev (l : List Int) (hR : l.all i64R = true) (hl : l.length ≤ 9223372036854775807) : Ev (fun k => pool_Total.f k l) (totalF l) := by
  have go : ∀ d i : Nat, ∀ acc : Int, i64R acc = true → l.length - i = d → i ≤ l.length → Ev (fun k => pool_Total.l0 k acc l (l.length : Int) i) ((l.drop i).foldl addS acc) := by
    intro d
    induction d with
    | zero =>
      intro i acc ha h1 h2
      obtain rfl : i = l.length := by omega
      rw [List.drop_length]
      exact Ev.step (fun k => by simp only [pool_Total.l0]; rw [if_neg (by omega)]; rfl) (Ev.now _)
    | succ d ih =>
      intro i acc ha h1 h2
      have hi : i < l.length := by omega
      rw [drop_cons l i hi, List.foldl_cons]
      refine Ev.step (fun k => ?_) (ih (i + 1) (addS acc (l.getD i 0)) (addS_R _ _) (by omega) (by omega))
      simp only [pool_Total.l0]
      rw [if_pos (by omega), if_pos (by omega), if_pos (by omega), rd_getD, add_now ha (getD_R hR i)]
      simp only [Option.bind_some]
      rw [wrap_succ i _ hi hl]
  exact go l.length 0 0 rfl (by omega) (by omega)
theorem same_ev (xs ys : List Int) (hl : xs.length ≤ 9223372036854775807) : Ev (fun k => bourneref17_Same.f k xs ys) (decide (xs = ys)) := by
  by_cases hlen : xs.length = ys.length
  · have go : ∀ d i : Nat, xs.length - i = d → i ≤ xs.length → (∀ j, j < i → xs.getD j 0 = ys.getD j 0) → Ev (fun k => bourneref17_Same.l0 k xs ys i) (decide (xs = ys)) := by
      intro d
      induction d with
      | zero =>
        intro i h1 h2 h3
        obtain rfl : i = xs.length := by omega
        have e : xs = ys := O.ext_getD hlen h3
        rw [decide_eq_true e]
        exact Ev.step (fun k => by simp only [bourneref17_Same.l0]; rw [if_neg (by omega)]) (Ev.now _)
      | succ d ih =>
        intro i h1 h2 h3
        by_cases hx : xs.getD i 0 = ys.getD i 0
        · refine Ev.step (fun k => ?_) (ih (i + 1) (by omega) (by omega) (fun j hj => by
            by_cases e : j = i
            · subst e; exact hx
            · exact h3 j (by omega)))
          simp only [bourneref17_Same.l0]
          rw [if_pos (by omega), if_pos (by omega), if_pos (by omega), rd_getD, rd_getD, if_pos hx, wrap_succ i _ (by omega) hl]
        · rw [decide_eq_false (fun e => hx (by rw [e]))]
          refine Ev.step (fun k => ?_) (Ev.now _)
          simp only [bourneref17_Same.l0]
          rw [if_pos (by omega), if_pos (by omega), if_pos (by omega), rd_getD, rd_getD, if_neg hx]
    unfold bourneref17_Same.f
    exact Ev.congr (fun k => by rw [if_pos (by omega)]; rfl) (go xs.length 0 (by omega) (by omega) (fun j hj => by omega))
  · rw [decide_eq_false (fun e => hlen (by rw [e]))]
    unfold bourneref17_Same.f
    exact Ev.congr (fun k => by rw [if_neg (by omega)]) (Ev.now _)
theorem small17_now : bournelaw17_small.f 40 = some true := bournelaw17_small.now
theorem small17_ev : Ev (fun k => bournelaw17_small.f k) true := Ev.of (bournelaw17_small.mono) small17_now
end Go.Proofs.Ytcncjldggfbjdaa.E
namespace Go.Proofs.Ytcncjldggfbjdaa.E
open Go.RowKit Go.Proofs.YtcncjldggfbjdaaW.PrintWords Go.Proofs.YtcncjldggfbjdaaW.PrintLast Go.Proofs.YtcncjldggfbjdaaW.PrintMore Go.Proofs.Ytcncjldggfbjdaa.G0 Go.Proofs.Ytcncjldggfbjdaa.G1 Go.Proofs.Ytcncjldggfbjdaa.G2 Go.Proofs.Ytcncjldggfbjdaa.PEx Go.Proofs.Ytcncjldggfbjdaa.O
set_option linter.unusedVariables false
set_option linter.unusedSimpArgs false

theorem wIn {x : Int} (h : -9223372036854775808 ≤ x) (h2 : x ≤ 9223372036854775807) : wrap64 x = x := by unfold wrap64; omega
/-- What a right pool has of an owner. -/
def hasF (l : List Int) (a : Int) : Int := if 0 ≤ a ∧ a < l.length then l.getD a.toNat 0 else 0
def takeF (l : List Int) (a n : Int) : List Int := if 0 < mn n (hasF l a) then (List.replicate l.length 0).set a.toNat (mn n (hasF l a)) else List.replicate l.length 0
theorem takeF_length (l : List Int) (a n : Int) : (takeF l a n).length = l.length := by unfold takeF; split <;> simp
theorem hasF_in {l : List Int} {a n : Int} (h : 0 < mn n (hasF l a)) : 0 ≤ a ∧ a < l.length := by
  unfold hasF at h
  by_cases h1 : 0 ≤ a ∧ a < l.length
  · exact h1
  · rw [if_neg h1] at h
    unfold mn at h
    split at h <;> omega
theorem less_now (l t : List Int) (h : t.length ≤ l.length) (hl : l.length ≤ 35184372088832) : pool_less.f l t = some (lessL l t) := by unfold pool_less.f; rw [if_pos ⟨h, hl⟩]
theorem lessL_at (l t : List Int) (i : Nat) (h : i < l.length) : (lessL l t).getD i 0 = if i < t.length then wrap64 (l.getD i 0 - t.getD i 0) else l.getD i 0 := by unfold lessL; rw [lessTo_at _ _ _ _ h]
theorem lessL_length (l t : List Int) : (lessL l t).length = l.length := lessTo_length ..
theorem lessL_nil (l : List Int) : lessL l [] = l := lessTo_zero l []
/-- What is given, and what stands there then. -/
def giveF (l : List Int) (a b : Nat) (n : Int) : List Int := if 0 < mn n (l.getD a 0) then (l.set a (l.getD a 0 - mn n (l.getD a 0))).set b (l.getD b 0 + mn n (l.getD a 0)) else l
end Go.Proofs.Ytcncjldggfbjdaa.E
namespace Go.Proofs.Ytcncjldggfbjdaa.E
open Go.RowKit Go.Proofs.Ytcncjldggfbjdaa.PEx Go.Proofs.Ytcncjldggfbjdaa.G1 Go.Proofs.YtcncjldggfbjdaaW.PrintWords
set_option linter.unusedVariables false
set_option linter.unusedSimpArgs false
def subS (a b : Int) : Int := if a - b > 9223372036854775807 then 9223372036854775807 else if a - b < -9223372036854775808 then -9223372036854775808 else a - b
theorem subS_R (a b : Int) : i64R (subS a b) = true := by
  unfold subS
  rw [i64R_iff]
  split
  · omega
  · split <;> omega
def sumF (n : Int) : Int × Bool := if -9223372036854775808 ≤ n ∧ n ≤ 9223372036854775807 then (n, true) else (0, false)
theorem sum_now {l : List Int} (h : l.all i64R = true) : exact_Sum.f l = some (sumF l.sum) := by
  unfold exact_Sum.f sumF; rw [if_pos h]
theorem sumF_R (n : Int) : i64R (sumF n).1 = true := by
  rw [i64R_iff]; unfold sumF; split
  · next h => exact h
  · decide
theorem sumF_true {n : Int} (h : (sumF n).2 = true) : (sumF n).1 = n ∧ -9223372036854775808 ≤ n ∧ n ≤ 9223372036854775807 := by
  unfold sumF at h ⊢
  split at h
  · next h' => rw [if_pos h']; exact ⟨rfl, h'⟩
  · exact absurd h (by simp)
theorem sumF_in {n : Int} (h : -9223372036854775808 ≤ n) (h2 : n ≤ 9223372036854775807) : sumF n = (n, true) := by unfold sumF; rw [if_pos ⟨h, h2⟩]
end Go.Proofs.Ytcncjldggfbjdaa.E
namespace Go.Proofs.Ytcncjldggfbjdaa.F
open Go.RowKit Go.Proofs.YtcncjldggfbjdaaW.PrintWords Go.Proofs.YtcncjldggfbjdaaW.PrintLast Go.Proofs.YtcncjldggfbjdaaW.PrintMore Go.Proofs.Ytcncjldggfbjdaa.G0 Go.Proofs.Ytcncjldggfbjdaa.G1 Go.Proofs.Ytcncjldggfbjdaa.PEx Go.Proofs.Ytcncjldggfbjdaa.E
set_option linter.unusedVariables false
set_option linter.unusedSimpArgs false
theorem and32 (n : Int) : Go.bits .and .i64 n 4294967295 = n % 4294967296 := by
  show IntKind.i64.wrap ((BitVec.ofInt 64 n &&& BitVec.ofInt 64 4294967295).toNat : Int) = _
  have h : (BitVec.ofInt 64 n &&& BitVec.ofInt 64 4294967295).toNat = (n % 4294967296).toNat := by
    rw [BitVec.toNat_and, show (BitVec.ofInt 64 4294967295).toNat = 2 ^ 32 - 1 from rfl, Nat.and_two_pow_sub_one_eq_mod, BitVec.toNat_ofInt]
    omega
  rw [h, IntKind.wrap_i64]
  omega
theorem and_bit (n m : Nat) : n &&& 2 ^ m = n / 2 ^ m % 2 * 2 ^ m := by
  have hb : n.testBit m = decide (n / 2 ^ m % 2 = 1) := Nat.testBit_eq_decide_div_mod_eq
  have h2 := Nat.mod_two_eq_zero_or_one (n / 2 ^ m)
  rcases h2 with h | h
  · rw [h, Nat.zero_mul]
    rw [h] at hb
    refine Nat.eq_of_testBit_eq fun i => ?_
    rw [Nat.testBit_and, Nat.testBit_two_pow, Nat.zero_testBit]
    by_cases e : m = i
    · subst e; rw [hb]; rfl
    · rw [decide_eq_false e, Bool.and_false]
  · rw [h, Nat.one_mul]
    rw [h] at hb
    refine Nat.eq_of_testBit_eq fun i => ?_
    rw [Nat.testBit_and, Nat.testBit_two_pow]
    by_cases e : m = i
    · subst e; rw [hb]; rfl
    · rw [decide_eq_false e, Bool.and_false]
theorem and_pow (n m : Nat) (hn : n < 9223372036854775808) (hm : m < 63) : Go.bits .and .i64 (n : Int) ((2 ^ m : Nat) : Int) = ((n / 2 ^ m % 2 * 2 ^ m : Nat) : Int) := by
  have hp : 2 ^ m < 2 ^ 63 := Nat.pow_lt_pow_right (by omega) hm
  have hp' : 2 ^ m < 9223372036854775808 := hp
  show IntKind.i64.wrap ((BitVec.ofInt 64 (n : Int) &&& BitVec.ofInt 64 ((2 ^ m : Nat) : Int)).toNat : Int) = _
  have h : (BitVec.ofInt 64 (n : Int) &&& BitVec.ofInt 64 ((2 ^ m : Nat) : Int)).toNat = n / 2 ^ m % 2 * 2 ^ m := by
    rw [BitVec.toNat_and, BitVec.toNat_ofInt, BitVec.toNat_ofInt]
    have e1 : ((n : Int) % (2 ^ 64 : Nat)).toNat = n := by omega
    have e2 : (((2 ^ m : Nat) : Int) % (2 ^ 64 : Nat)).toNat = 2 ^ m := by
      generalize 2 ^ m = p at *
      omega
    rw [e1, e2]
    exact and_bit n m
  rw [h, IntKind.wrap_i64]
  have h1 : n / 2 ^ m % 2 * 2 ^ m ≤ 1 * 2 ^ m := Nat.mul_le_mul_right _ (by have := Nat.mod_lt (n / 2 ^ m) (show 0 < 2 by omega); omega)
  generalize n / 2 ^ m % 2 * 2 ^ m = v at *
  generalize 2 ^ m = p at *
  omega
theorem radd_ev {a b : Int} (ha : i64R a = true) (hb : i64R b = true) : Ev (fun k => bourneref01_Add.f k a b) (addS a b) := by
  rw [i64R_iff] at ha hb
  have j : ∀ v : Bool, v = decide (0 < b ∧ a + b > 9223372036854775807) → Ev (fun k => bourneref01_Add.j0 k a b v) (addS a b) := by
    intro v hv
    subst hv
    refine Ev.step (fun k => ?_) (Ev.now _)
    simp only [bourneref01_Add.j0]
    unfold addS
    by_cases c1 : 0 < b ∧ a + b > 9223372036854775807
    · rw [decide_eq_true c1, if_pos rfl, if_pos c1.2]
    · rw [decide_eq_false c1, if_neg (by simp)]
      by_cases c2 : b < 0
      · have e : wrap64 ((-9223372036854775808) - b) = (-9223372036854775808) - b := by unfold wrap64; omega
        rw [if_pos c2, e]
        by_cases c3 : a < (-9223372036854775808) - b
        · rw [if_pos c3, if_neg (show ¬ a + b > 9223372036854775807 by omega), if_pos (by omega)]
        · rw [if_neg c3, if_neg (show ¬ a + b > 9223372036854775807 by omega), if_neg (by omega)]
          congr 1; unfold wrap64; omega
      · rw [if_neg c2, if_neg (show ¬ a + b > 9223372036854775807 by omega), if_neg (by omega)]
        congr 1; unfold wrap64; omega
  unfold bourneref01_Add.f
  by_cases c1 : b > 0
  · have e : wrap64 (9223372036854775807 - b) = 9223372036854775807 - b := by unfold wrap64; omega
    refine Ev.congr (fun k => by rw [if_pos c1, e]) (j _ ?_)
    rw [decide_eq_decide]; omega
  · refine Ev.congr (fun k => by rw [if_neg c1]) (j false ?_)
    rw [decide_eq_false (by omega)]
/-! The sum, of upper and lower halves. -/
def his (l : List Int) : Int := (l.map fun x => x / 4294967296).sum
def los (l : List Int) : Int := (l.map fun x => x % 4294967296).sum
theorem his_los : ∀ l : List Int, l.sum = his l * 4294967296 + los l
  | [] => rfl
  | x :: l => by
    have := his_los l
    unfold his los at *
    simp only [List.sum_cons, List.map_cons]
    omega
theorem take_snoc (l : List Int) (i : Nat) (h : i < l.length) : l.take (i + 1) = l.take i ++ [l.getD i 0] := by
  rw [List.take_succ_eq_append_getElem h, O.getD_eq _ _ h]
theorem his_snoc (l : List Int) (x : Int) : his (l ++ [x]) = his l + x / 4294967296 := by simp [his]
theorem los_snoc (l : List Int) (x : Int) : los (l ++ [x]) = los l + x % 4294967296 := by simp [los]
theorem half_bd : ∀ l : List Int, l.all i64R = true → -(2147483648 * l.length : Int) ≤ his l ∧ his l ≤ 2147483648 * l.length ∧ 0 ≤ los l ∧ los l ≤ 4294967296 * l.length
  | [], _ => by simp [his, los]
  | x :: l, h => by
    rw [List.all_cons, Bool.and_eq_true, i64R_iff] at h
    have := half_bd l h.2
    unfold his los at *
    simp only [List.sum_cons, List.map_cons, List.length_cons]
    omega
theorem rsum_ev (l : List Int) (hR : l.all i64R = true) (hl : l.length ≤ 1000) : Ev (fun k => bourneref01_Sum.f k l) (sumF l.sum) := by
  have go : ∀ d i : Nat, l.length - i = d → i ≤ l.length → Ev (fun k => bourneref01_Sum.l0 k l (his (l.take i)) (los (l.take i)) i) (sumF l.sum) := by
    intro d
    induction d with
    | zero =>
      intro i h1 h2
      obtain rfl : i = l.length := by omega
      rw [List.take_length]
      have hb := half_bd l hR
      have hs := his_los l
      refine Ev.step (fun k => ?_) (Ev.now _)
      simp only [bourneref01_Sum.l0]
      have e : wrap64 (his l + los l / 4294967296) = his l + los l / 4294967296 := by unfold wrap64; omega
      rw [if_neg (by omega), e, and32]
      generalize his l = H at *
      generalize los l = L at *
      rw [hs]
      unfold sumF
      by_cases c1 : H + L / 4294967296 < -2147483648
      · rw [if_pos c1, if_neg (by omega)]
      · by_cases c2 : H + L / 4294967296 > 2147483647
        · rw [if_neg c1, if_pos c2, if_neg (by omega)]
        · rw [if_neg c1, if_neg c2, if_pos (by omega)]
          congr 2
          unfold wrap64; omega
    | succ d ih =>
      intro i h1 h2
      have hi : i < l.length := by omega
      have hx := i64R_iff.1 (getD_R hR i)
      have hb := half_bd (l.take i) (take_all hR i)
      rw [List.length_take] at hb
      have e1 : wrap64 (his (l.take i) + l.getD i 0 / 4294967296) = his (l.take (i + 1)) := by rw [take_snoc l i hi, his_snoc]; unfold wrap64; omega
      have e2 : wrap64 (los (l.take i) + l.getD i 0 % 4294967296) = los (l.take (i + 1)) := by rw [take_snoc l i hi, los_snoc]; unfold wrap64; omega
      refine Ev.step (fun k => ?_) (ih (i + 1) (by omega) (by omega))
      simp only [bourneref01_Sum.l0]
      rw [if_pos (by omega), if_pos (by omega), rd_getD, and32, e1, e2, wrap_succ i l.length hi (by omega)]
  exact go l.length 0 (by omega) (by omega)
/-! Scale, bit by bit. -/
theorem bit_step (A N D m : Nat) (hD : 0 < D) :
    A * (N / 2 ^ m) / D = 2 * (A * (N / 2 ^ (m + 1)) / D) + (2 * (A * (N / 2 ^ (m + 1)) % D) + A * (N / 2 ^ m % 2)) / D ∧ A * (N / 2 ^ m) % D = (2 * (A * (N / 2 ^ (m + 1)) % D) + A * (N / 2 ^ m % 2)) % D := by
  have e : N / 2 ^ (m + 1) = N / 2 ^ m / 2 := by rw [Nat.pow_succ, Nat.div_div_eq_div_mul]
  rw [e]
  generalize N / 2 ^ m = n
  have h : A * n = (2 * (A * (n / 2) % D) + A * (n % 2)) + D * (2 * (A * (n / 2) / D)) := by
    have h1 := Nat.div_add_mod (A * (n / 2)) D
    have h2 : A * n = 2 * (A * (n / 2)) + A * (n % 2) := by
      conv => lhs; rw [← Nat.div_add_mod n 2]
      rw [Nat.mul_add, Nat.mul_left_comm]
    rw [h2]
    conv => lhs; rw [← h1]
    rw [Nat.mul_add, Nat.mul_left_comm D 2]
    omega
  rw [h, Nat.add_mul_div_left _ _ hD, Nat.add_mul_mod_self_left]
  exact ⟨Nat.add_comm .., rfl⟩
theorem wrap_nat (n : Nat) (h : n ≤ 9223372036854775807) : wrap64 (n : Int) = n := by unfold wrap64; omega
/-- One bit of the quotient and the remainder, in the program's words. -/
theorem bit_words (q s D Q R : Nat) (b1 : Q = 2 * q + s / D) (b2 : R = s % D) (hq : q ≤ 1125899906842624) (hs : s ≤ 4503599627370496) :
    wrap64 (((2 * q : Nat) : Int) + wrap64 (Int.tdiv (s : Int) (D : Int))) = (Q : Int) ∧ Int.tmod (s : Int) (D : Int) = (R : Int) := by
  have hdv : s / D ≤ s := Nat.div_le_self _ _
  rw [Int.tdiv_eq_ediv_of_nonneg (Int.natCast_nonneg _), Int.tmod_eq_emod_of_nonneg (Int.natCast_nonneg _), ← Int.natCast_ediv, ← Int.natCast_emod, b2]
  refine ⟨?_, rfl⟩
  rw [b1]
  generalize s / D = v at *
  rw [wrap_nat v (by omega), ← Int.natCast_add]
  exact wrap_nat _ (by omega)
theorem half_word (p : Nat) (h : p ≤ 1125899906842624) : wrap64 (Int.tdiv (p : Int) 2) = ((p / 2 : Nat) : Int) := by
  rw [Int.tdiv_eq_ediv_of_nonneg (Int.natCast_nonneg _), show ((p : Int) / 2) = ((p / 2 : Nat) : Int) by omega]
  exact wrap_nat _ (by omega)
theorem scale_over (A N D : Nat) (h : 1125899906842624 < A * N / D) : scaleF A N D = (0, 0, false) := by
  unfold scaleF
  rw [if_neg]
  simp only [scaleOk, Bool.and_eq_true, decide_eq_true_eq, not_and]
  intro _ h2
  have hq : (A : Int) * N / D = ((A * N / D : Nat) : Int) := by rw [← Int.natCast_mul, ← Int.natCast_ediv]
  rw [hq] at h2
  omega
theorem scale_in (A N D : Nat) (hA : A ≤ 1125899906842624) (hN : N ≤ 1125899906842624) (hD : 1 ≤ D) (hD2 : D ≤ 1125899906842624) (h : A * N / D ≤ 1125899906842624) : scaleF A N D = (((A * N / D : Nat) : Int), ((A * N % D : Nat) : Int), true) := by
  have hq : (A : Int) * N / D = ((A * N / D : Nat) : Int) := by rw [← Int.natCast_mul, ← Int.natCast_ediv]
  have hr : (A : Int) * N % D = ((A * N % D : Nat) : Int) := by rw [← Int.natCast_mul, ← Int.natCast_emod]
  unfold scaleF
  rw [hq, hr, if_pos]
  simp only [scaleOk, Bool.and_eq_true, decide_eq_true_eq]
  rw [hq]
  generalize A * N / D = q at *
  omega
/-- One round of the loop. -/
theorem rscale_step (A N D : Nat) (hA : A ≤ 1125899906842624) (hD : 1 ≤ D) (hD2 : D ≤ 1125899906842624) (p b q r Q R : Nat) (hp : p ≤ 1125899906842624) (hp0 : 0 < p) (hb : b = 0 ∨ b = 1) (hq : q ≤ 1125899906842624) (hr : r < D)
    (hand : Aside0 (Go.bits .and .i64 (N : Int) (p : Int) = ((b * p : Nat) : Int))) (b1 : Q = 2 * q + (2 * r + A * b) / D) (b2 : R = (2 * r + A * b) % D) (hQ : Q ≤ A * N / D)
    (rest : Q ≤ 1125899906842624 → Ev (fun k => bourneref01_Scale.l0 k A N D (Q : Int) (R : Int) ((p / 2 : Nat) : Int)) (scaleF A N D)) :
    Ev (fun k => bourneref01_Scale.l0 k A N D (q : Int) (r : Int) (p : Int)) (scaleF A N D) := by
  have p0 : (p : Int) > 0 := by omega
  have dn : ¬ (D : Int) = 0 := by omega
  have r2 : 2 * r ≤ 4503599627370496 := by omega
  have r3 : 2 * r + A ≤ 4503599627370496 := by omega
  have v1 : 1125899906842624 < Q → (Q : Int) > 1125899906842624 := by omega
  have v2 : ¬ 1125899906842624 < Q → ¬ (Q : Int) > 1125899906842624 := by omega
  have v3 : ¬ 1125899906842624 < Q → Q ≤ 1125899906842624 := by omega
  have w1 : wrap64 (2 * (q : Int)) = ((2 * q : Nat) : Int) := by rw [show (2 * (q : Int)) = ((2 * q : Nat) : Int) by omega]; exact wrap_nat _ (by omega)
  have w2 : wrap64 (2 * (r : Int)) = ((2 * r : Nat) : Int) := by clear w1; rw [show (2 * (r : Int)) = ((2 * r : Nat) : Int) by omega]; exact wrap_nat _ (by omega)
  have w3 : wrap64 (((2 * r : Nat) : Int) + (A : Int)) = ((2 * r + A : Nat) : Int) := by clear w1 w2; rw [← Int.natCast_add]; exact wrap_nat _ (by omega)
  have eb := half_word p hp
  rcases hb with rfl | rfl
  · rw [Nat.mul_zero, Nat.add_zero] at b1 b2
    have hand := hand.out
    rw [Nat.zero_mul] at hand
    obtain ⟨m1, m2⟩ := bit_words q (2 * r) D Q R b1 b2 hq r2
    have hand' : Go.bits .and .i64 (N : Int) (p : Int) = 0 := hand
    by_cases hv : 1125899906842624 < Q
    · rw [scale_over A N D (Nat.lt_of_lt_of_le hv hQ)]
      refine Ev.step (fun k => ?_) (Ev.now _)
      simp only [bourneref01_Scale.l0]
      rw [if_pos p0, if_pos hand', if_neg dn, w1, w2, m1, if_pos (v1 hv)]
    · refine Ev.step (fun k => ?_) (rest (v3 hv))
      simp only [bourneref01_Scale.l0]
      rw [if_pos p0, if_pos hand', if_neg dn, w1, w2, m1, m2, if_neg (v2 hv), eb]
  · rw [Nat.mul_one] at b1 b2
    have hand := hand.out
    rw [Nat.one_mul] at hand
    obtain ⟨m1, m2⟩ := bit_words q (2 * r + A) D Q R b1 b2 hq r3
    have hand' : ¬ Go.bits .and .i64 (N : Int) (p : Int) = 0 := by
      rw [hand]; clear hand w1 w2 w3 eb m1 m2; omega
    by_cases hv : 1125899906842624 < Q
    · rw [scale_over A N D (Nat.lt_of_lt_of_le hv hQ)]
      refine Ev.step (fun k => ?_) (Ev.now _)
      simp only [bourneref01_Scale.l0]
      rw [if_pos p0, if_neg hand', if_neg dn, w1, w2, w3, m1, if_pos (v1 hv)]
    · refine Ev.step (fun k => ?_) (rest (v3 hv))
      simp only [bourneref01_Scale.l0]
      rw [if_pos p0, if_neg hand', if_neg dn, w1, w2, w3, m1, m2, if_neg (v2 hv), eb]
theorem rscale_loop (A N D : Nat) (hA : A ≤ 1125899906842624) (hN : N ≤ 1125899906842624) (hD : 1 ≤ D) (hD2 : D ≤ 1125899906842624) :
    ∀ m : Nat, m ≤ 50 → A * (N / 2 ^ (m + 1)) / D ≤ 1125899906842624 → Ev (fun k => bourneref01_Scale.l0 k A N D ((A * (N / 2 ^ (m + 1)) / D : Nat) : Int) ((A * (N / 2 ^ (m + 1)) % D : Nat) : Int) ((2 ^ m : Nat) : Int)) (scaleF A N D) := by
  have step : ∀ m : Nat, m ≤ 50 → A * (N / 2 ^ (m + 1)) / D ≤ 1125899906842624 → (A * (N / 2 ^ m) / D ≤ 1125899906842624 → Ev (fun k => bourneref01_Scale.l0 k A N D ((A * (N / 2 ^ m) / D : Nat) : Int) ((A * (N / 2 ^ m) % D : Nat) : Int) ((2 ^ m / 2 : Nat) : Int)) (scaleF A N D)) →
      Ev (fun k => bourneref01_Scale.l0 k A N D ((A * (N / 2 ^ (m + 1)) / D : Nat) : Int) ((A * (N / 2 ^ (m + 1)) % D : Nat) : Int) ((2 ^ m : Nat) : Int)) (scaleF A N D) := by
    intro m hm hle rest
    obtain ⟨b1, b2⟩ := bit_step A N D m hD
    exact rscale_step A N D hA hD hD2 (2 ^ m) (N / 2 ^ m % 2) _ _ _ _ (Nat.le_trans (Nat.pow_le_pow_right (by omega) hm) (Nat.le_of_ble_eq_true rfl)) (Nat.two_pow_pos m) (Nat.mod_two_eq_zero_or_one _) hle (Nat.mod_lt _ hD)
      (Aside0.mk (and_pow N m (Nat.lt_of_le_of_lt hN (by omega)) (by omega))) b1 b2 (Nat.div_le_div_right (Nat.mul_le_mul_left _ (Nat.div_le_self _ _))) rest
  intro m
  induction m with
  | zero =>
    intro hm hle
    refine step 0 hm hle fun h => ?_
    rw [Nat.pow_zero, Nat.div_one] at h ⊢
    rw [scale_in A N D hA hN hD hD2 h]
    refine Ev.step (fun k => ?_) (Ev.now _)
    simp only [bourneref01_Scale.l0]
    rw [if_neg (by simp)]
  | succ m ih =>
    intro hm hle
    refine step (m + 1) hm hle fun h => ?_
    have := ih (by omega) h
    rwa [show 2 ^ (m + 1) / 2 = 2 ^ m by rw [Nat.pow_succ]; omega]
theorem rscale_ev (a b c : Int) : Ev (fun k => bourneref01_Scale.f k a b c) (scaleF a b c) := by
  have no : ¬ (scaleOk a b c = true) → Ev (fun k => bourneref01_Scale.j0 k a b c true) (scaleF a b c) := by
    intro h
    unfold scaleF
    rw [if_neg h]
    exact Ev.step (fun k => by simp only [bourneref01_Scale.j0]; rw [if_pos trivial]) (Ev.now _)
  unfold bourneref01_Scale.f
  by_cases c1 : a < 0
  · exact Ev.congr (fun k => by rw [if_pos c1]) (no (by simp only [scaleOk, Bool.and_eq_true, decide_eq_true_eq]; omega))
  by_cases c2 : a > 1125899906842624
  · exact Ev.congr (fun k => by rw [if_neg c1, if_pos c2]) (no (by simp only [scaleOk, Bool.and_eq_true, decide_eq_true_eq]; omega))
  by_cases c3 : b < 0
  · exact Ev.congr (fun k => by rw [if_neg c1, if_neg c2, if_pos c3]) (no (by simp only [scaleOk, Bool.and_eq_true, decide_eq_true_eq]; omega))
  by_cases c4 : b > 1125899906842624
  · exact Ev.congr (fun k => by rw [if_neg c1, if_neg c2, if_neg c3, if_pos c4]) (no (by simp only [scaleOk, Bool.and_eq_true, decide_eq_true_eq]; omega))
  by_cases c5 : c < 1
  · exact Ev.congr (fun k => by rw [if_neg c1, if_neg c2, if_neg c3, if_neg c4, if_pos c5]) (no (by simp only [scaleOk, Bool.and_eq_true, decide_eq_true_eq]; omega))
  by_cases c6 : c > 1125899906842624
  · exact Ev.congr (fun k => by rw [if_neg c1, if_neg c2, if_neg c3, if_neg c4, if_neg c5, decide_eq_true c6]) (no (by simp only [scaleOk, Bool.and_eq_true, decide_eq_true_eq]; omega))
  refine Ev.congr (fun k => by rw [if_neg c1, if_neg c2, if_neg c3, if_neg c4, if_neg c5, decide_eq_false c6]) ?_
  obtain ⟨A, rfl⟩ := Int.eq_ofNat_of_zero_le (show 0 ≤ a by omega)
  obtain ⟨N, rfl⟩ := Int.eq_ofNat_of_zero_le (show 0 ≤ b by omega)
  obtain ⟨D, rfl⟩ := Int.eq_ofNat_of_zero_le (show 0 ≤ c by omega)
  have hz : N / 2 ^ 51 = 0 := Nat.div_eq_of_lt (by omega)
  have h := rscale_loop A N D (by omega) (by omega) (by omega) (by omega) 50 (by omega) (by rw [hz]; simp)
  rw [hz] at h
  refine Ev.step (fun k => ?_) h
  simp only [bourneref01_Scale.j0]
  rw [if_neg (by simp)]
  simp
end Go.Proofs.Ytcncjldggfbjdaa.F
namespace Go.Proofs.Ytcncjldggfbjdaa.F
open Go.RowKit Go.Proofs.YtcncjldggfbjdaaW.PrintWords Go.Proofs.YtcncjldggfbjdaaW.PrintLast Go.Proofs.YtcncjldggfbjdaaW.PrintMore Go.Proofs.Ytcncjldggfbjdaa.G0 Go.Proofs.Ytcncjldggfbjdaa.G1 Go.Proofs.Ytcncjldggfbjdaa.G2 Go.Proofs.Ytcncjldggfbjdaa.PEx Go.Proofs.Ytcncjldggfbjdaa.E
set_option linter.unusedVariables false
set_option linter.unusedSimpArgs false
/-- Which elements have got one more, after k of them. -/
def moreTo (r : List Int) (k : Nat) : List Bool := (List.range r.length).map fun i => decide (O.rank r (i : Nat) < k)
theorem moreTo_length (r : List Int) (k : Nat) : (moreTo r k).length = r.length := by simp [moreTo]
theorem moreTo_at (r : List Int) (k i : Nat) (h : i < r.length) : rdOf false (moreTo r k) (i : Int) = decide (O.rank r (i : Nat) < k) := by simp [moreTo, rdOf, h]
theorem moreTo_zero (r : List Int) : moreTo r 0 = List.replicate r.length false := by
  refine List.ext_getElem (by simp [moreTo]) fun i h1 h2 => ?_
  simp [moreTo]
/-- Where the k-th of the order stands. -/
theorem rank_place (r : List Int) (k : Nat) (hk : k < r.length) : ∃ m, m < r.length ∧ O.rank r (m : Nat) = k ∧ ∀ j, j < r.length → O.rank r (j : Nat) = k → j = m := by
  obtain ⟨ys, h1, h2⟩ := O.order_exists r
  have hra := fun p hp => O.rank_at r ys h1 h2 p hp
  obtain ⟨m, _, h4, h5⟩ := h1.inside k (by omega) hk
  rw [O.idx_at _ _ h4] at h5
  have e := hra k hk
  rw [h5] at e
  refine ⟨m, h4, e, fun j hj hjk => ?_⟩
  obtain ⟨p, hp, e2⟩ := h1.surj j (by rw [O.idx_length]; exact hj)
  rw [O.idx_length] at hp
  rw [O.idx_at _ _ hj] at e2
  have e3 := hra p hp
  rw [e2, hjk] at e3
  subst e3
  rw [h5] at e2
  omega
/-- The first of the greatest so far, of those that have got none. -/
def Far (r : List Int) (k i : Nat) (b : Int) : Prop := (b = -1 ∧ ∀ j : Nat, j < i → O.rank r (j : Nat) < k) ∨ ∃ c : Nat, b = c ∧ c < i ∧ ¬ O.rank r (c : Nat) < k ∧ ∀ j : Nat, j < i → ¬ O.rank r (j : Nat) < k → j = c ∨ O.lt r c j = true
theorem next_ev (r : List Int) (k m : Nat) (hl : r.length ≤ 1000) (hm : m < r.length) (hr : O.rank r (m : Nat) = k) (hu : ∀ j, j < r.length → O.rank r (j : Nat) = k → j = m) :
    Ev (fun n => bourneref01_next.f n r (moreTo r k)) (m : Int) := by
  have hml := moreTo_length r k
  have go : ∀ d i : Nat, ∀ b : Int, r.length - i = d → i ≤ r.length →
      Far r k i b →
      Ev (fun n => bourneref01_next.l0 n r (moreTo r k) b i) (m : Int) := by
    intro d
    induction d with
    | zero =>
      intro i b h1 h2 h3
      obtain rfl : i = r.length := by omega
      have e : b = m := by
        rcases h3 with ⟨_, h3⟩ | ⟨c, rfl, hc, hn, h3⟩
        · have := h3 m hm; omega
        · rcases h3 m hm (by omega) with h4 | h4
          · rw [h4]
          · have := O.rank_mono h4
            rw [hu c hc (by omega)]
      subst e
      refine Ev.step (fun n => ?_) (Ev.now _)
      simp only [bourneref01_next.l0]
      rw [if_neg (by omega)]
    | succ d ih =>
      intro i b h1 h2 h3
      have hi : i < r.length := by omega
      have hw := Aside0.mk (wrap_succ i r.length hi (by omega))
      by_cases hmore : O.rank r (i : Nat) < k
      · refine Ev.step (fun n => ?_) (ih (i + 1) b (by omega) (by omega) ?_)
        · simp only [bourneref01_next.l0]
          rw [if_pos (by omega), if_pos (by omega), if_pos (by omega), moreTo_at r k i hi, if_pos (decide_eq_true hmore), hw.out]
        · rcases h3 with ⟨h3, h4⟩ | ⟨c, h3, hc, hn, h4⟩
          · refine .inl ⟨h3, fun j hj => ?_⟩
            by_cases e : j = i
            · subst e; exact hmore
            · exact h4 j (by omega)
          · refine .inr ⟨c, h3, by omega, hn, fun j hj hjn => ?_⟩
            by_cases e : j = i
            · subst e; exact absurd hmore hjn
            · exact h4 j (by omega) hjn
      · rcases h3 with ⟨rfl, h4⟩ | ⟨c, rfl, hc, hn, h4⟩
        · refine Ev.step (fun n => ?_) (ih (i + 1) i (by omega) (by omega) (.inr ⟨i, rfl, by omega, hmore, fun j hj hjn => ?_⟩))
          · simp only [bourneref01_next.l0]
            rw [if_pos (by omega), if_pos (by omega), if_pos (by omega), moreTo_at r k i hi, if_neg (by simp [hmore]), if_pos (by omega), hw.out]
          · by_cases e : j = i
            · exact .inl e
            · exact absurd (h4 j (by omega)) hjn
        · by_cases hg : r.getD i 0 > r.getD c 0
          · refine Ev.step (fun n => ?_) (ih (i + 1) i (by omega) (by omega) (.inr ⟨i, rfl, by omega, hmore, fun j hj hjn => ?_⟩))
            · simp only [bourneref01_next.l0]
              rw [if_pos (by omega), if_pos (by omega), if_pos (by omega), moreTo_at r k i hi, if_neg (by simp [hmore]), if_neg (by omega), if_pos (by omega), if_pos (by omega), rd_getD, rd_getD, if_pos hg, hw.out]
            · by_cases e : j = i
              · exact .inl e
              · right
                simp only [O.lt, Int.toNat_natCast, Bool.or_eq_true, Bool.and_eq_true, decide_eq_true_eq]
                rcases h4 j (by omega) hjn with h5 | h5
                · subst h5; exact .inl hg
                · simp only [O.lt, Int.toNat_natCast, Bool.or_eq_true, Bool.and_eq_true, decide_eq_true_eq] at h5
                  left; omega
          · refine Ev.step (fun n => ?_) (ih (i + 1) c (by omega) (by omega) (.inr ⟨c, rfl, by omega, hn, fun j hj hjn => ?_⟩))
            · simp only [bourneref01_next.l0]
              rw [if_pos (by omega), if_pos (by omega), if_pos (by omega), moreTo_at r k i hi, if_neg (by simp [hmore]), if_neg (by omega), if_pos (by omega), if_pos (by omega), rd_getD, rd_getD, if_neg hg, hw.out]
            · by_cases e : j = i
              · subst e
                right
                simp only [O.lt, Int.toNat_natCast, Bool.or_eq_true, Bool.and_eq_true, decide_eq_true_eq]
                omega
              · exact h4 j (by omega) hjn
  unfold bourneref01_next.f
  exact go r.length 0 (-1) (by omega) (by omega) (.inl ⟨rfl, fun j hj => by omega⟩)
theorem bump_at_rank (t : Int) (l : List Int) (k m : Nat) (hk : k < l.length) (hm : m < l.length) (hr : O.rank (O.rests t l) (m : Nat) = k) (hu : ∀ j, j < l.length → O.rank (O.rests t l) (j : Nat) = k → j = m) :
    O.bump t l (k + 1 : Nat) = (O.bump t l k).set m ((O.bump t l k).getD m 0 + 1) ∧ moreTo (O.rests t l) (k + 1) = (moreTo (O.rests t l) k).set m true := by
  constructor
  · refine O.ext_getD (by simp [O.bump_length]) fun i hi => ?_
    rw [O.bump_length] at hi
    rw [O.getD_set' _ _ _ _ (by rw [O.bump_length]; exact hm), O.bump_at _ _ _ _ hi, O.bump_at _ _ _ _ hm, O.bump_at _ _ _ _ hi]
    by_cases e : i = m
    · subst e
      rw [if_pos rfl, if_pos (by omega), if_neg (by omega)]
      omega
    · rw [if_neg e]
      have : O.rank (O.rests t l) (i : Nat) ≠ k := fun h => e (hu i hi h)
      by_cases h4 : O.rank (O.rests t l) (i : Nat) < k
      · rw [if_pos (by omega), if_pos (by omega)]
      · rw [if_neg (by omega), if_neg (by omega)]
  · refine List.ext_getElem (by simp [moreTo]) fun i h1 h2 => ?_
    rw [moreTo_length, O.rests_length] at h1
    rw [List.getElem_set]
    by_cases e : m = i
    · subst e
      rw [if_pos rfl]
      simp [moreTo, hr]
    · rw [if_neg e]
      have : O.rank (O.rests t l) (i : Nat) ≠ k := fun h => e (hu i h1 h).symm
      simp only [moreTo, List.getElem_map, List.getElem_range, decide_eq_decide]
      omega
theorem hand_ev {t : Int} {l : List Int} (h0 : ∀ x ∈ l, 0 ≤ x) (hW : 0 < l.sum) (hs : l.sum ≤ 1125899906842624) (hl : l.length ≤ 64) (ht0 : 0 ≤ t) (ht : t ≤ l.sum) :
    ∀ d k : Nat, O.leftOf t l = d + k → Ev (fun n => bourneref01_Share.l2 n (O.bump t l k) (O.rests t l) d (moreTo (O.rests t l) k)) (O.shareL t l, true) := by
  have hlb := O.left_bd t l hW
  intro d
  induction d with
  | zero =>
    intro k hk
    have e : O.shareL t l = O.bump t l k := by unfold O.shareL; rw [hk]; congr 1; omega
    rw [e]
    refine Ev.step (fun n => ?_) (Ev.now _)
    simp only [bourneref01_Share.l2]
    rw [if_neg (by omega)]
  | succ d ih =>
    intro k hk
    have hkl : k < l.length := by omega
    obtain ⟨m, h1, h2, h3⟩ := rank_place (O.rests t l) k (by rw [O.rests_length]; exact hkl)
    have hn := next_ev (O.rests t l) k m (by rw [O.rests_length]; omega) h1 h2 h3
    rw [O.rests_length] at h1 h3
    obtain ⟨b1, b2⟩ := bump_at_rank t l k m hkl h1 h2 h3
    have hi := ih (k + 1) (by omega)
    rw [b1, b2] at hi
    have hbm : Aside0 (wrap64 ((O.bump t l k).getD m 0 + 1) = (O.bump t l k).getD m 0 + 1) := by
      refine ⟨?_⟩
      have hx := h0 _ (List.getElem_mem h1)
      have hx2 := O.mem_le_sum h0 (List.getElem_mem h1)
      have hq := O.quot_le h0 hW ht (List.getElem_mem h1)
      rw [← O.getD_eq _ _ h1] at hx hq hx2
      have hq0 : 0 ≤ t * l.getD m 0 / l.sum := Int.ediv_nonneg (Int.mul_nonneg ht0 hx) (by omega)
      rw [O.bump_at _ _ _ _ h1, if_neg (by omega)]
      unfold wrap64; omega
    have hwd := Aside0.mk (show wrap64 (((d + 1 : Nat) : Int) - 1) = (d : Int) by unfold wrap64; omega)
    refine Ev.step (f := fun n => (bourneref01_next.f n (O.rests t l) (moreTo (O.rests t l) k)).bind fun t308 => (if 0 ≤ t308 then (if t308 < ((O.bump t l k).length : Int) then (if t308 < ((moreTo (O.rests t l) k).length : Int) then (bourneref01_Share.l2 n ((O.bump t l k).set (t308 : Int).toNat (wrap64 ((rd (O.bump t l k) t308) + 1))) (O.rests t l) d ((moreTo (O.rests t l) k).set (t308 : Int).toNat true)) else (none)) else (none)) else (none))) (fun n => ?_) (Ev.bind hn ?_)
    · simp only [bourneref01_Share.l2]
      rw [if_pos (by omega), hwd.out]
    · refine Ev.congr (fun n => ?_) hi
      rw [if_pos (by omega), if_pos (by rw [O.bump_length]; omega), if_pos (by rw [moreTo_length, O.rests_length]; omega), rd_getD, hbm.out, Int.toNat_natCast]
/-- The first k elements of a list, and zeros behind them. -/
def fillTo (f : List Int) (k : Nat) : List Int := (List.range f.length).map fun i => if i < k then f.getD i 0 else 0
theorem fillTo_length (f : List Int) (k : Nat) : (fillTo f k).length = f.length := by simp [fillTo]
theorem fillTo_at (f : List Int) (k i : Nat) (h : i < f.length) : (fillTo f k).getD i 0 = if i < k then f.getD i 0 else 0 := by simp [fillTo, h]
theorem fillTo_zero (f : List Int) : fillTo f 0 = List.replicate f.length 0 := by
  refine O.ext_getD (by simp [fillTo]) fun i hi => ?_
  rw [fillTo_length] at hi
  rw [fillTo_at _ _ _ hi, if_neg (by omega)]
  simp [hi]
theorem fillTo_all (f : List Int) : fillTo f f.length = f := by
  refine O.ext_getD (fillTo_length _ _) fun i hi => ?_
  rw [fillTo_length] at hi
  rw [fillTo_at _ _ _ hi, if_pos hi]
theorem fillTo_succ (f : List Int) (k : Nat) (hk : k < f.length) : (fillTo f k).set k (f.getD k 0) = fillTo f (k + 1) := by
  refine O.ext_getD (by simp [fillTo]) fun i hi => ?_
  rw [List.length_set, fillTo_length] at hi
  rw [O.getD_set' _ _ _ _ (by rw [fillTo_length]; exact hk), fillTo_at _ _ _ hi, fillTo_at _ _ _ hi]
  by_cases e : i = k
  · subst e; rw [if_pos rfl, if_pos (by omega)]
  · rw [if_neg e]
    by_cases h : i < k
    · rw [if_pos h, if_pos (by omega)]
    · rw [if_neg h, if_neg (by omega)]
theorem take_sum_succ (l : List Int) (i : Nat) (h : i < l.length) : (l.take (i + 1)).sum = (l.take i).sum + l.getD i 0 := by
  rw [take_snoc l i h, List.sum_append]; simp
theorem fill_ev {t : Int} {l : List Int} (h0 : ∀ x ∈ l, 0 ≤ x) (hW : 0 < l.sum) (hs : l.sum ≤ 1125899906842624) (hl : l.length ≤ 64) (ht0 : 0 ≤ t) (ht : t ≤ l.sum) :
    Ev (fun n => bourneref01_Share.l1 n t l l.sum (List.replicate l.length 0) (List.replicate l.length 0) t 0) (O.shareL t l, true) := by
  have hlb := O.left_bd t l hW
  have hq0 := O.quots_nonneg h0 ht0
  have hql := O.quots_length t l
  have hrl := O.rests_length t l
  have hqt : (O.quots t l).sum ≤ t := by have := hlb.1; unfold O.leftOf at this; omega
  have fin : Ev (fun n => bourneref01_Share.j3 n l (O.quots t l) (O.rests t l) (O.leftOf t l)) (O.shareL t l, true) := by
    obtain ⟨d, hd⟩ := Int.eq_ofNat_of_zero_le hlb.1
    have h := hand_ev h0 hW hs hl ht0 ht d 0 (by omega)
    rw [show ((0 : Nat) : Int) = 0 from rfl, O.bump_zero, moreTo_zero, hrl] at h
    refine Ev.step (fun n => ?_) h
    simp only [bourneref01_Share.j3]
    rw [if_pos (by omega), if_pos (by omega), Int.toNat_natCast, hd]
  have go : ∀ d i : Nat, l.length - i = d → i ≤ l.length → Ev (fun n => bourneref01_Share.l1 n t l l.sum (fillTo (O.quots t l) i) (fillTo (O.rests t l) i) (t - ((O.quots t l).take i).sum) i) (O.shareL t l, true) := by
    intro d
    induction d with
    | zero =>
      intro i h1 h2
      obtain rfl : i = l.length := by omega
      have e1 : fillTo (O.quots t l) l.length = O.quots t l := by rw [← hql]; exact fillTo_all _
      have e2 : fillTo (O.rests t l) l.length = O.rests t l := by rw [← hrl]; exact fillTo_all _
      have e3 : (O.quots t l).take l.length = O.quots t l := by rw [← hql]; exact List.take_length
      rw [e1, e2, e3]
      refine Ev.step (fun n => ?_) fin
      simp only [bourneref01_Share.l1]
      rw [if_neg (by omega)]; rfl
    | succ d ih =>
      intro i h1 h2
      have hi : i < l.length := by omega
      have hx := h0 _ (List.getElem_mem hi)
      have hx2 := O.mem_le_sum h0 (List.getElem_mem hi)
      have hq := O.quot_le h0 hW ht (List.getElem_mem hi)
      rw [← O.getD_eq _ _ hi] at hx hq hx2
      have e : scaleF t (l.getD i 0) l.sum = ((O.quots t l).getD i 0, (O.rests t l).getD i 0, true) := by
        rw [O.quots_at _ _ _ hi, O.rests_at _ _ _ hi]
        unfold scaleF
        rw [if_pos]
        simp only [scaleOk, Bool.and_eq_true, decide_eq_true_eq]
        generalize t * l.getD i 0 / l.sum = q at *
        omega
      have hsc := rscale_ev t (l.getD i 0) l.sum
      rw [e] at hsc
      have hts := take_sum_succ (O.quots t l) i (by omega)
      have hb1 := O.take_sum_le hq0 i
      have hb2 := O.take_sum_le hq0 (i + 1)
      have hw := Aside0.mk (show wrap64 (t - ((O.quots t l).take i).sum - (O.quots t l).getD i 0) = t - ((O.quots t l).take (i + 1)).sum by rw [hts]; unfold wrap64; omega)
      have f1 := fillTo_succ (O.quots t l) i (by omega)
      have f2 := fillTo_succ (O.rests t l) i (by omega)
      refine Ev.step (f := fun n => (bourneref01_Scale.f n t (l.getD i 0) l.sum).bind fun bt300 => (if (i : Int) < ((fillTo (O.quots t l) i).length : Int) then (if (i : Int) < ((fillTo (O.rests t l) i).length : Int) then (bourneref01_Share.l1 n t l l.sum ((fillTo (O.quots t l) i).set ((i : Int) : Int).toNat bt300.1) ((fillTo (O.rests t l) i).set ((i : Int) : Int).toNat bt300.2.1) (wrap64 (t - ((O.quots t l).take i).sum - bt300.1)) (wrap64 ((i : Int) + 1))) else (none)) else (none))) (fun n => ?_) (Ev.bind hsc (Ev.congr (fun n => ?_) (ih (i + 1) (by omega) (by omega))))
      · simp only [bourneref01_Share.l1]
        rw [if_pos (by omega), if_pos (by omega), if_pos (by omega), rd_getD]
      · rw [if_pos (by rw [fillTo_length]; omega), if_pos (by rw [fillTo_length]; omega), Int.toNat_natCast, f1, f2, hw.out, wrap_succ i l.length hi (by omega)]
  have := go l.length 0 (by omega) (by omega)
  rw [fillTo_zero, fillTo_zero, hql, hrl] at this
  simpa using this
theorem none_ev {t : Int} {l : List Int} (hW : l.sum = 0) (hl : l.length ≤ 64) (ht : t = 0) :
    Ev (fun n => bourneref01_Share.l1 n t l l.sum (List.replicate l.length 0) (List.replicate l.length 0) t 0) (O.shareL t l, true) := by
  subst ht
  rw [share_zero hW rfl, hW]
  have fin : Ev (fun n => bourneref01_Share.j3 n l (List.replicate l.length 0) (List.replicate l.length 0) 0) (List.replicate l.length 0, true) := by
    refine Ev.step (fun n => ?_) (Ev.step (f := fun _ => some (List.replicate l.length (0 : Int), true)) (g := fun n => bourneref01_Share.l2 n (List.replicate l.length 0) (List.replicate l.length 0) 0 (List.replicate l.length false)) (fun n => ?_) (Ev.now _))
    · simp only [bourneref01_Share.j3]
      rw [if_pos (by omega), if_pos (by omega), Int.toNat_natCast]
    · simp only [bourneref01_Share.l2]
      rw [if_neg (by omega)]
  refine Ev.step (fun n => ?_) fin
  simp only [bourneref01_Share.l1]
  by_cases h : (0 : Int) < (l.length : Int)
  · rw [if_pos h, if_neg (by omega)]
  · rw [if_neg h]
theorem shareOk_parts {t : Int} {l : List Int} : shareOk t l = true ↔ (l.length ≤ 64 ∧ (∀ x ∈ l, 0 ≤ x) ∧ l.sum ≤ 1125899906842624) ∧ 0 ≤ t ∧ t ≤ l.sum := by
  simp only [shareOk, shareSum, Bool.and_eq_true, decide_eq_true_eq, Bool.not_eq_true', List.any_eq_false, badW, Bool.not_eq_true]
  constructor
  · rintro ⟨⟨h1, h2⟩, ⟨h3, h4⟩, h5⟩
    refine ⟨⟨h1, fun x hx => ?_, h3⟩, h4, h5⟩
    have := h2 x hx
    simp at this
    omega
  · rintro ⟨⟨h1, h2, h3⟩, h4, h5⟩
    refine ⟨⟨h1, fun x hx => ?_⟩, ⟨h3, h4⟩, h5⟩
    have h1 := h2 x hx
    have h2 := O.mem_le_sum h2 hx
    simp
    omega
/-- What Share answers, in one pair. -/
def shareB (t : Int) (l : List Int) : List Int × Bool := if shareOk t l = true then (O.shareL t l, true) else ([], false)
theorem shareB_now (t : Int) (l : List Int) : exact_Share.f t l = some (shareB t l) := by
  unfold exact_Share.f shareB
  split <;> rfl
theorem rshare_ev (t : Int) (l : List Int) (hR : l.all i64R = true) : Ev (fun n => bourneref01_Share.f n t l) (shareB t l) := by
  have bad : ¬ ((l.length ≤ 64 ∧ (∀ x ∈ l, 0 ≤ x) ∧ l.sum ≤ 1125899906842624) ∧ 0 ≤ t ∧ t ≤ l.sum) → shareB t l = ([], false) := fun h => by
    unfold shareB
    rw [if_neg (fun h' => h (shareOk_parts.1 h'))]
  unfold bourneref01_Share.f
  by_cases hl : (l.length : Int) > 64
  · rw [bad (fun h => by omega)]
    exact Ev.congr (fun n => by rw [if_pos hl]) (Ev.now _)
  refine Ev.congr (fun n => by rw [if_neg hl]) ?_
  have go : ∀ d i : Nat, l.length - i = d → i ≤ l.length → (∀ x ∈ l.take i, 0 ≤ x) → (l.take i).sum ≤ 1125899906842624 → Ev (fun n => bourneref01_Share.l0 n t l (l.take i).sum i) (shareB t l) := by
    intro d
    induction d with
    | zero =>
      intro i h1 h2 h3 h4
      obtain rfl : i = l.length := by omega
      rw [List.take_length] at *
      have out : ¬ (0 ≤ t ∧ t ≤ l.sum) → Ev (fun n => bourneref01_Share.j1 n t l l.sum true) (shareB t l) := fun h => by
        rw [bad (fun h' => h h'.2)]
        exact Ev.step (fun n => by simp only [bourneref01_Share.j1]; rw [if_pos trivial]) (Ev.now _)
      by_cases c1 : t < 0
      · refine Ev.step (fun n => ?_) (out (by omega))
        simp only [bourneref01_Share.l0]
        rw [if_neg (by omega), if_pos c1]
      · by_cases c2 : t > l.sum
        · refine Ev.step (fun n => ?_) (out (by omega))
          simp only [bourneref01_Share.l0]
          rw [if_neg (by omega), if_neg c1, decide_eq_true c2]
        · have e : shareB t l = (O.shareL t l, true) := by
            unfold shareB
            rw [if_pos (shareOk_parts.2 ⟨⟨by omega, h3, h4⟩, by omega, by omega⟩)]
          have l1 : Ev (fun n => bourneref01_Share.l1 n t l l.sum (List.replicate l.length 0) (List.replicate l.length 0) t 0) (O.shareL t l, true) := by
            have hs0 := O.sum_nonneg h3
            by_cases hW : 0 < l.sum
            · exact fill_ev h3 hW h4 (by omega) (by omega) (by omega)
            · exact none_ev (by omega) (by omega) (by omega)
          rw [e]
          refine Ev.step (g := fun n => bourneref01_Share.l0 n t l l.sum l.length) (f := fun n => bourneref01_Share.j1 n t l l.sum false) (fun n => ?_) (Ev.step (fun n => ?_) l1)
          · simp only [bourneref01_Share.l0]
            rw [if_neg (by omega), if_neg c1, decide_eq_false c2]
          · simp only [bourneref01_Share.j1]
            rw [if_neg (by simp), if_pos (by omega), Int.toNat_natCast, if_pos (by omega)]
    | succ d ih =>
      intro i h1 h2 h3 h4
      have hi : i < l.length := by omega
      have h0 := O.sum_nonneg h3
      have hx := i64R_iff.1 (getD_R hR i)
      have hts := take_sum_succ l i hi
      by_cases c1 : l.getD i 0 < 0
      · rw [bad (fun h => by
          have := h.1.2.1 l[i] (List.getElem_mem hi)
          rw [O.getD_eq _ _ hi] at c1; omega)]
        refine Ev.step (fun n => ?_) (Ev.now _)
        simp only [bourneref01_Share.l0]
        rw [if_pos (by omega), if_pos (by omega), rd_getD, if_pos c1]
      have ew := Aside0.mk (show wrap64 (1125899906842624 - (l.take i).sum) = 1125899906842624 - (l.take i).sum by unfold wrap64; omega)
      by_cases c2 : l.getD i 0 > 1125899906842624 - (l.take i).sum
      · rw [bad (fun h => by
          have h5 := (O.take_sum_le h.1.2.1 (i + 1)).2
          have h6 := h.1.2.2
          omega)]
        refine Ev.step (fun n => ?_) (Ev.now _)
        simp only [bourneref01_Share.l0]
        rw [if_pos (by omega), if_pos (by omega), rd_getD, if_neg c1, ew.out, if_pos c2]
      · have ew2 := Aside0.mk (show wrap64 ((l.take i).sum + l.getD i 0) = (l.take (i + 1)).sum by rw [hts]; unfold wrap64; omega)
        refine Ev.step (fun n => ?_) (ih (i + 1) (by omega) (by omega) (fun x hx' => by
          rw [take_snoc l i hi, List.mem_append, List.mem_singleton] at hx'
          rcases hx' with hx' | rfl
          · exact h3 x hx'
          · omega) (by omega))
        simp only [bourneref01_Share.l0]
        rw [if_pos (by omega), if_pos (by omega), rd_getD, if_neg c1, ew.out, if_neg c2, ew2.out, wrap_succ i l.length hi (by omega)]
  have := go l.length 0 (by omega) (by omega) (by simp) (by simp)
  simpa using this
end Go.Proofs.Ytcncjldggfbjdaa.F
namespace Go.Proofs.Ytcncjldggfbjdaa.F
open Go.RowKit Go.Proofs.YtcncjldggfbjdaaW.PrintWords Go.Proofs.YtcncjldggfbjdaaW.PrintLast Go.Proofs.YtcncjldggfbjdaaW.PrintMore Go.Proofs.Ytcncjldggfbjdaa.G0 Go.Proofs.Ytcncjldggfbjdaa.G1 Go.Proofs.Ytcncjldggfbjdaa.G2 Go.Proofs.Ytcncjldggfbjdaa.PEx Go.Proofs.Ytcncjldggfbjdaa.E
set_option linter.unusedVariables false
set_option linter.unusedSimpArgs false
theorem ev_eq {α : Type} {o : Option α} {a : α} (h : o = some a) : Ev (fun _ => o) a := h ▸ Ev.now a
theorem rightB_iff {l : List Int} : rightB l = true ↔ (∀ x ∈ l, 0 ≤ x) ∧ l.sum ≤ 1125899906842624 := by
  unfold rightB
  simp only [Bool.and_eq_true, decide_eq_true_eq, List.all_eq_true]
theorem rtotal_ev (l : List Int) (hR : l.all i64R = true) (hl : l.length ≤ 9223372036854775807) : Ev (fun k => bourneref17_Total.f k l) (totalF l) := by
  have go : ∀ d i : Nat, ∀ acc : Int, i64R acc = true → l.length - i = d → i ≤ l.length → Ev (fun k => bourneref17_Total.l0 k l acc i) ((l.drop i).foldl addS acc) := by
    intro d
    induction d with
    | zero =>
      intro i acc ha h1 h2
      obtain rfl : i = l.length := by omega
      rw [List.drop_length]
      exact Ev.step (fun k => by simp only [bourneref17_Total.l0]; rw [if_neg (by omega)]; rfl) (Ev.now _)
    | succ d ih =>
      intro i acc ha h1 h2
      have hi : i < l.length := by omega
      rw [drop_cons l i hi, List.foldl_cons]
      refine Ev.step (f := fun k => (bourneref01_Add.f k acc (l.getD i 0)).bind fun t517 => bourneref17_Total.l0 k l t517 ((i + 1 : Nat) : Int)) (fun k => ?_) (Ev.bind (radd_ev ha (getD_R hR i)) (ih (i + 1) (addS acc (l.getD i 0)) (addS_R _ _) (by omega) (by omega)))
      simp only [bourneref17_Total.l0]
      rw [if_pos (by omega), if_pos (by omega), rd_getD, wrap_succ i _ hi hl]
  exact go l.length 0 0 rfl (by omega) (by omega)
theorem plain_ev (l : List Int) (hR : l.all i64R = true) (hl : l.length ≤ 1000) : Ev (fun k => bourneref17_Plain.f k l) (rightB l) := by
  have bad : ∀ i, i < l.length → (l.getD i 0 < 0 ∨ l.getD i 0 > 1125899906842624) → rightB l = false := by
    intro i hi h
    rw [← Bool.not_eq_true, rightB_iff]
    rintro ⟨h1, h2⟩
    have h3 := h1 _ (List.getElem_mem hi)
    have h4 := O.mem_le_sum h1 (List.getElem_mem hi)
    rw [← O.getD_eq _ _ hi] at h3 h4
    omega
  have go : ∀ d i : Nat, l.length - i = d → i ≤ l.length → (∀ j, j < i → 0 ≤ l.getD j 0) → Ev (fun k => bourneref17_Plain.l0 k l i) (rightB l) := by
    intro d
    induction d with
    | zero =>
      intro i h1 h2 h3
      obtain rfl : i = l.length := by omega
      have h0 : ∀ x ∈ l, 0 ≤ x := by
        intro x hx
        obtain ⟨j, hj, rfl⟩ := List.mem_iff_getElem.1 hx
        rw [← O.getD_eq _ _ hj]
        exact h3 j hj
      refine Ev.step (f := fun k => (bourneref01_Sum.f k l).bind fun bt520 => (if bt520.2 = true then (some (decide (bt520.1 ≤ 1125899906842624))) else (some false))) (fun k => ?_) (Ev.bind (rsum_ev l hR hl) (Ev.congr (fun k => ?_) (Ev.now _)))
      · simp only [bourneref17_Plain.l0]
        rw [if_neg (by omega)]
      · have hs := O.sum_nonneg h0
        have e : rightB l = decide (l.sum ≤ 1125899906842624) := by
          rw [Bool.eq_iff_iff, rightB_iff, decide_eq_true_eq]
          exact ⟨fun h => h.2, fun h => ⟨h0, h⟩⟩
        rw [e]
        unfold sumF
        by_cases hb : -9223372036854775808 ≤ l.sum ∧ l.sum ≤ 9223372036854775807
        · rw [if_pos hb, if_pos rfl]
        · rw [if_neg hb, if_neg (by simp), decide_eq_false (by omega)]
    | succ d ih =>
      intro i h1 h2 h3
      have hi : i < l.length := by omega
      by_cases hx : l.getD i 0 < 0
      · rw [bad i hi (.inl hx)]
        refine Ev.step (fun k => ?_) (Ev.now _)
        simp only [bourneref17_Plain.l0]
        rw [if_pos (by omega), if_pos (by omega), rd_getD, if_pos hx]
      · by_cases hx2 : l.getD i 0 > 1125899906842624
        · rw [bad i hi (.inr hx2)]
          refine Ev.step (fun k => ?_) (Ev.now _)
          simp only [bourneref17_Plain.l0]
          rw [if_pos (by omega), if_pos (by omega), rd_getD, if_neg hx, if_pos hx2]
        · refine Ev.step (fun k => ?_) (ih (i + 1) (by omega) (by omega) (fun j hj => by
            by_cases e : j = i
            · subst e; omega
            · exact h3 j (by omega)))
          simp only [bourneref17_Plain.l0]
          rw [if_pos (by omega), if_pos (by omega), rd_getD, if_neg hx, if_neg hx2, wrap_succ i l.length hi (by omega)]
  exact go l.length 0 (by omega) (by omega) (fun j hj => by omega)
theorem rright_ev (l : List Int) (a : Int) (hR : l.all i64R = true) (hl : l.length ≤ 1000) : Ev (fun k => bourneref17_Right.f k l a) (decide (0 ≤ a) && (decide (a ≤ 16) && (decide ((l.length : Int) = a) && rightB l))) := by
  unfold bourneref17_Right.f
  refine Ev.bind (plain_ev l hR hl) ?_
  cases rightB l with
  | false =>
    refine Ev.congr (fun k => ?_) (Ev.now _)
    simp
  | true =>
    refine Ev.congr (fun k => ?_) (Ev.now _)
    rw [if_pos rfl]
    by_cases h : (l.length : Int) = a
    · rw [if_pos h, decide_eq_true h, decide_eq_true (show 0 ≤ a by omega)]
      simp
    · rw [if_neg h, decide_eq_false h]
      simp
theorem at_now (l : List Int) (a : Int) : bourneref17_At.f l a = some (hasF l a) := by
  unfold bourneref17_At.f hasF
  by_cases h1 : a < 0
  · rw [if_pos h1, if_neg (by omega)]
  · by_cases h2 : a ≥ (l.length : Int)
    · rw [if_neg h1, if_pos h2, if_neg (by omega)]
    · rw [if_neg h1, if_neg h2, if_pos (by omega), if_pos (by omega), if_pos (by omega)]
      rfl
theorem hasF_nat (l : List Int) (i : Nat) : hasF l (i : Int) = l.getD i 0 := by
  unfold hasF
  by_cases h : i < l.length
  · rw [if_pos ⟨by omega, by omega⟩]; rfl
  · rw [if_neg (by omega), List.getD_eq_getElem?_getD, List.getElem?_eq_none (by omega)]; rfl
theorem hasF_R {l : List Int} (h : l.all i64R = true) (a : Int) : i64R (hasF l a) = true := by
  unfold hasF
  split
  · exact getD_R h _
  · rfl
theorem lessL_R (l t : List Int) (h : l.all i64R = true) : (lessL l t).all i64R = true := by
  rw [List.all_eq_true]
  intro x hx
  obtain ⟨i, hi, rfl⟩ := List.mem_iff_getElem.1 hx
  have hi' := hi
  rw [lessL_length] at hi'
  rw [← O.getD_eq _ _ hi, lessL_at _ _ _ hi']
  split
  · rw [i64R_iff]; unfold wrap64; omega
  · exact getD_R h i
theorem rless_ev (l t : List Int) (ht : t.length = l.length) (hl : l.length ≤ 1000) : Ev (fun k => bourneref17_Less.f k l t) (lessL l t) := by
  have hll := lessL_length l t
  have go : ∀ d i : Nat, l.length - i = d → i ≤ l.length → Ev (fun k => bourneref17_Less.l0 k l t ((lessL l t).take i) i) (lessL l t) := by
    intro d
    induction d with
    | zero =>
      intro i h1 h2
      obtain rfl : i = l.length := by omega
      refine Ev.step (fun k => ?_) (Ev.now _)
      simp only [bourneref17_Less.l0]
      rw [if_neg (by omega), ← hll, List.take_length]
    | succ d ih =>
      intro i h1 h2
      have hi : i < l.length := by omega
      have e := take_snoc (lessL l t) i (by omega)
      rw [lessL_at _ _ _ hi, if_pos (by omega)] at e
      refine Ev.step (fun k => ?_) (ih (i + 1) (by omega) (by omega))
      simp only [bourneref17_Less.l0]
      rw [if_pos (by omega), if_pos (by omega), if_pos (by omega), if_pos (by rw [List.length_take]; omega), rd_getD, rd_getD, ← e, wrap_succ i l.length hi (by omega)]
  exact go l.length 0 (by omega) (by omega)
/-- What is taken of any pool. -/
def takeG (l : List Int) (n : Int) : List Int := if 0 < n ∧ rightB l = true ∧ shareOk (mn n (totalF l)) l = true then O.shareL (mn n (totalF l)) l else List.replicate l.length 0
theorem takeG_length (l : List Int) (n : Int) : (takeG l n).length = l.length := by
  unfold takeG
  split
  · exact O.share_length _ _
  · simp
theorem takeG_no {l : List Int} {n : Int} (h : ¬ (0 < n ∧ rightB l = true ∧ shareOk (mn n (totalF l)) l = true)) : takeG l n = List.replicate l.length 0 := by unfold takeG; rw [if_neg h]
theorem takeG_yes {l : List Int} {n : Int} (h : 0 < n ∧ rightB l = true ∧ shareOk (mn n (totalF l)) l = true) : takeG l n = O.shareL (mn n (totalF l)) l := by unfold takeG; rw [if_pos h]
theorem rtake_ev (l : List Int) (n : Int) (hR : l.all i64R = true) (hl : l.length ≤ 1000) : Ev (fun k => bourneref17_Take.f k l n) (takeG l n, lessL l (takeG l n)) := by
  have lz : Ev (fun k => (bourneref17_Less.f k l (List.replicate l.length 0)).bind fun t531 => some (List.replicate l.length (0 : Int), t531)) (List.replicate l.length 0, lessL l (List.replicate l.length 0)) :=
    Ev.bind (rless_ev l _ (by simp) hl) (Ev.now _)
  unfold bourneref17_Take.f
  refine Ev.congr (f := fun k => (bourneref17_Plain.f k l).bind fun t530 => (if t530 = true then (bourneref17_Take.j0 k l n (List.replicate l.length 0) (decide (n ≤ 0))) else (bourneref17_Take.j0 k l n (List.replicate l.length 0) true))) (fun k => by rw [if_pos (by omega), if_pos (by omega)]; simp only [Option.bind_some, Int.toNat_natCast]) ?_
  refine Ev.bind (plain_ev l hR hl) ?_
  have no : takeG l n = List.replicate l.length 0 → Ev (fun k => bourneref17_Take.j0 k l n (List.replicate l.length 0) true) (takeG l n, lessL l (takeG l n)) := by
    intro e
    rw [e]
    refine Ev.step (fun k => ?_) lz
    simp only [bourneref17_Take.j0]
    rw [if_pos trivial]
  by_cases hr : rightB l = true
  · refine Ev.congr (fun k => by rw [if_pos hr]) ?_
    by_cases hn : n ≤ 0
    · exact Ev.congr (fun k => by rw [decide_eq_true hn]) (no (takeG_no (by omega)))
    refine Ev.congr (fun k => by rw [decide_eq_false hn]) ?_
    refine Ev.step (f := fun k => (bourneref17_Total.f k l).bind fun t534 => ((bourneref01_Share.f k (mn n t534) l).bind fun bt535 => (if bt535.2 = true then ((bourneref17_Less.f k l bt535.1).bind fun t539 => (some (bt535.1, t539))) else ((bourneref17_Less.f k l (List.replicate l.length 0)).bind fun t542 => (some (List.replicate l.length 0, t542)))))) (fun k => by simp only [bourneref17_Take.j0]; rw [if_neg (by simp)]) ?_
    refine Ev.bind (rtotal_ev l hR (by omega)) ?_
    refine Ev.bind (rshare_ev _ l hR) ?_
    unfold shareB
    by_cases ho : shareOk (mn n (totalF l)) l = true
    · rw [if_pos ho, takeG_yes ⟨by omega, hr, ho⟩]
      refine Ev.congr (fun k => by rw [if_pos rfl]) ?_
      exact Ev.bind (rless_ev l _ (O.share_length _ _) hl) (Ev.now _)
    · rw [if_neg ho, takeG_no (fun h => ho h.2.2)]
      exact Ev.congr (fun k => by rw [if_neg (by simp)]) lz
  · exact Ev.congr (fun k => by rw [if_neg hr]) (no (takeG_no (fun h => hr h.2.1)))
theorem rfrom_ev (l : List Int) (a n : Int) (hl : l.length ≤ 1000) : Ev (fun k => bourneref17_From.f k l a n) (takeF l a n, lessL l (takeF l a n)) := by
  unfold bourneref17_From.f
  by_cases hm : 0 < mn n (hasF l a)
  · have hin := hasF_in hm
    have e : takeF l a n = (List.replicate l.length 0).set a.toNat (mn n (hasF l a)) := by unfold takeF; rw [if_pos hm]
    rw [e]
    refine Ev.congr (f := fun k => (bourneref17_Less.f k l ((List.replicate l.length 0).set a.toNat (mn n (hasF l a)))).bind fun t => some ((List.replicate l.length 0).set a.toNat (mn n (hasF l a)), t)) (fun k => ?_) (Ev.bind (rless_ev l ((List.replicate l.length 0).set a.toNat (mn n (hasF l a))) (by simp) hl) (Ev.now _))
    rw [if_pos (by omega), if_pos (by omega)]
    simp only [Option.bind_some, Int.toNat_natCast]
    rw [at_now]
    simp only [Option.bind_some]
    rw [if_pos hm, if_pos hin.1, if_pos (by rw [List.length_replicate]; exact hin.2)]
  · have e : takeF l a n = List.replicate l.length 0 := by unfold takeF; rw [if_neg hm]
    rw [e]
    refine Ev.congr (f := fun k => (bourneref17_Less.f k l (List.replicate l.length 0)).bind fun t => some (List.replicate l.length 0, t)) (fun k => ?_) (Ev.bind (rless_ev l (List.replicate l.length 0) (by simp) hl) (Ev.now _))
    rw [if_pos (by omega), if_pos (by omega)]
    simp only [Option.bind_some, Int.toNat_natCast]
    rw [at_now]
    simp only [Option.bind_some]
    rw [if_neg hm]
theorem addS_zero {a : Int} (h : i64R a = true) : addS a 0 = a := by
  rw [i64R_iff] at h
  unfold addS
  rw [if_neg (by omega), if_neg (by omega)]; omega
theorem radds_ev (p q : List Int) (hp : p.all i64R = true) (hq : q.all i64R = true) (hpl : p.length ≤ 1000) (hql : q.length ≤ 1000) : Ev (fun k => bourneref17_Add.f k p q) (addL p q) := by
  have hal : (addL p q).length = max p.length q.length := addTo_length ..
  have hat : ∀ i, i < max p.length q.length → (addL p q).getD i 0 = addS (p.getD i 0) (q.getD i 0) := by
    intro i hi
    unfold addL
    rw [addTo_at _ _ _ _ hi]
    by_cases h : i < q.length
    · rw [if_pos h]
    · have e : q.getD i 0 = 0 := by rw [List.getD_eq_getElem?_getD, List.getElem?_eq_none (by omega)]; rfl
      rw [if_neg h, e, addS_zero (getD_R hp i)]
  have hmax : max p.length q.length ≤ 1000 := by omega
  generalize addL p q = out at *
  have go : ∀ d i : Nat, max p.length q.length - i = d → i ≤ max p.length q.length → Ev (fun k => bourneref17_Add.l0 k p q (out.take i) i) out := by
    intro d
    induction d with
    | zero =>
      intro i h1 h2
      obtain rfl : i = max p.length q.length := by omega
      refine Ev.step (g := fun k => bourneref17_Add.l0 k p q (out.take (max p.length q.length)) ((max p.length q.length : Nat) : Int)) (f := fun k => bourneref17_Add.j1 k p q (out.take (max p.length q.length)) ((max p.length q.length : Nat) : Int) false) (fun k => ?_) (Ev.step (fun k => ?_) (Ev.now _))
      · simp only [bourneref17_Add.l0]
        rw [if_neg (by omega), decide_eq_false (by omega)]
      · simp only [bourneref17_Add.j1]
        rw [if_neg (by simp), ← hal, List.take_length]
    | succ d ih =>
      intro i h1 h2
      have hi : i < max p.length q.length := by omega
      have e := take_snoc out i (by omega)
      rw [hat i hi] at e
      have hw : wrap64 ((i : Int) + 1) = ((i + 1 : Nat) : Int) := wrap_succ i _ hi (by omega)
      have j1 : Ev (fun k => bourneref17_Add.j1 k p q (out.take i) i true) out := by
        refine Ev.step (f := fun k => (bourneref01_Add.f k (p.getD i 0) (q.getD i 0)).bind fun t560 => (if (out.take i).length < 17592186044416 then (bourneref17_Add.l0 k p q (out.take i ++ [t560]) (wrap64 ((i : Int) + 1))) else (none))) (fun k => ?_) (Ev.bind (radd_ev (getD_R hp i) (getD_R hq i)) (Ev.congr (fun k => ?_) (ih (i + 1) (by omega) (by omega))))
        · simp only [bourneref17_Add.j1]
          rw [if_pos trivial, at_now, at_now, hasF_nat, hasF_nat]
          simp only [Option.bind_some]
        · rw [if_pos (by rw [List.length_take]; omega), e, hw]
      by_cases h : i < p.length
      · refine Ev.step (fun k => ?_) j1
        simp only [bourneref17_Add.l0]
        rw [if_pos (by omega)]
      · refine Ev.step (fun k => ?_) j1
        simp only [bourneref17_Add.l0]
        rw [if_neg (by omega), decide_eq_true (by omega)]
  exact go (max p.length q.length) 0 (by omega) (by omega)
/-- What is given in any pool, and what stands there then. -/
def giveG (l : List Int) (a b n : Int) : List Int := if 0 < mn n (hasF l a) ∧ 0 ≤ b ∧ b < l.length ∧ b ≠ a then (l.set a.toNat (wrap64 (l.getD a.toNat 0 - mn n (hasF l a)))).set b.toNat (addS (l.getD b.toNat 0) (mn n (hasF l a))) else l
theorem mn_R {a b : Int} (ha : i64R a = true) (hb : i64R b = true) : i64R (mn a b) = true := by
  unfold mn; split <;> assumption
theorem giveG_yes {l : List Int} {a b n : Int} (h : 0 < mn n (hasF l a)) (h2 : 0 ≤ b ∧ b < l.length ∧ b ≠ a) : giveG l a b n = (l.set a.toNat (wrap64 (l.getD a.toNat 0 - mn n (hasF l a)))).set b.toNat (addS (l.getD b.toNat 0) (mn n (hasF l a))) := by
  unfold giveG; rw [if_pos (And.intro h h2)]
theorem giveG_no {l : List Int} {a b n : Int} (h : ¬ (0 < mn n (hasF l a) ∧ 0 ≤ b ∧ b < l.length ∧ b ≠ a)) : giveG l a b n = l := by
  unfold giveG; rw [if_neg h]
theorem rgive_ev (l : List Int) (a b n : Int) (hR : l.all i64R = true) (hn : i64R n = true) (hl : l.length ≤ 1000) : Ev (fun k => bourneref17_Give.f k l a b n) (giveG l a b n) := by
  have head : ∀ f : Nat → List Int → Option (List Int), Ev (fun k => f k l) (giveG l a b n) → Ev (fun k => (some (([] : List Int) : List Int)).bind fun y564 => (if y564.length + l.length < 17592186044416 then ((some (y564 ++ l : List Int)).bind fun y567 => f k y567) else none)) (giveG l a b n) := by
    intro f h
    refine Ev.congr (fun k => ?_) h
    simp only [Option.bind_some, List.nil_append]
    rw [if_pos (by simp; omega)]
  unfold bourneref17_Give.f
  refine head _ ?_
  refine Ev.bind (ev_eq (at_now l a)) ?_
  have hmR := mn_R hn (hasF_R hR a)
  by_cases hm : 0 < mn n (hasF l a)
  · have hin := hasF_in hm
    have hm' : ¬ mn n (hasF l a) ≤ 0 := by omega
    refine Ev.congr (fun k => by rw [if_neg hm']) ?_
    by_cases hb : 0 ≤ b ∧ b < l.length ∧ b ≠ a
    · rw [giveG_yes hm hb]
      obtain ⟨i, rfl⟩ := Int.eq_ofNat_of_zero_le hin.1
      obtain ⟨j, rfl⟩ := Int.eq_ofNat_of_zero_le hb.1
      have hil : i < l.length := by omega
      have hjl : j < l.length := by omega
      simp only [Int.toNat_natCast]
      generalize mn n (hasF l (i : Int)) = m at *
      have e2 : (l.set i (wrap64 (l.getD i 0 - m))).getD j 0 = l.getD j 0 := by rw [O.getD_set' _ _ _ _ hil, if_neg (by omega)]
      refine Ev.congr (f := fun k => (bourneref01_Add.f k (l.getD j 0) m).bind fun t574 => some ((l.set i (wrap64 (l.getD i 0 - m))).set j t574)) (fun k => ?_) (Ev.bind (radd_ev (getD_R hR j) hmR) (Ev.now _))
      rw [if_neg (by omega), if_neg (by omega), if_neg (by omega), if_pos (by omega), if_pos (by omega)]
      simp only [Option.bind_some, rd_getD, e2]
      rw [if_pos (by omega), if_pos (by omega)]
    · rw [giveG_no (fun h => hb h.2)]
      by_cases c1 : b < 0
      · exact Ev.congr (fun k => by rw [if_pos c1]) (Ev.now _)
      by_cases c2 : b ≥ (l.length : Int)
      · exact Ev.congr (fun k => by rw [if_neg c1, if_pos c2]) (Ev.now _)
      have c3 : a = b := by
        apply Decidable.byContradiction; intro h; exact hb (And.intro (by omega) (And.intro (by omega) (fun h' => h h'.symm)))
      exact Ev.congr (fun k => by rw [if_neg c1, if_neg c2, if_pos c3]) (Ev.now _)
  · rw [giveG_no (fun h => hm h.1)]
    exact Ev.congr (fun k => by rw [if_pos (by omega)]) (Ev.now _)
/-! The program's, of any pool. -/
theorem hasG_now (l : List Int) (a : Int) : pool_has.f l a = some (mx 0 (hasF l a)) := by
  unfold pool_has.f hasF
  by_cases h1 : a < 0
  · rw [if_pos h1, if_neg (by omega)]; rfl
  · by_cases h2 : a ≥ (l.length : Int)
    · rw [if_neg h1, if_pos h2, if_neg (by omega)]; rfl
    · rw [if_neg h1, if_neg h2, if_pos (by omega), if_pos (by omega), if_pos (by omega)]
      rfl
theorem mn_mx (n h : Int) : (0 < mn n (mx 0 h) ↔ 0 < mn n h) ∧ (0 < mn n h → mn n (mx 0 h) = mn n h) := by
  unfold mn mx
  by_cases h1 : 0 < h
  · rw [if_pos h1]; exact ⟨Iff.rfl, fun _ => rfl⟩
  · rw [if_neg h1]
    constructor
    · split <;> split <;> omega
    · intro h2
      split at h2 <;> omega
theorem fromG_now (l : List Int) (a n : Int) (hl : l.length ≤ 1000) : pool_From.f l a n = some (takeF l a n, lessL l (takeF l a n)) := by
  obtain ⟨m1, m2⟩ := mn_mx n (hasF l a)
  unfold pool_From.f
  rw [if_pos (by omega), if_pos (by omega)]
  simp only [Option.bind_some]
  rw [hasG_now]
  simp only [Option.bind_some, Int.toNat_natCast]
  by_cases hm : 0 < mn n (hasF l a)
  · have hin := hasF_in hm
    rw [if_pos (m1.2 hm), if_pos hin.1, if_pos (by rw [List.length_replicate]; exact hin.2), m2 hm]
    have e : takeF l a n = (List.replicate l.length 0).set a.toNat (mn n (hasF l a)) := by unfold takeF; rw [if_pos hm]
    rw [less_now _ _ (by simp) (by omega), ← e]
    rfl
  · have e : takeF l a n = List.replicate l.length 0 := by unfold takeF; rw [if_neg hm]
    rw [if_neg (fun h => hm (m1.1 h)), less_now _ _ (by simp) (by omega), ← e]
    rfl
theorem giveG_now (l : List Int) (a b n : Int) (hR : l.all i64R = true) (hn : i64R n = true) (hl : l.length ≤ 1000) : pool_Give.f l a b n = some (giveG l a b n) := by
  obtain ⟨m1, m2⟩ := mn_mx n (hasF l a)
  have hmR := mn_R hn (hasF_R hR a)
  unfold pool_Give.f
  rw [less_now _ _ (by simp) (by omega), lessL_nil]
  simp only [Option.bind_some]
  rw [hasG_now]
  simp only [Option.bind_some]
  by_cases hm : 0 < mn n (hasF l a)
  · have hin := hasF_in hm
    rw [if_pos (m1.2 hm), m2 hm]
    by_cases hb : 0 ≤ b ∧ b < l.length ∧ b ≠ a
    · rw [giveG_yes hm hb]
      clear m1 m2
      obtain ⟨i, rfl⟩ := Int.eq_ofNat_of_zero_le hin.1
      obtain ⟨j, rfl⟩ := Int.eq_ofNat_of_zero_le hb.1
      have hil : i < l.length := by omega
      have hjl : j < l.length := by omega
      generalize mn n (hasF l (i : Int)) = m at *
      have e2 : (l.set i (wrap64 (l.getD i 0 - m))).getD j 0 = l.getD j 0 := by rw [O.getD_set' _ _ _ _ hil, if_neg (by omega)]
      rw [if_pos (by omega), if_pos (by omega), if_neg (by omega), if_pos (by omega), if_pos (by omega)]
      simp only [rd_getD, Int.toNat_natCast, Option.bind_some, e2]
      rw [if_pos (by omega), if_pos (by omega), add_now (getD_R hR j) hmR]
      rfl
    · rw [giveG_no (fun h => hb h.2)]
      by_cases c1 : b ≥ 0
      · by_cases c2 : b < (l.length : Int)
        · have c3 : b = a := by
            apply Decidable.byContradiction; intro h; exact hb (And.intro (by omega) (And.intro (by omega) h))
          rw [if_pos c1, if_pos c2, if_pos c3]
        · rw [if_pos c1, if_neg c2]
      · rw [if_neg c1]
  · rw [if_neg (fun h => hm (m1.1 h)), giveG_no (fun h => hm h.1)]
theorem takeG_ev (l : List Int) (n : Int) (hR : l.all i64R = true) (hl : l.length ≤ 1000) : Ev (fun k => pool_Take.f k l n) (takeG l n, lessL l (takeG l n)) := by
  have lz := less_now l (List.replicate l.length 0) (by simp) (by omega)
  unfold pool_Take.f
  have no : takeG l n = List.replicate l.length 0 → Ev (fun k => pool_Take.j0 k l n (List.replicate l.length 0) false) (takeG l n, lessL l (takeG l n)) := by
    intro e
    rw [e]
    refine Ev.step (fun k => ?_) (Ev.now _)
    simp only [pool_Take.j0]
    rw [if_neg (by simp), lz]; rfl
  by_cases hn : 0 < n
  · refine Ev.congr (f := fun k => (pool_right.f k l).bind fun t351 => pool_Take.j0 k l n (List.replicate l.length 0) t351) (fun k => by rw [if_pos (by omega), if_pos (by omega)]; simp only [Option.bind_some, Int.toNat_natCast]; rw [if_pos hn]) ?_
    refine Ev.bind (right_ev l hR (by omega)) ?_
    by_cases hr : rightB l = true
    · rw [hr]
      refine Ev.step (f := fun k => (pool_Total.f k l).bind fun t352 => ((exact_Share.f (mn n t352) l).bind fun bt353 => (if bt353.2 = true then ((pool_less.f l bt353.1).bind fun t357 => (some (bt353.1, t357))) else ((pool_less.f l (List.replicate l.length 0)).bind fun t360 => (some (List.replicate l.length 0, t360)))))) (fun k => by simp only [pool_Take.j0]; rw [if_pos trivial]) ?_
      refine Ev.bind (total_ev l hR (by omega)) ?_
      refine Ev.congr (fun k => ?_) (Ev.now _)
      rw [shareB_now]
      simp only [Option.bind_some]
      unfold shareB
      by_cases ho : shareOk (mn n (totalF l)) l = true
      · rw [if_pos ho, takeG_yes ⟨hn, hr, ho⟩, if_pos rfl, less_now _ _ (by simp [O.share_length]) (by omega)]; rfl
      · rw [if_neg ho, takeG_no (fun h => ho h.2.2), if_neg (by simp), lz]; rfl
    · have e : rightB l = false := by simpa using hr
      rw [e]
      exact no (takeG_no (fun h => hr h.2.1))
  · refine Ev.congr (f := fun k => pool_Take.j0 k l n (List.replicate l.length 0) false) (fun k => by rw [if_pos (by omega), if_pos (by omega)]; simp only [Option.bind_some, Int.toNat_natCast]; rw [if_neg hn]) ?_
    exact no (takeG_no (fun h => hn h.1))
end Go.Proofs.Ytcncjldggfbjdaa.F
namespace Go.Proofs.Ytcncjldggfbjdaa.Pure
open Go.RowKit Go.Proofs.Ytcncjldggfbjdaa.PEx Go.Proofs.YtcncjldggfbjdaaW.PrintWords Go.Proofs.YtcncjldggfbjdaaW.PrintLast Go.Proofs.YtcncjldggfbjdaaW.PrintMore Go.Proofs.Ytcncjldggfbjdaa.E Go.Proofs.Ytcncjldggfbjdaa.F Go.Proofs.Ytcncjldggfbjdaa.G1 Go.Proofs.Ytcncjldggfbjdaa.G2
set_option linter.unusedVariables false
set_option linter.unusedSimpArgs false

theorem same_self (xs : List Int) (h : xs.length ≤ 9223372036854775807) : Ev (fun k => bourneref17_Same.f k xs xs) true := by
  have := same_ev xs xs h
  rwa [decide_eq_true rfl] at this
theorem giveG_length (l : List Int) (a b n : Int) : (giveG l a b n).length = l.length := by unfold giveG; split <;> simp
theorem PoolTells : bournelaw17_PoolTells.Pure := by
  intro p q a b n hp1 hp2 hpw hq1 hq2 hqw ha hb hn
  have hP : p.all i64R = true := by rw [List.all_eq_true]; exact fun x hx => wf_R (hpw x hx)
  have hQ : q.all i64R = true := by rw [List.all_eq_true]; exact fun x hx => wf_R (hqw x hx)
  have hN := wf_R hn
  apply Ev.rounds
  unfold bournelaw17_PoolTells.f
  refine Ev.bind small17_ev ?_
  have out : Ev (fun k => bournelaw17_PoolTells.j0 k p q a b n true true) true := Ev.step (fun k => by simp only [bournelaw17_PoolTells.j0]; rw [if_pos trivial]) (Ev.now _)
  by_cases c1 : (p.length : Int) > 80
  · exact Ev.congr (fun k => by rw [if_pos c1]) out
  by_cases c2 : (q.length : Int) > 80
  · exact Ev.congr (fun k => by rw [if_neg c1, decide_eq_true c2]) out
  refine Ev.congr (fun k => by rw [if_neg c1, decide_eq_false c2]) ?_
  have hpl : p.length ≤ 1000 := by omega
  have hql : q.length ≤ 1000 := by omega
  have last : Ev (fun k => bournelaw17_PoolTells.j1 k p q a b n true false) true := by
    refine Ev.step (f := fun k => (pool_Right.f k p a).bind fun t605 => ((bourneref17_Right.f k p a).bind fun t606 => (if (t605 == t606) = true then ((pool_Right.f k p (p.length : Int)).bind fun t607 => ((bourneref17_Right.f k p (p.length : Int)).bind fun t608 => (if (t607 == t608) = true then ((pool_Total.f k p).bind fun t609 => ((bourneref17_Total.f k p).bind fun t610 => (if t609 = t610 then ((pool_Add.f p q).bind fun t611 => ((bourneref17_Add.f k p q).bind fun t614 => ((bourneref17_Same.f k t611 t614).bind fun t617 => (if t617 = true then ((pool_Give.f p a b n).bind fun t618 => ((bourneref17_Give.f k p a b n).bind fun t621 => ((bourneref17_Same.f k t618 t621).bind fun t624 => (some t624)))) else (some false))))) else (some false)))) else (some false)))) else (some false)))) (fun k => by simp only [bournelaw17_PoolTells.j1]; rw [if_neg (by simp), if_pos trivial]) ?_
    refine Ev.bind (Right_ev p a hP (by omega)) ?_
    refine Ev.bind (rright_ev p a hP hpl) ?_
    refine Ev.congr (fun k => by rw [if_pos (beq_self_eq_true _)]) ?_
    refine Ev.bind (Right_ev p _ hP (by omega)) ?_
    refine Ev.bind (rright_ev p _ hP hpl) ?_
    refine Ev.congr (fun k => by rw [if_pos (beq_self_eq_true _)]) ?_
    refine Ev.bind (total_ev p hP (by omega)) ?_
    refine Ev.bind (rtotal_ev p hP (by omega)) ?_
    refine Ev.congr (fun k => by rw [if_pos rfl]) ?_
    have ha : pool_Add.f p q = some (addL p q) := by unfold pool_Add.f; rw [if_pos ⟨hP, hQ, by omega, by omega⟩]
    refine Ev.bind (ev_eq ha) ?_
    refine Ev.bind (radds_ev p q hP hQ hpl hql) ?_
    refine Ev.bind (same_self _ (by unfold addL; rw [addTo_length]; omega)) ?_
    refine Ev.congr (fun k => by rw [if_pos rfl]) ?_
    refine Ev.bind (ev_eq (giveG_now p a b n hP hN hpl)) ?_
    refine Ev.bind (rgive_ev p a b n hP hN hpl) ?_
    exact Ev.bind (same_self _ (by rw [giveG_length]; omega)) (Ev.now _)
  refine Ev.step (f := fun k => (pool_Take.f k p n).bind fun bt577 => ((bourneref17_Take.f k p n).bind fun bt583 => ((pool_From.f p a n).bind fun bt589 => ((bourneref17_From.f k p a n).bind fun bt595 => ((bourneref17_Same.f k bt577.1 bt583.1).bind fun t601 => (if t601 = true then ((bourneref17_Same.f k bt577.2 bt583.2).bind fun t602 => (if t602 = true then ((bourneref17_Same.f k bt589.1 bt595.1).bind fun t603 => (if t603 = true then ((bourneref17_Same.f k bt589.2 bt595.2).bind fun t604 => (bournelaw17_PoolTells.j1 k p q a b n true (!t604))) else (bournelaw17_PoolTells.j1 k p q a b n true true))) else (bournelaw17_PoolTells.j1 k p q a b n true true))) else (bournelaw17_PoolTells.j1 k p q a b n true true))))))) (fun k => by simp only [bournelaw17_PoolTells.j0]; rw [if_neg (by simp)]) ?_
  refine Ev.bind (takeG_ev p n hP hpl) ?_
  refine Ev.bind (rtake_ev p n hP hpl) ?_
  refine Ev.bind (ev_eq (fromG_now p a n hpl)) ?_
  refine Ev.bind (rfrom_ev p a n hpl) ?_
  refine Ev.bind (same_self _ (by rw [takeG_length]; omega)) ?_
  refine Ev.congr (fun k => by rw [if_pos rfl]) ?_
  refine Ev.bind (same_self _ (by rw [lessL_length]; omega)) ?_
  refine Ev.congr (fun k => by rw [if_pos rfl]) ?_
  refine Ev.bind (same_self _ (by rw [takeF_length]; omega)) ?_
  refine Ev.congr (fun k => by rw [if_pos rfl]) ?_
  exact Ev.bind (same_self _ (by rw [lessL_length]; omega)) last
end Go.Proofs.Ytcncjldggfbjdaa.Pure
