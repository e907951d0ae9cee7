import Derived.Test.YtcncjldggfbjdaaE2
import Derived.Test.YtcncjldggfbjdaaPExx17
import Derived.Test.YtcncjldggfbjdaaPExx18
import Derived.Test.YtcncjldggfbjdaaO3
namespace Go.Proofs.Ytcncjldggfbjdaa.E
open Go.RowKit Go.Proofs.YtcncjldggfbjdaaW.PrintWords Go.Proofs.YtcncjldggfbjdaaW.PrintLast Go.Proofs.YtcncjldggfbjdaaW.PrintMore Go.Proofs.Ytcncjldggfbjdaa.G0 Go.Proofs.Ytcncjldggfbjdaa.G1 Go.Proofs.Ytcncjldggfbjdaa.G2 Go.Proofs.Ytcncjldggfbjdaa.PEx Go.Proofs.Ytcncjldggfbjdaa.O
set_option linter.unusedVariables false
set_option linter.unusedSimpArgs false

theorem rd_getD (xs : List Int) (i : Nat) : rd xs (i : Int) = xs.getD i 0 := by simp [rd]
theorem drop_cons (l : List Int) (i : Nat) (h : i < l.length) : l.drop i = l.getD i 0 :: l.drop (i + 1) := by rw [List.drop_eq_getElem_cons h, O.getD_eq _ _ h]
theorem wrap_succ (i n : Nat) (h : i < n) (hn : n ≤ 9223372036854775807) : wrap64 ((i : Int) + 1) = ((i + 1 : Nat) : Int) := by unfold wrap64; omega
theorem wf_R {x : Int} (h : (Lit.int .i64 x).wf = true) : i64R x = true := by
  rw [i64R_iff]
  simp only [Lit.wf] at h
  simpa [show IntKind.i64.min = -9223372036854775808 from rfl] using h
/-- All elements are nothing less than 0, and the sum is a volume. -/
def rightB (l : List Int) : Bool := l.all (fun x => decide (0 ≤ x)) && decide (l.sum ≤ 1125899906842624)
theorem right_ev (l : List Int) (hR : l.all i64R = true) (hl : l.length ≤ 9223372036854775807) : Ev (fun k => pool_right.f k l) (rightB l) := by
  have go : ∀ d i : Nat, l.length - i = d → i ≤ l.length → (∀ j, j < i → 0 ≤ l.getD j 0) → Ev (fun k => pool_right.l0 k l l (l.length : Int) i) (rightB l) := by
    intro d
    induction d with
    | zero =>
      intro i h1 h2 h3
      obtain rfl : i = l.length := by omega
      have hall : l.all (fun x => decide (0 ≤ x)) = true := by
        rw [List.all_eq_true]
        intro x hx
        obtain ⟨j, hj, rfl⟩ := List.mem_iff_getElem.1 hx
        rw [← O.getD_eq _ _ hj]
        exact decide_eq_true (h3 j hj)
      refine Ev.step (fun k => ?_) (Ev.now _)
      simp only [pool_right.l0]
      rw [if_neg (by omega)]
      unfold exact_Sum.f rightB
      rw [if_pos hR, hall, Bool.true_and]
      simp only [Option.bind_some]
      have h0 := O.sum_nonneg (l := l) (fun x hx => by
        rw [List.all_eq_true] at hall
        exact of_decide_eq_true (hall x hx))
      by_cases hs : -9223372036854775808 ≤ l.sum ∧ l.sum ≤ 9223372036854775807
      · rw [if_pos hs, if_pos rfl]
      · rw [if_neg hs, if_neg (by simp), decide_eq_false (by omega)]
    | succ d ih =>
      intro i h1 h2 h3
      have hi : i < l.length := by omega
      by_cases hx : l.getD i 0 < 0
      · have hb : rightB l = false := by
          unfold rightB
          rw [Bool.and_eq_false_iff]
          left
          rw [List.all_eq_false]
          exact ⟨l[i], List.getElem_mem hi, by rw [← O.getD_eq _ _ hi, decide_eq_true_eq]; omega⟩
        refine Ev.step (fun k => ?_) (Ev.now _)
        simp only [pool_right.l0]
        rw [if_pos (by omega), if_pos (by omega), if_pos (by omega), rd_getD, if_pos hx, hb]
      · refine Ev.step (fun k => ?_) (ih (i + 1) (by omega) (by omega) (fun j hj => by
          by_cases e : j = i
          · subst e; omega
          · exact h3 j (by omega)))
        simp only [pool_right.l0]
        rw [if_pos (by omega), if_pos (by omega), if_pos (by omega), rd_getD, if_neg hx, wrap_succ i _ hi hl]
  exact go l.length 0 (by omega) (by omega) (fun j hj => by omega)
theorem Right_ev (l : List Int) (a : Int) (hR : l.all i64R = true) (hl : l.length ≤ 9223372036854775807) : Ev (fun k => pool_Right.f k l a) (decide (0 ≤ a) && (decide (a ≤ 16) && (decide ((l.length : Int) = a) && rightB l))) := by
  unfold pool_Right.f
  by_cases h1 : a ≥ 0
  · by_cases h2 : a ≤ 16
    · by_cases h3 : (l.length : Int) = a
      · refine Ev.congr (fun k => by rw [if_pos h1, if_pos h2, if_pos h3]) ?_
        rw [decide_eq_true (show 0 ≤ a by omega), decide_eq_true h2, decide_eq_true h3, Bool.true_and, Bool.true_and, Bool.true_and]
        exact Ev.bind (right_ev l hR hl) (Ev.now _)
      · refine Ev.congr (fun k => by rw [if_pos h1, if_pos h2, if_neg h3]) ?_
        rw [decide_eq_false h3, Bool.false_and, Bool.and_false, Bool.and_false]
        exact Ev.now _
    · refine Ev.congr (fun k => by rw [if_pos h1, if_neg h2]) ?_
      rw [decide_eq_false h2, Bool.false_and, Bool.and_false]
      exact Ev.now _
  · refine Ev.congr (fun k => by rw [if_neg h1]) ?_
    rw [decide_eq_false (show ¬ 0 ≤ a by omega), Bool.false_and]
    exact Ev.now _
def totalF (l : List Int) : Int := l.foldl addS 0
theorem total_ev (l : List Int) (hR : l.all i64R = true) (hl : l.length ≤ 9223372036854775807) : Ev (fun k => pool_Total.f k l) (totalF l) := by
  have go : ∀ d i : Nat, ∀ acc : Int, i64R acc = true → l.length - i = d → i ≤ l.length → Ev (fun k => pool_Total.l0 k acc l (l.length : Int) i) ((l.drop i).foldl addS acc) := by
    intro d
    induction d with
    | zero =>
      intro i acc ha h1 h2
      obtain rfl : i = l.length := by omega
      rw [List.drop_length]
      exact Ev.step (fun k => by simp only [pool_Total.l0]; rw [if_neg (by omega)]; rfl) (Ev.now _)
    | succ d ih =>
      intro i acc ha h1 h2
      have hi : i < l.length := by omega
      rw [drop_cons l i hi, List.foldl_cons]
      refine Ev.step (fun k => ?_) (ih (i + 1) (addS acc (l.getD i 0)) (addS_R _ _) (by omega) (by omega))
      simp only [pool_Total.l0]
      rw [if_pos (by omega), if_pos (by omega), if_pos (by omega), rd_getD, add_now ha (getD_R hR i)]
      simp only [Option.bind_some]
      rw [wrap_succ i _ hi hl]
  exact go l.length 0 0 rfl (by omega) (by omega)
theorem foldl_addS : ∀ (l : List Int) (a : Int), (∀ x ∈ l, 0 ≤ x) → 0 ≤ a → a + l.sum ≤ 9223372036854775807 → l.foldl addS a = a + l.sum
  | [], a, _, _, _ => by simp
  | x :: l, a, h, h0, h2 => by
    rw [List.sum_cons] at h2
    have hx := h x (by simp)
    have hs := O.sum_nonneg (l := l) (fun y hy => h y (by simp [hy]))
    have e : addS a x = a + x := by unfold addS; rw [if_neg (by omega), if_neg (by omega)]
    rw [List.foldl_cons, e, foldl_addS l (a + x) (fun y hy => h y (by simp [hy])) (by omega) (by omega), List.sum_cons]
    omega
theorem total_sum {l : List Int} (h : ∀ x ∈ l, 0 ≤ x) (h2 : l.sum ≤ 9223372036854775807) : totalF l = l.sum := by
  unfold totalF
  rw [foldl_addS l 0 h (by omega) (by omega)]; omega
theorem same_ev (xs ys : List Int) (hl : xs.length ≤ 9223372036854775807) : Ev (fun k => bourneref17_Same.f k xs ys) (decide (xs = ys)) := by
  by_cases hlen : xs.length = ys.length
  · have go : ∀ d i : Nat, xs.length - i = d → i ≤ xs.length → (∀ j, j < i → xs.getD j 0 = ys.getD j 0) → Ev (fun k => bourneref17_Same.l0 k xs ys i) (decide (xs = ys)) := by
      intro d
      induction d with
      | zero =>
        intro i h1 h2 h3
        obtain rfl : i = xs.length := by omega
        have e : xs = ys := O.ext_getD hlen h3
        rw [decide_eq_true e]
        exact Ev.step (fun k => by simp only [bourneref17_Same.l0]; rw [if_neg (by omega)]) (Ev.now _)
      | succ d ih =>
        intro i h1 h2 h3
        by_cases hx : xs.getD i 0 = ys.getD i 0
        · refine Ev.step (fun k => ?_) (ih (i + 1) (by omega) (by omega) (fun j hj => by
            by_cases e : j = i
            · subst e; exact hx
            · exact h3 j (by omega)))
          simp only [bourneref17_Same.l0]
          rw [if_pos (by omega), if_pos (by omega), if_pos (by omega), rd_getD, rd_getD, if_pos hx, wrap_succ i _ (by omega) hl]
        · rw [decide_eq_false (fun e => hx (by rw [e]))]
          refine Ev.step (fun k => ?_) (Ev.now _)
          simp only [bourneref17_Same.l0]
          rw [if_pos (by omega), if_pos (by omega), if_pos (by omega), rd_getD, rd_getD, if_neg hx]
    unfold bourneref17_Same.f
    exact Ev.congr (fun k => by rw [if_pos (by omega)]; rfl) (go xs.length 0 (by omega) (by omega) (fun j hj => by omega))
  · rw [decide_eq_false (fun e => hlen (by rw [e]))]
    unfold bourneref17_Same.f
    exact Ev.congr (fun k => by rw [if_neg (by omega)]) (Ev.now _)
theorem small17_now : bournelaw17_small.f 40 = some true := by decide +kernel
theorem small17_ev : Ev (fun k => bournelaw17_small.f k) true := Ev.of (bournelaw17_small.mono) small17_now
/-- A right pool of its own length. -/
structure Pool (l : List Int) : Prop where
  nn : ∀ x ∈ l, 0 ≤ x
  sm : l.sum ≤ 1125899906842624
  len : l.length ≤ 16
theorem Pool.bd {l : List Int} (h : Pool l) {x : Int} (hx : x ∈ l) : 0 ≤ x ∧ x ≤ 1125899906842624 := ⟨h.nn x hx, Int.le_trans (O.mem_le_sum h.nn hx) h.sm⟩
theorem Pool.at_ {l : List Int} (h : Pool l) (i : Nat) : 0 ≤ l.getD i 0 ∧ l.getD i 0 ≤ 1125899906842624 := by
  by_cases hi : i < l.length
  · rw [O.getD_eq _ _ hi]; exact h.bd (List.getElem_mem hi)
  · rw [List.getD_eq_getElem?_getD, List.getElem?_eq_none (by omega)]; simp
theorem Pool.R {l : List Int} (h : Pool l) : l.all i64R = true := by
  rw [List.all_eq_true]
  intro x hx
  have := h.bd hx
  rw [i64R_iff]; omega
theorem pool_iff {l : List Int} : (decide (0 ≤ (l.length : Int)) && (decide ((l.length : Int) ≤ 16) && (decide ((l.length : Int) = (l.length : Int)) && rightB l))) = true ↔ Pool l := by
  unfold rightB
  simp only [Bool.and_eq_true, decide_eq_true_eq, List.all_eq_true]
  exact ⟨fun ⟨_, h2, _, h3, h4⟩ => ⟨h3, h4, by omega⟩, fun h => ⟨by omega, by have := h.len; omega, trivial, h.nn, h.sm⟩⟩
theorem Pool.right {l : List Int} (h : Pool l) : Ev (fun k => pool_Right.f k l (l.length : Int)) true := by
  have := Right_ev l (l.length : Int) h.R (by have := h.len; omega)
  rwa [pool_iff.2 h] at this
theorem Pool.total {l : List Int} (h : Pool l) : Ev (fun k => pool_Total.f k l) l.sum := by
  have := total_ev l h.R (by have := h.len; omega)
  rwa [total_sum h.nn (by have := h.sm; omega)] at this
end Go.Proofs.Ytcncjldggfbjdaa.E
