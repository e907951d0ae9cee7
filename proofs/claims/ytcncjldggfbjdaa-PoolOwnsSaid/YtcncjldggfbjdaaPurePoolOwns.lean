/-
  The law PoolOwns in plain terms: From takes one owner's water alone, as much as was asked for, or all that it has.
-/
import Derived.Test.YtcncjldggfbjdaaPEyx4
import Derived.Test.YtcncjldggfbjdaaE5
namespace Go.Proofs.Ytcncjldggfbjdaa.Pure
open Go.RowKit Go.Proofs.Ytcncjldggfbjdaa.PEy Go.Proofs.Ytcncjldggfbjdaa.PEx Go.Proofs.YtcncjldggfbjdaaW.PrintWords Go.Proofs.YtcncjldggfbjdaaW.PrintLast Go.Proofs.YtcncjldggfbjdaaW.PrintMore Go.Proofs.Ytcncjldggfbjdaa.E Go.Proofs.Ytcncjldggfbjdaa.G1
set_option linter.unusedVariables false
set_option linter.unusedSimpArgs false

theorem PoolOwns : bournelaw17_PoolOwns.Pure := by
  intro l a n hl1 hl2 hwf hwa hwn
  have hR : l.all i64R = true := by rw [List.all_eq_true]; exact fun x hx => wf_R (hwf x hx)
  have hl : l.length ≤ 9223372036854775807 := by unfold maxLen at hl1; omega
  apply Ev.rounds
  unfold bournelaw17_PoolOwns.f
  refine Ev.bind small17_ev ?_
  refine Ev.bind (Right_ev l (l.length : Int) hR hl) ?_
  by_cases hp : Pool l
  · rw [pool_iff.2 hp]
    have hT := fun i hi => takeF_at hp a n i hi
    have hTl := takeF_length l a n
    have hB := fun i hi => lessL_at l (takeF l a n) i hi
    have hBl := lessL_length l (takeF l a n)
    have hf := from_now hp a n
    generalize takeF l a n = T at *
    generalize lessL l T = B at *
    have loop : ∀ d i : Nat, l.length - i = d → i ≤ l.length → Ev (fun k => bournelaw17_PoolOwns.l0 k l a n true T B i) true := by
      intro d
      induction d with
      | zero =>
        intro i h1 h2
        obtain rfl : i = l.length := by omega
        exact Ev.step (fun k => by simp only [bournelaw17_PoolOwns.l0]; rw [if_neg (by omega)]) (Ev.now _)
      | succ d ih =>
        intro i h1 h2
        have hi : i < l.length := by omega
        have ih' := ih (i + 1) (by omega) (by omega)
        have e1 := hT i hi
        have e2 := hB i hi
        rw [if_pos (by omega)] at e2
        have yes : (i : Int) = a → 0 < n → Ev (fun k => bournelaw17_PoolOwns.j2 k l a n true T B i 0 true) true := fun h3 h4 => by
          rw [if_pos ⟨h3, h4⟩] at e1
          rw [e1] at e2
          refine Ev.step (fun k => ?_) ih'
          simp only [bournelaw17_PoolOwns.j2]
          rw [if_pos trivial, if_pos (by omega), if_pos (by omega), if_pos (by omega), rd_getD, rd_getD, if_pos e1, if_pos (by omega), rd_getD, if_pos e2, wrap_succ i _ hi hl]
        have no : ¬ ((i : Int) = a ∧ 0 < n) → Ev (fun k => bournelaw17_PoolOwns.j2 k l a n true T B i 0 false) true := fun h3 => by
          rw [if_neg h3] at e1
          rw [e1] at e2
          refine Ev.step (fun k => ?_) ih'
          simp only [bournelaw17_PoolOwns.j2]
          rw [if_neg (by simp), if_pos (by omega), if_pos (by omega), rd_getD, if_pos e1, if_pos (by omega), if_pos (by omega), rd_getD, rd_getD, if_pos e2, wrap_succ i _ hi hl]
        by_cases h3 : (i : Int) = a
        · by_cases h4 : 0 < n
          · refine Ev.step (fun k => ?_) (yes h3 h4)
            simp only [bournelaw17_PoolOwns.l0]
            rw [if_pos (by omega), if_pos h3, decide_eq_true (show n > 0 from h4)]
          · refine Ev.step (fun k => ?_) (no (fun h => h4 h.2))
            simp only [bournelaw17_PoolOwns.l0]
            rw [if_pos (by omega), if_pos h3, decide_eq_false (show ¬ n > 0 from h4)]
        · refine Ev.step (fun k => ?_) (no (fun h => h3 h.1))
          simp only [bournelaw17_PoolOwns.l0]
          rw [if_pos (by omega), if_neg h3]
    refine Ev.congr (f := fun k => bournelaw17_PoolOwns.j0 k l a n true T B false) (fun k => ?_) ?_
    · rw [if_pos rfl, hf]
      simp only [Option.bind_some]
      rw [if_pos (by omega)]
      congr 1
      rw [bne_eq_false_iff_eq]; omega
    · refine Ev.step (fun k => ?_) (loop l.length 0 (by omega) (by omega))
      simp only [bournelaw17_PoolOwns.j0]
      rw [if_neg (by simp)]
      rfl
  · have hf : (decide (0 ≤ (l.length : Int)) && (decide ((l.length : Int) ≤ 16) && (decide ((l.length : Int) = (l.length : Int)) && rightB l))) = false := by
      rw [← Bool.not_eq_true, pool_iff]; exact hp
    rw [hf]
    exact Ev.congr (fun k => by rw [if_neg (by simp)]) (Ev.now _)
end Go.Proofs.Ytcncjldggfbjdaa.Pure
