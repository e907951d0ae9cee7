/-
  The law ExactLimits in plain terms: limited addition and subtraction, and what stays between two limits.
-/
import Derived.Test.YtcncjldggfbjdaaPEmx2
import Derived.Test.YtcncjldggfbjdaaE7
namespace Go.Proofs.Ytcncjldggfbjdaa.Pure
open Go.RowKit Go.Proofs.Ytcncjldggfbjdaa.PEm Go.Proofs.Ytcncjldggfbjdaa.PEx Go.Proofs.YtcncjldggfbjdaaW.PrintWords Go.Proofs.YtcncjldggfbjdaaW.PrintLast Go.Proofs.YtcncjldggfbjdaaW.PrintMore Go.Proofs.Ytcncjldggfbjdaa.E Go.Proofs.Ytcncjldggfbjdaa.G1
set_option linter.unusedVariables false
set_option linter.unusedSimpArgs false

theorem wfR {x : Int} (h : (Lit.int .i64 x).wf = true) : i64R x = true := by
  rw [i64R_iff]
  simp only [Lit.wf] at h
  simpa [show IntKind.i64.min = -9223372036854775808 from rfl] using h
def clF (c a b : Int) : Int := if c < a then a else if c > b then b else c
theorem clamp_now (c a b : Int) : exact_Clamp.f c a b = some (clF c a b) := by
  unfold exact_Clamp.f clF
  by_cases h1 : c < a
  · rw [if_pos h1, if_pos h1]
  · rw [if_neg h1, if_neg h1]
    by_cases h2 : c > b
    · rw [if_pos h2, if_pos h2]
    · rw [if_neg h2, if_neg h2]
theorem fin_ev (a b c : Int) : Ev (fun k => bournelaw01_ExactLimits.j3 k a b c true true true true true) true := by
  have j4 : Ev (fun k => bournelaw01_ExactLimits.j4 k true true true true true true) true :=
    Ev.step (f := fun k => bournelaw01_ExactLimits.j5 k true) (fun k => by simp only [bournelaw01_ExactLimits.j4, if_true]) (Ev.step (fun k => by simp only [bournelaw01_ExactLimits.j5]) (Ev.now _))
  refine Ev.step (fun k => ?_) j4
  simp only [bournelaw01_ExactLimits.j3, clamp_now, Option.bind_some]
  by_cases h1 : a > b
  · rw [if_pos h1]
  have e1 : clF c a b ≥ a := by unfold clF; split; omega; split <;> omega
  have e2 : clF c a b ≤ b := by unfold clF; split; omega; split <;> omega
  have e3 : clF (clF c a b) a b = clF c a b := by rw [clF, if_neg (by omega), if_neg (by omega)]
  rw [if_neg h1, if_pos e1, if_pos e2, if_pos e3]
  by_cases h2 : c < a
  · rw [if_pos h2]
  rw [if_neg h2]
  by_cases h3 : c > b
  · rw [if_pos h3]
  rw [if_neg h3]
  have e4 : (clF c a b == c) = true := by rw [beq_iff_eq, clF, if_neg h2, if_neg h3]
  rw [e4]
theorem ExactLimits : bournelaw01_ExactLimits.Pure := by
  intro a b c hwa hwb hwc
  have ha := wfR hwa; have hb := wfR hwb; have hc := wfR hwc
  have a1 := i64R_iff.1 ha; have b1 := i64R_iff.1 hb; have c1 := i64R_iff.1 hc
  have z : i64R 0 = true := by decide
  have sR := addS_R a b
  apply Ev.rounds
  unfold bournelaw01_ExactLimits.f
  refine Ev.bind small_ev ?_
  refine Ev.bind (Ev.congr (fun _ => add_now ha hb) (Ev.now _)) ?_
  refine Ev.bind (Ev.congr (fun _ => sub_now ha hb) (Ev.now _)) ?_
  refine Ev.bind (Ev.congr (fun _ => add_now hb ha) (Ev.now _)) ?_
  have e1 : addS a b = addS b a := by unfold addS; rw [Int.add_comm]
  refine Ev.congr (fun k => by rw [if_pos e1]) ?_
  refine Ev.bind (Ev.congr (fun _ => add_now ha z) (Ev.now _)) ?_
  have e2 : addS a 0 = a := by unfold addS; rw [if_neg (by omega), if_neg (by omega)]; omega
  refine Ev.congr (fun k => by rw [if_pos e2]) ?_
  refine Ev.bind (Ev.congr (fun _ => sub_now ha z) (Ev.now _)) ?_
  have e3 : subS a 0 = a := by unfold subS; rw [if_neg (by omega), if_neg (by omega)]; omega
  refine Ev.congr (fun k => by rw [if_pos e3]) ?_
  refine Ev.bind (Ev.congr (fun _ => sub_now ha ha) (Ev.now _)) ?_
  have e4 : subS a a = 0 := by unfold subS; rw [if_neg (by omega), if_neg (by omega)]; omega
  rw [e4]
  have j2 : Ev (fun k => bournelaw01_ExactLimits.j2 k a b c true true true true) true := by
    by_cases h1 : a > c
    · exact Ev.step (fun k => by simp only [bournelaw01_ExactLimits.j2]; rw [if_pos h1]) (fin_ev a b c)
    · refine Ev.step (fun k => ?_) (fin_ev a b c)
      simp only [bournelaw01_ExactLimits.j2, add_now ha hb, add_now hc hb, sub_now ha hb, sub_now hc hb, Option.bind_some]
      rw [if_neg h1]
      have g1 : addS a b ≤ addS c b := by unfold addS; (repeat' split) <;> omega
      have g2 : subS a b ≤ subS c b := by unfold subS; (repeat' split) <;> omega
      rw [if_pos g1, decide_eq_true g2]
  have j1 : Ev (fun k => bournelaw01_ExactLimits.j1 k a b c true (addS a b) true true) true := by
    refine Ev.step (fun k => ?_) j2
    simp only [bournelaw01_ExactLimits.j1, sub_now sR hb, sub_now sR ha, Option.bind_some]
    by_cases h1 : addS a b = 9223372036854775807
    · rw [if_pos h1]
    rw [if_neg h1]
    by_cases h2 : addS a b = (-9223372036854775808)
    · rw [if_pos h2]
    rw [if_neg h2]
    have e : addS a b = a + b := by
      unfold addS at h1 h2 ⊢
      split at h1
      · omega
      · next g1 =>
        rw [if_neg g1] at h2 ⊢
        split at h2
        · omega
        · next g2 => rw [if_neg g2]
    have g1 : subS (addS a b) b = a := by rw [e]; unfold subS; rw [if_neg (by omega), if_neg (by omega)]; omega
    have g2 : subS (addS a b) a = b := by rw [e]; unfold subS; rw [if_neg (by omega), if_neg (by omega)]; omega
    rw [if_pos g1, beq_iff_eq.2 g2]
  refine Ev.step (fun k => ?_) j1
  simp only [bournelaw01_ExactLimits.j0]
  have eb : ((0 : Int) == 0) = true := rfl
  rw [eb]
  have lo : b ≤ 0 → addS a b ≤ a := by intro h; unfold addS; (repeat' split) <;> omega
  have hi : 0 ≤ b → addS a b ≥ a := by intro h; unfold addS; (repeat' split) <;> omega
  have dlo : 0 ≤ b → subS a b ≤ a := by intro h; unfold subS; (repeat' split) <;> omega
  have dhi : b ≤ 0 → subS a b ≥ a := by intro h; unfold subS; (repeat' split) <;> omega
  by_cases h1 : b < 0
  · rw [if_pos h1, if_neg (by omega), if_pos (lo (by omega)), decide_eq_true (dhi (by omega))]
  rw [if_neg h1, if_pos (hi (by omega))]
  by_cases h2 : b > 0
  · rw [if_pos h2, if_pos (dlo (by omega))]
  rw [if_neg h2, if_pos (lo (by omega)), if_pos (dlo (by omega)), decide_eq_true (dhi (by omega))]
end Go.Proofs.Ytcncjldggfbjdaa.Pure
