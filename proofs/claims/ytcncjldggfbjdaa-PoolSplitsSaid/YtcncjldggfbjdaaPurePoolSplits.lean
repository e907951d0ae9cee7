/-
  The law PoolSplits in plain terms: what is taken and what is left, and each owner's proportional share.
-/
import Derived.Test.YtcncjldggfbjdaaPEyx6
import Derived.Test.YtcncjldggfbjdaaE6
namespace Go.Proofs.Ytcncjldggfbjdaa.Pure
open Go.RowKit Go.Proofs.Ytcncjldggfbjdaa.PEy Go.Proofs.Ytcncjldggfbjdaa.PEx Go.Proofs.YtcncjldggfbjdaaW.PrintWords Go.Proofs.YtcncjldggfbjdaaW.PrintLast Go.Proofs.YtcncjldggfbjdaaW.PrintMore Go.Proofs.Ytcncjldggfbjdaa.E Go.Proofs.Ytcncjldggfbjdaa.G1
set_option linter.unusedVariables false
set_option linter.unusedSimpArgs false

theorem near_ev {l a b : List Int} {m : Int} (h : Pool l) (s : Split l m a b) (hm : 0 ≤ m) (hm2 : m ≤ l.sum) (hW : 0 < l.sum) (i : Nat) (hi : i < l.length) : Ev (fun k => bournelaw17_near.f k (a.getD i 0) (l.getD i 0) m l.sum) true := by
  have hx := h.at_ i
  have hq := O.quot_le h.nn hW hm2 (List.getElem_mem hi)
  rw [← O.getD_eq _ _ hi] at hq
  have hq0 : 0 ≤ m * l.getD i 0 / l.sum := Int.ediv_nonneg (Int.mul_nonneg hm hx.1) (by omega)
  have hsm := h.sm
  have e : scaleF m (l.getD i 0) l.sum = (m * l.getD i 0 / l.sum, m * l.getD i 0 % l.sum, true) := by
    unfold scaleF
    rw [if_pos]
    simp only [scaleOk, Bool.and_eq_true, decide_eq_true_eq]
    exact ⟨⟨⟨⟨⟨⟨hm, by omega⟩, hx.1⟩, hx.2⟩, by omega⟩, by omega⟩, by omega⟩
  have hs := scale_ev m (l.getD i 0) l.sum
  rw [e] at hs
  unfold bournelaw17_near.f
  refine Ev.bind hs ?_
  have hn := s.near hW i hi
  refine Ev.congr (fun k => ?_) (Ev.now _)
  rw [if_pos rfl]
  rcases hn with h1 | ⟨h1, h2⟩
  · rw [if_pos h1]
  · rw [if_neg (by rw [h1]; show ¬ _ = m * l.getD i 0 / l.sum; omega), if_pos (by rw [h1]; exact (wIn (by show _ ≤ m * l.getD i 0 / l.sum + 1; omega) (by show m * l.getD i 0 / l.sum + 1 ≤ _; omega)).symm), decide_eq_true h2]
theorem PoolSplits : bournelaw17_PoolSplits.Pure := by
  intro l n hl1 hl2 hwf hwn
  have hR : l.all i64R = true := by rw [List.all_eq_true]; exact fun x hx => wf_R (hwf x hx)
  have hl : l.length ≤ 9223372036854775807 := by unfold maxLen at hl1; omega
  apply Ev.rounds
  unfold bournelaw17_PoolSplits.f
  refine Ev.bind small17_ev ?_
  refine Ev.bind (Right_ev l (l.length : Int) hR hl) ?_
  have out : Ev (fun k => bournelaw17_PoolSplits.j0 k l n true true) true := Ev.step (fun k => by simp only [bournelaw17_PoolSplits.j0]; rfl) (Ev.now _)
  by_cases hp : Pool l
  · rw [pool_iff.2 hp]
    by_cases c1 : n < 0
    · exact Ev.congr (fun k => by rw [if_pos rfl, if_pos c1]) out
    by_cases c2 : n > 1125899906842624
    · exact Ev.congr (fun k => by rw [if_pos rfl, if_neg c1, decide_eq_true c2]) out
    refine Ev.congr (fun k => by rw [if_pos rfl, if_neg c1, decide_eq_false c2]) ?_
    have hs0 := O.sum_nonneg hp.nn
    have hm0 : 0 ≤ mn n l.sum := by unfold mn; split <;> omega
    have hm1 : mn n l.sum ≤ l.sum := by unfold mn; split <;> omega
    have hsm := hp.sm
    have hsp := take_split hp (show 0 ≤ n by omega)
    have hte := take_ev hp n
    generalize takeT l n = A at *
    generalize lessL l A = B at *
    obtain ⟨pA, pB⟩ := hsp.pools hp hm0 hm1
    have hnear := fun hW i hi => near_ev hp hsp hm0 hm1 hW i hi
    have hA := hsp.la; have hB := hsp.lb
    have tA := pA.total; have tB := pB.total; have rA := pA.right; have rB := pB.right
    rw [hsp.sa] at tA
    rw [hsp.sb] at tB
    rw [hA] at rA
    rw [hB] at rB
    have fin : Ev (fun k => bournelaw17_PoolSplits.l0 k l true A B l.sum (mn n l.sum) (l.length : Int)) true := by
      refine Ev.step (f := fun k => (pool_Total.f k A).bind fun t210 => (if t210 = mn n l.sum then ((pool_Total.f k B).bind fun t211 => (if t211 = (wrap64 (l.sum - mn n l.sum)) then ((pool_Right.f k A (l.length : Int)).bind fun t212 => (if t212 = true then ((pool_Right.f k B (l.length : Int)).bind fun t213 => (some t213)) else (some false))) else (some false))) else (some false))) (fun k => ?_) ?_
      · simp only [bournelaw17_PoolSplits.l0]
        rw [if_neg (by omega), if_pos trivial]
      · refine Ev.bind tA ?_
        refine Ev.congr (fun k => by rw [if_pos rfl]) ?_
        refine Ev.bind tB ?_
        refine Ev.congr (fun k => by rw [if_pos (wIn (by omega) (by omega)).symm]) ?_
        refine Ev.bind rA ?_
        refine Ev.congr (fun k => by rw [if_pos rfl]) ?_
        exact Ev.bind rB (Ev.now _)
    have loop : ∀ d i : Nat, l.length - i = d → i ≤ l.length → Ev (fun k => bournelaw17_PoolSplits.l0 k l true A B l.sum (mn n l.sum) i) true := by
      intro d
      induction d with
      | zero =>
        intro i h1 h2
        obtain rfl : i = l.length := by omega
        exact fin
      | succ d ih =>
        intro i h1 h2
        have hi : i < l.length := by omega
        have next : Ev (fun k => bournelaw17_PoolSplits.j3 k l true A B l.sum (mn n l.sum) i false) true := by
          refine Ev.step (fun k => ?_) (ih (i + 1) (by omega) (by omega))
          simp only [bournelaw17_PoolSplits.j3]
          rw [if_neg (by simp), wrap_succ i _ hi hl]
        have ha0 := hsp.a0 i hi
        have hal := hsp.al i hi
        have hab := hsp.ab i hi
        have hx := hp.at_ i
        have ew : wrap64 (A.getD i 0 + B.getD i 0) = l.getD i 0 := by rw [hab]; unfold wrap64; omega
        by_cases hW : l.sum > 0
        · refine Ev.step (f := fun k => (bournelaw17_near.f k (A.getD i 0) (l.getD i 0) (mn n l.sum) l.sum).bind fun t209 => (bournelaw17_PoolSplits.j3 k l true A B l.sum (mn n l.sum) i (!t209))) (fun k => ?_) (Ev.bind (hnear hW i hi) next)
          simp only [bournelaw17_PoolSplits.l0]
          rw [if_pos (by omega), if_pos (by omega), if_pos (by omega), rd_getD, if_neg (by omega), if_pos (by omega), rd_getD, if_neg (by omega), rd_getD, if_pos ew, if_pos hW]
        · refine Ev.step (fun k => ?_) next
          simp only [bournelaw17_PoolSplits.l0]
          rw [if_pos (by omega), if_pos (by omega), if_pos (by omega), rd_getD, if_neg (by omega), if_pos (by omega), rd_getD, if_neg (by omega), rd_getD, if_pos ew, if_neg hW]
    refine Ev.step (f := fun k => (pool_Take.f k l n).bind fun bt195 => (if (bt195.1.length : Int) = (l.length : Int) then (bournelaw17_PoolSplits.j1 k l n true bt195.1 bt195.2 ((bt195.2.length : Int) != (l.length : Int))) else (bournelaw17_PoolSplits.j1 k l n true bt195.1 bt195.2 true))) (fun k => by simp only [bournelaw17_PoolSplits.j0]; rw [if_neg (by simp)]) ?_
    refine Ev.bind hte ?_
    refine Ev.congr (f := fun k => bournelaw17_PoolSplits.j1 k l n true A B false) (fun k => ?_) ?_
    · rw [if_pos (by show (A.length : Int) = _; omega)]
      congr 1
      rw [bne_eq_false_iff_eq]
      show (B.length : Int) = _
      omega
    · refine Ev.step (f := fun k => (pool_Total.f k l).bind fun t201 => (bournelaw17_PoolSplits.l0 k l true A B t201 (mn n t201) 0)) (fun k => by simp only [bournelaw17_PoolSplits.j1]; rw [if_neg (by simp)]) ?_
      exact Ev.bind hp.total (loop l.length 0 (by omega) (by omega))
  · have hf : (decide (0 ≤ (l.length : Int)) && (decide ((l.length : Int) ≤ 16) && (decide ((l.length : Int) = (l.length : Int)) && rightB l))) = false := by
      rw [← Bool.not_eq_true, pool_iff]; exact hp
    rw [hf]
    exact Ev.congr (fun k => by rw [if_neg (by simp)]) out
end Go.Proofs.Ytcncjldggfbjdaa.Pure
