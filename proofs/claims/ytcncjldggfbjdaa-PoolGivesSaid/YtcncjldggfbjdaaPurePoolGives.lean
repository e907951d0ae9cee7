/-
  The law PoolGives in plain terms: what is given changes the water of two owners alone, and giving it back restores the pool.
-/
import Derived.Test.YtcncjldggfbjdaaPExx20
import Derived.Test.YtcncjldggfbjdaaE5
namespace Go.Proofs.Ytcncjldggfbjdaa.Pure
open Go.RowKit Go.Proofs.Ytcncjldggfbjdaa.PEx Go.Proofs.YtcncjldggfbjdaaW.PrintWords Go.Proofs.YtcncjldggfbjdaaW.PrintLast Go.Proofs.YtcncjldggfbjdaaW.PrintMore Go.Proofs.Ytcncjldggfbjdaa.E Go.Proofs.Ytcncjldggfbjdaa.G1
set_option linter.unusedVariables false
set_option linter.unusedSimpArgs false

theorem back_eq {l : List Int} (h : Pool l) (a b : Nat) (n : Int) (ha : a < l.length) (hb : b < l.length) (hab : a ≠ b) :
    giveF (giveF l a b n) b a ((giveF l a b n).getD b 0 - l.getD b 0) = l := by
  have hxa := h.at_ a; have hxb := h.at_ b
  refine O.ext_getD (by rw [giveF_length, giveF_length]) fun i hi => ?_
  rw [giveF_at b a _ (by rw [giveF_length]; exact hb) (by rw [giveF_length]; exact ha)]
  simp only [giveF_at a b n ha hb]
  simp only [if_true, if_neg (show ¬ a = b from hab)]
  by_cases hm : 0 < mn n (l.getD a 0)
  · simp only [if_pos hm]
    generalize mn n (l.getD a 0) = m at *
    have e : mn (l.getD b 0 + m - l.getD b 0) (l.getD b 0 + m) = m := by unfold mn; split <;> omega
    rw [e, if_pos hm]
    by_cases h1 : i = a
    · subst h1; rw [if_pos rfl]; omega
    · rw [if_neg h1]
      by_cases h2 : i = b
      · subst h2; rw [if_pos rfl]; omega
      · rw [if_neg h2, if_neg h2, if_neg h1]
  · simp only [if_neg hm]
    rw [if_neg (by unfold mn; split <;> omega)]
theorem PoolGives : bournelaw17_PoolGives.Pure := by
  intro l a b n hl1 hl2 hwf hwa hwb hwn
  have hR : l.all i64R = true := by rw [List.all_eq_true]; exact fun x hx => wf_R (hwf x hx)
  have hl : l.length ≤ 9223372036854775807 := by unfold maxLen at hl1; omega
  have hnR := i64R_iff.1 (wf_R hwn)
  apply Ev.rounds
  unfold bournelaw17_PoolGives.f
  refine Ev.bind small17_ev ?_
  refine Ev.bind (Right_ev l (l.length : Int) hR hl) ?_
  have out : Ev (fun k => bournelaw17_PoolGives.j0 k l a b n true true) true := Ev.step (fun k => by simp only [bournelaw17_PoolGives.j0]; rfl) (Ev.now _)
  by_cases hp : Pool l
  · rw [pool_iff.2 hp]
    by_cases c1 : a < 0
    · exact Ev.congr (fun k => by rw [if_pos rfl, if_pos c1]) out
    by_cases c2 : a ≥ (l.length : Int)
    · exact Ev.congr (fun k => by rw [if_pos rfl, if_neg c1, if_pos c2]) out
    by_cases c3 : b < 0
    · exact Ev.congr (fun k => by rw [if_pos rfl, if_neg c1, if_neg c2, if_pos c3]) out
    by_cases c4 : b ≥ (l.length : Int)
    · exact Ev.congr (fun k => by rw [if_pos rfl, if_neg c1, if_neg c2, if_neg c3, if_pos c4]) out
    by_cases c5 : a = b
    · exact Ev.congr (fun k => by rw [if_pos rfl, if_neg c1, if_neg c2, if_neg c3, if_neg c4, beq_iff_eq.2 c5]) out
    refine Ev.congr (fun k => by rw [if_pos rfl, if_neg c1, if_neg c2, if_neg c3, if_neg c4, beq_eq_false_iff_ne.2 c5]) ?_
    obtain ⟨a, rfl⟩ := Int.eq_ofNat_of_zero_le (show 0 ≤ a by omega)
    obtain ⟨b, rfl⟩ := Int.eq_ofNat_of_zero_le (show 0 ≤ b by omega)
    have ha : a < l.length := by omega
    have hb : b < l.length := by omega
    have hab : a ≠ b := fun e => c5 (by rw [e])
    obtain ⟨hq, hqs⟩ := give_pool hp a b n ha hb hab
    have hback := back_eq hp a b n ha hb hab
    have hat := giveF_at (l := l) a b n ha hb
    have hql := giveF_length l a b n
    have hxa := hp.at_ a; have hxb := hp.at_ b
    have hmn : mn n (l.getD a 0) ≤ n ∧ mn n (l.getD a 0) ≤ l.getD a 0 := by unfold mn; split <;> omega
    have hgv : 0 ≤ (giveF l a b n).getD b 0 - l.getD b 0 ∧ (giveF l a b n).getD b 0 - l.getD b 0 ≤ mx 0 n ∧ (giveF l a b n).getD b 0 - l.getD b 0 ≤ 1125899906842624 := by
      rw [hat b]
      by_cases hm : 0 < mn n (l.getD a 0)
      · rw [if_pos hm, if_pos rfl]
        unfold mx
        split <;> omega
      · rw [if_neg hm]
        unfold mx
        split <;> omega
    have hqa : 0 ≤ (giveF l a b n).getD a 0 := (hq.at_ a).1
    have hgn := give_now hq b a ((giveF l a b n).getD b 0 - l.getD b 0) (by omega) (by omega) (Ne.symm hab)
    rw [hback] at hgn
    have hoff : ∀ i, i ≠ a → i ≠ b → (giveF l a b n).getD i 0 = l.getD i 0 := fun i h1 h2 => by
      rw [hat i]
      by_cases hm : 0 < mn n (l.getD a 0)
      · rw [if_pos hm, if_neg h2, if_neg h1]
      · rw [if_neg hm]
    have hgf := give_now hp a b n ha hb hab
    have ht1 := hq.total
    have ht2 := hp.total
    rw [hqs] at ht1
    generalize giveF l a b n = q at *
    clear hback hat hqs hmn
    have fin : Ev (fun k => bournelaw17_PoolGives.l0 k l a b n true q (l.length : Int)) true := by
      refine Ev.step (f := fun k => (bourneref17_Same.f k l l).bind fun t463 => (some t463)) (fun k => ?_) ?_
      · simp only [bournelaw17_PoolGives.l0]
        rw [if_neg (by omega), if_pos (by omega), if_pos (by omega), if_pos (by omega), rd_getD, rd_getD, wIn (by omega) (by omega), hgn]
        simp only [Option.bind_some]
        rw [if_pos trivial, if_pos (by omega), if_pos hgv.2.1, if_pos (by omega), if_pos (by omega), rd_getD, if_pos hqa]
      · have := same_ev l l hl
        rw [decide_eq_true rfl] at this
        exact Ev.bind this (Ev.now _)
    have loop : ∀ d i : Nat, l.length - i = d → i ≤ l.length → Ev (fun k => bournelaw17_PoolGives.l0 k l a b n true q i) true := by
      intro d
      induction d with
      | zero =>
        intro i h1 h2
        obtain rfl : i = l.length := by omega
        exact fin
      | succ d ih =>
        intro i h1 h2
        have hi : i < l.length := by omega
        refine Ev.step (fun k => ?_) (ih (i + 1) (by omega) (by omega))
        simp only [bournelaw17_PoolGives.l0]
        rw [if_pos (by omega), wrap_succ i _ hi hl]
        by_cases e1 : i = a
        · rw [if_pos (by omega)]
        · rw [if_neg (by omega)]
          by_cases e2 : i = b
          · rw [if_pos (by omega)]
          · rw [if_neg (by omega), if_pos (by omega), if_pos (by omega), rd_getD, rd_getD, if_pos (hoff i e1 e2)]
    refine Ev.step (f := fun k => (pool_Total.f k q).bind fun t453 => ((pool_Total.f k l).bind fun t454 => (bournelaw17_PoolGives.j1 k l a b n true q (t453 != t454)))) (fun k => ?_) ?_
    · simp only [bournelaw17_PoolGives.j0]
      rw [if_neg (by simp), hgf]
      simp only [Option.bind_some]
      rw [if_pos (by omega)]
    · refine Ev.bind ht1 (Ev.bind ht2 ?_)
      refine Ev.step (fun k => ?_) (loop l.length 0 (by omega) (by omega))
      simp only [bournelaw17_PoolGives.j1]
      rw [if_neg (by simp)]
      rfl
  · have hf : (decide (0 ≤ (l.length : Int)) && (decide ((l.length : Int) ≤ 16) && (decide ((l.length : Int) = (l.length : Int)) && rightB l))) = false := by
      rw [← Bool.not_eq_true, pool_iff]; exact hp
    rw [hf]
    exact Ev.congr (fun k => by rw [if_neg (by simp)]) out
end Go.Proofs.Ytcncjldggfbjdaa.Pure
