/-
  The law PoolMerges in plain terms: the sum of two right pools holds what both hold, and taking everything from it leaves nothing.
-/
import Derived.Test.YtcncjldggfbjdaaPEyx5
import Derived.Test.YtcncjldggfbjdaaE6
namespace Go.Proofs.Ytcncjldggfbjdaa.Pure
open Go.RowKit Go.Proofs.Ytcncjldggfbjdaa.PEy Go.Proofs.Ytcncjldggfbjdaa.PEx Go.Proofs.YtcncjldggfbjdaaW.PrintWords Go.Proofs.YtcncjldggfbjdaaW.PrintLast Go.Proofs.YtcncjldggfbjdaaW.PrintMore Go.Proofs.Ytcncjldggfbjdaa.E Go.Proofs.Ytcncjldggfbjdaa.G1
set_option linter.unusedVariables false
set_option linter.unusedSimpArgs false

theorem add_at {p q : List Int} (hp : Pool p) (hq : Pool q) (he : q.length = p.length) (i : Nat) (hi : i < p.length) : (addL p q).getD i 0 = p.getD i 0 + q.getD i 0 := by
  have h1 := hp.at_ i; have h2 := hq.at_ i
  unfold addL
  rw [addTo_at _ _ _ _ (by omega), if_pos (by omega)]
  unfold addS
  rw [if_neg (by omega), if_neg (by omega)]
theorem add_length {p q : List Int} (he : q.length = p.length) : (addL p q).length = p.length := by unfold addL; rw [addTo_length]; omega
theorem add_sum {p q : List Int} (hp : Pool p) (hq : Pool q) (he : q.length = p.length) : (addL p q).sum = p.sum + q.sum := by
  have := sum_sub (addL p q) q p (by rw [add_length he, he]) (by rw [add_length he]) (fun i hi => by
    rw [add_length he] at hi
    rw [add_at hp hq he i hi]; omega)
  omega
theorem add_comm {p q : List Int} (hp : Pool p) (hq : Pool q) (he : q.length = p.length) : addL p q = addL q p := by
  refine O.ext_getD (by rw [add_length he, add_length he.symm, he]) fun i hi => ?_
  rw [add_length he] at hi
  rw [add_at hp hq he i hi, add_at hq hp he.symm i (by omega)]; omega
theorem addnow {p q : List Int} (hp : Pool p) (hq : Pool q) : pool_Add.f p q = some (addL p q) := by
  have h1 := hp.len; have h2 := hq.len
  unfold pool_Add.f; rw [if_pos ⟨hp.R, hq.R, by omega, by omega⟩]
theorem PoolMerges : bournelaw17_PoolMerges.Pure := by
  intro l q hl1 hl2 hwf hm1 hm2 hwq
  have hR : l.all i64R = true := by rw [List.all_eq_true]; exact fun x hx => wf_R (hwf x hx)
  have hRq : q.all i64R = true := by rw [List.all_eq_true]; exact fun x hx => wf_R (hwq x hx)
  have hl : l.length ≤ 9223372036854775807 := by unfold maxLen at hl1; omega
  have hlq : q.length ≤ 9223372036854775807 := by unfold maxLen at hm1; omega
  apply Ev.rounds
  unfold bournelaw17_PoolMerges.f
  refine Ev.bind small17_ev ?_
  refine Ev.bind (Right_ev l (l.length : Int) hR hl) ?_
  have out : Ev (fun k => bournelaw17_PoolMerges.j0 k l q true true) true := Ev.step (fun k => by simp only [bournelaw17_PoolMerges.j0]; rfl) (Ev.now _)
  by_cases hp : Pool l
  · rw [pool_iff.2 hp]
    refine Ev.congr (fun k => by rw [if_pos rfl]) ?_
    refine Ev.bind (Right_ev q (l.length : Int) hRq hlq) ?_
    by_cases he : q.length = l.length
    · by_cases hq : Pool q
      · rw [← he, pool_iff.2 hq]
        have hat := fun i hi => add_at hp hq he i hi
        have hsum := add_sum hp hq he
        have hcm := add_comm hp hq he
        have hlen := add_length (p := l) (q := q) he
        have hn1 := addnow hp hq
        have hn2 := addnow hq hp
        rw [← hcm] at hn2
        have hp0 := O.sum_nonneg hp.nn; have hq0 := O.sum_nonneg hq.nn
        have hps := hp.sm; have hqs := hq.sm; have hpl := hp.len
        generalize addL l q = s at *
        have hs0 : ∀ x ∈ s, 0 ≤ x := by
          intro x hx
          obtain ⟨i, hi, rfl⟩ := List.getElem_of_mem hx
          rw [← O.getD_eq _ _ hi, hat i (by omega)]
          have := hp.at_ i; have := hq.at_ i
          omega
        have hsb : ∀ i, i < l.length → s.getD i 0 ≤ 2251799813685248 := by
          intro i hi
          rw [hat i hi]
          have := hp.at_ i; have := hq.at_ i
          omega
        have hsR : s.all i64R = true := by
          rw [List.all_eq_true]
          intro x hx
          obtain ⟨i, hi, rfl⟩ := List.getElem_of_mem hx
          have h1 := hs0 _ hx
          have h2 := hsb i (by omega)
          rw [O.getD_eq _ _ hi] at h2
          rw [i64R_iff]; omega
        have tS : Ev (fun k => pool_Total.f k s) s.sum := by
          have := total_ev s hsR (by omega)
          rwa [total_sum hs0 (by omega)] at this
        have sS : Ev (fun k => bourneref17_Same.f k s s) true := by
          have := same_ev s s (by omega)
          rwa [decide_eq_true rfl] at this
        have fin : Ev (fun k => bournelaw17_PoolMerges.l0 k l q true s (l.length : Int)) true := by
          refine Ev.step (f := fun k => (pool_Total.f k s).bind fun t181 => (if t181 > 1125899906842624 then (if true = true then ((pool_Right.f k s (s.length : Int)).bind fun t182 => (some (!t182))) else (some false)) else ((pool_Total.f k s).bind fun t183 => ((pool_Take.f k s t183).bind fun bt184 => (if true = true then ((bourneref17_Same.f k bt184.1 s).bind fun t190 => (if t190 = true then ((pool_Total.f k bt184.2).bind fun t191 => (if t191 = 0 then ((pool_Right.f k bt184.2 (s.length : Int)).bind fun t192 => (some t192)) else (some false))) else (some false))) else (some false)))))) (fun k => ?_) ?_
          · simp only [bournelaw17_PoolMerges.l0]
            rw [if_neg (by omega)]
          · refine Ev.bind tS ?_
            by_cases hb : s.sum > 1125899906842624
            · refine Ev.congr (fun k => by rw [if_pos hb, if_pos rfl]) ?_
              refine Ev.bind (Right_ev s (s.length : Int) hsR (by omega)) ?_
              have hf : (decide (0 ≤ (s.length : Int)) && (decide ((s.length : Int) ≤ 16) && (decide ((s.length : Int) = (s.length : Int)) && rightB s))) = false := by
                rw [← Bool.not_eq_true, pool_iff]; exact fun h => by have := h.sm; omega
              rw [hf]
              exact Ev.now _
            · refine Ev.congr (fun k => by rw [if_neg hb]) ?_
              refine Ev.bind tS ?_
              have hS : Pool s := ⟨hs0, by omega, by omega⟩
              have hmn : mn s.sum s.sum = s.sum := by unfold mn; split <;> rfl
              have ht : takeT s s.sum = s := by rw [takeT_eq hS (by omega), hmn, hS.whole]
              have hte := take_ev hS s.sum
              have hsp := take_split hS (show 0 ≤ s.sum by omega)
              rw [ht] at hte hsp
              rw [hmn] at hsp
              obtain ⟨_, pB⟩ := hsp.pools hS (by omega) (by omega)
              have hB := hsp.lb; have hBs := hsp.sb
              generalize lessL s s = B at *
              have tB := pB.total; have rB := pB.right
              rw [hBs] at tB
              rw [hB] at rB
              refine Ev.bind hte ?_
              refine Ev.congr (fun k => by rw [if_pos rfl]) ?_
              refine Ev.bind sS ?_
              refine Ev.congr (fun k => by rw [if_pos rfl]) ?_
              refine Ev.bind tB ?_
              refine Ev.congr (fun k => by rw [if_pos (by omega)]) ?_
              exact Ev.bind rB (Ev.now _)
        have loop : ∀ d i : Nat, l.length - i = d → i ≤ l.length → Ev (fun k => bournelaw17_PoolMerges.l0 k l q true s i) true := by
          intro d
          induction d with
          | zero =>
            intro i h1 h2
            obtain rfl : i = l.length := by omega
            exact fin
          | succ d ih =>
            intro i h1 h2
            have hi : i < l.length := by omega
            have hx := hp.at_ i; have hy := hq.at_ i
            have ew : s.getD i 0 = wrap64 (l.getD i 0 + q.getD i 0) := by rw [hat i hi]; exact (wIn (by omega) (by omega)).symm
            refine Ev.step (fun k => ?_) (ih (i + 1) (by omega) (by omega))
            simp only [bournelaw17_PoolMerges.l0]
            rw [if_pos (by omega), if_pos (by omega), if_pos (by omega), if_pos (by omega), rd_getD, rd_getD, rd_getD, if_pos ew, wrap_succ i _ hi hl]
        refine Ev.step (f := fun k => ((pool_Add.f l q).bind fun t168 => ((pool_Add.f q l).bind fun t171 => (if (t168.length : Int) = (l.length : Int) then ((bourneref17_Same.f k t168 t171).bind fun t174 => (if t174 = true then ((pool_Total.f k t168).bind fun t175 => ((pool_Total.f k l).bind fun t176 => ((pool_Total.f k q).bind fun t177 => (bournelaw17_PoolMerges.j1 k l q true t168 (t175 != (wrap64 (t176 + t177))))))) else (bournelaw17_PoolMerges.j1 k l q true t168 true))) else (bournelaw17_PoolMerges.j1 k l q true t168 true))))) (fun k => by simp only [bournelaw17_PoolMerges.j0]; rw [if_neg (by simp)]) ?_
        refine Ev.bind (Ev.congr (fun _ => hn1) (Ev.now _)) ?_
        refine Ev.bind (Ev.congr (fun _ => hn2) (Ev.now _)) ?_
        refine Ev.congr (fun k => by rw [if_pos (by omega)]) ?_
        refine Ev.bind sS ?_
        refine Ev.congr (fun k => by rw [if_pos rfl]) ?_
        refine Ev.bind tS ?_
        refine Ev.bind hp.total ?_
        refine Ev.bind hq.total ?_
        refine Ev.congr (f := fun k => bournelaw17_PoolMerges.j1 k l q true s false) (fun k => ?_) ?_
        · congr 1
          rw [bne_eq_false_iff_eq, hsum]
          exact (wIn (by omega) (by omega)).symm
        · exact Ev.step (f := fun k => bournelaw17_PoolMerges.l0 k l q true s 0) (fun k => by simp only [bournelaw17_PoolMerges.j1]; rw [if_neg (by simp)]) (loop l.length 0 (by omega) (by omega))
      · have hf : (decide (0 ≤ (q.length : Int)) && (decide ((q.length : Int) ≤ 16) && (decide ((q.length : Int) = (q.length : Int)) && rightB q))) = false := by
          rw [← Bool.not_eq_true, pool_iff]; exact hq
        rw [← he, hf]
        exact out
    · have hf : (decide (0 ≤ (l.length : Int)) && (decide ((l.length : Int) ≤ 16) && (decide ((q.length : Int) = (l.length : Int)) && rightB q))) = false := by
        rw [decide_eq_false (show ¬ (q.length : Int) = (l.length : Int) by omega)]; simp
      rw [hf]
      exact out
  · have hf : (decide (0 ≤ (l.length : Int)) && (decide ((l.length : Int) ≤ 16) && (decide ((l.length : Int) = (l.length : Int)) && rightB l))) = false := by
      rw [← Bool.not_eq_true, pool_iff]; exact hp
    rw [hf]
    exact Ev.congr (fun k => by rw [if_neg (by simp)]) out
end Go.Proofs.Ytcncjldggfbjdaa.Pure
