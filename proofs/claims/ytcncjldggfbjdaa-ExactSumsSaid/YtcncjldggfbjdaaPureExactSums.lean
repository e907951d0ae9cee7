/-
  The law ExactSums in plain terms: the sum does not depend on the order, the negated list has the negated sum, and parts add up.
-/
import Derived.Test.YtcncjldggfbjdaaPEyx3
import Derived.Test.YtcncjldggfbjdaaE4
import Derived.Test.YtcncjldggfbjdaaE7
namespace Go.Proofs.Ytcncjldggfbjdaa.Pure
open Go.RowKit Go.Proofs.Ytcncjldggfbjdaa.PEy Go.Proofs.Ytcncjldggfbjdaa.PEx Go.Proofs.YtcncjldggfbjdaaW.PrintWords Go.Proofs.YtcncjldggfbjdaaW.PrintLast Go.Proofs.YtcncjldggfbjdaaW.PrintMore Go.Proofs.Ytcncjldggfbjdaa.E Go.Proofs.Ytcncjldggfbjdaa.G1
set_option linter.unusedVariables false
set_option linter.unusedSimpArgs false

def fineB (l : List Int) : Bool := l.all fun x => decide (x > -9223372036854775808)
def minusL (l : List Int) : List Int := (l.map fun x => subS 0 x).reverse
theorem minus_R (l : List Int) : (minusL l).all i64R = true := by
  rw [List.all_eq_true]; intro x hx
  simp only [minusL, List.mem_reverse, List.mem_map] at hx
  obtain ⟨y, _, rfl⟩ := hx
  exact subS_R 0 y
theorem neg_sum : ∀ (l : List Int), (∀ x ∈ l, i64R x = true) → fineB l = true → (l.map fun x => subS 0 x).sum = -l.sum
  | [], _, _ => rfl
  | x :: l, hR, h => by
    simp only [fineB, List.all_cons, Bool.and_eq_true, decide_eq_true_eq] at h
    have hx := i64R_iff.1 (hR x (by simp))
    have := neg_sum l (fun y hy => hR y (by simp [hy])) h.2
    rw [List.map_cons, List.sum_cons, List.sum_cons, this]
    unfold subS
    rw [if_neg (by omega), if_neg (by omega)]
    omega
theorem minus_sum {l : List Int} (hR : l.all i64R = true) (h : fineB l = true) : (minusL l).sum = -l.sum := by
  unfold minusL
  rw [List.sum_reverse]
  exact neg_sum l (List.all_eq_true.1 hR) h
theorem take_succ_sum (l : List Int) (i : Nat) (h : i < l.length) : (l.take (i + 1)).sum = (l.take i).sum + l.getD i 0 := by
  rw [List.take_succ_eq_append_getElem h, List.sum_append, O.getD_eq _ _ h]; simp
theorem ExactSums : bournelaw01_ExactSums.Pure := by
  intro l a hl1 hl2 hwf hwa
  have hR : l.all i64R = true := by rw [List.all_eq_true]; exact fun x hx => wf_R (hwf x hx)
  have haR := i64R_iff.1 (wf_R hwa)
  have hgR := fun i => getD_R hR i
  apply Ev.rounds
  unfold bournelaw01_ExactSums.f
  refine Ev.bind small_ev ?_
  by_cases c0 : (l.length : Int) > 200
  · exact Ev.congr (fun k => by rw [if_pos c0]) (Ev.now _)
  refine Ev.congr (fun k => by rw [if_neg c0]) ?_
  refine Ev.bind (Ev.congr (fun _ => sum_now hR) (Ev.now _)) ?_
  have hfin : ∀ F : Bool, F = fineB l → Ev (fun _ : Nat => (if F = true then (if (sumF l.sum).2 = true then (if (sumF (minusL l).sum).2 = true then (some ((sumF (minusL l).sum).1 == (wrap64 (-(sumF l.sum).1)))) else (some true)) else (some true)) else (some true) : Option Bool)) true := by
    intro F hF
    refine Ev.congr (fun k => ?_) (Ev.now _)
    by_cases h1 : F = true
    · rw [if_pos h1]
      by_cases h2 : (sumF l.sum).2 = true
      · rw [if_pos h2]
        by_cases h3 : (sumF (minusL l).sum).2 = true
        · rw [if_pos h3]
          obtain ⟨e2, b1, b2⟩ := sumF_true h2
          obtain ⟨e3, b3, b4⟩ := sumF_true h3
          rw [e2, e3]
          rw [minus_sum hR (hF ▸ h1)] at *
          congr 1
          rw [beq_iff_eq]
          unfold wrap64; omega
        · rw [if_neg h3]
      · rw [if_neg h2]
    · rw [if_neg h1]
  have hj4 : Ev (fun k => bournelaw01_ExactSums.j4 k true (sumF l.sum).1 (sumF l.sum).2 (fineB l) (sumF (minusL l).sum).1 (sumF (minusL l).sum).2 false) true :=
    Ev.step (fun k => by simp only [bournelaw01_ExactSums.j4]; rw [if_neg (by simp), if_pos trivial]) (hfin _ rfl)
  have hj3 : Ev (fun k => bournelaw01_ExactSums.j3 k l a true (sumF l.sum).1 (sumF l.sum).2 (fineB l) (sumF (minusL l).sum).1 (sumF (minusL l).sum).2 false) true :=
    Ev.step (fun k => by simp only [bournelaw01_ExactSums.j3]; rw [if_neg (by simp), if_pos trivial]) (hfin _ rfl)
  have hj3t : 0 ≤ a → a ≤ (l.length : Int) → Ev (fun k => bournelaw01_ExactSums.j3 k l a true (sumF l.sum).1 (sumF l.sum).2 (fineB l) (sumF (minusL l).sum).1 (sumF (minusL l).sum).2 true) true := by
    intro h0 h1
    refine Ev.step (f := fun k => ((exact_Sum.f (l.take (a : Int).toNat)).bind fun bt140 => ((exact_Sum.f (l.drop (a : Int).toNat)).bind fun bt143 => ((exact_Sum.f (([bt140.1, bt143.1] : List Int))).bind fun bt148 => (if bt140.2 = true then (if bt143.2 = true then (if bt148.1 = (sumF l.sum).1 then (bournelaw01_ExactSums.j4 k true (sumF l.sum).1 (sumF l.sum).2 (fineB l) (sumF (minusL l).sum).1 (sumF (minusL l).sum).2 (bt148.2 != (sumF l.sum).2)) else (bournelaw01_ExactSums.j4 k true (sumF l.sum).1 (sumF l.sum).2 (fineB l) (sumF (minusL l).sum).1 (sumF (minusL l).sum).2 true)) else (bournelaw01_ExactSums.j4 k true (sumF l.sum).1 (sumF l.sum).2 (fineB l) (sumF (minusL l).sum).1 (sumF (minusL l).sum).2 false)) else (bournelaw01_ExactSums.j4 k true (sumF l.sum).1 (sumF l.sum).2 (fineB l) (sumF (minusL l).sum).1 (sumF (minusL l).sum).2 false)))))) (fun k => by simp only [bournelaw01_ExactSums.j3]; rw [if_pos trivial, if_pos h0, if_pos h1]) ?_
    have r1 : (l.take a.toNat).all i64R = true := by rw [List.all_eq_true] at *; exact fun x hx => hR x (List.mem_of_mem_take hx)
    have r2 : (l.drop a.toNat).all i64R = true := by rw [List.all_eq_true] at *; exact fun x hx => hR x (List.mem_of_mem_drop hx)
    refine Ev.bind (Ev.congr (fun _ => sum_now r1) (Ev.now _)) ?_
    refine Ev.bind (Ev.congr (fun _ => sum_now r2) (Ev.now _)) ?_
    have r3 : ([(sumF (l.take a.toNat).sum).1, (sumF (l.drop a.toNat).sum).1] : List Int).all i64R = true := by
      rw [List.all_eq_true]; intro x hx
      simp only [List.mem_cons, List.not_mem_nil, or_false] at hx
      rcases hx with rfl | rfl
      · exact sumF_R _
      · exact sumF_R _
    refine Ev.bind (Ev.congr (fun _ => sum_now r3) (Ev.now _)) ?_
    by_cases h2 : (sumF (l.take a.toNat).sum).2 = true
    · by_cases h3 : (sumF (l.drop a.toNat).sum).2 = true
      · refine Ev.congr (fun k => by rw [if_pos h2, if_pos h3]) ?_
        have e : ([(sumF (l.take a.toNat).sum).1, (sumF (l.drop a.toNat).sum).1] : List Int).sum = l.sum := by
          rw [(sumF_true h2).1, (sumF_true h3).1]
          have := congrArg List.sum (List.take_append_drop a.toNat l)
          rw [List.sum_append] at this
          simp only [List.sum_cons, List.sum_nil]
          omega
        rw [e]
        exact Ev.congr (fun k => by rw [if_pos rfl, bne_self_eq_false]) hj4
      · exact Ev.congr (fun k => by rw [if_pos h2, if_neg h3]) hj4
    · exact Ev.congr (fun k => by rw [if_neg h2]) hj4
  have hj2 : Ev (fun k => bournelaw01_ExactSums.j2 k l a true (sumF l.sum).1 (sumF l.sum).2 (fineB l) (sumF (minusL l).sum).1 (sumF (minusL l).sum).2 false) true := by
    by_cases h0 : a ≥ 0
    · refine Ev.step (f := fun k => bournelaw01_ExactSums.j3 k l a true (sumF l.sum).1 (sumF l.sum).2 (fineB l) (sumF (minusL l).sum).1 (sumF (minusL l).sum).2 (decide (a ≤ (l.length : Int)))) (fun k => by simp only [bournelaw01_ExactSums.j2]; rw [if_neg (by simp), if_pos h0]) ?_
      by_cases h1 : a ≤ (l.length : Int)
      · rw [decide_eq_true h1]; exact hj3t h0 h1
      · rw [decide_eq_false h1]; exact hj3
    · exact Ev.step (fun k => by simp only [bournelaw01_ExactSums.j2]; rw [if_neg (by simp), if_neg h0]) hj3
  have loop1 : ∀ d i : Nat, l.length - i = d → i ≤ l.length → ∀ (L : Int) (I : Bool), i64R L = true → (I = true → L = (l.take i).sum ∧ -9223372036854775808 < L ∧ L < 9223372036854775807) →
      Ev (fun k => bournelaw01_ExactSums.l1 k l a true (sumF l.sum).1 (sumF l.sum).2 l.reverse (minusL l) L (fineB l) I i) true := by
    intro d
    induction d with
    | zero =>
      intro i h1 h2 L I hL hI
      obtain rfl : i = l.length := by omega
      rw [List.take_length] at hI
      refine Ev.step (f := fun k => ((exact_Sum.f l.reverse).bind fun bt135 => ((exact_Sum.f (minusL l)).bind fun bt137 => (if (sumF l.sum).1 = bt135.1 then (if ((sumF l.sum).2 != bt135.2) = true then (bournelaw01_ExactSums.j2 k l a true (sumF l.sum).1 (sumF l.sum).2 (fineB l) bt137.1 bt137.2 true) else (if I = true then (if (sumF l.sum).2 = true then (bournelaw01_ExactSums.j2 k l a true (sumF l.sum).1 (sumF l.sum).2 (fineB l) bt137.1 bt137.2 ((sumF l.sum).1 != L)) else (bournelaw01_ExactSums.j2 k l a true (sumF l.sum).1 (sumF l.sum).2 (fineB l) bt137.1 bt137.2 true)) else (bournelaw01_ExactSums.j2 k l a true (sumF l.sum).1 (sumF l.sum).2 (fineB l) bt137.1 bt137.2 false))) else (bournelaw01_ExactSums.j2 k l a true (sumF l.sum).1 (sumF l.sum).2 (fineB l) bt137.1 bt137.2 true))))) (fun k => by simp only [bournelaw01_ExactSums.l1]; rw [if_neg (by omega)]) ?_
      have r1 : l.reverse.all i64R = true := by rw [List.all_reverse]; exact hR
      refine Ev.bind (Ev.congr (fun _ => sum_now r1) (Ev.now _)) ?_
      refine Ev.bind (Ev.congr (fun _ => sum_now (minus_R l)) (Ev.now _)) ?_
      rw [List.sum_reverse]
      refine Ev.congr (fun k => by rw [if_pos rfl, if_neg (by simp)]) ?_
      by_cases h3 : I = true
      · obtain ⟨e, b1, b2⟩ := hI h3
        have hs := sumF_in (n := l.sum) (by omega) (by omega)
        refine Ev.congr (fun k => ?_) hj2
        rw [if_pos h3, if_pos (by rw [hs])]
        congr 1
        rw [hs, bne_eq_false_iff_eq]
        exact e.symm
      · exact Ev.congr (fun k => by rw [if_neg h3]) hj2
    | succ d ih =>
      intro i h1 h2 L I hL hI
      have hi : i < l.length := by omega
      have hx := i64R_iff.1 (hgR i)
      have hLb := i64R_iff.1 hL
      have hn := add_now hL (hgR i)
      refine Ev.step (f := fun k => ((exact_Add.f L (l.getD i 0)).bind fun t134 => (if I = true then (if t134 > (-9223372036854775808) then (bournelaw01_ExactSums.l1 k l a true (sumF l.sum).1 (sumF l.sum).2 l.reverse (minusL l) t134 (fineB l) (decide (t134 < 9223372036854775807)) (wrap64 ((i : Int) + 1))) else (bournelaw01_ExactSums.l1 k l a true (sumF l.sum).1 (sumF l.sum).2 l.reverse (minusL l) t134 (fineB l) false (wrap64 ((i : Int) + 1)))) else (bournelaw01_ExactSums.l1 k l a true (sumF l.sum).1 (sumF l.sum).2 l.reverse (minusL l) t134 (fineB l) false (wrap64 ((i : Int) + 1)))))) (fun k => by simp only [bournelaw01_ExactSums.l1]; rw [if_pos (by omega), if_pos (by omega), rd_getD]) ?_
      refine Ev.bind (Ev.congr (fun _ => hn) (Ev.now _)) ?_
      have ew : wrap64 ((i : Int) + 1) = ((i + 1 : Nat) : Int) := wrap_succ i l.length hi (by omega)
      have no := ih (i + 1) (by omega) (by omega) (addS L (l.getD i 0)) false (addS_R _ _) (by simp)
      by_cases h3 : I = true
      · by_cases h4 : addS L (l.getD i 0) > -9223372036854775808
        · refine Ev.congr (fun k => by rw [if_pos h3, if_pos h4, ew]) ?_
          refine ih (i + 1) (by omega) (by omega) (addS L (l.getD i 0)) _ (addS_R _ _) ?_
          intro h5
          rw [decide_eq_true_eq] at h5
          obtain ⟨e, _, _⟩ := hI h3
          refine ⟨?_, h4, h5⟩
          rw [take_succ_sum l i hi, ← e]
          unfold addS at h4 h5 ⊢
          split at h5
          · omega
          · next g1 =>
            rw [if_neg g1] at h4 ⊢
            split at h5
            · next g2 => rw [if_pos g2] at h4; omega
            · next g2 => rw [if_neg g2]
        · exact Ev.congr (fun k => by rw [if_pos h3, if_neg h4, ew]) no
      · exact Ev.congr (fun k => by rw [if_neg h3, ew]) no
  have loop0 : ∀ j : Nat, j ≤ l.length → Ev (fun k => bournelaw01_ExactSums.l0 k l a true (sumF l.sum).1 (sumF l.sum).2 (l.drop j).reverse (minusL (l.drop j)) 0 (fineB (l.drop j)) ((j : Int) - 1)) true := by
    intro j
    induction j with
    | zero =>
      intro _
      rw [List.drop_zero]
      refine Ev.step (f := fun k => bournelaw01_ExactSums.l1 k l a true (sumF l.sum).1 (sumF l.sum).2 l.reverse (minusL l) 0 (fineB l) true 0) (fun k => by simp only [bournelaw01_ExactSums.l0]; rw [if_neg (by omega)]) ?_
      exact loop1 l.length 0 (by omega) (by omega) 0 true (by decide) (fun _ => by simp)
    | succ j ih =>
      intro hj
      have hjl : j < l.length := by omega
      have ih := ih (by omega)
      have hd := drop_cons l j hjl
      have hb : (l.drop (j + 1)).reverse ++ [l.getD j 0] = (l.drop j).reverse := by rw [hd]; simp
      have hm : minusL (l.drop (j + 1)) ++ [subS 0 (l.getD j 0)] = minusL (l.drop j) := by rw [hd]; simp [minusL]
      have hf : fineB (l.drop j) = (decide (l.getD j 0 > -9223372036854775808) && fineB (l.drop (j + 1))) := by rw [hd]; simp [fineB]
      have hlen1 : (l.drop (j + 1)).reverse.length < 17592186044416 := by rw [List.length_reverse, List.length_drop]; omega
      have hlen2 : (minusL (l.drop (j + 1))).length < 17592186044416 := by unfold minusL; rw [List.length_reverse, List.length_map, List.length_drop]; omega
      have hn := sub_now (a := 0) (by decide) (hgR j)
      refine Ev.step (fun k => ?_) ih
      have ej : (((j + 1 : Nat) : Int) - 1) = (j : Int) := by omega
      simp only [bournelaw01_ExactSums.l0]
      rw [ej, if_pos (by omega), if_pos (by omega), if_pos hlen1, rd_getD]
      simp only [Option.bind_some, hn]
      rw [if_pos hlen2, hb, hm, hf]
      have ew : wrap64 ((j : Int) - 1) = (j : Int) - 1 := by unfold wrap64; omega
      rw [ew]
      cases h : fineB (l.drop (j + 1))
      · rw [if_neg (by simp), Bool.and_false]
      · rw [if_pos rfl, Bool.and_true]
  have := loop0 l.length (Nat.le_refl _)
  rw [List.drop_length] at this
  have ew : wrap64 ((l.length : Int) - 1) = (l.length : Int) - 1 := by unfold wrap64; omega
  rw [ew]
  exact this
end Go.Proofs.Ytcncjldggfbjdaa.Pure
