/-
  The law ExactOrders in plain terms: greater weights get no smaller parts, and the rest of a division is the division of the rest but for one.
-/
import Derived.Test.YtcncjldggfbjdaaPExx11
import Derived.Test.YtcncjldggfbjdaaE2
import Derived.Test.YtcncjldggfbjdaaO3
set_option linter.unusedVariables false
namespace Go.Proofs.Ytcncjldggfbjdaa.O
theorem rank_mono {r : List Int} {i k : Int} (h : lt r i k = true) : rank r i ≤ rank r k := countP_mono fun x _ hx => lt_trans hx h
theorem share_mono {t : Int} {l : List Int} (h0 : ∀ x ∈ l, 0 ≤ x) (hW : 0 < l.sum) (ht0 : 0 ≤ t) (i k : Nat) (hi : i < l.length) (hk : k < l.length) (h : l.getD k 0 < l.getD i 0) :
    (shareL t l).getD k 0 ≤ (shareL t l).getD i 0 := by
  have ei := bump_at t l (leftOf t l) i hi
  have ek := bump_at t l (leftOf t l) k hk
  have hle : t * l.getD k 0 ≤ t * l.getD i 0 := Int.mul_le_mul_of_nonneg_left (by omega) ht0
  have hq : t * l.getD k 0 / l.sum ≤ t * l.getD i 0 / l.sum := Int.ediv_le_ediv hW hle
  unfold shareL
  rw [ei, ek]
  by_cases hlt : t * l.getD k 0 / l.sum < t * l.getD i 0 / l.sum
  · split <;> split <;> omega
  have he : t * l.getD k 0 / l.sum = t * l.getD i 0 / l.sum := by omega
  by_cases hb : (rank (rests t l) (k : Nat) : Int) < leftOf t l
  · have hr := rank_rest hW hk hb
    rw [rests_at _ _ _ hk] at hr
    have htp : 0 < t := by
      rcases Int.lt_or_eq_of_le ht0 with h1 | h1
      · exact h1
      · rw [← h1] at hr; simp at hr
    have hlt2 : t * l.getD k 0 < t * l.getD i 0 := Int.mul_lt_mul_of_pos_left h htp
    have d1 := Int.mul_ediv_add_emod (t * l.getD k 0) l.sum
    have d2 := Int.mul_ediv_add_emod (t * l.getD i 0) l.sum
    rw [he] at d1
    have hrr : t * l.getD k 0 % l.sum < t * l.getD i 0 % l.sum := by omega
    have hl : lt (rests t l) (i : Nat) (k : Nat) = true := by
      simp only [lt, Int.toNat_natCast, Bool.or_eq_true, decide_eq_true_eq]
      left
      rw [rests_at _ _ _ hi, rests_at _ _ _ hk]; exact hrr
    have hm := rank_mono hl
    rw [if_pos hb, if_pos (by omega)]
    omega
  · rw [if_neg hb]
    split <;> omega
theorem share_rest {t : Int} {l : List Int} (h0 : ∀ x ∈ l, 0 ≤ x) (hW : 0 < l.sum) (ht0 : 0 ≤ t) (ht : t ≤ l.sum) (i : Nat) (hi : i < l.length) :
    -1 ≤ l.getD i 0 - (shareL t l).getD i 0 - (shareL (l.sum - t) l).getD i 0 ∧ l.getD i 0 - (shareL t l).getD i 0 - (shareL (l.sum - t) l).getD i 0 ≤ 1 := by
  obtain ⟨_, _, a3⟩ := share_at h0 hW ht0 ht i hi
  obtain ⟨_, _, b3⟩ := share_at h0 hW (show 0 ≤ l.sum - t by omega) (by omega) i hi
  have d1 := Int.mul_ediv_add_emod (t * l.getD i 0) l.sum
  have d2 := Int.mul_ediv_add_emod ((l.sum - t) * l.getD i 0) l.sum
  have r1 := Int.emod_nonneg (t * l.getD i 0) (show l.sum ≠ 0 by omega)
  have r2 := Int.emod_nonneg ((l.sum - t) * l.getD i 0) (show l.sum ≠ 0 by omega)
  have s1 := Int.emod_lt_of_pos (t * l.getD i 0) hW
  have s2 := Int.emod_lt_of_pos ((l.sum - t) * l.getD i 0) hW
  generalize (shareL t l).getD i 0 = x at *
  generalize (shareL (l.sum - t) l).getD i 0 = u at *
  have hsub : (l.sum - t) * l.getD i 0 = l.sum * l.getD i 0 - t * l.getD i 0 := Int.sub_mul ..
  generalize t * l.getD i 0 / l.sum = q1 at *
  generalize (l.sum - t) * l.getD i 0 / l.sum = q2 at *
  generalize t * l.getD i 0 % l.sum = m1 at *
  generalize (l.sum - t) * l.getD i 0 % l.sum = m2 at *
  have hd : l.sum * (l.getD i 0 - q1 - q2) = m1 + m2 := by
    rw [Int.mul_sub, Int.mul_sub]; omega
  generalize hdd : l.getD i 0 - q1 - q2 = d at *
  have g1 : d < 2 := by
    apply Int.not_le.1; intro h
    have := Int.mul_le_mul_of_nonneg_left h (show 0 ≤ l.sum by omega)
    omega
  have g2 : 0 ≤ d := by
    apply Int.not_lt.1; intro h
    have := Int.mul_le_mul_of_nonneg_left (show d ≤ -1 by omega) (show 0 ≤ l.sum by omega)
    omega
  by_cases h1 : d = 0
  · rw [h1, Int.mul_zero] at hd
    omega
  · omega
end Go.Proofs.Ytcncjldggfbjdaa.O
namespace Go.Proofs.Ytcncjldggfbjdaa.E
open Go.RowKit Go.Proofs.YtcncjldggfbjdaaW.PrintWords Go.Proofs.YtcncjldggfbjdaaW.PrintLast Go.Proofs.YtcncjldggfbjdaaW.PrintMore Go.Proofs.Ytcncjldggfbjdaa.G1 Go.Proofs.Ytcncjldggfbjdaa.O
set_option linter.unusedVariables false
set_option linter.unusedSimpArgs false

theorem rd_getD (xs : List Int) (i : Nat) : rd xs (i : Int) = xs.getD i 0 := by simp [rd]
theorem drop_cons (l : List Int) (i : Nat) (h : i < l.length) : l.drop i = l.getD i 0 :: l.drop (i + 1) := by rw [List.drop_eq_getElem_cons h, O.getD_eq _ _ h]
theorem wrap_succ (i n : Nat) (h : i < n) (hn : n ≤ 9223372036854775807) : wrap64 ((i : Int) + 1) = ((i + 1 : Nat) : Int) := by unfold wrap64; omega
theorem R_getD {l : List Int} (h : l.all i64R = true) (i : Nat) : i64R (l.getD i 0) = true := by
  rw [List.all_eq_true] at h
  by_cases hi : i < l.length
  · rw [O.getD_eq _ _ hi]; exact h _ (List.getElem_mem hi)
  · rw [List.getD_eq_getElem?_getD, List.getElem?_eq_none (by omega)]; rfl
theorem wf_R {x : Int} (h : (Lit.int .i64 x).wf = true) : i64R x = true := by
  rw [i64R_iff]
  simp only [Lit.wf] at h
  simpa [show IntKind.i64.min = -9223372036854775808 from rfl] using h
end Go.Proofs.Ytcncjldggfbjdaa.E
namespace Go.Proofs.Ytcncjldggfbjdaa.E
open Go.RowKit Go.Proofs.YtcncjldggfbjdaaW.PrintWords Go.Proofs.YtcncjldggfbjdaaW.PrintLast Go.Proofs.YtcncjldggfbjdaaW.PrintMore Go.Proofs.Ytcncjldggfbjdaa.G0 Go.Proofs.Ytcncjldggfbjdaa.G1 Go.Proofs.Ytcncjldggfbjdaa.G2 Go.Proofs.Ytcncjldggfbjdaa.PEx
set_option linter.unusedVariables false
set_option linter.unusedSimpArgs false
/-- At most 64 weights, none less than 0, and their sum is a volume. -/
structure Whole (l : List Int) : Prop where
  len : l.length ≤ 64
  nn : ∀ x ∈ l, 0 ≤ x
  sm : l.sum ≤ 1125899906842624
theorem take_succ_sum' (l : List Int) (i : Nat) (h : i < l.length) : (l.take (i + 1)).sum = (l.take i).sum + l.getD i 0 := by
  rw [List.take_succ_eq_append_getElem h, List.sum_append, O.getD_eq _ _ h]; simp
theorem Whole.take {l : List Int} (h : Whole l) (i : Nat) : 0 ≤ (l.take i).sum ∧ (l.take i).sum ≤ l.sum := O.take_sum_le h.nn i
open Classical in
noncomputable def wholeF (l : List Int) : Int × Bool := if Whole l then (l.sum, true) else (0, false)
theorem whole_ev (l : List Int) (hR : l.all i64R = true) : Ev (fun k => bournelaw01_whole.f k l) (wholeF l) := by
  unfold bournelaw01_whole.f
  by_cases hl : (l.length : Int) > 64
  · refine Ev.congr (fun k => by rw [if_pos hl]) ?_
    unfold wholeF
    rw [if_neg (fun h => by have := h.len; omega)]
    exact Ev.now _
  refine Ev.congr (fun k => by rw [if_neg hl]) ?_
  have go : ∀ d i : Nat, l.length - i = d → i ≤ l.length → (∀ x ∈ l.take i, 0 ≤ x) → (l.take i).sum ≤ 1125899906842624 → Ev (fun k => bournelaw01_whole.l0 k l (l.take i).sum i) (wholeF l) := by
    intro d
    induction d with
    | zero =>
      intro i h1 h2 h3 h4
      obtain rfl : i = l.length := by omega
      rw [List.take_length] at *
      refine Ev.step (fun k => ?_) (Ev.now _)
      simp only [bournelaw01_whole.l0]
      rw [if_neg (by omega)]
      unfold wholeF
      rw [if_pos ⟨by omega, h3, h4⟩]
    | succ d ih =>
      intro i h1 h2 h3 h4
      have hi : i < l.length := by omega
      have h0 := O.sum_nonneg h3
      have hx := i64R_iff.1 (R_getD hR i)
      have hts := take_succ_sum' l i hi
      have bad : ¬ Whole l → wholeF l = (0, false) := fun h => by unfold wholeF; rw [if_neg h]
      by_cases c1 : l.getD i 0 < 0
      · rw [bad (fun h => by
          have := h.nn l[i] (List.getElem_mem hi)
          rw [O.getD_eq _ _ hi] at c1; omega)]
        refine Ev.step (fun k => ?_) (Ev.now _)
        simp only [bournelaw01_whole.l0]
        rw [if_pos (by omega), if_pos (by omega), rd_getD, if_pos c1]
      have ew : wrap64 (1125899906842624 - (l.take i).sum) = 1125899906842624 - (l.take i).sum := by unfold wrap64; omega
      by_cases c2 : l.getD i 0 > 1125899906842624 - (l.take i).sum
      · rw [bad (fun h => by
          have h5 := (h.take (i + 1)).2
          have h6 := h.sm
          omega)]
        refine Ev.step (fun k => ?_) (Ev.now _)
        simp only [bournelaw01_whole.l0]
        rw [if_pos (by omega), if_pos (by omega), rd_getD, if_neg c1, ew, if_pos c2]
      · have ew2 : wrap64 ((l.take i).sum + l.getD i 0) = (l.take (i + 1)).sum := by rw [hts]; unfold wrap64; omega
        refine Ev.step (fun k => ?_) (ih (i + 1) (by omega) (by omega) (fun x hx' => by
          rw [List.take_succ_eq_append_getElem hi, List.mem_append, List.mem_singleton] at hx'
          rcases hx' with hx' | rfl
          · exact h3 x hx'
          · rw [O.getD_eq _ _ hi] at c1; omega) (by omega))
        simp only [bournelaw01_whole.l0]
        rw [if_pos (by omega), if_pos (by omega), rd_getD, if_neg c1, ew, if_neg c2, ew2, wrap_succ i l.length hi (by omega)]
  have := go l.length 0 (by omega) (by omega) (by simp) (by simp)
  simpa using this
theorem same01_ev (xs ys : List Int) (hl : xs.length ≤ 9223372036854775807) : Ev (fun k => bourneref01_Same.f k xs ys) (decide (xs = ys)) := by
  by_cases hlen : xs.length = ys.length
  · have go : ∀ d i : Nat, xs.length - i = d → i ≤ xs.length → (∀ j, j < i → xs.getD j 0 = ys.getD j 0) → Ev (fun k => bourneref01_Same.l0 k xs ys i) (decide (xs = ys)) := by
      intro d
      induction d with
      | zero =>
        intro i h1 h2 h3
        obtain rfl : i = xs.length := by omega
        have e : xs = ys := O.ext_getD hlen h3
        rw [decide_eq_true e]
        exact Ev.step (fun k => by simp only [bourneref01_Same.l0]; rw [if_neg (by omega)]) (Ev.now _)
      | succ d ih =>
        intro i h1 h2 h3
        by_cases hx : xs.getD i 0 = ys.getD i 0
        · refine Ev.step (fun k => ?_) (ih (i + 1) (by omega) (by omega) (fun j hj => by
            by_cases e : j = i
            · subst e; exact hx
            · exact h3 j (by omega)))
          simp only [bourneref01_Same.l0]
          rw [if_pos (by omega), if_pos (by omega), if_pos (by omega), rd_getD, rd_getD, if_pos hx, wrap_succ i _ (by omega) hl]
        · rw [decide_eq_false (fun e => hx (by rw [e]))]
          refine Ev.step (fun k => ?_) (Ev.now _)
          simp only [bourneref01_Same.l0]
          rw [if_pos (by omega), if_pos (by omega), if_pos (by omega), rd_getD, rd_getD, if_neg hx]
    unfold bourneref01_Same.f
    exact Ev.congr (fun k => by rw [if_pos (by omega)]; rfl) (go xs.length 0 (by omega) (by omega) (fun j hj => by omega))
  · rw [decide_eq_false (fun e => hlen (by rw [e]))]
    unfold bourneref01_Same.f
    exact Ev.congr (fun k => by rw [if_neg (by omega)]) (Ev.now _)
theorem shareOk_iff {t : Int} {l : List Int} : shareOk t l = true ↔ Whole l ∧ 0 ≤ t ∧ t ≤ l.sum := by
  simp only [shareOk, shareSum, Bool.and_eq_true, decide_eq_true_eq, Bool.not_eq_true', List.any_eq_false, badW, Bool.not_eq_true]
  constructor
  · rintro ⟨⟨h1, h2⟩, ⟨h3, h4⟩, h5⟩
    refine ⟨⟨h1, fun x hx => ?_, h3⟩, h4, h5⟩
    have := h2 x hx
    simp at this
    omega
  · rintro ⟨h, h4, h5⟩
    refine ⟨⟨h.len, fun x hx => ?_⟩, ⟨h.sm, h4⟩, h5⟩
    have h1 := h.nn x hx
    have h2 := O.mem_le_sum h.nn hx
    have h3 := h.sm
    simp
    omega
end Go.Proofs.Ytcncjldggfbjdaa.E
namespace Go.Proofs.Ytcncjldggfbjdaa.E
open Go.RowKit Go.Proofs.YtcncjldggfbjdaaW.PrintWords Go.Proofs.YtcncjldggfbjdaaW.PrintLast Go.Proofs.YtcncjldggfbjdaaW.PrintMore Go.Proofs.Ytcncjldggfbjdaa.G0 Go.Proofs.Ytcncjldggfbjdaa.G1 Go.Proofs.Ytcncjldggfbjdaa.G2 Go.Proofs.Ytcncjldggfbjdaa.PEx
set_option linter.unusedVariables false
set_option linter.unusedSimpArgs false
theorem small_now : bournelaw01_small.f 40 = some true := by decide +kernel
theorem small_ev : Ev (fun k => bournelaw01_small.f k) true := Ev.of (bournelaw01_small.mono) small_now
end Go.Proofs.Ytcncjldggfbjdaa.E
namespace Go.Proofs.Ytcncjldggfbjdaa.Pure
open Go.RowKit Go.Proofs.Ytcncjldggfbjdaa.PEx Go.Proofs.YtcncjldggfbjdaaW.PrintWords Go.Proofs.YtcncjldggfbjdaaW.PrintLast Go.Proofs.YtcncjldggfbjdaaW.PrintMore Go.Proofs.Ytcncjldggfbjdaa.E Go.Proofs.Ytcncjldggfbjdaa.G1 Go.Proofs.Ytcncjldggfbjdaa.G2
set_option linter.unusedVariables false
set_option linter.unusedSimpArgs false

theorem share_now {t : Int} {l : List Int} (h : Whole l) (h0 : 0 ≤ t) (h1 : t ≤ l.sum) : exact_Share.f t l = some (O.shareL t l, true) := by
  unfold exact_Share.f; rw [if_pos (shareOk_iff.2 ⟨h, h0, h1⟩)]
theorem zeros {l : List Int} (h : ∀ x ∈ l, 0 ≤ x) (hs : l.sum = 0) (i : Nat) (hi : i < l.length) : l.getD i 0 = 0 := by
  have h1 := h _ (List.getElem_mem hi)
  have h2 := O.mem_le_sum h (List.getElem_mem hi)
  rw [O.getD_eq _ _ hi]; omega
theorem share_none' (l : List Int) (hs : 0 ≤ l.sum) (h0 : ∀ x ∈ l, 0 ≤ x) (i : Nat) (hi : i < l.length) : (O.shareL 0 l).getD i 0 = 0 := by
  by_cases hW : 0 < l.sum
  · obtain ⟨a1, a2, a3⟩ := O.share_at h0 hW (Int.le_refl 0) hs i hi
    rcases a3 with a3 | ⟨_, a3⟩
    · rw [a3]; simp
    · simp at a3
  · rw [share_zero (by omega) rfl]; simp [hi]
theorem share_all {l : List Int} (h : Whole l) : O.shareL l.sum l = l := by
  have hs := O.sum_nonneg h.nn
  by_cases hW : 0 < l.sum
  · exact O.share_whole hW
  · have e : l.sum = 0 := by omega
    rw [e]
    refine O.ext_getD (O.share_length _ _) fun i hi => ?_
    rw [O.share_length] at hi
    rw [share_none' l hs h.nn i hi, zeros h.nn e i hi]
theorem rest_wrap {a b c : Int} (a0 : 0 ≤ a) (a1 : a ≤ 1125899906842624) (b0 : 0 ≤ b) (b1 : b ≤ a) (c0 : 0 ≤ c) (c1 : c ≤ a) : wrap64 (wrap64 (a - b) - c) = a - b - c := by
  have e : wrap64 (a - b) = a - b := by unfold wrap64; omega
  rw [e]; unfold wrap64; omega
theorem sum_wrap {a : Int} (a0 : 0 ≤ a) (a1 : a ≤ 1125899906842624) : wrap64 a = a := by unfold wrap64; omega
theorem ExactOrders : bournelaw01_ExactOrders.Pure := by
  intro t l hwt hl1 hl2 hwf
  have hR : l.all i64R = true := by rw [List.all_eq_true]; exact fun x hx => wf_R (hwf x hx)
  have htR := i64R_iff.1 (wf_R hwt)
  apply Ev.rounds
  unfold bournelaw01_ExactOrders.f
  refine Ev.bind small_ev ?_
  refine Ev.bind (whole_ev l hR) ?_
  have out : ∀ w, Ev (fun k => bournelaw01_ExactOrders.j0 k t l true w true) true := fun w => Ev.step (fun k => by simp only [bournelaw01_ExactOrders.j0]; rw [if_pos trivial]) (Ev.now _)
  by_cases hw : Whole l
  · have e : wholeF l = (l.sum, true) := by unfold wholeF; rw [if_pos hw]
    rw [e]
    by_cases c1 : t < 0
    · exact Ev.congr (fun k => by rw [if_pos rfl, if_pos c1]) (out _)
    by_cases c2 : t > l.sum
    · exact Ev.congr (fun k => by rw [if_pos rfl, if_neg c1, decide_eq_true c2]) (out _)
    refine Ev.congr (f := fun k => bournelaw01_ExactOrders.j0 k t l true l.sum false) (fun k => by rw [if_pos rfl, if_neg c1, decide_eq_false c2]) ?_
    have hs0 := O.sum_nonneg hw.nn
    have hsm := hw.sm
    have hlen := hw.len
    have n1 := share_now hw (t := t) (by omega) (by omega)
    have n2 := share_now hw (t := l.sum) hs0 (Int.le_refl _)
    have n3 := share_now hw (t := 0) (Int.le_refl _) hs0
    have n4 := share_now hw (t := l.sum - t) (by omega) (by omega)
    rw [share_all hw] at n2
    have hz := share_none' l hs0 hw.nn
    have l1 := O.share_length t l
    have l3 := O.share_length 0 l
    have l4 := O.share_length (l.sum - t) l
    have hrest : ∀ i, i < l.length → -1 ≤ l.getD i 0 - (O.shareL t l).getD i 0 - (O.shareL (l.sum - t) l).getD i 0 ∧ l.getD i 0 - (O.shareL t l).getD i 0 - (O.shareL (l.sum - t) l).getD i 0 ≤ 1 := by
      intro i hi
      by_cases hW : 0 < l.sum
      · exact O.share_rest hw.nn hW (by omega) (by omega) i hi
      · have e0 : l.sum = 0 := by omega
        have et : t = 0 := by omega
        rw [et, show l.sum - 0 = 0 by omega, hz i hi, zeros hw.nn e0 i hi]; omega
    have hmono : ∀ i k, i < l.length → k < l.length → l.getD k 0 < l.getD i 0 → (O.shareL t l).getD k 0 ≤ (O.shareL t l).getD i 0 := by
      intro i k hi hk h
      by_cases hW : 0 < l.sum
      · exact O.share_mono hw.nn hW (by omega) i k hi hk h
      · have e0 : l.sum = 0 := by omega
        rw [zeros hw.nn e0 i hi, zeros hw.nn e0 k hk] at h; omega
    have hbd : ∀ i, i < l.length → 0 ≤ l.getD i 0 ∧ l.getD i 0 ≤ 1125899906842624 := fun i hi => by
      have h1 := hw.nn _ (List.getElem_mem hi)
      have h2 := O.mem_le_sum hw.nn (List.getElem_mem hi)
      rw [O.getD_eq _ _ hi]; omega
    have hxb : ∀ t', 0 ≤ t' → t' ≤ l.sum → ∀ i, i < l.length → 0 ≤ (O.shareL t' l).getD i 0 ∧ (O.shareL t' l).getD i 0 ≤ l.getD i 0 := by
      intro t' h0 h1 i hi
      by_cases hW : 0 < l.sum
      · have := O.share_at hw.nn hW h0 h1 i hi; exact ⟨this.1, this.2.1⟩
      · have et : t' = 0 := by omega
        have e0 : l.sum = 0 := by omega
        rw [et, hz i hi, zeros hw.nn e0 i hi]; omega
    have hx1 := hxb t (by omega) (by omega)
    have hu1 := hxb (l.sum - t) (by omega) (by omega)
    generalize O.shareL t l = x at *
    generalize O.shareL (l.sum - t) l = u at *
    generalize O.shareL 0 l = z at *
    have step : ∀ d i : Nat, l.length - i = d → i ≤ l.length → Ev (fun k => bournelaw01_ExactOrders.l0 k l true x z u i) true := by
      intro d
      induction d with
      | zero =>
        intro i h1 h2
        exact Ev.step (fun k => by simp only [bournelaw01_ExactOrders.l0]; rw [if_neg (by omega)]) (Ev.now _)
      | succ d ih =>
        intro i h1 h2
        have hi : i < l.length := by omega
        have hl9 : l.length ≤ 9223372036854775807 := by omega
        have inner : ∀ d' q : Nat, l.length - q = d' → q ≤ l.length → Ev (fun k => bournelaw01_ExactOrders.l1 k l true x z u i q) true := by
          intro d'
          induction d' with
          | zero =>
            intro q g1 g2
            refine Ev.step (fun k => ?_) (ih (i + 1) (by omega) (by omega))
            simp only [bournelaw01_ExactOrders.l1]
            rw [if_neg (by omega), wrap_succ i l.length hi hl9]
          | succ d' ih' =>
            intro q g1 g2
            have hq : q < l.length := by omega
            refine Ev.step (fun k => ?_) (ih' (q + 1) (by omega) (by omega))
            simp only [bournelaw01_ExactOrders.l1]
            rw [if_pos (by omega), if_pos (by omega), if_pos (by omega), if_pos (by omega), rd_getD, rd_getD]
            by_cases hg : l.getD i 0 > l.getD q 0
            · have hm := hmono i q hi hq hg
              rw [if_pos hg, if_pos (by omega), if_pos (by omega), rd_getD, rd_getD, if_neg (by omega), wrap_succ q l.length hq hl9]
            · rw [if_neg hg, wrap_succ q l.length hq hl9]
        have r := hrest i hi
        have b1 := hbd i hi
        have b2 := hx1 i hi
        have b3 := hu1 i hi
        have j3 : Ev (fun k => bournelaw01_ExactOrders.j3 k l true x z u i false) true :=
          Ev.step (f := fun k => bournelaw01_ExactOrders.l1 k l true x z u i 0) (fun k => by simp only [bournelaw01_ExactOrders.j3]; rw [if_neg (by simp)]) (inner l.length 0 (by omega) (by omega))
        refine Ev.step (fun k => ?_) j3
        simp only [bournelaw01_ExactOrders.l0]
        rw [if_pos (by omega), if_pos (by omega), if_pos (by omega), if_pos (by omega), if_pos (by omega), rd_getD, rd_getD, rd_getD, rd_getD, hz i hi, if_pos rfl, rest_wrap b1.1 b1.2 b2.1 b2.2 b3.1 b3.2, if_neg (by omega), decide_eq_false (by omega)]
    have j1 : Ev (fun k => bournelaw01_ExactOrders.j1 k l true x z u false) true :=
      Ev.step (f := fun k => bournelaw01_ExactOrders.l0 k l true x z u 0) (fun k => by simp only [bournelaw01_ExactOrders.j1]; rw [if_neg (by simp)]) (step l.length 0 (by omega) (by omega))
    have sS : Ev (fun k => bourneref01_Same.f k l l) true := by
      have := same01_ev l l (by omega)
      rwa [decide_eq_true rfl] at this
    refine Ev.step (f := fun k => (bourneref01_Same.f k l l).bind fun t278 => (bournelaw01_ExactOrders.j1 k l true x z u (!t278))) (fun k => ?_) (Ev.bind sS j1)
    simp only [bournelaw01_ExactOrders.j0, sum_wrap (show 0 ≤ l.sum - t by omega) (show l.sum - t ≤ 1125899906842624 by omega), n1, n2, n3, n4, Option.bind_some]
    rw [if_neg (by simp), if_pos trivial, if_pos trivial, if_pos trivial, if_pos trivial, if_pos (by omega), if_pos (by omega), if_pos (by omega)]
  · have e : wholeF l = (0, false) := by unfold wholeF; rw [if_neg hw]
    rw [e]
    exact Ev.congr (fun k => by rw [if_neg (by simp)]) (out _)
end Go.Proofs.Ytcncjldggfbjdaa.Pure
