import Derived.Test.YtddhaagfieldfaaHp0
namespace Go.Proofs.Ytddhaagfieldfaa.Hb
set_option linter.unusedVariables false
set_option linter.unusedSimpArgs false
open Go.RowKit Go.Proofs.YtddhaagfieldfaaW.PrintWords Go.Proofs.YtddhaagfieldfaaW.PrintLast Go.Proofs.YtddhaagfieldfaaW.PrintMore Go.Proofs.Ytddhaagfieldfaa.PCallTells Go.Proofs.Ytddhaagfieldfaa.Hw Go.Proofs.Ytddhaagfieldfaa.Q

/-! ### the least of a row -/
theorem least_le (left : List Int) (l : List Int) : ∀ n : Int, leastF n left l ≤ n ∧ (∀ q ∈ l, leastF n left l ≤ rd left q) ∧ (leastF n left l = n ∨ ∃ q ∈ l, leastF n left l = rd left q) := by
  induction l with
  | nil => intro n; exact ⟨Int.le_refl _, by simp, .inl rfl⟩
  | cons a l ih =>
    intro n
    obtain ⟨h1, h2, h3⟩ := ih (mn n (rd left a))
    have e : leastF n left (a :: l) = leastF (mn n (rd left a)) left l := rfl
    rw [e]
    have hm : mn n (rd left a) ≤ n ∧ mn n (rd left a) ≤ rd left a ∧ (mn n (rd left a) = n ∨ mn n (rd left a) = rd left a) := by unfold mn; split <;> omega
    refine ⟨by omega, ?_, ?_⟩
    · intro q hq
      rcases List.mem_cons.1 hq with rfl | hq
      · omega
      · exact h2 q hq
    · rcases h3 with h3 | ⟨q, hq, h3⟩
      · rcases hm.2.2 with h | h
        · exact .inl (h3.trans h)
        · exact .inr ⟨a, List.mem_cons_self .., h3.trans h⟩
      · exact .inr ⟨q, List.mem_cons_of_mem _ hq, h3⟩
/-- The water at places is not negative, and at most MaxVol. -/
def Good (left : List Int) : Prop := ∀ q, 0 ≤ q → 0 ≤ rd left q ∧ rd left q ≤ 1125899906842624
theorem grant_nonneg (pl : List S79) (left : List Int) (r : S39) : 0 ≤ grant pl left r := by
  unfold grant mx; split
  · exact Int.le_refl _
  · split <;> omega
theorem grant_none (pl : List S79) (left : List Int) (r : S39) (h : reach pl r.f3 = []) : grant pl left r = 0 := by unfold grant; rw [if_pos h]
theorem grant_le (pl : List S79) (left : List Int) (r : S39) (hg : Good left) (q : Int) (hq : q ∈ reach pl r.f3) : grant pl left r ≤ rd left q := by
  have h0 := hg q (reach_in pl _ q hq).1
  unfold grant mx; split
  · exact h0.1
  · have := (least_le left (reach pl r.f3) r.f4).2.1 q hq
    split <;> omega
theorem grant_rate (pl : List S79) (left : List Int) (r : S39) : grant pl left r ≤ max 0 r.f4 := by
  unfold grant mx; split
  · omega
  · have := (least_le left (reach pl r.f3) r.f4).1
    split <;> omega
theorem grant_short (pl : List S79) (left : List Int) (r : S39) (hg : Good left) (hr : reach pl r.f3 ≠ []) (hs : grant pl left r < r.f4) : ∃ q ∈ reach pl r.f3, rd left q = grant pl left r := by
  have h0 := grant_nonneg pl left r
  have e : grant pl left r = mx 0 (leastF r.f4 left (reach pl r.f3)) := by unfold grant; rw [if_neg hr]
  obtain ⟨h1, h2, h3⟩ := least_le left (reach pl r.f3) r.f4
  rcases h3 with h3 | ⟨q, hq, h3⟩
  · rw [h3] at e; unfold mx at e; split at e <;> omega
  · have := hg q (reach_in pl _ q hq).1
    refine ⟨q, hq, ?_⟩
    rw [e, h3]; unfold mx; split <;> omega
theorem grant_max (pl : List S79) (left : List Int) (r : S39) (hg : Good left) : grant pl left r ≤ 1125899906842624 := by
  by_cases h : reach pl r.f3 = []
  · rw [grant_none _ _ _ h]; omega
  · obtain ⟨q, hq⟩ := List.exists_mem_of_ne_nil _ h
    have := grant_le pl left r hg q hq
    have := (hg q (reach_in pl _ q hq).1).2
    omega
/-! ### the day, right by right -/
def dayS (pl : List S79) (ro : List S39) (su : List Int) : Nat → List Int
  | 0 => left0 pl su
  | i + 1 => lower (grant pl (dayS pl ro su i) (rd_T39 ro i)) (reach pl (rd_T39 ro i).f3) (dayS pl ro su i)
theorem dayS_length (pl : List S79) (ro : List S39) (su : List Int) (i : Nat) : (dayS pl ro su i).length = pl.length := by
  induction i with
  | zero => exact left0_length pl su
  | succ i ih => show (lower _ _ _).length = _; rw [lower_length, ih]
theorem dayGo_at (pl : List S79) (ro : List S39) (su : List Int) (d : Nat) : ∀ (j : Nat) (gs : List S53), gs.length = j → j + d = ro.length →
    ∃ t : List S53, dayGo pl (ro.drop j) gs (dayS pl ro su j) = (gs ++ t, dayS pl ro su ro.length) ∧ t.length = d ∧ ∀ i, i < d → t[i]? = some ⟨(rd_T39 ro ((j + i : Nat) : Int)).f0, grant pl (dayS pl ro su (j + i)) (rd_T39 ro ((j + i : Nat) : Int))⟩ := by
  induction d with
  | zero =>
    intro j gs hj hd
    refine ⟨[], ?_, rfl, fun i hi => absurd hi (Nat.not_lt_zero _)⟩
    rw [List.drop_of_length_le (by omega), List.append_nil]
    obtain rfl : j = ro.length := by omega
    rfl
  | succ d ih =>
    intro j gs hj hd
    have hlt : j < ro.length := by omega
    rw [List.drop_eq_getElem_cons hlt, ← rd39 ro j hlt]
    obtain ⟨t, h1, h2, h3⟩ := ih (j + 1) (gs ++ [⟨(rd_T39 ro j).f0, grant pl (dayS pl ro su j) (rd_T39 ro j)⟩]) (by simp [hj]) (by omega)
    refine ⟨⟨(rd_T39 ro j).f0, grant pl (dayS pl ro su j) (rd_T39 ro j)⟩ :: t, ?_, by simp [h2], fun i hi => ?_⟩
    · show dayGo pl _ _ _ = _
      have e : dayS pl ro su (j + 1) = lower (grant pl (dayS pl ro su j) (rd_T39 ro j)) (reach pl (rd_T39 ro j).f3) (dayS pl ro su j) := rfl
      rw [e] at h1
      simp only [dayGo]
      rw [h1, List.append_assoc]; rfl
    · cases i with
      | zero => rfl
      | succ i =>
        rw [List.getElem?_cons_succ, h3 i (by omega)]
        rw [show j + 1 + i = j + (i + 1) by omega]
theorem day_at (pl : List S79) (ro : List S39) (su : List Int) : (dayF pl ro su).1.length = ro.length ∧ (dayF pl ro su).2 = dayS pl ro su ro.length ∧
    ∀ i : Nat, i < ro.length → rd_T53 (dayF pl ro su).1 i = ⟨(rd_T39 ro i).f0, grant pl (dayS pl ro su i) (rd_T39 ro i)⟩ := by
  obtain ⟨t, h1, h2, h3⟩ := dayGo_at pl ro su ro.length 0 [] rfl (by omega)
  rw [List.drop_zero, List.nil_append] at h1
  have e : dayF pl ro su = (t, dayS pl ro su ro.length) := h1
  rw [e]
  refine ⟨h2, rfl, fun i hi => ?_⟩
  have := h3 i hi
  unfold rd_T53
  rw [Int.toNat_natCast, List.getD_eq_getElem?_getD, this, Nat.zero_add]; rfl
theorem litres_day (pl : List S79) (ro : List S39) (su : List Int) (i : Nat) (hi : i < ro.length) : litres (dayF pl ro su).1 i = grant pl (dayS pl ro su i) (rd_T39 ro i) := by
  obtain ⟨h1, _, h3⟩ := day_at pl ro su
  unfold litres
  rw [if_pos (by omega), h3 i hi]
theorem leftTo_day (pl : List S79) (ro : List S39) (su : List Int) : ∀ i : Nat, i ≤ ro.length → leftTo pl ro (dayF pl ro su).1 (left0 pl su) i = dayS pl ro su i := by
  intro i
  induction i with
  | zero => intro _; rfl
  | succ i ih =>
    intro h
    rw [leftTo_step _ _ _ _ _ (by have := (day_at pl ro su).1; omega), ih (by omega), litres_day pl ro su i (by omega)]; rfl
theorem dayS_step (pl : List S79) (ro : List S39) (su : List Int) (i : Nat) (hg : Good (dayS pl ro su i)) (q : Int) (hq : 0 ≤ q) :
    rd (dayS pl ro su (i + 1)) q = if q ∈ reach pl (rd_T39 ro i).f3 then rd (dayS pl ro su i) q - grant pl (dayS pl ro su i) (rd_T39 ro i) else rd (dayS pl ro su i) q := by
  show rd (lower _ _ _) q = _
  rw [rd_lower _ _ _ (reach_nodup pl _) (fun q h => by rw [dayS_length]; exact reach_in pl _ q h) q hq]
  have h1 := hg q hq
  have h2 := grant_nonneg pl (dayS pl ro su i) (rd_T39 ro i)
  have h3 := grant_max pl (dayS pl ro su i) (rd_T39 ro i) hg
  split
  · rw [w64 (by omega) (by omega)]
  · rfl
theorem dayS_good (pl : List S79) (ro : List S39) (su : List Int) (hpl : pl.length ≤ 16) (hm : modestF su = true) (i : Nat) : Good (dayS pl ro su i) := by
  induction i with
  | zero => exact fun q hq => left0_bound pl su hpl hm q hq
  | succ i ih =>
    intro q hq
    rw [dayS_step pl ro su i ih q hq]
    have h1 := ih q hq
    have h2 := grant_nonneg pl (dayS pl ro su i) (rd_T39 ro i)
    split
    · rename_i h
      have := grant_le pl _ _ ih q h
      omega
    · exact h1
theorem dayS_zero (pl : List S79) (ro : List S39) (su : List Int) (hpl : pl.length ≤ 16) (hm : modestF su = true) (q : Int) (hq : 0 ≤ q) (i : Nat) (h : rd (dayS pl ro su i) q = 0) : ∀ d, rd (dayS pl ro su (i + d)) q = 0 := by
  intro d
  induction d with
  | zero => exact h
  | succ d ih =>
    have hg := dayS_good pl ro su hpl hm (i + d)
    show rd (dayS pl ro su (i + d + 1)) q = 0
    rw [dayS_step pl ro su (i + d) hg q hq, ih]
    have h2 := grant_nonneg pl (dayS pl ro su (i + d)) (rd_T39 ro ((i + d : Nat) : Int))
    split
    · rename_i hr
      have := grant_le pl _ _ hg q hr
      omega
    · rfl
/-! ### a stop -/
theorem idxF_some {p : Int → Bool} {xs : List Int} (h : ¬ idxF p xs < 0) : rd xs (idxF p xs) ∈ xs ∧ p (rd xs (idxF p xs)) = true := by
  unfold idxF at h ⊢
  cases e : xs.findIdx? p with
  | none => rw [e] at h; simp at h
  | some k =>
    rw [List.findIdx?_eq_some_iff_getElem] at e
    obtain ⟨h1, h2, _⟩ := e
    show rd xs (k : Int) ∈ xs ∧ p (rd xs (k : Int)) = true
    rw [rd_nat _ _ h1]
    exact ⟨List.getElem_mem h1, h2⟩
theorem idxF_neg {p : Int → Bool} {xs : List Int} (h : idxF p xs < 0) : ∀ q ∈ xs, p q = false := by
  have := idxF_any p xs
  rw [decide_eq_false (by omega)] at this
  intro q hq
  cases hp : p q with
  | false => rfl
  | true =>
    have h2 : xs.any p = true := List.any_eq_true.2 ⟨q, hq, hp⟩
    rw [← this] at h2; cases h2
theorem re_at (pl : List S79) (ro : List S39) (i : Nat) (hi : i < ro.length) : rd_L9 (reTo pl ro ro.length) i = reach pl (rd_T39 ro i).f3 := by
  unfold rd_L9 reTo
  rw [Int.toNat_natCast, List.take_length, List.getD_eq_getElem?_getD, List.getElem?_map, List.getElem?_eq_getElem hi, rd39 ro i hi]; rfl
theorem got_at (n : Nat) (gr : List S53) (i : Nat) (hi : i < n) : rd (gotTo n gr n) i = litres gr i := by
  unfold gotTo
  rw [rd_nat _ _ (by simpa using hi)]
  simp [hi]
/-- What a place must be to stop a right. -/
theorem stops_iff (pl : List S79) (ro : List S39) (su : List Int) (gr : List S53) (i : Nat) (q : Int) : stops (dayD pl ro su gr) i q = true ↔
    rd (leftTo pl ro gr (left0 pl su) ro.length) q ≤ 0 ∧ ∀ m : Nat, i < m → m < ro.length → litres gr m > 0 → q ∉ reach pl (rd_T39 ro m).f3 := by
  unfold stops
  rw [Bool.and_eq_true, decide_eq_true_eq, Bool.not_eq_true', List.any_eq_false]
  constructor
  · rintro ⟨h1, h2⟩
    refine ⟨h1, fun m hm hn hg hq => ?_⟩
    have := h2 (m : Int) ((laterF_mem _ _ _ _).2 ⟨m, rfl, hm, hn, by show rd (gotTo ro.length gr ro.length) m > 0; rw [got_at _ _ _ hn]; exact hg⟩)
    rw [show rd_L9 (dayD pl ro su gr).re m = reach pl (rd_T39 ro m).f3 from re_at pl ro m hn] at this
    exact this (decide_eq_true hq)
  · rintro ⟨h1, h2⟩
    refine ⟨h1, fun x hx => ?_⟩
    obtain ⟨m, rfl, hm, hn, hg⟩ := (laterF_mem _ _ _ _).1 hx
    have hn' : m < ro.length := hn
    have hg' : litres gr m > 0 := by rw [← got_at ro.length gr m hn']; exact hg
    rw [show rd_L9 (dayD pl ro su gr).re m = reach pl (rd_T39 ro m).f3 from re_at pl ro m hn', decide_eq_true_eq]
    exact h2 m hm hn' hg'
theorem stopP_cases (pl : List S79) (ro : List S39) (su : List Int) (gr : List S53) (i : Nat) (hi : i < ro.length) :
    (stopP pl ro su gr i = -1 ∧ ∀ q ∈ reach pl (rd_T39 ro i).f3, stops (dayD pl ro su gr) i q = false) ∨ (stopP pl ro su gr i ∈ reach pl (rd_T39 ro i).f3 ∧ stops (dayD pl ro su gr) i (stopP pl ro su gr i) = true) := by
  have er : rd_L9 (dayD pl ro su gr).re i = reach pl (rd_T39 ro i).f3 := re_at pl ro i hi
  unfold stopP stopF
  rw [er]
  by_cases h : idxF (stops (dayD pl ro su gr) i) (reach pl (rd_T39 ro i).f3) < 0
  · rw [if_pos h]; exact .inl ⟨rfl, idxF_neg h⟩
  · rw [if_neg h]; exact .inr (idxF_some h)
theorem shortP_iff (pl : List S79) (ro : List S39) (gr : List S53) (i : Nat) (hi : i < ro.length) : shortP pl ro gr i = true ↔ i < gr.length ∧ reach pl (rd_T39 ro i).f3 ≠ [] ∧ litres gr i < (rd_T39 ro i).f4 := by
  unfold shortP shortF
  rw [show rd_L9 (dayD pl ro [] gr).re i = reach pl (rd_T39 ro i).f3 from re_at pl ro i hi, show rd (dayD pl ro [] gr).got i = litres gr i from got_at _ _ _ hi]
  show (decide ((i : Int) < (gr.length : Int)) && (decide (0 < (reach pl (rd_T39 ro i).f3).length) && decide (litres gr i < (rd_T39 ro i).f4))) = true ↔ _
  rw [Bool.and_eq_true, Bool.and_eq_true, decide_eq_true_eq, decide_eq_true_eq, decide_eq_true_eq, List.length_pos_iff]
  exact ⟨fun h => ⟨by omega, h.2⟩, fun h => ⟨by omega, h.2⟩⟩
/-- In the day's grants each short right has a stop. -/
theorem day_stop (pl : List S79) (ro : List S39) (su : List Int) (hpl : pl.length ≤ 16) (hm : modestF su = true) (i : Nat) (hi : i < ro.length) (hr : reach pl (rd_T39 ro i).f3 ≠ []) (hs : litres (dayF pl ro su).1 i < (rd_T39 ro i).f4) :
    stopP pl ro su (dayF pl ro su).1 i ∈ reach pl (rd_T39 ro i).f3 ∧ stops (dayD pl ro su (dayF pl ro su).1) i (stopP pl ro su (dayF pl ro su).1 i) = true := by
  rcases stopP_cases pl ro su (dayF pl ro su).1 i hi with ⟨_, h⟩ | h
  · exfalso
    rw [litres_day pl ro su i hi] at hs
    have hg := dayS_good pl ro su hpl hm i
    obtain ⟨q, hq, e⟩ := grant_short pl _ _ hg hr hs
    have hq0 := (reach_in pl _ q hq).1
    have hz : rd (dayS pl ro su (i + 1)) q = 0 := by rw [dayS_step pl ro su i hg q hq0, if_pos hq, e]; omega
    have hzz := dayS_zero pl ro su hpl hm q hq0 (i + 1) hz
    have hst : stops (dayD pl ro su (dayF pl ro su).1) i q = true := by
      rw [stops_iff, leftTo_day pl ro su _ (Nat.le_refl _)]
      refine ⟨?_, fun m h1 h2 h3 h4 => ?_⟩
      · have := hzz (ro.length - (i + 1)); rw [show i + 1 + (ro.length - (i + 1)) = ro.length by omega] at this; omega
      · rw [litres_day pl ro su m h2] at h3
        have h5 := grant_le pl _ _ (dayS_good pl ro su hpl hm m) q h4
        have := hzz (m - (i + 1)); rw [show i + 1 + (m - (i + 1)) = m by omega] at this
        omega
    rw [h q hq] at hst; cases hst
  · exact h
end Go.Proofs.Ytddhaagfieldfaa.Hb
