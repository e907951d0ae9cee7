import Derived.Test.YtddhaagfieldfaaHp1
namespace Go.Proofs.Ytddhaagfieldfaa.Hb
set_option linter.unusedVariables false
set_option linter.unusedSimpArgs false
open Go.RowKit Go.Proofs.YtddhaagfieldfaaW.PrintWords Go.Proofs.YtddhaagfieldfaaW.PrintLast Go.Proofs.YtddhaagfieldfaaW.PrintMore Go.Proofs.Ytddhaagfieldfaa.PCallTells Go.Proofs.Ytddhaagfieldfaa.Hw Go.Proofs.Ytddhaagfieldfaa.Q

/-! ### what grants take from a place -/
def takeS (pl : List S79) (ro : List S39) (gr : List S53) (q : Int) : Nat → Int
  | 0 => 0
  | i + 1 => takeS pl ro gr q i + if q ∈ reach pl (rd_T39 ro i).f3 then litres gr i else 0
theorem litres_past (gr : List S53) (i : Nat) (h : ¬ i < gr.length) : litres gr i = 0 := by unfold litres; rw [if_neg h]
theorem takeS_bound (pl : List S79) (ro : List S39) (gr : List S53) (q : Int) (hb : ∀ m : Nat, 0 ≤ litres gr m ∧ litres gr m ≤ 1125899906842624) : ∀ i : Nat, 0 ≤ takeS pl ro gr q i ∧ takeS pl ro gr q i ≤ i * 1125899906842624 := by
  intro i
  induction i with
  | zero => simp [takeS]
  | succ i ih =>
    have := hb i
    simp only [takeS]
    push_cast
    split <;> omega
theorem takeS_mono (pl : List S79) (ro : List S39) (gr : List S53) (q : Int) (hb : ∀ m : Nat, 0 ≤ litres gr m ∧ litres gr m ≤ 1125899906842624) (i : Nat) : ∀ d : Nat, takeS pl ro gr q i ≤ takeS pl ro gr q (i + d) := by
  intro d
  induction d with
  | zero => exact Int.le_refl _
  | succ d ih =>
    have := hb (i + d)
    show _ ≤ takeS pl ro gr q (i + d + 1)
    simp only [takeS]
    split <;> omega
theorem leftTo_rd (pl : List S79) (ro : List S39) (su : List Int) (gr : List S53) (hpl : pl.length ≤ 16) (hm : modestF su = true) (hb : ∀ m : Nat, 0 ≤ litres gr m ∧ litres gr m ≤ 1125899906842624) (q : Int) (hq : 0 ≤ q) :
    ∀ i : Nat, i ≤ 1000 → rd (leftTo pl ro gr (left0 pl su) i) q = rd (left0 pl su) q - takeS pl ro gr q i := by
  intro i
  induction i with
  | zero => intro _; simp [takeS, leftTo]
  | succ i ih =>
    intro hi
    have h0 := left0_bound pl su hpl hm q hq
    have h1 := takeS_bound pl ro gr q hb i
    have h2 := hb i
    by_cases hl : i < gr.length
    · rw [leftTo_step _ _ _ _ _ hl, rd_lower _ _ _ (reach_nodup pl _) (fun q h => by rw [leftTo_length, left0_length]; exact reach_in pl _ q h) q hq, ih (by omega)]
      simp only [takeS]
      split
      · rw [w64 (by omega) (by omega)]; omega
      · omega
    · rw [leftTo_past _ _ _ _ _ hl, ih (by omega)]
      simp only [takeS]
      rw [litres_past gr i hl]
      split <;> omega
theorem takeS_congr (pl : List S79) (ro : List S39) (g1 g2 : List S53) (q : Int) : ∀ i : Nat, (∀ m, m < i → litres g1 m = litres g2 m) → takeS pl ro g1 q i = takeS pl ro g2 q i := by
  intro i
  induction i with
  | zero => intro _; rfl
  | succ i ih =>
    intro h
    simp only [takeS]
    rw [ih (fun m hm => h m (by omega)), h i (by omega)]
theorem any_neg (xs : List Int) (h : (xs.any fun n => decide (n < 0)) = false) (q : Int) (h0 : 0 ≤ q) (h1 : q < xs.length) : 0 ≤ rd xs q := by
  rw [List.any_eq_false] at h
  obtain ⟨n, rfl⟩ := Int.eq_ofNat_of_zero_le h0
  have hn : n < xs.length := by omega
  have := h _ (List.getElem_mem hn)
  rw [decide_eq_true_eq] at this
  have e := rd_nat xs n hn
  rw [e]; omega
theorem day_litres_bound (pl : List S79) (ro : List S39) (su : List Int) (hpl : pl.length ≤ 16) (hm : modestF su = true) (m : Nat) : 0 ≤ litres (dayF pl ro su).1 m ∧ litres (dayF pl ro su).1 m ≤ 1125899906842624 := by
  by_cases h : m < ro.length
  · rw [litres_day pl ro su m h]
    exact ⟨grant_nonneg .., grant_max _ _ _ (dayS_good pl ro su hpl hm m)⟩
  · rw [litres_past _ _ (by have := (day_at pl ro su).1; omega)]; omega
/-- What an accepted list of grants is like. -/
theorem check_parts {pl : List S79} {ro : List S39} {su : List Int} {gr : List S53} {ex : List S60} (h : checkF pl ro su gr ex = true) :
    gr.length = ro.length ∧ (∀ q : Int, 0 ≤ q → q < pl.length → 0 ≤ rd (leftTo pl ro gr (left0 pl su) ro.length) q) ∧ ∀ i : Nat, i < ro.length → badP pl ro su gr i = false := by
  unfold checkF at h
  rw [Bool.and_eq_true, Bool.and_eq_true, Bool.and_eq_true, decide_eq_true_eq, Bool.not_eq_true', Bool.not_eq_true'] at h
  obtain ⟨h1, h2, h3, _⟩ := h
  refine ⟨h1, fun q h0 hq => any_neg _ h2 q h0 (by rw [leftTo_length, left0_length]; exact hq), fun i hi => ?_⟩
  rw [List.any_eq_false] at h3
  have := h3 i (List.mem_range.2 hi)
  simpa using this
theorem bad_parts {pl : List S79} {ro : List S39} {su : List Int} {gr : List S53} {i : Nat} (hi : i < ro.length) (h : badP pl ro su gr i = false) :
    (rd_T53 gr i).f0 = (rd_T39 ro i).f0 ∧ 0 ≤ litres gr i ∧ litres gr i ≤ mostP pl ro i ∧ (shortP pl ro gr i = true → 0 ≤ stopP pl ro su gr i) := by
  unfold badP at h
  rw [Bool.or_eq_false_iff, Bool.or_eq_false_iff, Bool.or_eq_false_iff, got_at _ _ _ hi] at h
  obtain ⟨h1, h2, h3, h4⟩ := h
  refine ⟨by simpa using h1, by simpa using h2, by simpa using h3, fun hs => ?_⟩
  rw [hs, Bool.true_and, decide_eq_false_iff_not] at h4
  omega
theorem most_le (pl : List S79) (ro : List S39) (i : Nat) (hi : i < ro.length) : 0 ≤ mostP pl ro i ∧ mostP pl ro i ≤ 1125899906842624 ∧ mostP pl ro i ≤ max 0 (rd_T39 ro i).f4 ∧ (reach pl (rd_T39 ro i).f3 = [] → mostP pl ro i = 0) ∧ (reach pl (rd_T39 ro i).f3 ≠ [] → mostP pl ro i = min 1125899906842624 (max 0 (rd_T39 ro i).f4)) := by
  unfold mostP
  rw [re_at pl ro i hi]
  by_cases h : reach pl (rd_T39 ro i).f3 = []
  · rw [if_pos (by rw [h]; rfl)]
    exact ⟨by omega, by omega, by omega, fun _ => rfl, fun h2 => absurd h h2⟩
  · rw [if_neg (fun e => h (List.length_eq_zero_iff.1 e))]
    exact ⟨by omega, by omega, by omega, fun h2 => absurd h2 h, fun _ => rfl⟩
/-- Whatever grants are accepted are the day's. -/
theorem check_only (pl : List S79) (ro : List S39) (su : List Int) (gr : List S53) (ex : List S60) (hpl : pl.length ≤ 16) (hro : ro.length ≤ 14) (hm : modestF su = true) (h : checkF pl ro su gr ex = true) :
    gr.length = ro.length ∧ ∀ i : Nat, i < ro.length → (rd_T53 gr i).f0 = (rd_T39 ro i).f0 ∧ litres gr i = litres (dayF pl ro su).1 i := by
  obtain ⟨h1, h2, h3⟩ := check_parts h
  have hb : ∀ m : Nat, 0 ≤ litres gr m ∧ litres gr m ≤ 1125899906842624 := fun m => by
    by_cases hmn : m < ro.length
    · obtain ⟨_, b2, b3, _⟩ := bad_parts hmn (h3 m hmn)
      have := (most_le pl ro m hmn).2.1
      omega
    · rw [litres_past _ _ (by omega)]; omega
  have hbd := day_litres_bound pl ro su hpl hm
  have key : ∀ i : Nat, i ≤ ro.length → ∀ m, m < i → litres gr m = litres (dayF pl ro su).1 m := by
    intro i
    induction i with
    | zero => intro _ m hm; exact absurd hm (Nat.not_lt_zero _)
    | succ i ih =>
      intro hi m hmi
      rcases Nat.lt_or_ge m i with hlt | hge
      · exact ih (by omega) m hlt
      obtain rfl : m = i := by omega
      have ih' := ih (by omega)
      obtain ⟨_, b2, b3, b4⟩ := bad_parts (by omega) (h3 m (by omega))
      obtain ⟨m1, m2, m3, m4, m5⟩ := most_le pl ro m (by omega)
      by_cases hr : reach pl (rd_T39 ro m).f3 = []
      · have := m4 hr
        rw [litres_day pl ro su m (by omega), grant_none _ _ _ hr]; omega
      have hgood := dayS_good pl ro su hpl hm m
      have hL : ∀ q, 0 ≤ q → rd (dayS pl ro su m) q = rd (left0 pl su) q - takeS pl ro gr q m := fun q hq => by
        rw [← leftTo_day pl ro su m (by omega), leftTo_rd pl ro su _ hpl hm hbd q hq m (by omega), takeS_congr pl ro gr (dayF pl ro su).1 q m ih']
      have hstep : ∀ q ∈ reach pl (rd_T39 ro m).f3, takeS pl ro gr q (m + 1) = takeS pl ro gr q m + litres gr m := fun q hq => by simp only [takeS]; rw [if_pos hq]
      have hup : ∀ q ∈ reach pl (rd_T39 ro m).f3, litres gr m ≤ rd (dayS pl ro su m) q := fun q hq => by
        obtain ⟨q0, q1⟩ := reach_in pl _ q hq
        have e1 := h2 q q0 q1
        rw [leftTo_rd pl ro su gr hpl hm hb q q0 _ (by omega)] at e1
        have e2 := takeS_mono pl ro gr q hb (m + 1) (ro.length - (m + 1))
        rw [show m + 1 + (ro.length - (m + 1)) = ro.length by omega, hstep q hq] at e2
        rw [hL q q0]; omega
      rw [litres_day pl ro su m (by omega)]
      have hle : litres gr m ≤ grant pl (dayS pl ro su m) (rd_T39 ro m) := by
        have e : grant pl (dayS pl ro su m) (rd_T39 ro m) = mx 0 (leastF (rd_T39 ro m).f4 (dayS pl ro su m) (reach pl (rd_T39 ro m).f3)) := by unfold grant; rw [if_neg hr]
        obtain ⟨_, _, l3⟩ := least_le (dayS pl ro su m) (reach pl (rd_T39 ro m).f3) (rd_T39 ro m).f4
        rw [e]
        rcases l3 with l3 | ⟨q, hq, l3⟩
        · rw [l3]; unfold mx; split <;> omega
        · rw [l3]; have := hup q hq; unfold mx; split <;> omega
      rcases Int.lt_or_eq_of_le hle with hlt | heq
      · exfalso
        have hg2 := grant_rate pl (dayS pl ro su m) (rd_T39 ro m)
        have hshort : shortP pl ro gr m = true := (shortP_iff pl ro gr m (by omega)).2 ⟨by omega, hr, by omega⟩
        have hst := b4 hshort
        rcases stopP_cases pl ro su gr m (by omega) with ⟨hs, _⟩ | ⟨hs, hs2⟩
        · omega
        · generalize stopP pl ro su gr m = s at hs hs2
          obtain ⟨s0, s1⟩ := reach_in pl _ s hs
          obtain ⟨t1, t2⟩ := (stops_iff pl ro su gr m s).1 hs2
          have hflat : ∀ d : Nat, m + 1 + d ≤ ro.length → takeS pl ro gr s (m + 1 + d) = takeS pl ro gr s (m + 1) := by
            intro d
            induction d with
            | zero => intro _; rfl
            | succ d ihd =>
              intro hd
              show takeS pl ro gr s (m + 1 + d) + (if s ∈ reach pl (rd_T39 ro ((m + 1 + d : Nat) : Int)).f3 then litres gr (m + 1 + d) else 0) = _
              rw [ihd (by omega)]
              split
              · rename_i hin
                have hz : litres gr (m + 1 + d) = 0 := by
                  have h5 := (hb (m + 1 + d)).1
                  rcases Int.lt_or_eq_of_le h5 with h6 | h6
                  · exact absurd hin (t2 (m + 1 + d) (by omega) (by omega) h6)
                  · exact h6.symm
                rw [hz]; omega
              · omega
          have e1 := hflat (ro.length - (m + 1)) (by omega)
          rw [show m + 1 + (ro.length - (m + 1)) = ro.length by omega, hstep s hs] at e1
          rw [leftTo_rd pl ro su gr hpl hm hb s s0 _ (by omega), e1] at t1
          have e3 := hL s s0
          have e4 := grant_le pl _ _ hgood s hs
          omega
      · exact heq
  exact ⟨h1, fun i hi => ⟨(bad_parts hi (h3 i hi)).1, key ro.length (Nat.le_refl _) i hi⟩⟩
/-- The day's grants are accepted with all excuses. -/
theorem check_day (pl : List S79) (ro : List S39) (su : List Int) (ex : List S60) (hpl : pl.length ≤ 16) (hm : modestF su = true) :
    checkF pl ro su (dayF pl ro su).1 ex = (excTo pl ro su (dayF pl ro su).1 ro.length).all fun x => hasX ex x.f0 x.f1 := by
  obtain ⟨h1, h2, h3⟩ := day_at pl ro su
  have e1 : ((leftTo pl ro (dayF pl ro su).1 (left0 pl su) ro.length).any fun n => decide (n < 0)) = false := by
    rw [leftTo_day pl ro su _ (Nat.le_refl _), List.any_eq_false]
    intro x hx
    obtain ⟨k, hk, rfl⟩ := List.getElem_of_mem hx
    have := (dayS_good pl ro su hpl hm ro.length (k : Int) (by omega)).1
    rw [rd_nat _ _ hk] at this
    rw [decide_eq_true_eq]; omega
  have e2 : (List.range ro.length).any (badP pl ro su (dayF pl ro su).1) = false := by
    rw [List.any_eq_false]
    intro i hi
    have hi := List.mem_range.1 hi
    have hb : badP pl ro su (dayF pl ro su).1 i = false := by
      unfold badP
      rw [got_at _ _ _ hi]
      have hl := litres_day pl ro su i hi
      have hg := dayS_good pl ro su hpl hm i
      obtain ⟨m1, m2, m3, m4, m5⟩ := most_le pl ro i hi
      rw [Bool.or_eq_false_iff, Bool.or_eq_false_iff, Bool.or_eq_false_iff]
      refine ⟨by rw [h3 i hi]; simp, ?_, ?_, ?_⟩
      · rw [decide_eq_false_iff_not, hl]; have := grant_nonneg pl (dayS pl ro su i) (rd_T39 ro i); omega
      · rw [decide_eq_false_iff_not, hl]
        by_cases hr : reach pl (rd_T39 ro i).f3 = []
        · rw [m4 hr, grant_none _ _ _ hr]; omega
        · rw [m5 hr]
          have g1 := grant_rate pl (dayS pl ro su i) (rd_T39 ro i)
          have g2 := grant_max pl (dayS pl ro su i) (rd_T39 ro i) hg
          omega
      · cases hs : shortP pl ro (dayF pl ro su).1 i with
        | false => rfl
        | true =>
          obtain ⟨_, s2, s3⟩ := (shortP_iff pl ro _ i hi).1 hs
          have s4 := (day_stop pl ro su hpl hm i hi s2 s3).1
          have := (reach_in pl _ _ s4).1
          rw [Bool.true_and, decide_eq_false_iff_not]; omega
    rw [hb]; decide
  unfold checkF
  rw [decide_eq_true h1, e1, e2]; rfl
theorem hasX_mem (ex : List S60) (x : S60) (h : x ∈ ex) : hasX ex x.f0 x.f1 = true := by
  unfold hasX
  exact List.any_eq_true.2 ⟨x, h, by simp⟩
end Go.Proofs.Ytddhaagfieldfaa.Hb
