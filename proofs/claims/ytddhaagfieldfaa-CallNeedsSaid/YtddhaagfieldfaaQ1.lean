import Derived.Test.YtddhaagfieldfaaPCallTellsx2
namespace Go.Proofs.Ytddhaagfieldfaa.Q
open Go.RowKit Go.Proofs.YtddhaagfieldfaaW.PrintWords Go.Proofs.YtddhaagfieldfaaW.PrintLast Go.Proofs.YtddhaagfieldfaaW.PrintMore Go.Proofs.Ytddhaagfieldfaa.PCallTells

/-! ### plain words -/
theorem w64 {x : Int} (h : -9223372036854775808 ≤ x) (h' : x ≤ 9223372036854775807) : wrap64 x = x := by unfold wrap64; omega
theorem rd_nat (xs : List Int) (i : Nat) (h : i < xs.length) : rd xs (i : Int) = xs[i] := by simp [rd, h]

/-- The first place from i on at which x stands. -/
theorem index_ev (xs : List Int) (x : Int) (hl : xs.length ≤ 9223372036854775806) (d : Nat) : ∀ i : Nat, xs.length - i = d → i ≤ xs.length →
    ∃ r : Int, Ev (fun k => slices_Index_int_int.l0 k xs x (xs.length : Int) (i : Int)) r ∧ (0 ≤ r ↔ x ∈ xs.drop i) := by
  induction d with
  | zero =>
    intro i hd hi
    refine ⟨-1, Ev.step (f := fun _ => some (-1)) (fun k => ?_) (Ev.now _), ?_⟩
    · simp only [slices_Index_int_int.l0]; rw [if_neg (by omega)]
    · rw [List.drop_of_length_le (by omega)]; simp
  | succ d ih =>
    intro i hd hi
    have hlt : i < xs.length := by omega
    have hdrop := List.drop_eq_getElem_cons hlt
    by_cases e : x = xs[i]
    · refine ⟨(i : Int), Ev.step (f := fun _ => some (i : Int)) (fun k => ?_) (Ev.now _), ?_⟩
      · simp only [slices_Index_int_int.l0]; rw [if_pos (by omega), if_pos (by omega), if_pos (by omega), if_pos (by rw [rd_nat _ _ hlt]; exact e)]
      · rw [hdrop, List.mem_cons]; exact ⟨fun _ => .inl e, fun _ => by omega⟩
    · obtain ⟨r, hr, hm⟩ := ih (i + 1) (by omega) (by omega)
      refine ⟨r, Ev.step (f := fun k => slices_Index_int_int.l0 k xs x (xs.length : Int) ((i + 1 : Nat) : Int)) (fun k => ?_) hr, ?_⟩
      · simp only [slices_Index_int_int.l0]; rw [if_pos (by omega), if_pos (by omega), if_pos (by omega), if_neg (by rw [rd_nat _ _ hlt]; exact e), w64 (by omega) (by omega)]; rfl
      · rw [hm, hdrop, List.mem_cons]; exact ⟨.inr, fun h => h.resolve_left e⟩
theorem contains_ev (xs : List Int) (x : Int) (hl : xs.length ≤ 9223372036854775806) : Ev (fun k => slices_Contains_int_int.f k xs x) (decide (x ∈ xs)) := by
  obtain ⟨r, hr, hm⟩ := index_ev xs x hl _ 0 rfl (Nat.zero_le _)
  refine Ev.bind (f := fun _ t => some (decide (t ≥ 0))) hr ?_
  have : decide (r ≥ 0) = decide (x ∈ xs) := by rw [List.drop_zero] at hm; exact decide_eq_decide.2 hm
  rw [this]; exact Ev.now _

/-! ### the places that water reaches within the day -/
def reachGo (pl : List S79) : Nat → List Int → Int → List Int
  | 0, out, _ => out
  | k + 1, out, p => if 0 ≤ p ∧ p < pl.length ∧ p ∉ out then (if (rd_T79 pl p).f9 ≥ 24 then out ++ [p] else reachGo pl k (out ++ [p]) (rd_T79 pl p).f8) else out
def reach (pl : List S79) (p : Int) : List Int := reachGo pl (pl.length + 1) [] p

/-- A row of different places is no longer than there are places. -/
theorem nodup_short (n : Nat) : ∀ l : List Int, l.Nodup → (∀ q ∈ l, 0 ≤ q ∧ q < n) → l.length ≤ n := by
  induction n with
  | zero =>
    intro l _ h
    cases l with
    | nil => simp
    | cons q l => have := h q (by simp); omega
  | succ n ih =>
    intro l hn h
    have h1 := ih (l.erase (n : Int)) (hn.erase _) (fun q hq => by
      have h2 := (hn.mem_erase_iff).1 hq
      have := h q h2.2
      have : q ≠ (n : Int) := h2.1
      omega)
    by_cases hm : (n : Int) ∈ l
    · rw [List.length_erase_of_mem hm] at h1; omega
    · rw [List.erase_of_not_mem hm] at h1; omega
theorem reachGo_spec (pl : List S79) : ∀ (k : Nat) (out : List Int) (p : Int), out.Nodup → (∀ q ∈ out, 0 ≤ q ∧ q < pl.length) → (reachGo pl k out p).Nodup ∧ (∀ q ∈ reachGo pl k out p, 0 ≤ q ∧ q < pl.length) := by
  intro k
  induction k with
  | zero => intro out p h1 h2; exact ⟨h1, h2⟩
  | succ k ih =>
    intro out p h1 h2
    have hn : p ∉ out → (out ++ [p]).Nodup := fun h => by
      rw [List.nodup_append]; exact ⟨h1, by simp, fun a ha b hb => by simp at hb; subst hb; rintro rfl; exact h ha⟩
    have hr : 0 ≤ p → p < pl.length → ∀ q ∈ out ++ [p], 0 ≤ q ∧ q < (pl.length : Int) := fun a b q hq => by
      rcases List.mem_append.1 hq with hq | hq
      · exact h2 q hq
      · simp at hq; subst hq; exact ⟨a, b⟩
    simp only [reachGo]
    split
    · rename_i hc
      split
      · exact ⟨hn hc.2.2, hr hc.1 hc.2.1⟩
      · exact ih _ _ (hn hc.2.2) (hr hc.1 hc.2.1)
    · exact ⟨h1, h2⟩
theorem reach_nodup (pl : List S79) (p : Int) : (reach pl p).Nodup := (reachGo_spec pl _ _ _ List.nodup_nil (by simp)).1
theorem reach_in (pl : List S79) (p : Int) : ∀ q ∈ reach pl p, 0 ≤ q ∧ q < pl.length := (reachGo_spec pl _ _ _ List.nodup_nil (by simp)).2
theorem reachGo_pre (pl : List S79) : ∀ (k : Nat) (out : List Int) (p : Int), ∃ t, reachGo pl k out p = out ++ t := by
  intro k
  induction k with
  | zero => intro out p; exact ⟨[], by simp [reachGo]⟩
  | succ k ih =>
    intro out p
    simp only [reachGo]
    split
    · split
      · exact ⟨_, rfl⟩
      · obtain ⟨t, ht⟩ := ih (out ++ [p]) (rd_T79 pl p).f8
        exact ⟨p :: t, by rw [ht]; simp⟩
    · exact ⟨[], by simp⟩
theorem reach_nil (pl : List S79) (p : Int) : reach pl p = [] ↔ ¬ (0 ≤ p ∧ p < pl.length) := by
  unfold reach
  simp only [reachGo]
  split
  · rename_i h
    refine ⟨fun he => ?_, fun hn => absurd ⟨h.1, h.2.1⟩ hn⟩
    split at he
    · simp at he
    · obtain ⟨t, ht⟩ := reachGo_pre pl pl.length ([] ++ [p]) (rd_T79 pl p).f8
      rw [ht] at he; simp at he
  · rename_i h
    exact ⟨fun _ hn => h ⟨hn.1, hn.2, by simp⟩, fun _ => rfl⟩

section
variable (a0_0 a0_1 a0_2 : V1) (pl : List S79) (a0_4 a0_5 a0_6 a0_7 a0_8 a0_9 a0_10 : V1)
theorem is_now (p : Int) : allot_is.f a0_0 a0_1 a0_2 pl a0_4 a0_5 a0_6 a0_7 a0_8 a0_9 a0_10 p = some (decide (0 ≤ p ∧ p < pl.length)) := by
  unfold allot_is.f
  split
  · rename_i h; congr 1; exact decide_eq_decide.2 ⟨fun h' => ⟨h, h'⟩, fun h' => h'.2⟩
  · rename_i h; congr 1; symm; exact decide_eq_false (fun h' => h h'.1)
theorem reachGo_ev (hs : pl.length ≤ 1000) : ∀ (k : Nat) (out : List Int) (p : Int), out.Nodup → (∀ q ∈ out, 0 ≤ q ∧ q < pl.length) → pl.length < out.length + k →
    Ev (fun F => allot_Reach.l0 F p out a0_0 a0_1 a0_2 pl a0_4 a0_5 a0_6 a0_7 a0_8 a0_9 a0_10) (reachGo pl k out p) := by
  intro k
  induction k with
  | zero =>
    intro out p h1 h2 h3
    have := nodup_short _ out h1 h2
    omega
  | succ k ih =>
    intro out p h1 h2 h3
    have hlen := nodup_short _ out h1 h2
    have hns := reachGo_spec pl 1 out p h1 h2
    refine Ev.step (f := fun F => (allot_is.f a0_0 a0_1 a0_2 pl a0_4 a0_5 a0_6 a0_7 a0_8 a0_9 a0_10 p).bind fun t105 => (if t105 = true then ((slices_Contains_int_int.f F out p).bind fun t106 => (allot_Reach.j1 F p out (!t106) a0_0 a0_1 a0_2 pl a0_4 a0_5 a0_6 a0_7 a0_8 a0_9 a0_10)) else (allot_Reach.j1 F p out false a0_0 a0_1 a0_2 pl a0_4 a0_5 a0_6 a0_7 a0_8 a0_9 a0_10))) (fun F => rfl) ?_
    simp only [is_now, Option.bind_some]
    have hj0 : Ev (fun F => allot_Reach.j1 F p out false a0_0 a0_1 a0_2 pl a0_4 a0_5 a0_6 a0_7 a0_8 a0_9 a0_10) out := Ev.step (f := fun _ => some out) (fun F => by simp only [allot_Reach.j1]; rfl) (Ev.now _)
    by_cases hp : 0 ≤ p ∧ p < pl.length
    · rw [decide_eq_true hp]
      simp only [if_true]
      refine Ev.bind (f := fun F t => allot_Reach.j1 F p out (!t) a0_0 a0_1 a0_2 pl a0_4 a0_5 a0_6 a0_7 a0_8 a0_9 a0_10) (contains_ev out p (by omega)) ?_
      by_cases hm : p ∈ out
      · rw [decide_eq_true hm]
        simp only [reachGo]
        rw [if_neg (fun h => h.2.2 hm)]
        exact hj0
      · rw [decide_eq_false hm]
        simp only [reachGo]
        rw [if_pos ⟨hp.1, hp.2, hm⟩]
        have hn : (out ++ [p]).Nodup := by
          rw [List.nodup_append]; exact ⟨h1, by simp, fun a ha b hb => by simp at hb; subst hb; rintro rfl; exact hm ha⟩
        have hr : ∀ q ∈ out ++ [p], 0 ≤ q ∧ q < (pl.length : Int) := fun q hq => by
          rcases List.mem_append.1 hq with hq | hq
          · exact h2 q hq
          · simp at hq; subst hq; exact hp
        by_cases h24 : (rd_T79 pl p).f9 ≥ 24
        · rw [if_pos h24]
          refine Ev.step (f := fun _ => some (out ++ [p])) (fun F => ?_) (Ev.now _)
          simp only [allot_Reach.j1, Bool.not_false, if_true, Option.bind_some]
          rw [if_pos (by omega), if_pos hp.1, if_pos hp.2, if_pos h24]
        · rw [if_neg h24]
          refine Ev.step (f := fun F => allot_Reach.l0 F (rd_T79 pl p).f8 (out ++ [p]) a0_0 a0_1 a0_2 pl a0_4 a0_5 a0_6 a0_7 a0_8 a0_9 a0_10) (fun F => ?_) (ih _ _ hn hr (by simp; omega))
          simp only [allot_Reach.j1, Bool.not_false, if_true, Option.bind_some]
          rw [if_pos (by omega), if_pos hp.1, if_pos hp.2, if_neg h24]
    · rw [decide_eq_false hp]
      simp only [reachGo]
      rw [if_neg (fun h => hp ⟨h.1, h.2.1⟩)]
      exact hj0
theorem reach_ev (hs : pl.length ≤ 1000) (p : Int) : Ev (fun F => allot_Reach.f F a0_0 a0_1 a0_2 pl a0_4 a0_5 a0_6 a0_7 a0_8 a0_9 a0_10 p) (reach pl p) :=
  reachGo_ev a0_0 a0_1 a0_2 pl a0_4 a0_5 a0_6 a0_7 a0_8 a0_9 a0_10 hs _ [] p List.nodup_nil (by simp) (by simp)
end
end Go.Proofs.Ytddhaagfieldfaa.Q
