import Derived.Test.YtddhaagfieldfaaHl5
namespace Go.Proofs.Ytddhaagfieldfaa.Hb
set_option linter.unusedVariables false
set_option linter.unusedSimpArgs false
open Go.RowKit Go.Proofs.YtddhaagfieldfaaW.PrintWords Go.Proofs.YtddhaagfieldfaaW.PrintLast Go.Proofs.YtddhaagfieldfaaW.PrintMore Go.Proofs.Ytddhaagfieldfaa.PCallTells Go.Proofs.Ytddhaagfieldfaa.Hw Go.Proofs.Ytddhaagfieldfaa.Q

theorem rd_set (xs : List Int) (i q : Int) (v : Int) (h0 : 0 ≤ i) (h1 : i < xs.length) (hq : 0 ≤ q) : rd (xs.set i.toNat v) q = if q = i then v else rd xs q := by
  unfold rd
  rw [List.getD_eq_getElem?_getD, List.getD_eq_getElem?_getD, List.getElem?_set]
  by_cases e : q = i
  · subst e; rw [if_pos rfl, if_pos (by omega), if_pos rfl]; rfl
  · rw [if_neg (by omega), if_neg e]
/-- A row whose places in l are taken one after the other. -/
theorem rd_fold (f : Int → Int) (l : List Int) : ∀ (left : List Int), l.Nodup → (∀ q ∈ l, 0 ≤ q ∧ q < left.length) → ∀ q, 0 ≤ q →
    rd (l.foldl (fun left q => left.set q.toNat (f (rd left q))) left) q = if q ∈ l then f (rd left q) else rd left q := by
  induction l with
  | nil => intro left _ _ q _; simp
  | cons a l ih =>
    intro left hn hin q hq
    rw [List.foldl_cons, ih _ (List.nodup_cons.1 hn).2 (fun q hq => by rw [List.length_set]; exact hin q (List.mem_cons_of_mem _ hq)) q hq]
    obtain ⟨ha0, ha1⟩ := hin a (List.mem_cons_self ..)
    rw [rd_set _ _ _ _ ha0 ha1 hq]
    by_cases e : q = a
    · subst e
      rw [if_neg (List.nodup_cons.1 hn).1, if_pos rfl, if_pos (List.mem_cons_self ..)]
    · rw [if_neg e]
      by_cases hm : q ∈ l
      · rw [if_pos hm, if_pos (List.mem_cons_of_mem _ hm)]
      · rw [if_neg hm, if_neg (by simp [e, hm])]
theorem rd_lower (n : Int) (l left : List Int) (hn : l.Nodup) (hin : ∀ q ∈ l, 0 ≤ q ∧ q < left.length) (q : Int) (hq : 0 ≤ q) : rd (lower n l left) q = if q ∈ l then wrap64 (rd left q - n) else rd left q :=
  rd_fold (fun x => wrap64 (x - n)) l left hn hin q hq
theorem rd_raise (n : Int) (l left : List Int) (hn : l.Nodup) (hin : ∀ q ∈ l, 0 ≤ q ∧ q < left.length) (q : Int) (hq : 0 ≤ q) : rd (raise n l left) q = if q ∈ l then add (rd left q) n else rd left q :=
  rd_fold (fun x => add x n) l left hn hin q hq
theorem add_small (a b : Int) (ha : 0 ≤ a) (ha' : a ≤ 1125899906842624) (hb : 0 ≤ b) (hb' : b ≤ 1125899906842624) : add a b = a + b := by
  have e : wrap64 (a + b) = a + b := w64 (by omega) (by omega)
  unfold add
  rw [e, decide_eq_false (show ¬ a < 0 by omega), decide_eq_false (show ¬ b < 0 by omega), decide_eq_false (show ¬ a + b < 0 by omega)]
  rfl
/-! ### supplies of at most MaxVol together -/
def pos : List Int → Nat → Int
  | _, 0 => 0
  | [], _ => 0
  | s :: l, k + 1 => max 0 s + pos l k
theorem pos_succ : ∀ (l : List Int) (k : Nat), pos l (k + 1) = pos l k + if k < l.length then max 0 (rd l k) else 0 := by
  intro l
  induction l with
  | nil => intro k; cases k <;> simp [pos]
  | cons s l ih =>
    intro k
    cases k with
    | zero => simp [pos, rd]
    | succ k =>
      show max 0 s + pos l (k + 1) = max 0 s + pos l k + _
      rw [ih k]
      have : rd (s :: l) ((k + 1 : Nat) : Int) = rd l (k : Nat) := by simp [rd]
      rw [this]
      simp only [List.length_cons, Nat.add_lt_add_iff_right]
      omega
theorem pos_nonneg (l : List Int) : ∀ k, 0 ≤ pos l k := by
  intro k
  induction k with
  | zero => cases l <;> simp [pos]
  | succ k ih => rw [pos_succ]; split <;> omega
theorem pos_mono (l : List Int) (k m : Nat) (h : k ≤ m) : pos l k ≤ pos l m := by
  induction m with
  | zero => obtain rfl : k = 0 := by omega
            exact Int.le_refl _
  | succ m ih =>
    rcases Nat.lt_or_ge k (m + 1) with h1 | h1
    · have := ih (by omega); rw [pos_succ]; split <;> omega
    · obtain rfl : k = m + 1 := by omega
      exact Int.le_refl _
theorem modGo_pos : ∀ (l : List Int) (n : Int), modGo l n = true → n + pos l l.length ≤ 1125899906842624 := by
  intro l
  induction l with
  | nil => intro n h; simpa [modGo, pos] using h
  | cons s l ih =>
    intro n h
    unfold modGo at h
    by_cases hs : s > 1125899906842624
    · rw [if_pos hs] at h; cases h
    · rw [if_neg hs] at h
      have := ih _ h
      show n + (max 0 s + pos l l.length) ≤ 1125899906842624
      omega
theorem pos_take : ∀ (l : List Int) (m k : Nat), k ≤ m → pos (l.take m) k = pos l k := by
  intro l
  induction l with
  | nil => intro m k _; simp
  | cons s l ih =>
    intro m k h
    cases m with
    | zero => obtain rfl : k = 0 := by omega
              simp [pos]
    | succ m =>
      cases k with
      | zero => simp [pos]
      | succ k => show max 0 s + pos (l.take m) k = max 0 s + pos l k; rw [ih m k (by omega)]
theorem pos_all (l : List Int) (k : Nat) (h : l.length ≤ k) : pos l k = pos l l.length := by
  induction k with
  | zero => have : l.length = 0 := by omega
            rw [this]
  | succ k ih =>
    rcases Nat.lt_or_ge k l.length with h1 | h1
    · have : k + 1 = l.length := by omega
      rw [this]
    · rw [pos_succ, if_neg (by omega), ih h1, Int.add_zero]
theorem modest_pos (su : List Int) (h : modestF su = true) (k : Nat) (hk : k ≤ 16) : pos su k ≤ 1125899906842624 := by
  have h1 := modGo_pos _ _ h
  have h2 : pos (su.take 16) 16 = pos (su.take 16) (su.take 16).length := pos_all _ _ (by rw [List.length_take]; omega)
  have h3 := pos_take su 16 16 (Nat.le_refl _)
  have h4 := pos_mono su k 16 hk
  omega
theorem left0Go_bound (pl : List S79) (su : List Int) (hpl : pl.length ≤ 16) (hm : modestF su = true) : ∀ (d p : Nat) (left : List Int), left.length = pl.length → p + d = pl.length →
    (∀ q, 0 ≤ q → 0 ≤ rd left q ∧ rd left q ≤ pos su p) → ∀ q, 0 ≤ q → 0 ≤ rd (left0Go pl su d p left) q ∧ rd (left0Go pl su d p left) q ≤ pos su pl.length := by
  intro d
  induction d with
  | zero => intro p left hl hp h q hq; simp only [left0Go]; obtain rfl : p = pl.length := by omega
            exact h q hq
  | succ d ih =>
    intro p left hl hp h q hq
    simp only [left0Go]
    refine ih (p + 1) _ ?_ (by omega) ?_ q hq
    · split
      · exact hl
      · rw [raise_length, hl]
    · intro q hq
      have hp2 := modest_pos su hm (p + 1) (by omega)
      have hp1 := modest_pos su hm p (by omega)
      have hps := pos_succ su p
      split
      · rename_i hc
        have := h q hq
        have hmn := pos_mono su p (p + 1) (by omega)
        omega
      · rename_i hc
        rw [rd_raise _ _ _ (reach_nodup pl _) (fun q hq => by rw [hl]; exact reach_in pl _ q hq) q hq]
        have := h q hq
        have hlt : p < su.length := by omega
        have hs0 : 0 ≤ rd su p := by omega
        rw [if_pos hlt] at hps
        have hmx : max 0 (rd su p) = rd su p := by omega
        rw [hmx] at hps
        have hpn := pos_nonneg su p
        split
        · rw [add_small _ _ this.1 (by omega) hs0 (by omega)]; omega
        · omega
theorem left0_bound (pl : List S79) (su : List Int) (hpl : pl.length ≤ 16) (hm : modestF su = true) (q : Int) (hq : 0 ≤ q) : 0 ≤ rd (left0 pl su) q ∧ rd (left0 pl su) q ≤ 1125899906842624 := by
  have := left0Go_bound pl su hpl hm pl.length 0 (List.replicate pl.length 0) (by simp) (by omega) (fun q _ => by
    have : rd (List.replicate pl.length (0 : Int)) q = 0 := by
      unfold rd; rw [List.getD_eq_getElem?_getD, List.getElem?_replicate]; split <;> rfl
    rw [this]; exact ⟨Int.le_refl _, pos_nonneg su 0⟩) q hq
  have h2 := modest_pos su hm pl.length hpl
  unfold left0
  omega
end Go.Proofs.Ytddhaagfieldfaa.Hb
