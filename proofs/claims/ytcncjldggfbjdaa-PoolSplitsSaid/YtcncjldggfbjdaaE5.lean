import Derived.Test.YtcncjldggfbjdaaE4
namespace Go.Proofs.Ytcncjldggfbjdaa.E
open Go.RowKit Go.Proofs.YtcncjldggfbjdaaW.PrintWords Go.Proofs.YtcncjldggfbjdaaW.PrintLast Go.Proofs.YtcncjldggfbjdaaW.PrintMore Go.Proofs.Ytcncjldggfbjdaa.G0 Go.Proofs.Ytcncjldggfbjdaa.G1 Go.Proofs.Ytcncjldggfbjdaa.G2 Go.Proofs.Ytcncjldggfbjdaa.PEx Go.Proofs.Ytcncjldggfbjdaa.O
set_option linter.unusedVariables false
set_option linter.unusedSimpArgs false

theorem wIn {x : Int} (h : -9223372036854775808 ≤ x) (h2 : x ≤ 9223372036854775807) : wrap64 x = x := by unfold wrap64; omega
/-- What a right pool has of an owner. -/
def hasF (l : List Int) (a : Int) : Int := if 0 ≤ a ∧ a < l.length then l.getD a.toNat 0 else 0
theorem has_now {l : List Int} (h : Pool l) (a : Int) : pool_has.f l a = some (hasF l a) := by
  unfold pool_has.f hasF
  by_cases h1 : a < 0
  · rw [if_pos h1, if_neg (by omega)]
  · by_cases h2 : a ≥ (l.length : Int)
    · rw [if_neg h1, if_pos h2, if_neg (by omega)]
    · rw [if_neg h1, if_neg h2, if_pos (by omega), if_pos (by omega), if_pos (by omega)]
      have e : rd l a = l.getD a.toNat 0 := by
        obtain ⟨n, rfl⟩ := Int.eq_ofNat_of_zero_le (show 0 ≤ a by omega)
        rw [rd_getD]; rfl
      have := (h.at_ a.toNat).1
      rw [e]; congr 1; unfold mx; split <;> omega
def takeF (l : List Int) (a n : Int) : List Int := if 0 < mn n (hasF l a) then (List.replicate l.length 0).set a.toNat (mn n (hasF l a)) else List.replicate l.length 0
theorem takeF_length (l : List Int) (a n : Int) : (takeF l a n).length = l.length := by unfold takeF; split <;> simp
theorem hasF_in {l : List Int} {a n : Int} (h : 0 < mn n (hasF l a)) : 0 ≤ a ∧ a < l.length := by
  unfold hasF at h
  by_cases h1 : 0 ≤ a ∧ a < l.length
  · exact h1
  · rw [if_neg h1] at h
    unfold mn at h
    split at h <;> omega
theorem less_now (l t : List Int) (h : t.length ≤ l.length) (hl : l.length ≤ 35184372088832) : pool_less.f l t = some (lessL l t) := by unfold pool_less.f; rw [if_pos ⟨h, hl⟩]
theorem from_now {l : List Int} (h : Pool l) (a n : Int) : pool_From.f l a n = some (takeF l a n, lessL l (takeF l a n)) := by
  have hl := h.len
  unfold pool_From.f
  rw [if_pos (by omega), if_pos (by omega)]
  simp only [Option.bind_some]
  rw [has_now h]
  simp only [Option.bind_some, Int.toNat_natCast]
  by_cases hm : 0 < mn n (hasF l a)
  · have hin := hasF_in hm
    rw [if_pos hm, if_pos hin.1, if_pos (by rw [List.length_replicate]; exact hin.2)]
    have e : takeF l a n = (List.replicate l.length 0).set a.toNat (mn n (hasF l a)) := by unfold takeF; rw [if_pos hm]
    rw [less_now _ _ (by simp) (by omega), ← e]
    rfl
  · have e : takeF l a n = List.replicate l.length 0 := by unfold takeF; rw [if_neg hm]
    rw [if_neg hm, less_now _ _ (by simp) (by omega), ← e]
    rfl
theorem lessL_at (l t : List Int) (i : Nat) (h : i < l.length) : (lessL l t).getD i 0 = if i < t.length then wrap64 (l.getD i 0 - t.getD i 0) else l.getD i 0 := by unfold lessL; rw [lessTo_at _ _ _ _ h]
theorem lessL_length (l t : List Int) : (lessL l t).length = l.length := lessTo_length ..
theorem takeF_at {l : List Int} (h : Pool l) (a n : Int) (i : Nat) (hi : i < l.length) : (takeF l a n).getD i 0 = if (i : Int) = a ∧ 0 < n then mn n (l.getD i 0) else 0 := by
  have hx := (h.at_ i).1
  unfold takeF
  by_cases hm : 0 < mn n (hasF l a)
  · have hin := hasF_in hm
    rw [if_pos hm, O.getD_set' _ _ _ _ (by rw [List.length_replicate]; omega)]
    have hh : hasF l a = l.getD a.toNat 0 := by unfold hasF; rw [if_pos hin]
    by_cases e : i = a.toNat
    · rw [if_pos e]
      subst e
      have hn : 0 < n := by unfold mn at hm; split at hm <;> omega
      rw [if_pos ⟨by omega, hn⟩, hh]
    · rw [if_neg e, if_neg (fun h => e (by omega))]
      simp [hi]
  · rw [if_neg hm]
    have e0 : (List.replicate l.length (0 : Int)).getD i 0 = 0 := by simp [hi]
    rw [e0]
    by_cases e : (i : Int) = a ∧ 0 < n
    · rw [if_pos e]
      have hh : hasF l a = l.getD i 0 := by
        unfold hasF
        rw [if_pos ⟨by omega, by omega⟩, ← e.1]; rfl
      rw [hh] at hm
      unfold mn at hm ⊢
      split at hm <;> rename_i hc
      · rw [if_pos hc]; omega
      · omega
    · rw [if_neg e]
theorem lessL_nil (l : List Int) : lessL l [] = l := lessTo_zero l []
/-- What is given, and what stands there then. -/
def giveF (l : List Int) (a b : Nat) (n : Int) : List Int := if 0 < mn n (l.getD a 0) then (l.set a (l.getD a 0 - mn n (l.getD a 0))).set b (l.getD b 0 + mn n (l.getD a 0)) else l
theorem give_now {l : List Int} (h : Pool l) (a b : Nat) (n : Int) (ha : a < l.length) (hb : b < l.length) (hab : a ≠ b) : pool_Give.f l a b n = some (giveF l a b n) := by
  have hl := h.len
  have hxa := h.at_ a
  have hxb := h.at_ b
  have hh : hasF l (a : Int) = l.getD a 0 := by unfold hasF; rw [if_pos ⟨by omega, by omega⟩]; rfl
  unfold pool_Give.f
  rw [less_now _ _ (by simp) (by omega), lessL_nil]
  simp only [Option.bind_some]
  rw [has_now h, hh]
  simp only [Option.bind_some]
  unfold giveF
  have hmb : mn n (l.getD a 0) ≤ 1125899906842624 := by unfold mn; split <;> omega
  have hmb2 : mn n (l.getD a 0) ≤ l.getD a 0 := by unfold mn; split <;> omega
  by_cases hm : 0 < mn n (l.getD a 0)
  · generalize mn n (l.getD a 0) = m at *
    rw [if_pos hm, if_pos (by omega), if_pos (by omega), if_neg (by omega), if_pos (by omega), if_pos (by omega)]
    have ew : wrap64 (l.getD a 0 - m) = l.getD a 0 - m := wIn (by omega) (by omega)
    simp only [rd_getD, ew, Int.toNat_natCast]
    have e2 : (l.set a (l.getD a 0 - m)).getD b 0 = l.getD b 0 := by rw [O.getD_set' _ _ _ _ ha, if_neg (by omega)]
    rw [e2, add_now (by rw [i64R_iff]; omega) (by rw [i64R_iff]; omega)]
    simp only [Option.bind_some]
    rw [if_pos (by omega), if_pos (by omega), if_pos hm]
    congr 2
    unfold addS
    rw [if_neg (by omega), if_neg (by omega)]
  · rw [if_neg hm, if_neg hm]
theorem giveF_length (l : List Int) (a b : Nat) (n : Int) : (giveF l a b n).length = l.length := by unfold giveF; split <;> simp
theorem giveF_at {l : List Int} (a b : Nat) (n : Int) (ha : a < l.length) (hb : b < l.length) (i : Nat) : (giveF l a b n).getD i 0 = if 0 < mn n (l.getD a 0) then (if i = b then l.getD b 0 + mn n (l.getD a 0) else if i = a then l.getD a 0 - mn n (l.getD a 0) else l.getD i 0) else l.getD i 0 := by
  unfold giveF
  by_cases hm : 0 < mn n (l.getD a 0)
  · rw [if_pos hm, if_pos hm, O.getD_set' _ _ _ _ (by simpa using hb), O.getD_set' _ _ _ _ ha]
  · rw [if_neg hm, if_neg hm]
theorem give_pool {l : List Int} (h : Pool l) (a b : Nat) (n : Int) (ha : a < l.length) (hb : b < l.length) (hab : a ≠ b) : Pool (giveF l a b n) ∧ (giveF l a b n).sum = l.sum := by
  have hs : (giveF l a b n).sum = l.sum := by
    unfold giveF
    by_cases hm : 0 < mn n (l.getD a 0)
    · rw [if_pos hm, O.sum_set _ _ _ (by simpa using hb), O.sum_set _ _ _ ha, O.getD_set' _ _ _ _ ha, if_neg (by omega)]
      omega
    · rw [if_neg hm]
  refine ⟨⟨fun x hx => ?_, by rw [hs]; exact h.sm, by rw [giveF_length]; exact h.len⟩, hs⟩
  obtain ⟨i, hi, rfl⟩ := List.mem_iff_getElem.1 hx
  rw [← O.getD_eq _ _ hi, giveF_at _ _ _ ha hb]
  have hmb2 : mn n (l.getD a 0) ≤ l.getD a 0 := by unfold mn; split <;> omega
  have := (h.at_ a).1; have := (h.at_ b).1; have := (h.at_ i).1
  split
  · split
    · omega
    · split <;> omega
  · omega
end Go.Proofs.Ytcncjldggfbjdaa.E
