import Derived.Test.YtcncjldggfbjdaaS7
namespace Go.Proofs.Ytcncjldggfbjdaa.G2
open Go.RowKit Go.Proofs.YtcncjldggfbjdaaW.PrintWords Go.Proofs.YtcncjldggfbjdaaW.PrintLast Go.Proofs.YtcncjldggfbjdaaW.PrintMore Go.Proofs.Ytcncjldggfbjdaa.G1 Go.Proofs.Ytcncjldggfbjdaa.O Go.Proofs.Ytcncjldggfbjdaa.PEx
set_option linter.unusedVariables false
set_option linter.unusedSimpArgs false

/-- Can the total be divided by these weights? -/
def shareOk (t : Int) (l : List Int) : Bool := decide (l.length ≤ 64) && !(l.any badW) && shareSum t l
/-- What Share answers. -/
def exact_Share.f (a0 : Int) (l1 : List Int) : Option (List Int × Bool) := if shareOk a0 l1 = true then some (shareL a0 l1, true) else some ([], false)
theorem exact_Share.calls (a0 : Int) (A1 : Option Addr) (c1 : Nat) (l1 : List Int) (r1 : List Int) (r2 : Bool) (w : World) (hr1 : Kd.C (Kd.int .i64) w A1 l1.length l1) (hc1 : l1.length ≤ c1) (h : exact_Share.f a0 l1 = some (r1, r2)) :
    Calls Try.prog 17 #[.int .i64 a0, .slice A1 l1.length c1] w fun e w' => ∃ v0_ : Value, e = .returned (.tuple #[v0_, .bool r2]) ∧ Kd.R (Kd.int .i64) 3 w' w.heap.size (fun _ => True) v0_ r1 ∧ Below w.heap.size w w' := by
  unfold exact_Share.f at h
  by_cases hl : l1.length ≤ 64
  · by_cases hb : l1.any badW = true
    · rw [if_neg (by simp [shareOk, hb])] at h
      injection h with h
      injection h with h1 h2
      subst h1 h2
      exact share_bad a0 A1 c1 l1 w hr1 hl hb
    · rw [Bool.not_eq_true] at hb
      have hf : Fine l1 := ⟨hl, fun x hx => by
        rw [List.any_eq_false] at hb
        have := hb x hx
        simpa [badW] using this⟩
      by_cases hs : shareSum a0 l1 = true
      · rw [if_pos (by simp [shareOk, hl, hb, hs])] at h
        injection h with h
        injection h with h1 h2
        subst h1 h2
        refine (share_fine a0 A1 c1 l1 w hr1 hf hb hl).mono fun e w' hq => ?_
        unfold ShareAll at hq
        rw [if_pos hs] at hq
        exact hq
      · rw [if_neg (by simp [shareOk, hs])] at h
        injection h with h
        injection h with h1 h2
        subst h1 h2
        refine (share_fine a0 A1 c1 l1 w hr1 hf hb hl).mono fun e w' hq => ?_
        unfold ShareAll at hq
        rw [if_neg hs] at hq
        exact hq
  · rw [if_neg (by simp [shareOk, hl])] at h
    injection h with h
    injection h with h1 h2
    subst h1 h2
    exact share_long a0 A1 c1 l1 w (by omega)
end Go.Proofs.Ytcncjldggfbjdaa.G2
