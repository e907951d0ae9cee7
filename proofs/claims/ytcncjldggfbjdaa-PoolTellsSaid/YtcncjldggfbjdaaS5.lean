import Derived.Test.YtcncjldggfbjdaaS13
namespace Go.Proofs.Ytcncjldggfbjdaa.G2
open Go.RowKit Go.Proofs.YtcncjldggfbjdaaW.PrintWords Go.Proofs.YtcncjldggfbjdaaW.PrintLast Go.Proofs.YtcncjldggfbjdaaW.PrintMore Go.Proofs.Ytcncjldggfbjdaa.G1 Go.Proofs.Ytcncjldggfbjdaa.O
set_option linter.unusedVariables false
set_option linter.unusedSimpArgs false

/-- The first place at which p holds, or -1. -/
def idxF (p : Int → Bool) (xs : List Int) : Int := match xs.findIdx? p with | some k => (k : Int) | none => -1
theorem idxF_at {p : Int → Bool} {xs : List Int} {k : Nat} (h : k < xs.length) (hk : p xs[k] = true) (hb : ∀ j, (hj : j < k) → p (xs[j]'(by omega)) = false) : idxF p xs = k := by
  have : xs.findIdx? p = some k := by
    rw [List.findIdx?_eq_some_iff_getElem]
    exact ⟨h, hk, fun j hj => by simp [hb j hj]⟩
  unfold idxF; rw [this]
theorem idxF_none {p : Int → Bool} {xs : List Int} (hb : ∀ j, (hj : j < xs.length) → p xs[j] = false) : idxF p xs = -1 := by
  have : xs.findIdx? p = none := by
    rw [List.findIdx?_eq_none_iff]
    intro x hx
    obtain ⟨j, hj, rfl⟩ := List.mem_iff_getElem.1 hx
    exact hb j hj
  unfold idxF; rw [this]
theorem idxF_any (p : Int → Bool) (xs : List Int) : decide (0 ≤ idxF p xs) = xs.any p := by
  unfold idxF
  cases h : xs.findIdx? p with
  | some k =>
    rw [List.findIdx?_eq_some_iff_getElem] at h
    obtain ⟨hk, hp, _⟩ := h
    simp only [Int.natCast_nonneg, decide_true]
    exact (List.any_eq_true.2 ⟨_, List.getElem_mem hk, hp⟩).symm
  | none =>
    rw [List.findIdx?_eq_none_iff] at h
    symm
    simp only [show ¬ (0 : Int) ≤ -1 by decide, decide_false]
    rw [List.any_eq_false]
    exact fun x hx => by simp [h x hx]
/-- A weight that is none. -/
def badW (x : Int) : Bool := !(decide (0 ≤ x) && decide (x ≤ 1125899906842624))
set_option maxHeartbeats 1000000 in
theorem in_calls (a b : Int) (w : World) : Calls Try.prog 44 #[.int .i64 a, .int .i64 b] w fun e w' => e = .returned (.bool (decide (b ≤ a) && decide (a ≤ 1125899906842624))) ∧ w = w' := by
  by_cases h : b ≤ a
  · have d : decide (b ≤ a) = true := decide_eq_true h
    rw [d, Bool.true_and]
    go_enter Try.func44, Try.ntmps44
    go_wp2
    go_ret
    exact ⟨rfl, rfl⟩
  · have d : decide (b ≤ a) = false := decide_eq_false h
    rw [d, Bool.false_and]
    go_enter Try.func44, Try.ntmps44
    go_wp2
    go_ret
    exact ⟨rfl, rfl⟩
set_option maxHeartbeats 1000000 in
theorem closure48 (x : Int) (w : World) : Calls Try.prog 48 #[.int .i64 x] w fun e w' => e = .returned (.bool (badW x)) ∧ Below w.heap.size w w' := by
  obtain ⟨p, hp⟩ : ∃ p, (decide (0 ≤ x) && decide (x ≤ 1125899906842624)) = p := ⟨_, rfl⟩
  have HC := fun w => in_calls x 0 w
  have HB := Aside0.mk (show badW x = !p by unfold badW; rw [hp])
  rw [hp] at HC
  have HC := Aside0.mk HC
  clear hp
  go_enter Try.func48, Try.ntmps48
  go_wp2_with (go_at_call 44; refine (HC.out _).mono ?_; rintro e w' ⟨rfl, rfl⟩)
  go_ret
  exact ⟨by rw [HB.out]; rfl, Below.refl _ _⟩

set_option maxHeartbeats 1000000 in
theorem IndexFunc48 (A : Option Addr) (c : Nat) (xs : List Int) (p : Int → Bool) (w : World) (hr : Kd.C (Kd.int .i64) w A xs.length xs) (hl : xs.length ≤ 1000000)
    (hf : ∀ x ∈ xs, ∀ W, Below w.heap.size w W → Calls Try.prog 48 #[.int .i64 x] W fun e w' => e = .returned (.bool (p x)) ∧ Below W.heap.size W w') :
    Calls Try.prog 62 #[.slice A xs.length c, .func (.func 48) #[] #[]] w fun e w' => e = .returned (.int .i64 (idxF p xs)) ∧ Below w.heap.size w w' := by
  have HR := Aside0.mk hr
  have HF := Aside0.mk hf
  clear hr hf
  go_enter Try.func62, Try.ntmps62
  go_wp2
  go_loopw [8] (fun v8 W => ∃ k : Nat, v8 = .int .i64 k ∧ Aside0 (k ≤ xs.length ∧ (∀ j, (hj : j < k) → (hj2 : j < xs.length) → p xs[j] = false) ∧ Below w.heap.size w W)) (fun v8 _ => xs.length - (intOf v8).toNat)
  case atStart => exact ⟨0, rfl, ⟨Nat.zero_le _, fun j hj => absurd hj (by omega), Below.refl _ _⟩⟩
  case round =>
    obtain ⟨k, rfl, hk⟩ := hrel
    by_cases hlt : k < xs.length
    · have hk0 : (0 : Int) ≤ (k : Int) := Int.natCast_nonneg _
      have hk1 : (k : Int) < (xs.length : Int) := by omega
      obtain ⟨ad, e1, hx⟩ := Kd.at_int (Kd.C_below HR.out hk.out.2.2) k hk0 hk1
      subst e1
      rw [Int.toNat_natCast, rdn _ _ hlt] at hx
      have HK := Aside0.mk (HF.out _ (List.getElem_mem hlt) wr hk.out.2.2)
      obtain ⟨y, hy⟩ : ∃ y, xs[k] = y := ⟨_, rfl⟩
      rw [hy] at hx HK
      have HY := Aside0.mk hy
      clear hy
      cases hp : p y with
      | true =>
        rw [hp] at HK
        go_wp2_with (go_at_call 48; refine HK.out.mono ?_; rintro e w2 ⟨rfl, hb2⟩)
        go_ret
        exact ⟨by rw [idxF_at hlt (by rw [HY.out]; exact hp) (fun j hj => hk.out.2.1 j hj (by omega))]; rfl, below_step hk.out.2.2 hb2⟩
      | false =>
        rw [hp] at HK
        go_wp2_with (go_at_call 48; refine HK.out.mono ?_; rintro e w2 ⟨rfl, hb2⟩)
        go_roundw
        case rel =>
          refine ⟨k + 1, by go_num, ⟨by omega, fun j hj hj2 => ?_, below_step hk.out.2.2 hb2⟩⟩
          by_cases e : j = k
          · subst e; rw [HY.out]; exact hp
          · exact hk.out.2.1 j (by omega) hj2
        case measure => simp [intOf]; omega
    · obtain rfl : k = xs.length := by have := hk.out.1; omega
      go_wp2
      go_ret
      exact ⟨by rw [idxF_none (fun j hj => hk.out.2.1 j hj hj)]; rfl, hk.out.2.2⟩
set_option maxHeartbeats 1000000 in
theorem ContainsFunc48 (A : Option Addr) (c : Nat) (xs : List Int) (p : Int → Bool) (w : World) (hr : Kd.C (Kd.int .i64) w A xs.length xs) (hl : xs.length ≤ 1000000)
    (hf : ∀ x ∈ xs, ∀ W, Below w.heap.size w W → Calls Try.prog 48 #[.int .i64 x] W fun e w' => e = .returned (.bool (p x)) ∧ Below W.heap.size W w') :
    Calls Try.prog 47 #[.slice A xs.length c, .func (.func 48) #[] #[]] w fun e w' => e = .returned (.bool (xs.any p)) ∧ Below w.heap.size w w' := by
  have HC := Aside0.mk (IndexFunc48 A c xs p w hr hl hf)
  clear hf hr
  go_enter Try.func47, Try.ntmps47
  go_wp2_with (go_at_call 62; refine HC.out.mono ?_; rintro e w2 ⟨rfl, hb2⟩)
  go_ret
  exact ⟨by rw [← idxF_any]; rfl, hb2⟩
theorem bad_calls (A : Option Addr) (c : Nat) (xs : List Int) (w : World) (hr : Kd.C (Kd.int .i64) w A xs.length xs) (hl : xs.length ≤ 1000000) :
    Calls Try.prog 47 #[.slice A xs.length c, .func (.func 48) #[] #[]] w fun e w' => e = .returned (.bool (xs.any badW)) ∧ Below w.heap.size w w' :=
  ContainsFunc48 A c xs badW w hr hl (fun x _ W _ => closure48 x W)
end Go.Proofs.Ytcncjldggfbjdaa.G2
