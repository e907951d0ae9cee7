import Derived.Test.YtddhaagfieldfaaHb2
import Derived.Test.YtddhaagfieldfaaPCallTellsx4
namespace Go.Proofs.Ytddhaagfieldfaa.Hb
set_option linter.unusedVariables false
set_option linter.unusedSimpArgs false
open Go.RowKit Go.Proofs.YtddhaagfieldfaaW.PrintWords Go.Proofs.YtddhaagfieldfaaW.PrintLast Go.Proofs.YtddhaagfieldfaaW.PrintMore Go.Proofs.Ytddhaagfieldfaa.PCallTells Go.Proofs.Ytddhaagfieldfaa.Hw Go.Proofs.Ytddhaagfieldfaa.Q
attribute [local go_sem] run_store_v1 max2_int min2_int max_two min_two max_three min_three max_four min_four

/-- The first place at which p holds, or -1. -/
def idxF (p : Int → Bool) (xs : List Int) : Int := match xs.findIdx? p with | some k => (k : Int) | none => -1
theorem idxF_at {p : Int → Bool} {xs : List Int} {k : Nat} (h : k < xs.length) (hk : p xs[k] = true) (hb : ∀ j, (hj : j < k) → p (xs[j]'(by omega)) = false) : idxF p xs = k := by
  have : xs.findIdx? p = some k := by
    rw [List.findIdx?_eq_some_iff_getElem]
    exact ⟨h, hk, fun j hj => by simp [hb j hj]⟩
  unfold idxF; rw [this]
theorem idxF_none {p : Int → Bool} {xs : List Int} (hb : ∀ j, (hj : j < xs.length) → p xs[j] = false) : idxF p xs = -1 := by
  have : xs.findIdx? p = none := by
    rw [List.findIdx?_eq_none_iff]
    intro x hx
    obtain ⟨j, hj, rfl⟩ := List.mem_iff_getElem.1 hx
    exact hb j hj
  unfold idxF; rw [this]
theorem idxF_any (p : Int → Bool) (xs : List Int) : decide (0 ≤ idxF p xs) = xs.any p := by
  unfold idxF
  cases h : xs.findIdx? p with
  | some k =>
    rw [List.findIdx?_eq_some_iff_getElem] at h
    obtain ⟨hk, hp, _⟩ := h
    simp only [Int.natCast_nonneg, decide_true]
    exact (List.any_eq_true.2 ⟨_, List.getElem_mem hk, hp⟩).symm
  | none =>
    rw [List.findIdx?_eq_none_iff] at h
    symm
    simp only [show ¬ (0 : Int) ≤ -1 by decide, decide_false]
    rw [List.any_eq_false]
    exact fun x hx => by simp [h x hx]
theorem Contains_calls (A : Option Addr) (c : Nat) (xs : List Int) (x : Int) (w : World) (hr : Kd.C (Kd.int .i64) w A xs.length xs) (hc : xs.length ≤ c) (hl : xs.length ≤ 9223372036854775806) :
    Calls Try.prog 28 #[.slice A xs.length c, .int .i64 x] w fun e w' => e = .returned (.bool (decide (x ∈ xs))) ∧ Drawn0 w w' := by
  obtain ⟨k, h⟩ := (contains_ev xs x hl).rounds
  exact slices_Contains_int_int.calls k A c xs x _ w hr hc h

set_option maxHeartbeats 1000000 in
theorem closure38 (x : Int) (w : World) : Calls Try.prog 38 #[.int .i64 x] w fun e w' => e = .returned (.bool (decide (x < 0))) ∧ Below w.heap.size w w' := by
  go_enter Try.func38, Try.ntmps38
  go_wp2
  go_ret
  exact ⟨rfl, Below.refl _ _⟩

set_option maxHeartbeats 1000000 in
theorem IndexFunc38 (A : Option Addr) (c : Nat) (xs : List Int) (p : Int → Bool) (w : World) (hr : Kd.C (Kd.int .i64) w A xs.length xs) (hl : xs.length ≤ 1000000)
    (hf : ∀ x ∈ xs, ∀ W, Below w.heap.size w W → Calls Try.prog 38 #[.int .i64 x] W fun e w' => e = .returned (.bool (p x)) ∧ Below W.heap.size W w') :
    Calls Try.prog 45 #[.slice A xs.length c, .func (.func 38) #[] #[]] w fun e w' => e = .returned (.int .i64 (idxF p xs)) ∧ Below w.heap.size w w' := by
  have HR := Aside0.mk hr
  have HF := Aside0.mk hf
  clear hr hf
  go_enter Try.func45, Try.ntmps45
  go_wp2
  go_loopw [8] (fun v8 W => ∃ k : Nat, v8 = .int .i64 k ∧ Aside0 (k ≤ xs.length ∧ (∀ j, (hj : j < k) → (hj2 : j < xs.length) → p xs[j] = false) ∧ Below w.heap.size w W)) (fun v8 _ => xs.length - (intOf v8).toNat)
  case atStart => exact ⟨0, rfl, ⟨Nat.zero_le _, fun j hj => absurd hj (by omega), Below.refl _ _⟩⟩
  case round =>
    obtain ⟨k, rfl, hk⟩ := hrel
    by_cases hlt : k < xs.length
    · have hk0 : (0 : Int) ≤ (k : Int) := Int.natCast_nonneg _
      have hk1 : (k : Int) < (xs.length : Int) := by omega
      obtain ⟨ad, e1, hx⟩ := Kd.at_int (Kd.C_below HR.out hk.out.2.2) k hk0 hk1
      subst e1
      rw [Int.toNat_natCast, rd_nat _ _ hlt] at hx
      have HK := Aside0.mk (HF.out _ (List.getElem_mem hlt) wr hk.out.2.2)
      obtain ⟨y, hy⟩ : ∃ y, xs[k] = y := ⟨_, rfl⟩
      rw [hy] at hx HK
      have HY := Aside0.mk hy
      clear hy
      cases hp : p y with
      | true =>
        rw [hp] at HK
        go_wp2_with (go_at_call 38; refine HK.out.mono ?_; rintro e w2 ⟨rfl, hb2⟩)
        go_ret
        exact ⟨by rw [idxF_at hlt (by rw [HY.out]; exact hp) (fun j hj => hk.out.2.1 j hj (by omega))]; rfl, below_step hk.out.2.2 hb2⟩
      | false =>
        rw [hp] at HK
        go_wp2_with (go_at_call 38; refine HK.out.mono ?_; rintro e w2 ⟨rfl, hb2⟩)
        go_roundw
        case rel =>
          refine ⟨k + 1, by go_num, ⟨by omega, fun j hj hj2 => ?_, below_step hk.out.2.2 hb2⟩⟩
          by_cases e : j = k
          · subst e; rw [HY.out]; exact hp
          · exact hk.out.2.1 j (by omega) hj2
        case measure => simp [intOf]; omega
    · obtain rfl : k = xs.length := by have := hk.out.1; omega
      go_wp2
      go_ret
      exact ⟨by rw [idxF_none (fun j hj => hk.out.2.1 j hj hj)]; rfl, hk.out.2.2⟩
set_option maxHeartbeats 1000000 in
theorem ContainsFunc38 (A : Option Addr) (c : Nat) (xs : List Int) (p : Int → Bool) (w : World) (hr : Kd.C (Kd.int .i64) w A xs.length xs) (hl : xs.length ≤ 1000000)
    (hf : ∀ x ∈ xs, ∀ W, Below w.heap.size w W → Calls Try.prog 38 #[.int .i64 x] W fun e w' => e = .returned (.bool (p x)) ∧ Below W.heap.size W w') :
    Calls Try.prog 37 #[.slice A xs.length c, .func (.func 38) #[] #[]] w fun e w' => e = .returned (.bool (xs.any p)) ∧ Below w.heap.size w w' := by
  have HC := Aside0.mk (IndexFunc38 A c xs p w hr hl hf)
  clear hf hr
  go_enter Try.func37, Try.ntmps37
  go_wp2_with (go_at_call 45; refine HC.out.mono ?_; rintro e w2 ⟨rfl, hb2⟩)
  go_ret
  exact ⟨by rw [← idxF_any]; rfl, hb2⟩
set_option maxHeartbeats 1000000 in
theorem IndexFunc47 (b1 b2 : Nat) (A : Option Addr) (c : Nat) (xs : List Int) (p : Int → Bool) (w : World) (hr : Kd.C (Kd.int .i64) w A xs.length xs) (hl : xs.length ≤ 1000000)
    (hf : ∀ x ∈ xs, ∀ W, Below w.heap.size w W → Calls Try.prog 47 #[.int .i64 x, .pointer (some ⟨b1, 0, none⟩), .pointer (some ⟨b2, 0, none⟩)] W fun e w' => e = .returned (.bool (p x)) ∧ Below W.heap.size W w') :
    Calls Try.prog 45 #[.slice A xs.length c, .func (.func 47) #[] #[.pointer (some ⟨b1, 0, none⟩), .pointer (some ⟨b2, 0, none⟩)]] w fun e w' => e = .returned (.int .i64 (idxF p xs)) ∧ Below w.heap.size w w' := by
  have HR := Aside0.mk hr
  have HF := Aside0.mk hf
  clear hr hf
  go_enter Try.func45, Try.ntmps45
  go_wp2
  go_loopw [8] (fun v8 W => ∃ k : Nat, v8 = .int .i64 k ∧ Aside0 (k ≤ xs.length ∧ (∀ j, (hj : j < k) → (hj2 : j < xs.length) → p xs[j] = false) ∧ Below w.heap.size w W)) (fun v8 _ => xs.length - (intOf v8).toNat)
  case atStart => exact ⟨0, rfl, ⟨Nat.zero_le _, fun j hj => absurd hj (by omega), Below.refl _ _⟩⟩
  case round =>
    obtain ⟨k, rfl, hk⟩ := hrel
    by_cases hlt : k < xs.length
    · have hk0 : (0 : Int) ≤ (k : Int) := Int.natCast_nonneg _
      have hk1 : (k : Int) < (xs.length : Int) := by omega
      obtain ⟨ad, e1, hx⟩ := Kd.at_int (Kd.C_below HR.out hk.out.2.2) k hk0 hk1
      subst e1
      rw [Int.toNat_natCast, rd_nat _ _ hlt] at hx
      have HK := Aside0.mk (HF.out _ (List.getElem_mem hlt) wr hk.out.2.2)
      obtain ⟨y, hy⟩ : ∃ y, xs[k] = y := ⟨_, rfl⟩
      rw [hy] at hx HK
      have HY := Aside0.mk hy
      clear hy
      cases hp : p y with
      | true =>
        rw [hp] at HK
        go_wp2_with (go_at_call 47; refine HK.out.mono ?_; rintro e w2 ⟨rfl, hb2⟩)
        go_ret
        exact ⟨by rw [idxF_at hlt (by rw [HY.out]; exact hp) (fun j hj => hk.out.2.1 j hj (by omega))]; rfl, below_step hk.out.2.2 hb2⟩
      | false =>
        rw [hp] at HK
        go_wp2_with (go_at_call 47; refine HK.out.mono ?_; rintro e w2 ⟨rfl, hb2⟩)
        go_roundw
        case rel =>
          refine ⟨k + 1, by go_num, ⟨by omega, fun j hj hj2 => ?_, below_step hk.out.2.2 hb2⟩⟩
          by_cases e : j = k
          · subst e; rw [HY.out]; exact hp
          · exact hk.out.2.1 j (by omega) hj2
        case measure => simp [intOf]; omega
    · obtain rfl : k = xs.length := by have := hk.out.1; omega
      go_wp2
      go_ret
      exact ⟨by rw [idxF_none (fun j hj => hk.out.2.1 j hj hj)]; rfl, hk.out.2.2⟩
set_option maxHeartbeats 1000000 in
theorem ContainsFunc47 (b1 b2 : Nat) (A : Option Addr) (c : Nat) (xs : List Int) (p : Int → Bool) (w : World) (hr : Kd.C (Kd.int .i64) w A xs.length xs) (hl : xs.length ≤ 1000000)
    (hf : ∀ x ∈ xs, ∀ W, Below w.heap.size w W → Calls Try.prog 47 #[.int .i64 x, .pointer (some ⟨b1, 0, none⟩), .pointer (some ⟨b2, 0, none⟩)] W fun e w' => e = .returned (.bool (p x)) ∧ Below W.heap.size W w') :
    Calls Try.prog 37 #[.slice A xs.length c, .func (.func 47) #[] #[.pointer (some ⟨b1, 0, none⟩), .pointer (some ⟨b2, 0, none⟩)]] w fun e w' => e = .returned (.bool (xs.any p)) ∧ Below w.heap.size w w' := by
  have HC := Aside0.mk (IndexFunc47 b1 b2 A c xs p w hr hl hf)
  clear hf hr
  go_enter Try.func37, Try.ntmps37
  go_wp2_with (go_at_call 45; refine HC.out.mono ?_; rintro e w2 ⟨rfl, hb2⟩)
  go_ret
  exact ⟨by rw [← idxF_any]; rfl, hb2⟩
set_option maxHeartbeats 1000000 in
theorem IndexFunc46 (b1 b2 : Nat) (A : Option Addr) (c : Nat) (xs : List Int) (p : Int → Bool) (w : World) (hr : Kd.C (Kd.int .i64) w A xs.length xs) (hl : xs.length ≤ 1000000)
    (hf : ∀ x ∈ xs, ∀ W, Below w.heap.size w W → Calls Try.prog 46 #[.int .i64 x, .pointer (some ⟨b1, 0, none⟩), .pointer (some ⟨b2, 0, none⟩)] W fun e w' => e = .returned (.bool (p x)) ∧ Below W.heap.size W w') :
    Calls Try.prog 45 #[.slice A xs.length c, .func (.func 46) #[] #[.pointer (some ⟨b1, 0, none⟩), .pointer (some ⟨b2, 0, none⟩)]] w fun e w' => e = .returned (.int .i64 (idxF p xs)) ∧ Below w.heap.size w w' := by
  have HR := Aside0.mk hr
  have HF := Aside0.mk hf
  clear hr hf
  go_enter Try.func45, Try.ntmps45
  go_wp2
  go_loopw [8] (fun v8 W => ∃ k : Nat, v8 = .int .i64 k ∧ Aside0 (k ≤ xs.length ∧ (∀ j, (hj : j < k) → (hj2 : j < xs.length) → p xs[j] = false) ∧ Below w.heap.size w W)) (fun v8 _ => xs.length - (intOf v8).toNat)
  case atStart => exact ⟨0, rfl, ⟨Nat.zero_le _, fun j hj => absurd hj (by omega), Below.refl _ _⟩⟩
  case round =>
    obtain ⟨k, rfl, hk⟩ := hrel
    by_cases hlt : k < xs.length
    · have hk0 : (0 : Int) ≤ (k : Int) := Int.natCast_nonneg _
      have hk1 : (k : Int) < (xs.length : Int) := by omega
      obtain ⟨ad, e1, hx⟩ := Kd.at_int (Kd.C_below HR.out hk.out.2.2) k hk0 hk1
      subst e1
      rw [Int.toNat_natCast, rd_nat _ _ hlt] at hx
      have HK := Aside0.mk (HF.out _ (List.getElem_mem hlt) wr hk.out.2.2)
      obtain ⟨y, hy⟩ : ∃ y, xs[k] = y := ⟨_, rfl⟩
      rw [hy] at hx HK
      have HY := Aside0.mk hy
      clear hy
      cases hp : p y with
      | true =>
        rw [hp] at HK
        go_wp2_with (go_at_call 46; refine HK.out.mono ?_; rintro e w2 ⟨rfl, hb2⟩)
        go_ret
        exact ⟨by rw [idxF_at hlt (by rw [HY.out]; exact hp) (fun j hj => hk.out.2.1 j hj (by omega))]; rfl, below_step hk.out.2.2 hb2⟩
      | false =>
        rw [hp] at HK
        go_wp2_with (go_at_call 46; refine HK.out.mono ?_; rintro e w2 ⟨rfl, hb2⟩)
        go_roundw
        case rel =>
          refine ⟨k + 1, by go_num, ⟨by omega, fun j hj hj2 => ?_, below_step hk.out.2.2 hb2⟩⟩
          by_cases e : j = k
          · subst e; rw [HY.out]; exact hp
          · exact hk.out.2.1 j (by omega) hj2
        case measure => simp [intOf]; omega
    · obtain rfl : k = xs.length := by have := hk.out.1; omega
      go_wp2
      go_ret
      exact ⟨by rw [idxF_none (fun j hj => hk.out.2.1 j hj hj)]; rfl, hk.out.2.2⟩
set_option maxHeartbeats 1000000 in
theorem ContainsFunc46 (b1 b2 : Nat) (A : Option Addr) (c : Nat) (xs : List Int) (p : Int → Bool) (w : World) (hr : Kd.C (Kd.int .i64) w A xs.length xs) (hl : xs.length ≤ 1000000)
    (hf : ∀ x ∈ xs, ∀ W, Below w.heap.size w W → Calls Try.prog 46 #[.int .i64 x, .pointer (some ⟨b1, 0, none⟩), .pointer (some ⟨b2, 0, none⟩)] W fun e w' => e = .returned (.bool (p x)) ∧ Below W.heap.size W w') :
    Calls Try.prog 37 #[.slice A xs.length c, .func (.func 46) #[] #[.pointer (some ⟨b1, 0, none⟩), .pointer (some ⟨b2, 0, none⟩)]] w fun e w' => e = .returned (.bool (xs.any p)) ∧ Below w.heap.size w w' := by
  have HC := Aside0.mk (IndexFunc46 b1 b2 A c xs p w hr hl hf)
  clear hf hr
  go_enter Try.func37, Try.ntmps37
  go_wp2_with (go_at_call 45; refine HC.out.mono ?_; rintro e w2 ⟨rfl, hb2⟩)
  go_ret
  exact ⟨by rw [← idxF_any]; rfl, hb2⟩
end Go.Proofs.Ytddhaagfieldfaa.Hb
