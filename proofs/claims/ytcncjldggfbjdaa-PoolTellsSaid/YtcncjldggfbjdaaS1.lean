import Derived.Test.YtcncjldggfbjdaaPExx0
import Derived.Laws.Externs
namespace Go.Proofs.Ytcncjldggfbjdaa.G1
open Go.RowKit Go.Proofs.YtcncjldggfbjdaaW.PrintWords Go.Proofs.YtcncjldggfbjdaaW.PrintLast Go.Proofs.YtcncjldggfbjdaaW.PrintMore
set_option linter.unusedVariables false
set_option linter.unusedSimpArgs false

/-- A whole number of 64 bits. -/
def i64R (x : Int) : Bool := decide (-9223372036854775808 ≤ x) && decide (x ≤ 9223372036854775807)
theorem i64R_iff {x : Int} : i64R x = true ↔ -9223372036854775808 ≤ x ∧ x ≤ 9223372036854775807 := by simp [i64R]
theorem sum_bound : ∀ l : List Int, l.all i64R = true → -(l.length * 9223372036854775808 : Int) ≤ l.sum ∧ l.sum ≤ l.length * 9223372036854775808
  | [], _ => by simp
  | x :: l, h => by
    rw [List.all_cons, Bool.and_eq_true, i64R_iff] at h
    have := sum_bound l h.2
    rw [List.sum_cons, List.length_cons]
    omega
theorem take_all {l : List Int} (h : l.all i64R = true) (k : Nat) : (l.take k).all i64R = true := by
  rw [List.all_eq_true] at h ⊢
  exact fun x hx => h x (List.mem_of_mem_take hx)
theorem rd_R {l : List Int} (h : l.all i64R = true) {k : Nat} (hk : k < l.length) : -9223372036854775808 ≤ l[k] ∧ l[k] ≤ 9223372036854775807 := by
  rw [List.all_eq_true] at h
  exact i64R_iff.1 (h _ (List.getElem_mem hk))
theorem sum_take (l : List Int) (k : Nat) (hk : k < l.length) : (l.take (k + 1)).sum = (l.take k).sum + l[k] := by
  rw [List.take_succ_eq_append_getElem hk, List.sum_append]; simp
theorem add64_run (x y : Int) (hx : 0 ≤ x) (hy : 0 ≤ y) (w : World) : (callFunc 53 #[.int .u64 x, .int .u64 y, .int .u64 0]).run Try.prog w = .ok (.value (.tuple #[.int .u64 ((x + y) % 18446744073709551616), .int .u64 ((x + y) / 18446744073709551616)])) w := by
  rw [run_callFunc_extern Try.func53 (by kernel_rfl) (by kernel_rfl) (by kernel_rfl) (e := add64Entry) (by kernel_rfl), run_add64 x y 0 hx hy (by omega) (by omega)]
  simp only [Result.andThen, Int.add_zero]
theorem rdn (xs : List Int) (i : Nat) (h : i < xs.length) : rd xs (i : Int) = xs[i] := by simp [rd, h]
def exact_Sum.f (l0 : List Int) : Option (Int × Bool) := if l0.all i64R = true then some (if -9223372036854775808 ≤ l0.sum ∧ l0.sum ≤ 9223372036854775807 then (l0.sum, true) else (0, false)) else none
/-- The two words hold the sum so far. -/
def Holds (s hi lo : Int) : Prop := 0 ≤ lo ∧ lo < 18446744073709551616 ∧ 0 ≤ hi ∧ hi < 18446744073709551616 ∧ (hi * 18446744073709551616 + lo - s) % 340282366920938463463374607431768211456 = 0
theorem Holds.step {s hi lo n : Int} (h : Holds s hi lo) (hn : -9223372036854775808 ≤ n) (hn2 : n ≤ 9223372036854775807) :
    Holds (s + n) ((hi + ((n / 9223372036854775808 % 18446744073709551616 + (lo + n % 18446744073709551616) / 18446744073709551616) % 18446744073709551616)) % 18446744073709551616) ((lo + n % 18446744073709551616) % 18446744073709551616) := by
  obtain ⟨h1, h2, h3, h4, h5⟩ := h
  unfold Holds
  refine ⟨by omega, by omega, by omega, by omega, ?_⟩
  by_cases h0 : 0 ≤ n
  · rw [show n / 9223372036854775808 = 0 by omega, show n % 18446744073709551616 = n by omega, show (0 % 18446744073709551616 + (lo + n) / 18446744073709551616) % 18446744073709551616 = (lo + n) / 18446744073709551616 by omega]
    rcases (show (lo + n) / 18446744073709551616 = 0 ∨ (lo + n) / 18446744073709551616 = 1 by omega) with e | e
    · rw [e]; omega
    · rw [e]; omega
  · rw [show n / 9223372036854775808 = -1 by omega, show n % 18446744073709551616 = n + 18446744073709551616 by omega]
    rcases (show (lo + (n + 18446744073709551616)) / 18446744073709551616 = 0 ∨ (lo + (n + 18446744073709551616)) / 18446744073709551616 = 1 by omega) with e | e
    · rw [e]; omega
    · rw [e]; omega
theorem Holds.low {s hi lo : Int} (h : Holds s hi lo) (h1 : -85070591730234615865843651857942052864 ≤ s) (h2 : s ≤ 85070591730234615865843651857942052864) :
    (hi = IntKind.u64.wrap (wrap64 lo / 9223372036854775808) → wrap64 lo = s ∧ -9223372036854775808 ≤ s ∧ s ≤ 9223372036854775807) ∧ (¬ hi = IntKind.u64.wrap (wrap64 lo / 9223372036854775808) → ¬ (-9223372036854775808 ≤ s ∧ s ≤ 9223372036854775807)) := by
  obtain ⟨h3, h4, h5, h6, h7⟩ := h
  rw [IntKind.wrap_u64]
  by_cases hl : lo < 9223372036854775808
  · rw [show wrap64 lo = lo by unfold wrap64; omega, show lo / 9223372036854775808 % 18446744073709551616 = 0 by omega]
    exact ⟨fun e => by subst e; omega, fun e => by omega⟩
  · rw [show wrap64 lo = lo - 18446744073709551616 by unfold wrap64; omega, show (lo - 18446744073709551616) / 9223372036854775808 % 18446744073709551616 = 18446744073709551615 by omega]
    exact ⟨fun e => by subst e; omega, fun e => by omega⟩
set_option maxHeartbeats 1000000 in
theorem exact_Sum.calls (A0 : Option Addr) (c0 : Nat) (l0 : List Int) (r1 : Int) (r2 : Bool) (w : World) (hr0 : Kd.C (Kd.int .i64) w A0 l0.length l0) (hc0 : l0.length ≤ c0) (h : exact_Sum.f l0 = some (r1, r2)) :
    Calls Try.prog 19 #[.slice A0 l0.length c0] w fun e w' => e = .returned (.tuple #[.int .i64 r1, .bool r2]) ∧ Drawn0 w w' := by
  unfold exact_Sum.f at h
  by_cases ha : l0.all i64R = true
  · rw [if_pos ha] at h
    have HA := Aside0.mk ha
    have HH := Aside0.mk (Option.some.inj h)
    have HR := Aside0.mk hr0
    have HL := Aside0.mk hr0.2.1
    have hl := hr0.2.1
    clear h ha hr0
    go_enter Try.func19, Try.ntmps19
    go_wp2
    go_loop [4, 5, 12] (fun v4 v5 v12 => ∃ (k : Nat) (hi lo : Int), v12 = .int .i64 k ∧ v4 = .int .u64 hi ∧ v5 = .int .u64 lo ∧ Aside0 (k ≤ l0.length ∧ Holds (l0.take k).sum hi lo)) (fun _ _ v12 => l0.length - (intOf v12).toNat)
    case atStart => exact ⟨0, 0, 0, rfl, rfl, rfl, ⟨Nat.zero_le _, by simp [Holds]⟩⟩
    case round =>
      obtain ⟨k, hi, lo, rfl, rfl, rfl, hk⟩ := hrel
      by_cases hlt : k < l0.length
      · have hk0 : (0 : Int) ≤ (k : Int) := Int.natCast_nonneg _
        have hk1 : (k : Int) < (l0.length : Int) := by omega
        obtain ⟨ad, e1, hx⟩ := Kd.at_int HR.out k hk0 hk1
        subst e1
        rw [Int.toNat_natCast, rdn _ _ hlt] at hx
        have hR := rd_R HA.out hlt
        have HS := Aside0.mk (sum_take l0 k hlt)
        have HT := Aside0.mk (hk.out.2.step hR.1 hR.2)
        obtain ⟨y, hy⟩ : ∃ y, l0[k] = y := ⟨_, rfl⟩
        rw [hy] at hx HS HT hR
        clear hy
        have h5 : 0 ≤ lo := hk.out.2.1
        have HADD := fun w => add64_run lo (IntKind.u64.wrap y) h5 (by rw [IntKind.wrap_u64]; omega) w
        go_wp2_with (simp only [HADD])
        clear HADD h5
        go_round
        case rel =>
          refine ⟨k + 1, _, _, by go_num, rfl, rfl, ⟨by omega, ?_⟩⟩
          rw [HS.out]
          have := HT.out
          simp only [IntKind.wrap_u64]
          exact this
        case measure => simp [intOf]; omega
      · obtain rfl : k = l0.length := by have := hk.out.1; omega
        have HF := Aside0.mk (show Holds l0.sum hi lo by have := hk.out.2; rwa [List.take_length] at this)
        have HB := Aside0.mk (sum_bound l0 HA.out)
        by_cases hq : hi = IntKind.u64.wrap (wrap64 lo / 9223372036854775808)
        · have hb : (hi == IntKind.u64.wrap (wrap64 lo / 9223372036854775808)) = true := beq_iff_eq.2 hq
          have HE := Aside0.mk hq
          clear hq hk
          go_wp2
          have e := (HF.out.low (by have := HB.out; have := HL.out; omega) (by have := HB.out; have := HL.out; omega)).1 HE.out
          have HH' := HH.out
          rw [if_pos e.2] at HH'
          injection HH' with e1 e2
          subst e1 e2
          go_ret2
          exact ⟨by rw [e.1]; rfl, Drawn0.refl _⟩
        · have hb : (hi == IntKind.u64.wrap (wrap64 lo / 9223372036854775808)) = false := beq_eq_false_iff_ne.2 hq
          have HE := Aside0.mk hq
          clear hq hk
          go_wp2
          have e := (HF.out.low (by have := HB.out; have := HL.out; omega) (by have := HB.out; have := HL.out; omega)).2 HE.out
          have HH' := HH.out
          rw [if_neg e] at HH'
          injection HH' with e1 e2
          subst e1 e2
          go_ret2
          exact ⟨rfl, Drawn0.refl _⟩
  · rw [if_neg ha] at h; cases h
end Go.Proofs.Ytcncjldggfbjdaa.G1
