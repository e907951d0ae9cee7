import Derived.Test.YtddhaagfieldfaaHp2
namespace Go.Proofs.Ytddhaagfieldfaa.Hb
set_option linter.unusedVariables false
set_option linter.unusedSimpArgs false
open Go.RowKit Go.Proofs.YtddhaagfieldfaaW.PrintWords Go.Proofs.YtddhaagfieldfaaW.PrintLast Go.Proofs.YtddhaagfieldfaaW.PrintMore Go.Proofs.Ytddhaagfieldfaa.PCallTells Go.Proofs.Ytddhaagfieldfaa.Hw Go.Proofs.Ytddhaagfieldfaa.Q
attribute [local go_sem] run_store_v1 max2_int min2_int max_two min_two max_three min_three max_four min_four

set_option maxHeartbeats 2000000 in
/-- Two rows of the same grants are the same. -/
theorem Same37_calls (A : Option Addr) (c : Nat) (B : Option Addr) (c2 : Nat) (xs : List S53) (w : World) (hr : Kd.C k53 w A xs.length xs) (hr2 : Kd.C k53 w B xs.length xs) :
    Calls Try.prog 24 #[.slice A xs.length c, .slice B xs.length c2] w fun e w' => e = .returned (.bool true) ∧ Below w.heap.size w w' := by
  have HR := Aside0.mk hr
  have HR2 := Aside0.mk hr2
  clear hr hr2
  have hsl : (xs.length : Int) ≤ 9223372036854775807 := by have := HR.out.2.1; omega
  have d0 : ((xs.length : Int) != (xs.length : Int)) = false := by simp
  go_enter Try.func24, Try.ntmps24
  go_wp2
  go_loopw [5] (fun v5 W => ∃ i : Nat, v5 = .int .i64 i ∧ Aside0 (i ≤ xs.length ∧ Below w.heap.size w W)) (fun v5 _ => xs.length - (intOf v5).toNat)
  case atStart => exact ⟨0, rfl, ⟨Nat.zero_le _, Below.refl _ _⟩⟩
  case round =>
    obtain ⟨i, rfl, hI⟩ := hrel
    by_cases hlt : i < xs.length
    · have hi0 : (0 : Int) ≤ (i : Int) := Int.natCast_nonneg _
      have hi1 : (i : Int) < (xs.length : Int) := by omega
      obtain ⟨ad, e1, p0, p1⟩ := at_T53 (Kd.C_below HR.out hI.out.2) i hi0 hi1
      obtain ⟨ad2, e2, q0, q1⟩ := at_T53 (Kd.C_below HR2.out hI.out.2) i hi0 hi1
      subst e1 e2
      rw [Int.toNat_natCast] at p0 p1 q0 q1
      have hq0 : ((rd_T53 xs i).f0 == (rd_T53 xs i).f0) = true := by simp
      have hq1 : ((rd_T53 xs i).f1 == (rd_T53 xs i).f1) = true := by simp
      go_wp2
      go_quiet (fail)
      go_wp2
      go_roundw
      case rel => exact ⟨i + 1, by go_num, ⟨by omega, below_step hI.out.2 (pw_below_drewN (Below.refl _ _) _)⟩⟩
      case measure => simp [intOf]; omega
    · have hi1 : ¬ (i : Int) < (xs.length : Int) := by omega
      go_wp2
      go_ret
      exact ⟨rfl, hI.out.2⟩
end Go.Proofs.Ytddhaagfieldfaa.Hb
