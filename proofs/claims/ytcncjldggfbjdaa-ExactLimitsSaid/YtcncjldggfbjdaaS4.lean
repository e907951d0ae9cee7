import Derived.Test.YtcncjldggfbjdaaS3
namespace Go.Proofs.Ytcncjldggfbjdaa.G2
open Go.RowKit Go.Proofs.YtcncjldggfbjdaaW.PrintWords Go.Proofs.YtcncjldggfbjdaaW.PrintLast Go.Proofs.YtcncjldggfbjdaaW.PrintMore Go.Proofs.Ytcncjldggfbjdaa.G1 Go.Proofs.Ytcncjldggfbjdaa.O
set_option linter.unusedVariables false
set_option linter.unusedSimpArgs false

set_option maxRecDepth 100000 in
set_option maxHeartbeats 4000000 in
theorem stable_calls {D B R n : Nat} {rs ys0 : List Int} {w0 : World} (c : Ctx D B R n rs w0) (hn16 : n ≤ 16) (h0 : ∀ k, k < n → ys0.getD k 0 = k) (W : World) (h : Srt D n w0 W ys0) :
    Calls Try.prog 63 #[.slice (some ⟨D, 0, none⟩) n n, .int .i64 n, .func (.func 50) #[] #[.pointer (some ⟨B, 0, none⟩)]] W fun e w' => e = .returned (.tuple #[]) ∧ ∃ ys, Srt D n w0 w' ys ∧ Swaps 0 n ys0 ys ∧ Sorted rs ys 0 n := by
  have HC := Aside0.mk (insertion_calls c 0 n (Nat.zero_le _) (Nat.le_refl _) (fun k _ hk => h0 k hk) W h)
  clear c h0 h
  have d0 : decide ((20 : Int) ≤ (n : Int)) = false := decide_eq_false (by omega)
  have d1 : decide (20 ≤ n) = false := decide_eq_false (by omega)
  have d2 : decide ((20 : Int) < (n : Int)) = false := decide_eq_false (by omega)
  have d3 : decide (20 < n) = false := decide_eq_false (by omega)
  go_enter Try.func63, Try.ntmps63
  go_wp2
  go_loopw [7, 8] (fun v7 v8 w' => v7 = .int .i64 0 ∧ v8 = .int .i64 20 ∧ Aside0 (w' = W)) (fun _ _ _ => 0)
  case atStart => exact ⟨rfl, rfl, ⟨rfl⟩⟩
  case round =>
    obtain ⟨rfl, rfl, hw⟩ := hrel
    obtain rfl := hw.out
    go_wp2_with (go_at_call 66; refine HC.out.mono ?_; rintro e w2 ⟨rfl, ys, hs1, hs2, hs3⟩; have HS := Aside0.mk (⟨hs1, hs2, hs3⟩ : _ ∧ _ ∧ _); clear hs1 hs2 hs3)
    go_loopw [6, 7, 8, 9] (fun v6 v7 v8 v9 w' => v6 = .int .i64 20 ∧ Aside0 (w' = w2)) (fun _ _ _ _ _ => 0)
    case atStart => exact ⟨rfl, ⟨rfl⟩⟩
    case round =>
      obtain ⟨rfl, hw2⟩ := hrel
      obtain rfl := hw2.out
      go_wp2
      go_end0
      exact ⟨rfl, ys, HS.out⟩
set_option maxHeartbeats 1000000 in
theorem sort_calls {D B R n : Nat} {rs ys0 : List Int} {w0 : World} (c : Ctx D B R n rs w0) (hn16 : n ≤ 16) (h0 : ∀ k, k < n → ys0.getD k 0 = k) (W : World) (h : Srt D n w0 W ys0) :
    Calls Try.prog 49 #[.slice (some ⟨D, 0, none⟩) n n, .func (.func 50) #[] #[.pointer (some ⟨B, 0, none⟩)]] W fun e w' => e = .returned (.tuple #[]) ∧ ∃ ys, Srt D n w0 w' ys ∧ Swaps 0 n ys0 ys ∧ Sorted rs ys 0 n := by
  have HC := Aside0.mk (stable_calls c hn16 h0 W h)
  clear c h0 h
  go_enter Try.func49, Try.ntmps49
  go_wp2_with (go_at_call 63; refine HC.out.mono ?_; rintro e w2 ⟨rfl, ys, hs1, hs2, hs3⟩; have HS := Aside0.mk (⟨hs1, hs2, hs3⟩ : _ ∧ _ ∧ _); clear hs1 hs2 hs3)
  go_end0
  exact ⟨rfl, ys, HS.out⟩
end Go.Proofs.Ytcncjldggfbjdaa.G2
