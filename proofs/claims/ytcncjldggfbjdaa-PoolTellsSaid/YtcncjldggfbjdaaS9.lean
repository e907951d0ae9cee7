import Derived.Test.YtcncjldggfbjdaaS8
namespace Go.Proofs.Ytcncjldggfbjdaa.G2
open Go.RowKit Go.Proofs.YtcncjldggfbjdaaW.PrintWords Go.Proofs.YtcncjldggfbjdaaW.PrintLast Go.Proofs.YtcncjldggfbjdaaW.PrintMore Go.Proofs.Ytcncjldggfbjdaa.G1 Go.Proofs.Ytcncjldggfbjdaa.O
set_option linter.unusedVariables false
set_option linter.unusedSimpArgs false

theorem wrap_nat (x : Nat) (h : x < 4611686018427387904) : wrap64 (x : Int) = (x : Int) := by unfold wrap64; omega
set_option maxRecDepth 100000 in
set_option maxHeartbeats 4000000 in
theorem rotate_calls {D B n : Nat} {ys0 : List Int} {w0 : World} (hn : n ≤ 64) (a m b : Nat) (ham : a < m) (hmb : m < b) (hbn : b ≤ n) (W : World) (h : Srt D n w0 W ys0) :
    Calls Try.prog 68 #[.slice (some ⟨D, 0, none⟩) n n, .int .i64 a, .int .i64 m, .int .i64 b, .func (.func 50) #[] #[.pointer (some ⟨B, 0, none⟩)]] W fun e w' => e = .returned (.tuple #[]) ∧ ∃ ys, Srt D n w0 w' ys ∧ Swaps a b ys0 ys ∧ Rot a m b ys0 ys := by
  have HS := Aside0.mk h
  clear h
  obtain ⟨i0, hi0⟩ : ∃ i0, i0 + a = m := ⟨m - a, by omega⟩
  obtain ⟨j0, hj0⟩ : ∃ j0, j0 + m = b := ⟨b - m, by omega⟩
  have e1 : (m : Int) - (a : Int) = (i0 : Int) := by omega
  have e2 : (b : Int) - (m : Int) = (j0 : Int) := by omega
  have HI0 := Aside0.mk hi0
  have HJ0 := Aside0.mk hj0
  have bi : i0 < 4611686018427387904 := by omega
  have bj : j0 < 4611686018427387904 := by omega
  clear hi0 hj0
  go_enter Try.func68, Try.ntmps68
  go_wp2
  go_loopw [10, 11] (fun v10 v11 W => ∃ (i j : Nat) (ys : List Int), v10 = .int .i64 i ∧ v11 = .int .i64 j ∧ Aside0 (Srt D n w0 W ys ∧ Swaps a b ys0 ys ∧ (∀ zs, Rot (m - i) m (m + j) ys zs → Rot a m b ys0 zs) ∧ 0 < i ∧ 0 < j ∧ i ≤ i0 ∧ j ≤ j0)) (fun v10 v11 _ => (intOf v10).toNat + (intOf v11).toNat)
  case atStart =>
    have hi0 := HI0.out
    have hj0 := HJ0.out
    refine ⟨i0, j0, ys0, rfl, rfl, ⟨HS.out, .refl _, fun zs hz => ?_, by omega, by omega, by omega, by omega⟩⟩
    have ea : m - i0 = a := by omega
    have eb : m + j0 = b := by omega
    rw [ea, eb] at hz; exact hz
  case round =>
    clear HS e1 e2
    have hi0 := HI0.out
    have hj0 := HJ0.out
    have hi3 : i0 ≤ m := by omega
    have hj3 : m + j0 ≤ n := by omega
    have hi4 : a + i0 ≤ m := by omega
    have hj4 : m + j0 ≤ b := by omega
    clear hi0 hj0
    obtain ⟨i, j, ys, rfl, rfl, hk⟩ := hrel
    have HS1 := Aside0.mk hk.out.1
    have HW := Aside0.mk hk.out.2.1
    have HR := Aside0.mk hk.out.2.2.1
    have hi1 : 0 < i := hk.out.2.2.2.1
    have hj1 : 0 < j := hk.out.2.2.2.2.1
    have hi2 : i ≤ i0 := hk.out.2.2.2.2.2.1
    have hj2 : j ≤ j0 := hk.out.2.2.2.2.2.2
    clear hk
    obtain ⟨s, hs⟩ : ∃ s, s + i = m := ⟨m - i, by omega⟩
    have e1 : (m : Int) - (i : Int) = (s : Int) := by omega
    rcases Nat.lt_trichotomy i j with hij | hij | hij
    · obtain ⟨t, ht⟩ : ∃ t, t = m + j := ⟨_, rfl⟩
      obtain ⟨t', ht'⟩ : ∃ t', t' + i = m + j := ⟨m + j - i, by omega⟩
      obtain ⟨j', hj'⟩ : ∃ j', j' + i = j := ⟨j - i, by omega⟩
      have e2 : (m : Int) + (j : Int) = (t : Int) := by omega
      have e3 : (t : Int) - (i : Int) = (t' : Int) := by omega
      have e4 : (j : Int) - (i : Int) = (j' : Int) := by omega
      have d0 : ((i : Int) != (j : Int)) = true := bne_iff_ne.2 (by omega)
      have d1 : decide ((j : Int) < (i : Int)) = false := decide_eq_false (by omega)
      have d2 : decide (j < i) = false := decide_eq_false (by omega)
      have HC := Aside0.mk (fun W (hW : Srt D n w0 W ys) => swapRange_calls (B := B) hn s t' i (by omega) (by omega) W hW)
      have HE := Aside0.mk (⟨hs, ht, ht', hj'⟩ : _ ∧ _ ∧ _ ∧ _)
      have b1 : s < 4611686018427387904 := by omega
      have b2 : t < 4611686018427387904 := by omega
      have b3 : t' < 4611686018427387904 := by omega
      have b4 : j' < 4611686018427387904 := by omega
      clear hs ht ht' hj'
      go_wp2_with (go_at_call 69; refine (HC.out _ HS1.out).mono ?_; rintro e w2 ⟨rfl, ys2, hs1, hs2, hs3⟩; have HS2 := Aside0.mk (⟨hs1, hs2, hs3⟩ : _ ∧ _ ∧ _); clear hs1 hs2 hs3)
      go_roundw
      case rel =>
          obtain ⟨hs, ht, ht', hj'⟩ := HE.out
          refine ⟨i, j', ys2, rfl, rfl, ⟨HS2.out.1, HW.out.trans (HS2.out.2.1.mono (by omega) (by omega)), fun zs hz => HR.out zs ?_, by omega, by omega, by omega, by omega⟩⟩
          have h3 := HS2.out.2.2
          rw [show s = m - i by omega, show t' = m + j - i by omega] at h3
          rw [show j' = j - i by omega] at hz
          exact Rot.more hij (by omega) h3 hz
      case measure => obtain ⟨hs, ht, ht', hj'⟩ := HE.out; simp [intOf] <;> omega
    · subst hij
      have d0 : ((i : Int) != (i : Int)) = false := by simp
      have HC := Aside0.mk (fun W (hW : Srt D n w0 W ys) => swapRange_calls (B := B) hn s m i (by omega) (by omega) W hW)
      have HE := Aside0.mk hs
      have b1 : s < 4611686018427387904 := by omega
      clear hs
      go_wp2_with (go_at_call 69; refine (HC.out _ HS1.out).mono ?_; rintro e w2 ⟨rfl, ys2, hs1, hs2, hs3⟩; have HS2 := Aside0.mk (⟨hs1, hs2, hs3⟩ : _ ∧ _ ∧ _); clear hs1 hs2 hs3)
      go_end0
      have hs := HE.out
      refine ⟨rfl, ys2, HS2.out.1, HW.out.trans (HS2.out.2.1.mono (by omega) (by omega)), HR.out ys2 ?_⟩
      have h3 := HS2.out.2.2
      rw [show s = m - i by omega] at h3
      exact Rot.same (by omega) h3
    · obtain ⟨i', hi'⟩ : ∃ i', i' + j = i := ⟨i - j, by omega⟩
      have e4 : (i : Int) - (j : Int) = (i' : Int) := by omega
      have d0 : ((i : Int) != (j : Int)) = true := bne_iff_ne.2 (by omega)
      have d1 : decide ((j : Int) < (i : Int)) = true := decide_eq_true (by omega)
      have d2 : decide (j < i) = true := decide_eq_true (by omega)
      have HC := Aside0.mk (fun W (hW : Srt D n w0 W ys) => swapRange_calls (B := B) hn s m j (by omega) (by omega) W hW)
      have HE := Aside0.mk (⟨hs, hi'⟩ : _ ∧ _)
      have b1 : s < 4611686018427387904 := by omega
      have b4 : i' < 4611686018427387904 := by omega
      clear hs hi'
      go_wp2_with (go_at_call 69; refine (HC.out _ HS1.out).mono ?_; rintro e w2 ⟨rfl, ys2, hs1, hs2, hs3⟩; have HS2 := Aside0.mk (⟨hs1, hs2, hs3⟩ : _ ∧ _ ∧ _); clear hs1 hs2 hs3)
      go_roundw
      case rel =>
          obtain ⟨hs, hi'⟩ := HE.out
          refine ⟨i', j, ys2, rfl, rfl, ⟨HS2.out.1, HW.out.trans (HS2.out.2.1.mono (by omega) (by omega)), fun zs hz => HR.out zs ?_, by omega, by omega, by omega, by omega⟩⟩
          have h3 := HS2.out.2.2
          rw [show s = m - i by omega] at h3
          rw [show i' = i - j by omega] at hz
          exact Rot.less hij (by omega) h3 hz
      case measure => obtain ⟨hs, hi'⟩ := HE.out; simp [intOf] <;> omega
end Go.Proofs.Ytcncjldggfbjdaa.G2
