import Derived.Test.YtcncjldggfbjdaaE1
namespace Go.Proofs.Ytcncjldggfbjdaa.E
open Go.RowKit Go.Proofs.YtcncjldggfbjdaaW.PrintWords Go.Proofs.YtcncjldggfbjdaaW.PrintLast Go.Proofs.YtcncjldggfbjdaaW.PrintMore Go.Proofs.Ytcncjldggfbjdaa.G0 Go.Proofs.Ytcncjldggfbjdaa.PEx
set_option linter.unusedVariables false
set_option linter.unusedSimpArgs false

theorem divN (a : Nat) : (a : Int) / 4294967296 = ((a / 4294967296 : Nat) : Int) := by omega
theorem mulN (a b : Nat) : (a : Int) * (b : Int) = ((a * b : Nat) : Int) := (Int.natCast_mul a b).symm
theorem addN (a b : Nat) : (a : Int) + (b : Int) = ((a + b : Nat) : Int) := (Int.natCast_add a b).symm
theorem wrapM (a : Nat) : IntKind.u64.wrap (a : Int) = ((a % 18446744073709551616 : Nat) : Int) := by rw [IntKind.wrap_u64]; omega
theorem mul64_now (x y : Nat) (hx : x < 18446744073709551616) (hy : y < 18446744073709551616) : bits_Mul64.f x y = some (((x * y / 18446744073709551616 : Nat) : Int), ((x * y % 18446744073709551616 : Nat) : Int)) := by
  obtain ⟨bd, bt, bw, hhi⟩ := Lib.mul64_hi x y hx hy
  have ba := Lib.half_mul_le (a := x / 4294967296) (b := y / 4294967296) (by omega) (by omega)
  have bb := Lib.half_mul_le (a := x / 4294967296) (b := y % 4294967296) (by omega) (by omega)
  have bc := Lib.half_mul_le (a := x % 4294967296) (b := y / 4294967296) (by omega) (by omega)
  have ba' : x / 4294967296 * (y / 4294967296) < 18446744073709551616 := by omega
  have bb' : x / 4294967296 * (y % 4294967296) < 18446744073709551616 := by omega
  have bc' : x % 4294967296 * (y / 4294967296) < 18446744073709551616 := by omega
  have bh1 : x / 4294967296 * (y / 4294967296) + (x / 4294967296 * (y % 4294967296) + x % 4294967296 * (y % 4294967296) / 4294967296) / 4294967296 < 18446744073709551616 := by omega
  have bh : x / 4294967296 * (y / 4294967296) + (x / 4294967296 * (y % 4294967296) + x % 4294967296 * (y % 4294967296) / 4294967296) / 4294967296 + ((x / 4294967296 * (y % 4294967296) + x % 4294967296 * (y % 4294967296) / 4294967296) % 4294967296 + x % 4294967296 * (y / 4294967296)) / 4294967296 < 18446744073709551616 := by
    rw [hhi]
    exact Nat.div_lt_of_lt_mul (Nat.mul_lt_mul'' hx hy)
  unfold bits_Mul64.f
  simp only [maskN x hx, maskN y hy, divN, mulN, addN, wrapc _ bd, wrapc _ bb', wrapc _ bt, maskN _ bt, wrapc _ bc', wrapc _ bw, wrapc _ ba', wrapc _ bh1, wrapc _ bh, wrapM (x * y)]
  rw [hhi]
/-- What Scale answers. -/
def scaleOk (a b c : Int) : Bool := decide (0 ≤ a) && decide (a ≤ 1125899906842624) && decide (0 ≤ b) && decide (b ≤ 1125899906842624) && decide (1 ≤ c) && decide (c ≤ 1125899906842624) && decide (a * b / c ≤ 1125899906842624)
def scaleF (a b c : Int) : Int × Int × Bool := if scaleOk a b c = true then (a * b / c, a * b % c, true) else (0, 0, false)
theorem in_now (a b : Int) : exact_in.f a b = some (decide (b ≤ a) && decide (a ≤ 1125899906842624)) := by
  unfold exact_in.f
  by_cases h : b ≤ a
  · rw [if_pos h, decide_eq_true h, Bool.true_and]
  · rw [if_neg h, decide_eq_false h, Bool.false_and]
theorem scale_ev (a b c : Int) : Ev (fun k => exact_Scale.f k a b c) (scaleF a b c) := by
  have no : ∀ r, scaleF a b c = r → r = (0, 0, false) → Ev (fun k => exact_Scale.j0 k a b c true) (scaleF a b c) := by
    intro r h1 h2
    rw [h1, h2]
    exact Ev.step (fun k => by simp only [exact_Scale.j0]; rw [if_pos trivial]) (Ev.now _)
  by_cases hA : (decide (0 ≤ a) && decide (a ≤ 1125899906842624)) = true
  · by_cases hB : (decide (0 ≤ b) && decide (b ≤ 1125899906842624)) = true
    · refine Ev.congr (f := fun k => exact_Scale.j0 k a b c (!(decide (1 ≤ c) && decide (c ≤ 1125899906842624)))) (fun k => by unfold exact_Scale.f; rw [in_now, in_now, in_now, hA, hB]; simp only [Option.bind_some, if_true]) ?_
      by_cases hC : (decide (1 ≤ c) && decide (c ≤ 1125899906842624)) = true
      · rw [hC]
        simp only [Bool.and_eq_true, decide_eq_true_eq] at hA hB hC
        obtain ⟨x, rfl⟩ := Int.eq_ofNat_of_zero_le hA.1
        obtain ⟨y, rfl⟩ := Int.eq_ofNat_of_zero_le hB.1
        obtain ⟨z, rfl⟩ := Int.eq_ofNat_of_zero_le (show 0 ≤ c by omega)
        have wx := wrapc x (by omega)
        have wy := wrapc y (by omega)
        have wz := wrapc z (by omega)
        have hm := mul64_now x y (by omega) (by omega)
        have hxy := Nat.div_add_mod' (x * y) 18446744073709551616
        have hz : 0 < z := by omega
        have hlo : x * y % 18446744073709551616 < 18446744073709551616 := Nat.mod_lt _ (by omega)
        refine Ev.step (f := fun k => if ((x * y / 18446744073709551616 : Nat) : Int) ≥ (z : Int) then (some (0, 0, false)) else ((bits_Div64.f k ((x * y / 18446744073709551616 : Nat) : Int) ((x * y % 18446744073709551616 : Nat) : Int) z).bind fun bt108 => (if bt108.1 > 1125899906842624 then (some (0, 0, false)) else (some (wrap64 (bt108.1), wrap64 (bt108.2), true))))) (fun k => ?_) ?_
        · simp only [exact_Scale.j0]
          rw [if_neg (by simp), wx, wy, wz, hm]
          rfl
        · generalize hhi : x * y / 18446744073709551616 = hi at *
          generalize hlo' : x * y % 18446744073709551616 = lo at *
          have hq : (x : Int) * y / z = ((x * y / z : Nat) : Int) := by rw [← Int.natCast_mul, ← Int.natCast_ediv]
          have hr : (x : Int) * y % z = ((x * y % z : Nat) : Int) := by rw [← Int.natCast_mul, ← Int.natCast_emod]
          by_cases hd : z ≤ hi
          · refine Ev.congr (fun k => by rw [if_pos (by omega)]) ?_
            have : scaleF x y z = (0, 0, false) := by
              unfold scaleF
              rw [if_neg]
              simp only [scaleOk, Bool.and_eq_true, decide_eq_true_eq, not_and]
              intro _ h
              rw [hq] at h
              have h1 : 1125899906842625 ≤ x * y / z := (Nat.le_div_iff_mul_le hz).2 (by omega)
              omega
            rw [this]; exact Ev.now _
          · refine Ev.congr (fun k => by rw [if_neg (by omega)]) ?_
            refine Ev.bind (div64_ev hi lo z (by omega) (by omega) hlo) ?_
            rw [hxy]
            have hrm : x * y % z < z := Nat.mod_lt _ hz
            by_cases hM : 1125899906842624 < x * y / z
            · refine Ev.congr (fun k => by rw [if_pos (show ((x * y / z : Nat) : Int) > 1125899906842624 by omega)]) ?_
              have : scaleF x y z = (0, 0, false) := by
                unfold scaleF
                rw [if_neg]
                simp only [scaleOk, Bool.and_eq_true, decide_eq_true_eq, not_and]
                intro _ h
                rw [hq] at h
                omega
              rw [this]; exact Ev.now _
            · refine Ev.congr (fun k => by rw [if_neg (show ¬ ((x * y / z : Nat) : Int) > 1125899906842624 by omega)]) ?_
              have wN : ∀ n : Nat, n < 9223372036854775808 → wrap64 (n : Int) = (n : Int) := fun n hn => by unfold wrap64; omega
              have this : scaleF x y z = (wrap64 ((x * y / z : Nat) : Int), wrap64 ((x * y % z : Nat) : Int), true) := by
                rw [wN (x * y / z) (by omega), wN (x * y % z) (by omega)]
                unfold scaleF
                rw [hq, hr, if_pos]
                simp only [scaleOk, Bool.and_eq_true, decide_eq_true_eq]
                rw [hq]
                generalize x * y / z = q at *
                exact ⟨⟨⟨⟨⟨hA, hB.1⟩, hB.2⟩, hC.1⟩, hC.2⟩, by omega⟩
              rw [this]; exact Ev.now _
      · rw [Bool.not_eq_true] at hC
        rw [hC]
        refine no _ rfl ?_
        unfold scaleF
        rw [if_neg]
        intro h
        simp only [scaleOk, Bool.and_eq_true, decide_eq_true_eq] at h
        simp only [Bool.and_eq_false_iff, decide_eq_false_iff_not] at hC
        omega
    · rw [Bool.not_eq_true] at hB
      refine Ev.congr (fun k => by unfold exact_Scale.f; rw [in_now, in_now, hA, hB]; simp only [Option.bind_some, if_true]; rw [if_neg (by simp)]) (no _ rfl ?_)
      unfold scaleF
      rw [if_neg]
      intro h
      simp only [scaleOk, Bool.and_eq_true, decide_eq_true_eq] at h
      simp only [Bool.and_eq_false_iff, decide_eq_false_iff_not] at hB
      omega
  · rw [Bool.not_eq_true] at hA
    refine Ev.congr (fun k => by unfold exact_Scale.f; rw [in_now, hA]; simp only [Option.bind_some]; rw [if_neg (by simp)]) (no _ rfl ?_)
    unfold scaleF
    rw [if_neg]
    intro h
    simp only [scaleOk, Bool.and_eq_true, decide_eq_true_eq] at h
    simp only [Bool.and_eq_false_iff, decide_eq_false_iff_not] at hA
    omega
end Go.Proofs.Ytcncjldggfbjdaa.E
