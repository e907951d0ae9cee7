import Derived.Test.YtddhaagfieldfaaHs2
namespace Go.Proofs.Ytddhaagfieldfaa.Hb
set_option linter.unusedVariables false
set_option linter.unusedSimpArgs false
open Go.RowKit Go.Proofs.YtddhaagfieldfaaW.PrintWords Go.Proofs.YtddhaagfieldfaaW.PrintLast Go.Proofs.YtddhaagfieldfaaW.PrintMore Go.Proofs.Ytddhaagfieldfaa.PCallTells Go.Proofs.Ytddhaagfieldfaa.Hw Go.Proofs.Ytddhaagfieldfaa.Q
attribute [local go_sem] run_store_v1 max2_int min2_int max_two min_two max_three min_three max_four min_four

def modGo : List Int → Int → Bool
  | [], n => decide (n ≤ 1125899906842624)
  | s :: l, n => if s > 1125899906842624 then false else modGo l (n + max 0 s)
def modestF (su : List Int) : Bool := modGo (su.take 16) 0
theorem take_drop_cons (su : List Int) (i : Nat) (h : i < su.length) (h2 : i < 16) : (su.take 16).drop i = rd su i :: (su.take 16).drop (i + 1) := by
  have hl : i < (su.take 16).length := by rw [List.length_take]; omega
  rw [List.drop_eq_getElem_cons hl, List.getElem_take, rd_nat _ _ h]
theorem take_drop_nil (su : List Int) (i : Nat) (h : ¬ (i < su.length ∧ i < 16)) : (su.take 16).drop i = [] := by
  apply List.drop_of_length_le; rw [List.length_take]; omega
set_option maxHeartbeats 1000000 in
theorem modest_calls (A : Option Addr) (c : Nat) (su : List Int) (w : World) (hr : Kd.C (Kd.int .i64) w A su.length su) :
    Calls Try.prog 22 #[.slice A su.length c] w fun e w' => e = .returned (.bool (modestF su)) ∧ Below w.heap.size w w' := by
  have HR := Aside0.mk hr
  clear hr
  have hsl : (su.length : Int) ≤ 9223372036854775807 := by have := HR.out.2.1; omega
  go_enter Try.func22, Try.ntmps22
  go_wp2
  go_loopw [3, 4] (fun v3 v4 W => ∃ (n : Int) (i : Nat), v3 = .int .i64 n ∧ v4 = .int .i64 i ∧ Aside0 (0 ≤ n ∧ n ≤ i * 1125899906842624 ∧ i ≤ 16 ∧ i ≤ su.length ∧ Below w.heap.size w W ∧ modestF su = modGo ((su.take 16).drop i) n)) (fun _ v4 _ => 16 - (intOf v4).toNat)
  case atStart => exact ⟨0, 0, rfl, rfl, ⟨by omega, by omega, by omega, by omega, Below.refl _ _, rfl⟩⟩
  case round =>
    obtain ⟨n, i, rfl, rfl, hI⟩ := hrel
    have b1 := hI.out.1
    have b2 := hI.out.2.1
    have b3 := hI.out.2.2.1
    by_cases hc : i < su.length ∧ i < 16
    · obtain ⟨h1, h2⟩ := hc
      have hi0 : (0 : Int) ≤ (i : Int) := Int.natCast_nonneg _
      have g1 : (i : Int) < (su.length : Int) := by omega
      have g2 : (i : Int) < 16 := by omega
      obtain ⟨ad, e, hx⟩ := Kd.at_int (Kd.C_below HR.out hI.out.2.2.2.2.1) i hi0 g1
      subst e
      rw [Int.toNat_natCast] at hx
      have hstep := Aside0.mk (show modestF su = if rd su i > 1125899906842624 then false else modGo ((su.take 16).drop (i + 1)) (n + max 0 (rd su i)) by
        rw [hI.out.2.2.2.2.2, take_drop_cons su i h1 h2]; rfl)
      generalize rd su i = s at hx hstep
      by_cases hs : s > 1125899906842624
      · have hs' : 1125899906842624 < s := hs
        have HF := Aside0.mk (show modestF su = false by rw [hstep.out, if_pos hs])
        go_wp2
        go_ret
        exact ⟨by rw [HF.out]; rfl, hI.out.2.2.2.2.1⟩
      · have hs' : ¬ 1125899906842624 < s := hs
        have hmx : (if 0 < s then s else 0) = max 0 s := by split <;> omega
        have HF := Aside0.mk (show modestF su = modGo ((su.take 16).drop (i + 1)) (n + max 0 s) by rw [hstep.out, if_neg hs])
        by_cases hp : 0 < s
        · have q1 : -9223372036854775808 ≤ n + s := by omega
          have q2 : n + s ≤ 9223372036854775807 := by omega
          go_wp2
          go_roundw
          case rel =>
            refine ⟨n + s, i + 1, by go_num, by go_num, ⟨by omega, by push_cast; omega, by omega, by omega, hI.out.2.2.2.2.1, ?_⟩⟩
            rw [HF.out, show max 0 s = s by omega]
          case measure => simp [intOf]; omega
        · go_wp2
          go_roundw
          case rel =>
            refine ⟨n, i + 1, by go_num, by go_num, ⟨by omega, by push_cast; omega, by omega, by omega, hI.out.2.2.2.2.1, ?_⟩⟩
            rw [HF.out, show max 0 s = 0 by omega, Int.add_zero]
          case measure => simp [intOf]; omega
    · have HF := Aside0.mk (show modestF su = decide (n ≤ 1125899906842624) by rw [hI.out.2.2.2.2.2, take_drop_nil su i hc]; rfl)
      by_cases h1 : i < su.length
      · have g1 : (i : Int) < (su.length : Int) := by omega
        have g2 : ¬ (i : Int) < 16 := by omega
        go_wp2
        go_ret
        exact ⟨by rw [HF.out]; rfl, hI.out.2.2.2.2.1⟩
      · have g1 : ¬ (i : Int) < (su.length : Int) := by omega
        go_wp2
        go_ret
        exact ⟨by rw [HF.out]; rfl, hI.out.2.2.2.2.1⟩
end Go.Proofs.Ytddhaagfieldfaa.Hb
