-- Printed by this session's turned copy of the print (wip/turnprint.py).
import Derived.Test.YtcncjldggfbjdaaPExx0
import Derived.Test.YtcncjldggfbjdaaPExx3
import Derived.Test.YtcncjldggfbjdaaPExx5
namespace Go.Proofs.Ytcncjldggfbjdaa.PEx
open Go.RowKit Go.Proofs.YtcncjldggfbjdaaW.PrintWords Go.Proofs.YtcncjldggfbjdaaW.PrintLast Go.Proofs.YtcncjldggfbjdaaW.PrintMore
attribute [local go_sem] max2_int min2_int max_two min_two max_three min_three max_four min_four   -- for this text's walks alone
set_option linter.unusedVariables false
set_option linter.unusedSimpArgs false

/-! ### bournelaw01_ExactScales: function 4 -/
def bournelaw01_ExactScales.j0 : Nat → Int → Int → Int → Bool → Int → Int → Bool → Bool → Option (Bool)
  | 0, _, _, _, _, _, _, _, _ => none
  | k + 1, x0, x1, x2, x7, x8, x9, x10, x58 => if x58 = true then (if x7 = true then (if x10 = true then (some false) else (if x8 = 0 then (some (x9 == 0)) else (some false))) else (some false)) else (if x10 = true then (if (Go.bits .and .i64 (wrap64 ((Go.bits .and .i64 x0 67108863) * (Go.bits .and .i64 x1 67108863))) 67108863) = (Go.bits .and .i64 (wrap64 ((wrap64 ((Go.bits .and .i64 x8 67108863) * (Go.bits .and .i64 x2 67108863))) + x9)) 67108863) then (if (Go.bits .and .i64 (wrap64 ((wrap64 ((wrap64 ((x0 / 67108864) * (Go.bits .and .i64 x1 67108863))) + (wrap64 ((Go.bits .and .i64 x0 67108863) * (x1 / 67108864))))) + ((wrap64 ((Go.bits .and .i64 x0 67108863) * (Go.bits .and .i64 x1 67108863))) / 67108864))) 67108863) = (Go.bits .and .i64 (wrap64 ((wrap64 ((wrap64 ((x8 / 67108864) * (Go.bits .and .i64 x2 67108863))) + (wrap64 ((Go.bits .and .i64 x8 67108863) * (x2 / 67108864))))) + ((wrap64 ((wrap64 ((Go.bits .and .i64 x8 67108863) * (Go.bits .and .i64 x2 67108863))) + x9)) / 67108864))) 67108863) then ((exact_Scale.f k x1 x0 x2).bind fun bt185 => ((exact_Scale.f k (mn (wrap64 (x0 + 1)) 1125899906842624) x1 x2).bind fun bt188 => (if x7 = true then (if (wrap64 ((wrap64 ((x0 / 67108864) * (x1 / 67108864))) + ((wrap64 ((wrap64 ((wrap64 ((x0 / 67108864) * (Go.bits .and .i64 x1 67108863))) + (wrap64 ((Go.bits .and .i64 x0 67108863) * (x1 / 67108864))))) + ((wrap64 ((Go.bits .and .i64 x0 67108863) * (Go.bits .and .i64 x1 67108863))) / 67108864))) / 67108864))) = (wrap64 ((wrap64 ((x8 / 67108864) * (x2 / 67108864))) + ((wrap64 ((wrap64 ((wrap64 ((x8 / 67108864) * (Go.bits .and .i64 x2 67108863))) + (wrap64 ((Go.bits .and .i64 x8 67108863) * (x2 / 67108864))))) + ((wrap64 ((wrap64 ((Go.bits .and .i64 x8 67108863) * (Go.bits .and .i64 x2 67108863))) + x9)) / 67108864))) / 67108864))) then (if x9 ≥ 0 then (if x9 < x2 then (if x8 ≥ 0 then (if x8 ≤ 1125899906842624 then (if bt185.2.2 = true then (if bt185.1 = x8 then (if bt185.2.1 = x9 then (if bt188.2.2 = true then (some (decide (bt188.1 ≥ x8))) else (some true)) else (some false)) else (some false)) else (some false)) else (some false)) else (some false)) else (some false)) else (some false)) else (some false)) else (some false)))) else ((exact_Scale.f k x1 x0 x2).bind fun bt191 => ((exact_Scale.f k (mn (wrap64 (x0 + 1)) 1125899906842624) x1 x2).bind fun bt194 => (if x7 = true then (some false) else (some false))))) else ((exact_Scale.f k x1 x0 x2).bind fun bt197 => ((exact_Scale.f k (mn (wrap64 (x0 + 1)) 1125899906842624) x1 x2).bind fun bt200 => (if x7 = true then (some false) else (some false))))) else (if x7 = true then (if x8 = 0 then (some (x9 == 0)) else (some false)) else (some false)))
def bournelaw01_ExactScales.f (k : Nat) (a0 : Int) (a1 : Int) (a2 : Int) : Option (Bool) := (bournelaw01_small.f k).bind fun t181 => ((exact_Scale.f k a0 a1 a2).bind fun bt182 => (if a0 < 0 then (bournelaw01_ExactScales.j0 k a0 a1 a2 t181 bt182.1 bt182.2.1 bt182.2.2 true) else (if a0 > 1125899906842624 then (bournelaw01_ExactScales.j0 k a0 a1 a2 t181 bt182.1 bt182.2.1 bt182.2.2 true) else (if a1 < 0 then (bournelaw01_ExactScales.j0 k a0 a1 a2 t181 bt182.1 bt182.2.1 bt182.2.2 true) else (if a1 > 1125899906842624 then (bournelaw01_ExactScales.j0 k a0 a1 a2 t181 bt182.1 bt182.2.1 bt182.2.2 true) else (if a2 < 1 then (bournelaw01_ExactScales.j0 k a0 a1 a2 t181 bt182.1 bt182.2.1 bt182.2.2 true) else (bournelaw01_ExactScales.j0 k a0 a1 a2 t181 bt182.1 bt182.2.1 bt182.2.2 (decide (a2 > 1125899906842624)))))))))
theorem bournelaw01_ExactScales.mono_l : ∀ k, (∀ y0 y1 y2 y3 y4 y5 y6 y7, LeO (bournelaw01_ExactScales.j0 k y0 y1 y2 y3 y4 y5 y6 y7) (bournelaw01_ExactScales.j0 (k + 1) y0 y1 y2 y3 y4 y5 y6 y7))
  | 0 => fun _ _ _ _ _ _ _ _ r h => by simp [bournelaw01_ExactScales.j0] at h
  | k + 1 => by
    have ih0 := bournelaw01_ExactScales.mono_l k
    · intro y0 y1 y2 y3 y4 y5 y6 y7
      unfold bournelaw01_ExactScales.j0
      repeat' first
      | (with_reducible exact ih0 _ _ _ _ _ _ _ _)
      | (with_reducible exact bournelaw01_small.mono _)
      | (with_reducible exact exact_Scale.mono _ _ _ _)
      | (with_reducible exact LeO.refl _)
      | (with_reducible exact LeO.none _)
      | (with_reducible refine LeO.ite ?_ ?_)
      | (with_reducible refine LeO.bind ?_ (fun _ => ?_))
      | exact ih0 _ _ _ _ _ _ _ _
      | exact bournelaw01_small.mono _
      | exact exact_Scale.mono _ _ _ _
      | exact LeO.none _
      | refine LeO.ite ?_ ?_
      | refine LeO.bind ?_ (fun _ => ?_)
theorem bournelaw01_ExactScales.mono : ∀ a0 a1 a2 k, LeO (bournelaw01_ExactScales.f k a0 a1 a2) (bournelaw01_ExactScales.f (k + 1) a0 a1 a2) := by
  intro a0 a1 a2 k
  have ih0 := bournelaw01_ExactScales.mono_l k
  unfold bournelaw01_ExactScales.f
  repeat' first
      | (with_reducible exact ih0 _ _ _ _ _ _ _ _)
      | (with_reducible exact bournelaw01_small.mono _)
      | (with_reducible exact exact_Scale.mono _ _ _ _)
      | (with_reducible exact LeO.refl _)
      | (with_reducible exact LeO.none _)
      | (with_reducible refine LeO.ite ?_ ?_)
      | (with_reducible refine LeO.bind ?_ (fun _ => ?_))
      | exact ih0 _ _ _ _ _ _ _ _
      | exact bournelaw01_small.mono _
      | exact exact_Scale.mono _ _ _ _
      | exact LeO.none _
      | refine LeO.ite ?_ ?_
      | refine LeO.bind ?_ (fun _ => ?_)
set_option maxHeartbeats 8000000 in
set_option maxRecDepth 100000 in
theorem bournelaw01_ExactScales.calls (k : Nat) (a0 : Int) (a1 : Int) (a2 : Int) (r : Bool) (w : World) (h : bournelaw01_ExactScales.f k a0 a1 a2 = some r) :
    Calls Try.prog 4 #[.int .i64 a0, .int .i64 a1, .int .i64 a2] w fun e w' => e = .returned (.bool r) ∧ Below w.heap.size w w' := by
  have HB := Aside0.mk (Below.refl w.heap.size w)
  have H : ((bournelaw01_small.f k).bind fun t181 => ((exact_Scale.f k a0 a1 a2).bind fun bt182 => (if a0 < 0 then (bournelaw01_ExactScales.j0 k a0 a1 a2 t181 bt182.1 bt182.2.1 bt182.2.2 true) else (if a0 > 1125899906842624 then (bournelaw01_ExactScales.j0 k a0 a1 a2 t181 bt182.1 bt182.2.1 bt182.2.2 true) else (if a1 < 0 then (bournelaw01_ExactScales.j0 k a0 a1 a2 t181 bt182.1 bt182.2.1 bt182.2.2 true) else (if a1 > 1125899906842624 then (bournelaw01_ExactScales.j0 k a0 a1 a2 t181 bt182.1 bt182.2.1 bt182.2.2 true) else (if a2 < 1 then (bournelaw01_ExactScales.j0 k a0 a1 a2 t181 bt182.1 bt182.2.1 bt182.2.2 true) else (bournelaw01_ExactScales.j0 k a0 a1 a2 t181 bt182.1 bt182.2.1 bt182.2.2 (decide (a2 > 1125899906842624)))))))))) = some r := h
  clear h
  replace H := Option.bind_eq_some_iff.mp H
  obtain ⟨t181, A40, H⟩ := H
  replace H : ((exact_Scale.f k a0 a1 a2).bind fun bt182 => (if a0 < 0 then (bournelaw01_ExactScales.j0 k a0 a1 a2 t181 bt182.1 bt182.2.1 bt182.2.2 true) else (if a0 > 1125899906842624 then (bournelaw01_ExactScales.j0 k a0 a1 a2 t181 bt182.1 bt182.2.1 bt182.2.2 true) else (if a1 < 0 then (bournelaw01_ExactScales.j0 k a0 a1 a2 t181 bt182.1 bt182.2.1 bt182.2.2 true) else (if a1 > 1125899906842624 then (bournelaw01_ExactScales.j0 k a0 a1 a2 t181 bt182.1 bt182.2.1 bt182.2.2 true) else (if a2 < 1 then (bournelaw01_ExactScales.j0 k a0 a1 a2 t181 bt182.1 bt182.2.1 bt182.2.2 true) else (bournelaw01_ExactScales.j0 k a0 a1 a2 t181 bt182.1 bt182.2.1 bt182.2.2 (decide (a2 > 1125899906842624))))))))) = some r := H
  have A4 := Aside0.mk A40
  clear A40
  replace H := Option.bind_eq_some_iff.mp H
  obtain ⟨⟨t182, t183, t184⟩, A50, H⟩ := H
  replace H : (if a0 < 0 then (bournelaw01_ExactScales.j0 k a0 a1 a2 t181 t182 t183 t184 true) else (if a0 > 1125899906842624 then (bournelaw01_ExactScales.j0 k a0 a1 a2 t181 t182 t183 t184 true) else (if a1 < 0 then (bournelaw01_ExactScales.j0 k a0 a1 a2 t181 t182 t183 t184 true) else (if a1 > 1125899906842624 then (bournelaw01_ExactScales.j0 k a0 a1 a2 t181 t182 t183 t184 true) else (if a2 < 1 then (bournelaw01_ExactScales.j0 k a0 a1 a2 t181 t182 t183 t184 true) else (bournelaw01_ExactScales.j0 k a0 a1 a2 t181 t182 t183 t184 (decide (a2 > 1125899906842624)))))))) = some r := H
  have A5 := Aside0.mk A50
  clear A50
  have HC6 := Aside0.mk H
  clear H
  go_enter Try.func4, Try.ntmps4
  go_upto_region 3 with (first | ((with_reducible refine gate_callee (f := 14) rfl ?_); refine goesL_ (some 28) rfl rfl Try.func14 (by kernel_rfl) rfl #[] rfl (by (try simp only [List.map_toArray, List.map_cons, List.map_nil]); first | done | rfl | (simp only [List.length_drop, List.length_take]; rfl)) ?_; (with_reducible refine (bournelaw01_small.calls k  t181 _ A4.out).mono ?_); rintro e w7 ⟨rfl, hb⟩; refine ⟨_, rfl, ?_⟩; have n0_ := Aside0.mk (below_step (by repeat (first | (with_reducible first | exact HB.out | apply below_alloc | apply pw_below_drewN | apply below_drew1) | exact HB.out)) hb); clear HB; have HB := n0_; clear n0_; (try clear hb); (try clear hb2); (try clear hk); (try clear hi)) | ((with_reducible refine gate_callee (f := 15) rfl ?_); refine goesL_ (some 33) rfl rfl Try.func15 (by kernel_rfl) rfl #[.int .i64 a0, .int .i64 a1, .int .i64 a2] rfl (by (try simp only [List.map_toArray, List.map_cons, List.map_nil]); first | done | rfl | (simp only [List.length_drop, List.length_take]; rfl)) ?_; (with_reducible refine (exact_Scale.calls k a0 a1 a2 t182 t183 t184 _ A5.out).mono ?_); rintro e w' ⟨rfl, ⟨nd, rfl⟩⟩; refine ⟨_, rfl, ?_⟩))
  (try simp only [Act.put, List.setIfInBounds_toArray, List.set_cons_zero, List.set_cons_succ])
  go_cut [58] (fun v58 wc => ∃ (kq : Nat) (x58_5 : Bool), v58 = .bool x58_5 ∧ Aside0 (bournelaw01_ExactScales.j0 kq a0 a1 a2 t181 t182 t183 t184 x58_5 = some r) ∧ Aside0 (kq ≤ k) ∧ Aside0 (Below w.heap.size w wc))
  case first =>
    have H := HC6.out
    clear HC6
    by_cases c8 : a0 < 0
    · rw [if_pos c8] at H
      have c8b0 : decide (a0 < 0) = true := decide_eq_true c8
      clear c8
      (first | rw [c8b0] | (simp only [i64_w, i32_w]; rw [c8b0]) | skip)
      have H' := Aside0.mk H
      clear H
      go_wp2
      go_meet
      case rel => exact ⟨_, (true), (by first | rfl | (simp; done) | (simp [*]; done)), H', ⟨by first | omega | exact Nat.le_refl _⟩, ⟨by repeat (first | (with_reducible first | exact HB.out | apply below_alloc | apply pw_below_drewN | apply below_drew1) | exact HB.out)⟩⟩
    · rw [if_neg c8] at H
      have c8b0 : decide (a0 < 0) = false := decide_eq_false c8
      clear c8
      (first | rw [c8b0] | (simp only [i64_w, i32_w]; rw [c8b0]) | skip)
      by_cases c9 : a0 > 1125899906842624
      · rw [if_pos c9] at H
        have c9b0 : decide (1125899906842624 < a0) = true := decide_eq_true c9
        clear c9
        have H' := Aside0.mk H
        clear H
        go_wp2
        go_meet
        case rel => exact ⟨_, (true), (by first | rfl | (simp; done) | (simp [*]; done)), H', ⟨by first | omega | exact Nat.le_refl _⟩, ⟨by repeat (first | (with_reducible first | exact HB.out | apply below_alloc | apply pw_below_drewN | apply below_drew1) | exact HB.out)⟩⟩
      · rw [if_neg c9] at H
        have c9b0 : decide (1125899906842624 < a0) = false := decide_eq_false c9
        clear c9
        by_cases c10 : a1 < 0
        · rw [if_pos c10] at H
          have c10b0 : decide (a1 < 0) = true := decide_eq_true c10
          clear c10
          have H' := Aside0.mk H
          clear H
          go_wp2
          go_meet
          case rel => exact ⟨_, (true), (by first | rfl | (simp; done) | (simp [*]; done)), H', ⟨by first | omega | exact Nat.le_refl _⟩, ⟨by repeat (first | (with_reducible first | exact HB.out | apply below_alloc | apply pw_below_drewN | apply below_drew1) | exact HB.out)⟩⟩
        · rw [if_neg c10] at H
          have c10b0 : decide (a1 < 0) = false := decide_eq_false c10
          clear c10
          by_cases c11 : a1 > 1125899906842624
          · rw [if_pos c11] at H
            have c11b0 : decide (1125899906842624 < a1) = true := decide_eq_true c11
            clear c11
            have H' := Aside0.mk H
            clear H
            go_wp2
            go_meet
            case rel => exact ⟨_, (true), (by first | rfl | (simp; done) | (simp [*]; done)), H', ⟨by first | omega | exact Nat.le_refl _⟩, ⟨by repeat (first | (with_reducible first | exact HB.out | apply below_alloc | apply pw_below_drewN | apply below_drew1) | exact HB.out)⟩⟩
          · rw [if_neg c11] at H
            have c11b0 : decide (1125899906842624 < a1) = false := decide_eq_false c11
            clear c11
            by_cases c12 : a2 < 1
            · rw [if_pos c12] at H
              have c12b0 : decide (a2 < 1) = true := decide_eq_true c12
              clear c12
              have H' := Aside0.mk H
              clear H
              go_wp2
              go_meet
              case rel => exact ⟨_, (true), (by first | rfl | (simp; done) | (simp [*]; done)), H', ⟨by first | omega | exact Nat.le_refl _⟩, ⟨by repeat (first | (with_reducible first | exact HB.out | apply below_alloc | apply pw_below_drewN | apply below_drew1) | exact HB.out)⟩⟩
            · rw [if_neg c12] at H
              have c12b0 : decide (a2 < 1) = false := decide_eq_false c12
              clear c12
              have H' := Aside0.mk H
              clear H
              go_wp2
              go_meet
              case rel => exact ⟨_, (decide (a2 > 1125899906842624)), (by first | rfl | (simp; done) | (simp [*]; done)), H', ⟨by first | omega | exact Nat.le_refl _⟩, ⟨by repeat (first | (with_reducible first | exact HB.out | apply below_alloc | apply pw_below_drewN | apply below_drew1) | exact HB.out)⟩⟩
  case rest =>
    clear HC6
    try clear c1
    try clear p2
    try clear c4
    try clear c8
    try clear c8b0
    try clear c9
    try clear c9b0
    try clear c10
    try clear c10b0
    try clear c11
    try clear c11b0
    try clear c12
    try clear c12b0
    obtain ⟨kq, x58_5, rfl, HA, HJ5, HB⟩ := hcut
    cases kq with
    | zero => exact absurd HA.out (by simp [bournelaw01_ExactScales.j0])
    | succ kj5 =>
      have H := HA.out
      clear HA
      simp only [bournelaw01_ExactScales.j0] at H
      by_cases c13 : x58_5 = true
      · subst c13
        have H1 : (if t181 = true then (if t184 = true then (some false) else (if t182 = 0 then (some (t183 == 0)) else (some false))) else (some false)) = some r := by rw [if_pos rfl] at H; exact H
        clear H
        have H := H1
        clear H1
        by_cases c14 : t181 = true
        · subst c14
          have H1 : (if t184 = true then (some false) else (if t182 = 0 then (some (t183 == 0)) else (some false))) = some r := by rw [if_pos rfl] at H; exact H
          clear H
          have H := H1
          clear H1
          by_cases c15 : t184 = true
          · subst c15
            have H1 : (some false) = some r := by rw [if_pos rfl] at H; exact H
            clear H
            have H := H1
            clear H1
            obtain rfl := Option.some.inj H
            go_wp2
            go_ret
            exact ⟨by first | rfl | (simp [errW_none, errW_some] <;> rfl) | (simp [*, errW_none, errW_some] <;> rfl), by repeat (first | (with_reducible first | exact HB.out | apply below_alloc | apply pw_below_drewN | apply below_drew1) | exact HB.out)⟩
          · replace c15 := Bool.eq_false_iff.mpr c15
            subst c15
            have H1 : (if t182 = 0 then (some (t183 == 0)) else (some false)) = some r := by rw [if_neg (show ¬ (false = true) by decide)] at H; exact H
            clear H
            have H := H1
            clear H1
            by_cases c16 : t182 = 0
            · rw [if_pos c16] at H
              have c16b0 : (t182 == 0) = true := beq_iff_eq.mpr c16
              have c16b1 : (t182 != 0) = false := bne_eq_false_iff_eq.mpr c16
              clear c16
              obtain rfl := Option.some.inj H
              go_wp2
              go_ret
              exact ⟨by first | rfl | (simp [errW_none, errW_some] <;> rfl) | (simp [*, errW_none, errW_some] <;> rfl), by repeat (first | (with_reducible first | exact HB.out | apply below_alloc | apply pw_below_drewN | apply below_drew1) | exact HB.out)⟩
            · rw [if_neg c16] at H
              have c16b0 : (t182 == 0) = false := beq_eq_false_iff_ne.mpr c16
              have c16b1 : (t182 != 0) = true := bne_iff_ne.mpr c16
              obtain rfl := Option.some.inj H
              go_wp2
              go_ret
              exact ⟨by first | rfl | (simp [errW_none, errW_some] <;> rfl) | (simp [*, errW_none, errW_some] <;> rfl), by repeat (first | (with_reducible first | exact HB.out | apply below_alloc | apply pw_below_drewN | apply below_drew1) | exact HB.out)⟩
        · replace c14 := Bool.eq_false_iff.mpr c14
          subst c14
          have H1 : (some false) = some r := by rw [if_neg (show ¬ (false = true) by decide)] at H; exact H
          clear H
          have H := H1
          clear H1
          obtain rfl := Option.some.inj H
          go_wp2
          go_ret
          exact ⟨by first | rfl | (simp [errW_none, errW_some] <;> rfl) | (simp [*, errW_none, errW_some] <;> rfl), by repeat (first | (with_reducible first | exact HB.out | apply below_alloc | apply pw_below_drewN | apply below_drew1) | exact HB.out)⟩
      · replace c13 := Bool.eq_false_iff.mpr c13
        subst c13
        have H1 : (if t184 = true then (if (Go.bits .and .i64 (wrap64 ((Go.bits .and .i64 a0 67108863) * (Go.bits .and .i64 a1 67108863))) 67108863) = (Go.bits .and .i64 (wrap64 ((wrap64 ((Go.bits .and .i64 t182 67108863) * (Go.bits .and .i64 a2 67108863))) + t183)) 67108863) then (if (Go.bits .and .i64 (wrap64 ((wrap64 ((wrap64 ((a0 / 67108864) * (Go.bits .and .i64 a1 67108863))) + (wrap64 ((Go.bits .and .i64 a0 67108863) * (a1 / 67108864))))) + ((wrap64 ((Go.bits .and .i64 a0 67108863) * (Go.bits .and .i64 a1 67108863))) / 67108864))) 67108863) = (Go.bits .and .i64 (wrap64 ((wrap64 ((wrap64 ((t182 / 67108864) * (Go.bits .and .i64 a2 67108863))) + (wrap64 ((Go.bits .and .i64 t182 67108863) * (a2 / 67108864))))) + ((wrap64 ((wrap64 ((Go.bits .and .i64 t182 67108863) * (Go.bits .and .i64 a2 67108863))) + t183)) / 67108864))) 67108863) then ((exact_Scale.f kj5 a1 a0 a2).bind fun bt185 => ((exact_Scale.f kj5 (mn (wrap64 (a0 + 1)) 1125899906842624) a1 a2).bind fun bt188 => (if t181 = true then (if (wrap64 ((wrap64 ((a0 / 67108864) * (a1 / 67108864))) + ((wrap64 ((wrap64 ((wrap64 ((a0 / 67108864) * (Go.bits .and .i64 a1 67108863))) + (wrap64 ((Go.bits .and .i64 a0 67108863) * (a1 / 67108864))))) + ((wrap64 ((Go.bits .and .i64 a0 67108863) * (Go.bits .and .i64 a1 67108863))) / 67108864))) / 67108864))) = (wrap64 ((wrap64 ((t182 / 67108864) * (a2 / 67108864))) + ((wrap64 ((wrap64 ((wrap64 ((t182 / 67108864) * (Go.bits .and .i64 a2 67108863))) + (wrap64 ((Go.bits .and .i64 t182 67108863) * (a2 / 67108864))))) + ((wrap64 ((wrap64 ((Go.bits .and .i64 t182 67108863) * (Go.bits .and .i64 a2 67108863))) + t183)) / 67108864))) / 67108864))) then (if t183 ≥ 0 then (if t183 < a2 then (if t182 ≥ 0 then (if t182 ≤ 1125899906842624 then (if bt185.2.2 = true then (if bt185.1 = t182 then (if bt185.2.1 = t183 then (if bt188.2.2 = true then (some (decide (bt188.1 ≥ t182))) else (some true)) else (some false)) else (some false)) else (some false)) else (some false)) else (some false)) else (some false)) else (some false)) else (some false)) else (some false)))) else ((exact_Scale.f kj5 a1 a0 a2).bind fun bt191 => ((exact_Scale.f kj5 (mn (wrap64 (a0 + 1)) 1125899906842624) a1 a2).bind fun bt194 => (if t181 = true then (some false) else (some false))))) else ((exact_Scale.f kj5 a1 a0 a2).bind fun bt197 => ((exact_Scale.f kj5 (mn (wrap64 (a0 + 1)) 1125899906842624) a1 a2).bind fun bt200 => (if t181 = true then (some false) else (some false))))) else (if t181 = true then (if t182 = 0 then (some (t183 == 0)) else (some false)) else (some false))) = some r := by rw [if_neg (show ¬ (false = true) by decide)] at H; exact H
        clear H
        have H := H1
        clear H1
        by_cases c17 : t184 = true
        · subst c17
          have H1 : (if (Go.bits .and .i64 (wrap64 ((Go.bits .and .i64 a0 67108863) * (Go.bits .and .i64 a1 67108863))) 67108863) = (Go.bits .and .i64 (wrap64 ((wrap64 ((Go.bits .and .i64 t182 67108863) * (Go.bits .and .i64 a2 67108863))) + t183)) 67108863) then (if (Go.bits .and .i64 (wrap64 ((wrap64 ((wrap64 ((a0 / 67108864) * (Go.bits .and .i64 a1 67108863))) + (wrap64 ((Go.bits .and .i64 a0 67108863) * (a1 / 67108864))))) + ((wrap64 ((Go.bits .and .i64 a0 67108863) * (Go.bits .and .i64 a1 67108863))) / 67108864))) 67108863) = (Go.bits .and .i64 (wrap64 ((wrap64 ((wrap64 ((t182 / 67108864) * (Go.bits .and .i64 a2 67108863))) + (wrap64 ((Go.bits .and .i64 t182 67108863) * (a2 / 67108864))))) + ((wrap64 ((wrap64 ((Go.bits .and .i64 t182 67108863) * (Go.bits .and .i64 a2 67108863))) + t183)) / 67108864))) 67108863) then ((exact_Scale.f kj5 a1 a0 a2).bind fun bt185 => ((exact_Scale.f kj5 (mn (wrap64 (a0 + 1)) 1125899906842624) a1 a2).bind fun bt188 => (if t181 = true then (if (wrap64 ((wrap64 ((a0 / 67108864) * (a1 / 67108864))) + ((wrap64 ((wrap64 ((wrap64 ((a0 / 67108864) * (Go.bits .and .i64 a1 67108863))) + (wrap64 ((Go.bits .and .i64 a0 67108863) * (a1 / 67108864))))) + ((wrap64 ((Go.bits .and .i64 a0 67108863) * (Go.bits .and .i64 a1 67108863))) / 67108864))) / 67108864))) = (wrap64 ((wrap64 ((t182 / 67108864) * (a2 / 67108864))) + ((wrap64 ((wrap64 ((wrap64 ((t182 / 67108864) * (Go.bits .and .i64 a2 67108863))) + (wrap64 ((Go.bits .and .i64 t182 67108863) * (a2 / 67108864))))) + ((wrap64 ((wrap64 ((Go.bits .and .i64 t182 67108863) * (Go.bits .and .i64 a2 67108863))) + t183)) / 67108864))) / 67108864))) then (if t183 ≥ 0 then (if t183 < a2 then (if t182 ≥ 0 then (if t182 ≤ 1125899906842624 then (if bt185.2.2 = true then (if bt185.1 = t182 then (if bt185.2.1 = t183 then (if bt188.2.2 = true then (some (decide (bt188.1 ≥ t182))) else (some true)) else (some false)) else (some false)) else (some false)) else (some false)) else (some false)) else (some false)) else (some false)) else (some false)) else (some false)))) else ((exact_Scale.f kj5 a1 a0 a2).bind fun bt191 => ((exact_Scale.f kj5 (mn (wrap64 (a0 + 1)) 1125899906842624) a1 a2).bind fun bt194 => (if t181 = true then (some false) else (some false))))) else ((exact_Scale.f kj5 a1 a0 a2).bind fun bt197 => ((exact_Scale.f kj5 (mn (wrap64 (a0 + 1)) 1125899906842624) a1 a2).bind fun bt200 => (if t181 = true then (some false) else (some false))))) = some r := by rw [if_pos rfl] at H; exact H
          clear H
          have H := H1
          clear H1
          by_cases c18 : (Go.bits .and .i64 (wrap64 ((Go.bits .and .i64 a0 67108863) * (Go.bits .and .i64 a1 67108863))) 67108863) = (Go.bits .and .i64 (wrap64 ((wrap64 ((Go.bits .and .i64 t182 67108863) * (Go.bits .and .i64 a2 67108863))) + t183)) 67108863)
          · rw [if_pos c18] at H
            have c18b0 : ((Go.bits .and .i64 (wrap64 ((Go.bits .and .i64 a0 67108863) * (Go.bits .and .i64 a1 67108863))) 67108863) == (Go.bits .and .i64 (wrap64 ((wrap64 ((Go.bits .and .i64 t182 67108863) * (Go.bits .and .i64 a2 67108863))) + t183)) 67108863)) = true := beq_iff_eq.mpr c18
            have c18b1 : ((Go.bits .and .i64 (wrap64 ((Go.bits .and .i64 a0 67108863) * (Go.bits .and .i64 a1 67108863))) 67108863) != (Go.bits .and .i64 (wrap64 ((wrap64 ((Go.bits .and .i64 t182 67108863) * (Go.bits .and .i64 a2 67108863))) + t183)) 67108863)) = false := bne_eq_false_iff_eq.mpr c18
            clear c18
            by_cases c19 : (Go.bits .and .i64 (wrap64 ((wrap64 ((wrap64 ((a0 / 67108864) * (Go.bits .and .i64 a1 67108863))) + (wrap64 ((Go.bits .and .i64 a0 67108863) * (a1 / 67108864))))) + ((wrap64 ((Go.bits .and .i64 a0 67108863) * (Go.bits .and .i64 a1 67108863))) / 67108864))) 67108863) = (Go.bits .and .i64 (wrap64 ((wrap64 ((wrap64 ((t182 / 67108864) * (Go.bits .and .i64 a2 67108863))) + (wrap64 ((Go.bits .and .i64 t182 67108863) * (a2 / 67108864))))) + ((wrap64 ((wrap64 ((Go.bits .and .i64 t182 67108863) * (Go.bits .and .i64 a2 67108863))) + t183)) / 67108864))) 67108863)
            · rw [if_pos c19] at H
              have c19b0 : ((Go.bits .and .i64 (wrap64 ((wrap64 ((wrap64 ((a0 / 67108864) * (Go.bits .and .i64 a1 67108863))) + (wrap64 ((Go.bits .and .i64 a0 67108863) * (a1 / 67108864))))) + ((wrap64 ((Go.bits .and .i64 a0 67108863) * (Go.bits .and .i64 a1 67108863))) / 67108864))) 67108863) == (Go.bits .and .i64 (wrap64 ((wrap64 ((wrap64 ((t182 / 67108864) * (Go.bits .and .i64 a2 67108863))) + (wrap64 ((Go.bits .and .i64 t182 67108863) * (a2 / 67108864))))) + ((wrap64 ((wrap64 ((Go.bits .and .i64 t182 67108863) * (Go.bits .and .i64 a2 67108863))) + t183)) / 67108864))) 67108863)) = true := beq_iff_eq.mpr c19
              have c19b1 : ((Go.bits .and .i64 (wrap64 ((wrap64 ((wrap64 ((a0 / 67108864) * (Go.bits .and .i64 a1 67108863))) + (wrap64 ((Go.bits .and .i64 a0 67108863) * (a1 / 67108864))))) + ((wrap64 ((Go.bits .and .i64 a0 67108863) * (Go.bits .and .i64 a1 67108863))) / 67108864))) 67108863) != (Go.bits .and .i64 (wrap64 ((wrap64 ((wrap64 ((t182 / 67108864) * (Go.bits .and .i64 a2 67108863))) + (wrap64 ((Go.bits .and .i64 t182 67108863) * (a2 / 67108864))))) + ((wrap64 ((wrap64 ((Go.bits .and .i64 t182 67108863) * (Go.bits .and .i64 a2 67108863))) + t183)) / 67108864))) 67108863)) = false := bne_eq_false_iff_eq.mpr c19
              clear c19
              replace H := Option.bind_eq_some_iff.mp H
              obtain ⟨⟨t185, t186, t187⟩, A200, H⟩ := H
              replace H : ((exact_Scale.f kj5 (mn (wrap64 (a0 + 1)) 1125899906842624) a1 a2).bind fun bt188 => (if t181 = true then (if (wrap64 ((wrap64 ((a0 / 67108864) * (a1 / 67108864))) + ((wrap64 ((wrap64 ((wrap64 ((a0 / 67108864) * (Go.bits .and .i64 a1 67108863))) + (wrap64 ((Go.bits .and .i64 a0 67108863) * (a1 / 67108864))))) + ((wrap64 ((Go.bits .and .i64 a0 67108863) * (Go.bits .and .i64 a1 67108863))) / 67108864))) / 67108864))) = (wrap64 ((wrap64 ((t182 / 67108864) * (a2 / 67108864))) + ((wrap64 ((wrap64 ((wrap64 ((t182 / 67108864) * (Go.bits .and .i64 a2 67108863))) + (wrap64 ((Go.bits .and .i64 t182 67108863) * (a2 / 67108864))))) + ((wrap64 ((wrap64 ((Go.bits .and .i64 t182 67108863) * (Go.bits .and .i64 a2 67108863))) + t183)) / 67108864))) / 67108864))) then (if t183 ≥ 0 then (if t183 < a2 then (if t182 ≥ 0 then (if t182 ≤ 1125899906842624 then (if t187 = true then (if t185 = t182 then (if t186 = t183 then (if bt188.2.2 = true then (some (decide (bt188.1 ≥ t182))) else (some true)) else (some false)) else (some false)) else (some false)) else (some false)) else (some false)) else (some false)) else (some false)) else (some false)) else (some false))) = some r := H
              have A20 := Aside0.mk A200
              clear A200
              obtain ⟨ji21, hji21⟩ : ∃ j_ : Int, (mn (wrap64 (a0 + 1)) 1125899906842624) = j_ := ⟨_, rfl⟩
              replace H : ((exact_Scale.f kj5 (ji21) a1 a2).bind fun bt188 => (if t181 = true then (if (wrap64 ((wrap64 ((a0 / 67108864) * (a1 / 67108864))) + ((wrap64 ((wrap64 ((wrap64 ((a0 / 67108864) * (Go.bits .and .i64 a1 67108863))) + (wrap64 ((Go.bits .and .i64 a0 67108863) * (a1 / 67108864))))) + ((wrap64 ((Go.bits .and .i64 a0 67108863) * (Go.bits .and .i64 a1 67108863))) / 67108864))) / 67108864))) = (wrap64 ((wrap64 ((t182 / 67108864) * (a2 / 67108864))) + ((wrap64 ((wrap64 ((wrap64 ((t182 / 67108864) * (Go.bits .and .i64 a2 67108863))) + (wrap64 ((Go.bits .and .i64 t182 67108863) * (a2 / 67108864))))) + ((wrap64 ((wrap64 ((Go.bits .and .i64 t182 67108863) * (Go.bits .and .i64 a2 67108863))) + t183)) / 67108864))) / 67108864))) then (if t183 ≥ 0 then (if t183 < a2 then (if t182 ≥ 0 then (if t182 ≤ 1125899906842624 then (if t187 = true then (if t185 = t182 then (if t186 = t183 then (if bt188.2.2 = true then (some (decide (bt188.1 ≥ t182))) else (some true)) else (some false)) else (some false)) else (some false)) else (some false)) else (some false)) else (some false)) else (some false)) else (some false)) else (some false))) = some r := by first | (rw [hji21] at H; exact H) | (simp only [hji21] at H ⊢; exact H)
              (try rw [hji21] at A20)
              have hji21_ : (if 1125899906842624 < (wrap64 (a0 + 1)) then 1125899906842624 else (wrap64 (a0 + 1))) = ji21 := hji21
              replace H := Option.bind_eq_some_iff.mp H
              obtain ⟨⟨t188, t189, t190⟩, A220, H⟩ := H
              replace H : (if t181 = true then (if (wrap64 ((wrap64 ((a0 / 67108864) * (a1 / 67108864))) + ((wrap64 ((wrap64 ((wrap64 ((a0 / 67108864) * (Go.bits .and .i64 a1 67108863))) + (wrap64 ((Go.bits .and .i64 a0 67108863) * (a1 / 67108864))))) + ((wrap64 ((Go.bits .and .i64 a0 67108863) * (Go.bits .and .i64 a1 67108863))) / 67108864))) / 67108864))) = (wrap64 ((wrap64 ((t182 / 67108864) * (a2 / 67108864))) + ((wrap64 ((wrap64 ((wrap64 ((t182 / 67108864) * (Go.bits .and .i64 a2 67108863))) + (wrap64 ((Go.bits .and .i64 t182 67108863) * (a2 / 67108864))))) + ((wrap64 ((wrap64 ((Go.bits .and .i64 t182 67108863) * (Go.bits .and .i64 a2 67108863))) + t183)) / 67108864))) / 67108864))) then (if t183 ≥ 0 then (if t183 < a2 then (if t182 ≥ 0 then (if t182 ≤ 1125899906842624 then (if t187 = true then (if t185 = t182 then (if t186 = t183 then (if t190 = true then (some (decide (t188 ≥ t182))) else (some true)) else (some false)) else (some false)) else (some false)) else (some false)) else (some false)) else (some false)) else (some false)) else (some false)) else (some false)) = some r := H
              have A22 := Aside0.mk A220
              clear A220
              by_cases c23 : t181 = true
              · subst c23
                have H1 : (if (wrap64 ((wrap64 ((a0 / 67108864) * (a1 / 67108864))) + ((wrap64 ((wrap64 ((wrap64 ((a0 / 67108864) * (Go.bits .and .i64 a1 67108863))) + (wrap64 ((Go.bits .and .i64 a0 67108863) * (a1 / 67108864))))) + ((wrap64 ((Go.bits .and .i64 a0 67108863) * (Go.bits .and .i64 a1 67108863))) / 67108864))) / 67108864))) = (wrap64 ((wrap64 ((t182 / 67108864) * (a2 / 67108864))) + ((wrap64 ((wrap64 ((wrap64 ((t182 / 67108864) * (Go.bits .and .i64 a2 67108863))) + (wrap64 ((Go.bits .and .i64 t182 67108863) * (a2 / 67108864))))) + ((wrap64 ((wrap64 ((Go.bits .and .i64 t182 67108863) * (Go.bits .and .i64 a2 67108863))) + t183)) / 67108864))) / 67108864))) then (if t183 ≥ 0 then (if t183 < a2 then (if t182 ≥ 0 then (if t182 ≤ 1125899906842624 then (if t187 = true then (if t185 = t182 then (if t186 = t183 then (if t190 = true then (some (decide (t188 ≥ t182))) else (some true)) else (some false)) else (some false)) else (some false)) else (some false)) else (some false)) else (some false)) else (some false)) else (some false)) = some r := by rw [if_pos rfl] at H; exact H
                clear H
                have H := H1
                clear H1
                by_cases c24 : (wrap64 ((wrap64 ((a0 / 67108864) * (a1 / 67108864))) + ((wrap64 ((wrap64 ((wrap64 ((a0 / 67108864) * (Go.bits .and .i64 a1 67108863))) + (wrap64 ((Go.bits .and .i64 a0 67108863) * (a1 / 67108864))))) + ((wrap64 ((Go.bits .and .i64 a0 67108863) * (Go.bits .and .i64 a1 67108863))) / 67108864))) / 67108864))) = (wrap64 ((wrap64 ((t182 / 67108864) * (a2 / 67108864))) + ((wrap64 ((wrap64 ((wrap64 ((t182 / 67108864) * (Go.bits .and .i64 a2 67108863))) + (wrap64 ((Go.bits .and .i64 t182 67108863) * (a2 / 67108864))))) + ((wrap64 ((wrap64 ((Go.bits .and .i64 t182 67108863) * (Go.bits .and .i64 a2 67108863))) + t183)) / 67108864))) / 67108864)))
                · rw [if_pos c24] at H
                  have c24b0 : ((wrap64 ((wrap64 ((a0 / 67108864) * (a1 / 67108864))) + ((wrap64 ((wrap64 ((wrap64 ((a0 / 67108864) * (Go.bits .and .i64 a1 67108863))) + (wrap64 ((Go.bits .and .i64 a0 67108863) * (a1 / 67108864))))) + ((wrap64 ((Go.bits .and .i64 a0 67108863) * (Go.bits .and .i64 a1 67108863))) / 67108864))) / 67108864))) == (wrap64 ((wrap64 ((t182 / 67108864) * (a2 / 67108864))) + ((wrap64 ((wrap64 ((wrap64 ((t182 / 67108864) * (Go.bits .and .i64 a2 67108863))) + (wrap64 ((Go.bits .and .i64 t182 67108863) * (a2 / 67108864))))) + ((wrap64 ((wrap64 ((Go.bits .and .i64 t182 67108863) * (Go.bits .and .i64 a2 67108863))) + t183)) / 67108864))) / 67108864)))) = true := beq_iff_eq.mpr c24
                  have c24b1 : ((wrap64 ((wrap64 ((a0 / 67108864) * (a1 / 67108864))) + ((wrap64 ((wrap64 ((wrap64 ((a0 / 67108864) * (Go.bits .and .i64 a1 67108863))) + (wrap64 ((Go.bits .and .i64 a0 67108863) * (a1 / 67108864))))) + ((wrap64 ((Go.bits .and .i64 a0 67108863) * (Go.bits .and .i64 a1 67108863))) / 67108864))) / 67108864))) != (wrap64 ((wrap64 ((t182 / 67108864) * (a2 / 67108864))) + ((wrap64 ((wrap64 ((wrap64 ((t182 / 67108864) * (Go.bits .and .i64 a2 67108863))) + (wrap64 ((Go.bits .and .i64 t182 67108863) * (a2 / 67108864))))) + ((wrap64 ((wrap64 ((Go.bits .and .i64 t182 67108863) * (Go.bits .and .i64 a2 67108863))) + t183)) / 67108864))) / 67108864)))) = false := bne_eq_false_iff_eq.mpr c24
                  clear c24
                  by_cases c25 : t183 ≥ 0
                  · rw [if_pos c25] at H
                    have c25b0 : decide (0 ≤ t183) = true := decide_eq_true c25
                    clear c25
                    by_cases c26 : t183 < a2
                    · rw [if_pos c26] at H
                      have c26b0 : decide (t183 < a2) = true := decide_eq_true c26
                      clear c26
                      by_cases c27 : t182 ≥ 0
                      · rw [if_pos c27] at H
                        have c27b0 : decide (0 ≤ t182) = true := decide_eq_true c27
                        clear c27
                        by_cases c28 : t182 ≤ 1125899906842624
                        · rw [if_pos c28] at H
                          have c28b0 : decide (t182 ≤ 1125899906842624) = true := decide_eq_true c28
                          clear c28
                          by_cases c29 : t187 = true
                          · subst c29
                            have H1 : (if t185 = t182 then (if t186 = t183 then (if t190 = true then (some (decide (t188 ≥ t182))) else (some true)) else (some false)) else (some false)) = some r := by rw [if_pos rfl] at H; exact H
                            clear H
                            have H := H1
                            clear H1
                            by_cases c30 : t185 = t182
                            · rw [if_pos c30] at H
                              have c30b0 : (t185 == t182) = true := beq_iff_eq.mpr c30
                              have c30b1 : (t185 != t182) = false := bne_eq_false_iff_eq.mpr c30
                              clear c30
                              by_cases c31 : t186 = t183
                              · rw [if_pos c31] at H
                                have c31b0 : (t186 == t183) = true := beq_iff_eq.mpr c31
                                have c31b1 : (t186 != t183) = false := bne_eq_false_iff_eq.mpr c31
                                clear c31
                                by_cases c32 : t190 = true
                                · subst c32
                                  have H1 : (some (decide (t188 ≥ t182))) = some r := by rw [if_pos rfl] at H; exact H
                                  clear H
                                  have H := H1
                                  clear H1
                                  obtain rfl := Option.some.inj H
                                  go_wp2_with (first | ((with_reducible refine gate_callee (f := 15) rfl ?_); refine goesL_ (some 162) rfl rfl Try.func15 (by kernel_rfl) rfl #[.int .i64 a1, .int .i64 a0, .int .i64 a2] rfl (by (try simp only [List.map_toArray, List.map_cons, List.map_nil]); first | done | rfl | (simp only [List.length_drop, List.length_take]; rfl)) ?_; (with_reducible refine (exact_Scale.calls kj5 a1 a0 a2 t185 t186 true _ A20.out).mono ?_); rintro e w' ⟨rfl, ⟨nd, rfl⟩⟩; refine ⟨_, rfl, ?_⟩) | ((with_reducible refine gate_callee (f := 15) rfl ?_); refine goesL_ (some 172) rfl rfl Try.func15 (by kernel_rfl) rfl #[.int .i64 ji21, .int .i64 a1, .int .i64 a2] rfl (by (try simp only [List.map_toArray, List.map_cons, List.map_nil]); first | done | (simp only [hji21]; rfl) | rfl | (simp only [List.length_drop, List.length_take]; rfl)) ?_; (with_reducible refine (exact_Scale.calls kj5 ji21 a1 a2 t188 t189 true _ A22.out).mono ?_); rintro e w' ⟨rfl, ⟨nd, rfl⟩⟩; refine ⟨_, rfl, ?_⟩))
                                  go_ret
                                  exact ⟨by first | rfl | (simp [errW_none, errW_some] <;> rfl) | (simp only [← hji21]; first | rfl | (simp [errW_none, errW_some] <;> rfl)) | (simp [*, errW_none, errW_some] <;> rfl), by repeat (first | (with_reducible first | exact HB.out | apply below_alloc | apply pw_below_drewN | apply below_drew1) | exact HB.out)⟩
                                · replace c32 := Bool.eq_false_iff.mpr c32
                                  subst c32
                                  have H1 : (some true) = some r := by rw [if_neg (show ¬ (false = true) by decide)] at H; exact H
                                  clear H
                                  have H := H1
                                  clear H1
                                  obtain rfl := Option.some.inj H
                                  go_wp2_with (first | ((with_reducible refine gate_callee (f := 15) rfl ?_); refine goesL_ (some 162) rfl rfl Try.func15 (by kernel_rfl) rfl #[.int .i64 a1, .int .i64 a0, .int .i64 a2] rfl (by (try simp only [List.map_toArray, List.map_cons, List.map_nil]); first | done | rfl | (simp only [List.length_drop, List.length_take]; rfl)) ?_; (with_reducible refine (exact_Scale.calls kj5 a1 a0 a2 t185 t186 true _ A20.out).mono ?_); rintro e w' ⟨rfl, ⟨nd, rfl⟩⟩; refine ⟨_, rfl, ?_⟩) | ((with_reducible refine gate_callee (f := 15) rfl ?_); refine goesL_ (some 172) rfl rfl Try.func15 (by kernel_rfl) rfl #[.int .i64 ji21, .int .i64 a1, .int .i64 a2] rfl (by (try simp only [List.map_toArray, List.map_cons, List.map_nil]); first | done | (simp only [hji21]; rfl) | rfl | (simp only [List.length_drop, List.length_take]; rfl)) ?_; (with_reducible refine (exact_Scale.calls kj5 ji21 a1 a2 t188 t189 false _ A22.out).mono ?_); rintro e w' ⟨rfl, ⟨nd, rfl⟩⟩; refine ⟨_, rfl, ?_⟩))
                                  go_ret
                                  exact ⟨by first | rfl | (simp [errW_none, errW_some] <;> rfl) | (simp only [← hji21]; first | rfl | (simp [errW_none, errW_some] <;> rfl)) | (simp [*, errW_none, errW_some] <;> rfl), by repeat (first | (with_reducible first | exact HB.out | apply below_alloc | apply pw_below_drewN | apply below_drew1) | exact HB.out)⟩
                              · rw [if_neg c31] at H
                                have c31b0 : (t186 == t183) = false := beq_eq_false_iff_ne.mpr c31
                                have c31b1 : (t186 != t183) = true := bne_iff_ne.mpr c31
                                obtain rfl := Option.some.inj H
                                go_wp2_with (first | ((with_reducible refine gate_callee (f := 15) rfl ?_); refine goesL_ (some 162) rfl rfl Try.func15 (by kernel_rfl) rfl #[.int .i64 a1, .int .i64 a0, .int .i64 a2] rfl (by (try simp only [List.map_toArray, List.map_cons, List.map_nil]); first | done | rfl | (simp only [List.length_drop, List.length_take]; rfl)) ?_; (with_reducible refine (exact_Scale.calls kj5 a1 a0 a2 t185 t186 true _ A20.out).mono ?_); rintro e w' ⟨rfl, ⟨nd, rfl⟩⟩; refine ⟨_, rfl, ?_⟩) | ((with_reducible refine gate_callee (f := 15) rfl ?_); refine goesL_ (some 172) rfl rfl Try.func15 (by kernel_rfl) rfl #[.int .i64 ji21, .int .i64 a1, .int .i64 a2] rfl (by (try simp only [List.map_toArray, List.map_cons, List.map_nil]); first | done | (simp only [hji21]; rfl) | rfl | (simp only [List.length_drop, List.length_take]; rfl)) ?_; (with_reducible refine (exact_Scale.calls kj5 ji21 a1 a2 t188 t189 t190 _ A22.out).mono ?_); rintro e w' ⟨rfl, ⟨nd, rfl⟩⟩; refine ⟨_, rfl, ?_⟩))
                                go_ret
                                exact ⟨by first | rfl | (simp [errW_none, errW_some] <;> rfl) | (simp only [← hji21]; first | rfl | (simp [errW_none, errW_some] <;> rfl)) | (simp [*, errW_none, errW_some] <;> rfl), by repeat (first | (with_reducible first | exact HB.out | apply below_alloc | apply pw_below_drewN | apply below_drew1) | exact HB.out)⟩
                            · rw [if_neg c30] at H
                              have c30b0 : (t185 == t182) = false := beq_eq_false_iff_ne.mpr c30
                              have c30b1 : (t185 != t182) = true := bne_iff_ne.mpr c30
                              obtain rfl := Option.some.inj H
                              go_wp2_with (first | ((with_reducible refine gate_callee (f := 15) rfl ?_); refine goesL_ (some 162) rfl rfl Try.func15 (by kernel_rfl) rfl #[.int .i64 a1, .int .i64 a0, .int .i64 a2] rfl (by (try simp only [List.map_toArray, List.map_cons, List.map_nil]); first | done | rfl | (simp only [List.length_drop, List.length_take]; rfl)) ?_; (with_reducible refine (exact_Scale.calls kj5 a1 a0 a2 t185 t186 true _ A20.out).mono ?_); rintro e w' ⟨rfl, ⟨nd, rfl⟩⟩; refine ⟨_, rfl, ?_⟩) | ((with_reducible refine gate_callee (f := 15) rfl ?_); refine goesL_ (some 172) rfl rfl Try.func15 (by kernel_rfl) rfl #[.int .i64 ji21, .int .i64 a1, .int .i64 a2] rfl (by (try simp only [List.map_toArray, List.map_cons, List.map_nil]); first | done | (simp only [hji21]; rfl) | rfl | (simp only [List.length_drop, List.length_take]; rfl)) ?_; (with_reducible refine (exact_Scale.calls kj5 ji21 a1 a2 t188 t189 t190 _ A22.out).mono ?_); rintro e w' ⟨rfl, ⟨nd, rfl⟩⟩; refine ⟨_, rfl, ?_⟩))
                              go_ret
                              exact ⟨by first | rfl | (simp [errW_none, errW_some] <;> rfl) | (simp only [← hji21]; first | rfl | (simp [errW_none, errW_some] <;> rfl)) | (simp [*, errW_none, errW_some] <;> rfl), by repeat (first | (with_reducible first | exact HB.out | apply below_alloc | apply pw_below_drewN | apply below_drew1) | exact HB.out)⟩
                          · replace c29 := Bool.eq_false_iff.mpr c29
                            subst c29
                            have H1 : (some false) = some r := by rw [if_neg (show ¬ (false = true) by decide)] at H; exact H
                            clear H
                            have H := H1
                            clear H1
                            obtain rfl := Option.some.inj H
                            go_wp2_with (first | ((with_reducible refine gate_callee (f := 15) rfl ?_); refine goesL_ (some 162) rfl rfl Try.func15 (by kernel_rfl) rfl #[.int .i64 a1, .int .i64 a0, .int .i64 a2] rfl (by (try simp only [List.map_toArray, List.map_cons, List.map_nil]); first | done | rfl | (simp only [List.length_drop, List.length_take]; rfl)) ?_; (with_reducible refine (exact_Scale.calls kj5 a1 a0 a2 t185 t186 false _ A20.out).mono ?_); rintro e w' ⟨rfl, ⟨nd, rfl⟩⟩; refine ⟨_, rfl, ?_⟩) | ((with_reducible refine gate_callee (f := 15) rfl ?_); refine goesL_ (some 172) rfl rfl Try.func15 (by kernel_rfl) rfl #[.int .i64 ji21, .int .i64 a1, .int .i64 a2] rfl (by (try simp only [List.map_toArray, List.map_cons, List.map_nil]); first | done | (simp only [hji21]; rfl) | rfl | (simp only [List.length_drop, List.length_take]; rfl)) ?_; (with_reducible refine (exact_Scale.calls kj5 ji21 a1 a2 t188 t189 t190 _ A22.out).mono ?_); rintro e w' ⟨rfl, ⟨nd, rfl⟩⟩; refine ⟨_, rfl, ?_⟩))
                            go_ret
                            exact ⟨by first | rfl | (simp [errW_none, errW_some] <;> rfl) | (simp only [← hji21]; first | rfl | (simp [errW_none, errW_some] <;> rfl)) | (simp [*, errW_none, errW_some] <;> rfl), by repeat (first | (with_reducible first | exact HB.out | apply below_alloc | apply pw_below_drewN | apply below_drew1) | exact HB.out)⟩
                        · rw [if_neg c28] at H
                          have c28b0 : decide (t182 ≤ 1125899906842624) = false := decide_eq_false c28
                          clear c28
                          obtain rfl := Option.some.inj H
                          go_wp2_with (first | ((with_reducible refine gate_callee (f := 15) rfl ?_); refine goesL_ (some 162) rfl rfl Try.func15 (by kernel_rfl) rfl #[.int .i64 a1, .int .i64 a0, .int .i64 a2] rfl (by (try simp only [List.map_toArray, List.map_cons, List.map_nil]); first | done | rfl | (simp only [List.length_drop, List.length_take]; rfl)) ?_; (with_reducible refine (exact_Scale.calls kj5 a1 a0 a2 t185 t186 t187 _ A20.out).mono ?_); rintro e w' ⟨rfl, ⟨nd, rfl⟩⟩; refine ⟨_, rfl, ?_⟩) | ((with_reducible refine gate_callee (f := 15) rfl ?_); refine goesL_ (some 172) rfl rfl Try.func15 (by kernel_rfl) rfl #[.int .i64 ji21, .int .i64 a1, .int .i64 a2] rfl (by (try simp only [List.map_toArray, List.map_cons, List.map_nil]); first | done | (simp only [hji21]; rfl) | rfl | (simp only [List.length_drop, List.length_take]; rfl)) ?_; (with_reducible refine (exact_Scale.calls kj5 ji21 a1 a2 t188 t189 t190 _ A22.out).mono ?_); rintro e w' ⟨rfl, ⟨nd, rfl⟩⟩; refine ⟨_, rfl, ?_⟩))
                          go_ret
                          exact ⟨by first | rfl | (simp [errW_none, errW_some] <;> rfl) | (simp only [← hji21]; first | rfl | (simp [errW_none, errW_some] <;> rfl)) | (simp [*, errW_none, errW_some] <;> rfl), by repeat (first | (with_reducible first | exact HB.out | apply below_alloc | apply pw_below_drewN | apply below_drew1) | exact HB.out)⟩
                      · rw [if_neg c27] at H
                        have c27b0 : decide (0 ≤ t182) = false := decide_eq_false c27
                        clear c27
                        obtain rfl := Option.some.inj H
                        go_wp2_with (first | ((with_reducible refine gate_callee (f := 15) rfl ?_); refine goesL_ (some 162) rfl rfl Try.func15 (by kernel_rfl) rfl #[.int .i64 a1, .int .i64 a0, .int .i64 a2] rfl (by (try simp only [List.map_toArray, List.map_cons, List.map_nil]); first | done | rfl | (simp only [List.length_drop, List.length_take]; rfl)) ?_; (with_reducible refine (exact_Scale.calls kj5 a1 a0 a2 t185 t186 t187 _ A20.out).mono ?_); rintro e w' ⟨rfl, ⟨nd, rfl⟩⟩; refine ⟨_, rfl, ?_⟩) | ((with_reducible refine gate_callee (f := 15) rfl ?_); refine goesL_ (some 172) rfl rfl Try.func15 (by kernel_rfl) rfl #[.int .i64 ji21, .int .i64 a1, .int .i64 a2] rfl (by (try simp only [List.map_toArray, List.map_cons, List.map_nil]); first | done | (simp only [hji21]; rfl) | rfl | (simp only [List.length_drop, List.length_take]; rfl)) ?_; (with_reducible refine (exact_Scale.calls kj5 ji21 a1 a2 t188 t189 t190 _ A22.out).mono ?_); rintro e w' ⟨rfl, ⟨nd, rfl⟩⟩; refine ⟨_, rfl, ?_⟩))
                        go_ret
                        exact ⟨by first | rfl | (simp [errW_none, errW_some] <;> rfl) | (simp only [← hji21]; first | rfl | (simp [errW_none, errW_some] <;> rfl)) | (simp [*, errW_none, errW_some] <;> rfl), by repeat (first | (with_reducible first | exact HB.out | apply below_alloc | apply pw_below_drewN | apply below_drew1) | exact HB.out)⟩
                    · rw [if_neg c26] at H
                      have c26b0 : decide (t183 < a2) = false := decide_eq_false c26
                      clear c26
                      obtain rfl := Option.some.inj H
                      go_wp2_with (first | ((with_reducible refine gate_callee (f := 15) rfl ?_); refine goesL_ (some 162) rfl rfl Try.func15 (by kernel_rfl) rfl #[.int .i64 a1, .int .i64 a0, .int .i64 a2] rfl (by (try simp only [List.map_toArray, List.map_cons, List.map_nil]); first | done | rfl | (simp only [List.length_drop, List.length_take]; rfl)) ?_; (with_reducible refine (exact_Scale.calls kj5 a1 a0 a2 t185 t186 t187 _ A20.out).mono ?_); rintro e w' ⟨rfl, ⟨nd, rfl⟩⟩; refine ⟨_, rfl, ?_⟩) | ((with_reducible refine gate_callee (f := 15) rfl ?_); refine goesL_ (some 172) rfl rfl Try.func15 (by kernel_rfl) rfl #[.int .i64 ji21, .int .i64 a1, .int .i64 a2] rfl (by (try simp only [List.map_toArray, List.map_cons, List.map_nil]); first | done | (simp only [hji21]; rfl) | rfl | (simp only [List.length_drop, List.length_take]; rfl)) ?_; (with_reducible refine (exact_Scale.calls kj5 ji21 a1 a2 t188 t189 t190 _ A22.out).mono ?_); rintro e w' ⟨rfl, ⟨nd, rfl⟩⟩; refine ⟨_, rfl, ?_⟩))
                      go_ret
                      exact ⟨by first | rfl | (simp [errW_none, errW_some] <;> rfl) | (simp only [← hji21]; first | rfl | (simp [errW_none, errW_some] <;> rfl)) | (simp [*, errW_none, errW_some] <;> rfl), by repeat (first | (with_reducible first | exact HB.out | apply below_alloc | apply pw_below_drewN | apply below_drew1) | exact HB.out)⟩
                  · rw [if_neg c25] at H
                    have c25b0 : decide (0 ≤ t183) = false := decide_eq_false c25
                    clear c25
                    obtain rfl := Option.some.inj H
                    go_wp2_with (first | ((with_reducible refine gate_callee (f := 15) rfl ?_); refine goesL_ (some 162) rfl rfl Try.func15 (by kernel_rfl) rfl #[.int .i64 a1, .int .i64 a0, .int .i64 a2] rfl (by (try simp only [List.map_toArray, List.map_cons, List.map_nil]); first | done | rfl | (simp only [List.length_drop, List.length_take]; rfl)) ?_; (with_reducible refine (exact_Scale.calls kj5 a1 a0 a2 t185 t186 t187 _ A20.out).mono ?_); rintro e w' ⟨rfl, ⟨nd, rfl⟩⟩; refine ⟨_, rfl, ?_⟩) | ((with_reducible refine gate_callee (f := 15) rfl ?_); refine goesL_ (some 172) rfl rfl Try.func15 (by kernel_rfl) rfl #[.int .i64 ji21, .int .i64 a1, .int .i64 a2] rfl (by (try simp only [List.map_toArray, List.map_cons, List.map_nil]); first | done | (simp only [hji21]; rfl) | rfl | (simp only [List.length_drop, List.length_take]; rfl)) ?_; (with_reducible refine (exact_Scale.calls kj5 ji21 a1 a2 t188 t189 t190 _ A22.out).mono ?_); rintro e w' ⟨rfl, ⟨nd, rfl⟩⟩; refine ⟨_, rfl, ?_⟩))
                    go_ret
                    exact ⟨by first | rfl | (simp [errW_none, errW_some] <;> rfl) | (simp only [← hji21]; first | rfl | (simp [errW_none, errW_some] <;> rfl)) | (simp [*, errW_none, errW_some] <;> rfl), by repeat (first | (with_reducible first | exact HB.out | apply below_alloc | apply pw_below_drewN | apply below_drew1) | exact HB.out)⟩
                · rw [if_neg c24] at H
                  have c24b0 : ((wrap64 ((wrap64 ((a0 / 67108864) * (a1 / 67108864))) + ((wrap64 ((wrap64 ((wrap64 ((a0 / 67108864) * (Go.bits .and .i64 a1 67108863))) + (wrap64 ((Go.bits .and .i64 a0 67108863) * (a1 / 67108864))))) + ((wrap64 ((Go.bits .and .i64 a0 67108863) * (Go.bits .and .i64 a1 67108863))) / 67108864))) / 67108864))) == (wrap64 ((wrap64 ((t182 / 67108864) * (a2 / 67108864))) + ((wrap64 ((wrap64 ((wrap64 ((t182 / 67108864) * (Go.bits .and .i64 a2 67108863))) + (wrap64 ((Go.bits .and .i64 t182 67108863) * (a2 / 67108864))))) + ((wrap64 ((wrap64 ((Go.bits .and .i64 t182 67108863) * (Go.bits .and .i64 a2 67108863))) + t183)) / 67108864))) / 67108864)))) = false := beq_eq_false_iff_ne.mpr c24
                  have c24b1 : ((wrap64 ((wrap64 ((a0 / 67108864) * (a1 / 67108864))) + ((wrap64 ((wrap64 ((wrap64 ((a0 / 67108864) * (Go.bits .and .i64 a1 67108863))) + (wrap64 ((Go.bits .and .i64 a0 67108863) * (a1 / 67108864))))) + ((wrap64 ((Go.bits .and .i64 a0 67108863) * (Go.bits .and .i64 a1 67108863))) / 67108864))) / 67108864))) != (wrap64 ((wrap64 ((t182 / 67108864) * (a2 / 67108864))) + ((wrap64 ((wrap64 ((wrap64 ((t182 / 67108864) * (Go.bits .and .i64 a2 67108863))) + (wrap64 ((Go.bits .and .i64 t182 67108863) * (a2 / 67108864))))) + ((wrap64 ((wrap64 ((Go.bits .and .i64 t182 67108863) * (Go.bits .and .i64 a2 67108863))) + t183)) / 67108864))) / 67108864)))) = true := bne_iff_ne.mpr c24
                  obtain rfl := Option.some.inj H
                  go_wp2_with (first | ((with_reducible refine gate_callee (f := 15) rfl ?_); refine goesL_ (some 162) rfl rfl Try.func15 (by kernel_rfl) rfl #[.int .i64 a1, .int .i64 a0, .int .i64 a2] rfl (by (try simp only [List.map_toArray, List.map_cons, List.map_nil]); first | done | rfl | (simp only [List.length_drop, List.length_take]; rfl)) ?_; (with_reducible refine (exact_Scale.calls kj5 a1 a0 a2 t185 t186 t187 _ A20.out).mono ?_); rintro e w' ⟨rfl, ⟨nd, rfl⟩⟩; refine ⟨_, rfl, ?_⟩) | ((with_reducible refine gate_callee (f := 15) rfl ?_); refine goesL_ (some 172) rfl rfl Try.func15 (by kernel_rfl) rfl #[.int .i64 ji21, .int .i64 a1, .int .i64 a2] rfl (by (try simp only [List.map_toArray, List.map_cons, List.map_nil]); first | done | (simp only [hji21]; rfl) | rfl | (simp only [List.length_drop, List.length_take]; rfl)) ?_; (with_reducible refine (exact_Scale.calls kj5 ji21 a1 a2 t188 t189 t190 _ A22.out).mono ?_); rintro e w' ⟨rfl, ⟨nd, rfl⟩⟩; refine ⟨_, rfl, ?_⟩))
                  go_ret
                  exact ⟨by first | rfl | (simp [errW_none, errW_some] <;> rfl) | (simp only [← hji21]; first | rfl | (simp [errW_none, errW_some] <;> rfl)) | (simp [*, errW_none, errW_some] <;> rfl), by repeat (first | (with_reducible first | exact HB.out | apply below_alloc | apply pw_below_drewN | apply below_drew1) | exact HB.out)⟩
              · replace c23 := Bool.eq_false_iff.mpr c23
                subst c23
                have H1 : (some false) = some r := by rw [if_neg (show ¬ (false = true) by decide)] at H; exact H
                clear H
                have H := H1
                clear H1
                obtain rfl := Option.some.inj H
                go_wp2_with (first | ((with_reducible refine gate_callee (f := 15) rfl ?_); refine goesL_ (some 162) rfl rfl Try.func15 (by kernel_rfl) rfl #[.int .i64 a1, .int .i64 a0, .int .i64 a2] rfl (by (try simp only [List.map_toArray, List.map_cons, List.map_nil]); first | done | rfl | (simp only [List.length_drop, List.length_take]; rfl)) ?_; (with_reducible refine (exact_Scale.calls kj5 a1 a0 a2 t185 t186 t187 _ A20.out).mono ?_); rintro e w' ⟨rfl, ⟨nd, rfl⟩⟩; refine ⟨_, rfl, ?_⟩) | ((with_reducible refine gate_callee (f := 15) rfl ?_); refine goesL_ (some 172) rfl rfl Try.func15 (by kernel_rfl) rfl #[.int .i64 ji21, .int .i64 a1, .int .i64 a2] rfl (by (try simp only [List.map_toArray, List.map_cons, List.map_nil]); first | done | (simp only [hji21]; rfl) | rfl | (simp only [List.length_drop, List.length_take]; rfl)) ?_; (with_reducible refine (exact_Scale.calls kj5 ji21 a1 a2 t188 t189 t190 _ A22.out).mono ?_); rintro e w' ⟨rfl, ⟨nd, rfl⟩⟩; refine ⟨_, rfl, ?_⟩))
                go_ret
                exact ⟨by first | rfl | (simp [errW_none, errW_some] <;> rfl) | (simp only [← hji21]; first | rfl | (simp [errW_none, errW_some] <;> rfl)) | (simp [*, errW_none, errW_some] <;> rfl), by repeat (first | (with_reducible first | exact HB.out | apply below_alloc | apply pw_below_drewN | apply below_drew1) | exact HB.out)⟩
            · rw [if_neg c19] at H
              have c19b0 : ((Go.bits .and .i64 (wrap64 ((wrap64 ((wrap64 ((a0 / 67108864) * (Go.bits .and .i64 a1 67108863))) + (wrap64 ((Go.bits .and .i64 a0 67108863) * (a1 / 67108864))))) + ((wrap64 ((Go.bits .and .i64 a0 67108863) * (Go.bits .and .i64 a1 67108863))) / 67108864))) 67108863) == (Go.bits .and .i64 (wrap64 ((wrap64 ((wrap64 ((t182 / 67108864) * (Go.bits .and .i64 a2 67108863))) + (wrap64 ((Go.bits .and .i64 t182 67108863) * (a2 / 67108864))))) + ((wrap64 ((wrap64 ((Go.bits .and .i64 t182 67108863) * (Go.bits .and .i64 a2 67108863))) + t183)) / 67108864))) 67108863)) = false := beq_eq_false_iff_ne.mpr c19
              have c19b1 : ((Go.bits .and .i64 (wrap64 ((wrap64 ((wrap64 ((a0 / 67108864) * (Go.bits .and .i64 a1 67108863))) + (wrap64 ((Go.bits .and .i64 a0 67108863) * (a1 / 67108864))))) + ((wrap64 ((Go.bits .and .i64 a0 67108863) * (Go.bits .and .i64 a1 67108863))) / 67108864))) 67108863) != (Go.bits .and .i64 (wrap64 ((wrap64 ((wrap64 ((t182 / 67108864) * (Go.bits .and .i64 a2 67108863))) + (wrap64 ((Go.bits .and .i64 t182 67108863) * (a2 / 67108864))))) + ((wrap64 ((wrap64 ((Go.bits .and .i64 t182 67108863) * (Go.bits .and .i64 a2 67108863))) + t183)) / 67108864))) 67108863)) = true := bne_iff_ne.mpr c19
              replace H := Option.bind_eq_some_iff.mp H
              obtain ⟨⟨t191, t192, t193⟩, A330, H⟩ := H
              replace H : ((exact_Scale.f kj5 (mn (wrap64 (a0 + 1)) 1125899906842624) a1 a2).bind fun bt194 => (if t181 = true then (some false) else (some false))) = some r := H
              have A33 := Aside0.mk A330
              clear A330
              obtain ⟨ji34, hji34⟩ : ∃ j_ : Int, (mn (wrap64 (a0 + 1)) 1125899906842624) = j_ := ⟨_, rfl⟩
              replace H : ((exact_Scale.f kj5 (ji34) a1 a2).bind fun bt194 => (if t181 = true then (some false) else (some false))) = some r := by first | (rw [hji34] at H; exact H) | (simp only [hji34] at H ⊢; exact H)
              (try rw [hji34] at A33)
              have hji34_ : (if 1125899906842624 < (wrap64 (a0 + 1)) then 1125899906842624 else (wrap64 (a0 + 1))) = ji34 := hji34
              replace H := Option.bind_eq_some_iff.mp H
              obtain ⟨⟨t194, t195, t196⟩, A350, H⟩ := H
              replace H : (if t181 = true then (some false) else (some false)) = some r := H
              have A35 := Aside0.mk A350
              clear A350
              by_cases c36 : t181 = true
              · subst c36
                have H1 : (some false) = some r := by rw [if_pos rfl] at H; exact H
                clear H
                have H := H1
                clear H1
                obtain rfl := Option.some.inj H
                go_wp2_with (first | ((with_reducible refine gate_callee (f := 15) rfl ?_); refine goesL_ (some 162) rfl rfl Try.func15 (by kernel_rfl) rfl #[.int .i64 a1, .int .i64 a0, .int .i64 a2] rfl (by (try simp only [List.map_toArray, List.map_cons, List.map_nil]); first | done | rfl | (simp only [List.length_drop, List.length_take]; rfl)) ?_; (with_reducible refine (exact_Scale.calls kj5 a1 a0 a2 t191 t192 t193 _ A33.out).mono ?_); rintro e w' ⟨rfl, ⟨nd, rfl⟩⟩; refine ⟨_, rfl, ?_⟩) | ((with_reducible refine gate_callee (f := 15) rfl ?_); refine goesL_ (some 172) rfl rfl Try.func15 (by kernel_rfl) rfl #[.int .i64 ji34, .int .i64 a1, .int .i64 a2] rfl (by (try simp only [List.map_toArray, List.map_cons, List.map_nil]); first | done | (simp only [hji34]; rfl) | rfl | (simp only [List.length_drop, List.length_take]; rfl)) ?_; (with_reducible refine (exact_Scale.calls kj5 ji34 a1 a2 t194 t195 t196 _ A35.out).mono ?_); rintro e w' ⟨rfl, ⟨nd, rfl⟩⟩; refine ⟨_, rfl, ?_⟩))
                go_ret
                exact ⟨by first | rfl | (simp [errW_none, errW_some] <;> rfl) | (simp only [← hji34]; first | rfl | (simp [errW_none, errW_some] <;> rfl)) | (simp [*, errW_none, errW_some] <;> rfl), by repeat (first | (with_reducible first | exact HB.out | apply below_alloc | apply pw_below_drewN | apply below_drew1) | exact HB.out)⟩
              · replace c36 := Bool.eq_false_iff.mpr c36
                subst c36
                have H1 : (some false) = some r := by rw [if_neg (show ¬ (false = true) by decide)] at H; exact H
                clear H
                have H := H1
                clear H1
                obtain rfl := Option.some.inj H
                go_wp2_with (first | ((with_reducible refine gate_callee (f := 15) rfl ?_); refine goesL_ (some 162) rfl rfl Try.func15 (by kernel_rfl) rfl #[.int .i64 a1, .int .i64 a0, .int .i64 a2] rfl (by (try simp only [List.map_toArray, List.map_cons, List.map_nil]); first | done | rfl | (simp only [List.length_drop, List.length_take]; rfl)) ?_; (with_reducible refine (exact_Scale.calls kj5 a1 a0 a2 t191 t192 t193 _ A33.out).mono ?_); rintro e w' ⟨rfl, ⟨nd, rfl⟩⟩; refine ⟨_, rfl, ?_⟩) | ((with_reducible refine gate_callee (f := 15) rfl ?_); refine goesL_ (some 172) rfl rfl Try.func15 (by kernel_rfl) rfl #[.int .i64 ji34, .int .i64 a1, .int .i64 a2] rfl (by (try simp only [List.map_toArray, List.map_cons, List.map_nil]); first | done | (simp only [hji34]; rfl) | rfl | (simp only [List.length_drop, List.length_take]; rfl)) ?_; (with_reducible refine (exact_Scale.calls kj5 ji34 a1 a2 t194 t195 t196 _ A35.out).mono ?_); rintro e w' ⟨rfl, ⟨nd, rfl⟩⟩; refine ⟨_, rfl, ?_⟩))
                go_ret
                exact ⟨by first | rfl | (simp [errW_none, errW_some] <;> rfl) | (simp only [← hji34]; first | rfl | (simp [errW_none, errW_some] <;> rfl)) | (simp [*, errW_none, errW_some] <;> rfl), by repeat (first | (with_reducible first | exact HB.out | apply below_alloc | apply pw_below_drewN | apply below_drew1) | exact HB.out)⟩
          · rw [if_neg c18] at H
            have c18b0 : ((Go.bits .and .i64 (wrap64 ((Go.bits .and .i64 a0 67108863) * (Go.bits .and .i64 a1 67108863))) 67108863) == (Go.bits .and .i64 (wrap64 ((wrap64 ((Go.bits .and .i64 t182 67108863) * (Go.bits .and .i64 a2 67108863))) + t183)) 67108863)) = false := beq_eq_false_iff_ne.mpr c18
            have c18b1 : ((Go.bits .and .i64 (wrap64 ((Go.bits .and .i64 a0 67108863) * (Go.bits .and .i64 a1 67108863))) 67108863) != (Go.bits .and .i64 (wrap64 ((wrap64 ((Go.bits .and .i64 t182 67108863) * (Go.bits .and .i64 a2 67108863))) + t183)) 67108863)) = true := bne_iff_ne.mpr c18
            replace H := Option.bind_eq_some_iff.mp H
            obtain ⟨⟨t197, t198, t199⟩, A370, H⟩ := H
            replace H : ((exact_Scale.f kj5 (mn (wrap64 (a0 + 1)) 1125899906842624) a1 a2).bind fun bt200 => (if t181 = true then (some false) else (some false))) = some r := H
            have A37 := Aside0.mk A370
            clear A370
            obtain ⟨ji38, hji38⟩ : ∃ j_ : Int, (mn (wrap64 (a0 + 1)) 1125899906842624) = j_ := ⟨_, rfl⟩
            replace H : ((exact_Scale.f kj5 (ji38) a1 a2).bind fun bt200 => (if t181 = true then (some false) else (some false))) = some r := by first | (rw [hji38] at H; exact H) | (simp only [hji38] at H ⊢; exact H)
            (try rw [hji38] at A37)
            have hji38_ : (if 1125899906842624 < (wrap64 (a0 + 1)) then 1125899906842624 else (wrap64 (a0 + 1))) = ji38 := hji38
            replace H := Option.bind_eq_some_iff.mp H
            obtain ⟨⟨t200, t201, t202⟩, A390, H⟩ := H
            replace H : (if t181 = true then (some false) else (some false)) = some r := H
            have A39 := Aside0.mk A390
            clear A390
            by_cases c40 : t181 = true
            · subst c40
              have H1 : (some false) = some r := by rw [if_pos rfl] at H; exact H
              clear H
              have H := H1
              clear H1
              obtain rfl := Option.some.inj H
              go_wp2_with (first | ((with_reducible refine gate_callee (f := 15) rfl ?_); refine goesL_ (some 162) rfl rfl Try.func15 (by kernel_rfl) rfl #[.int .i64 a1, .int .i64 a0, .int .i64 a2] rfl (by (try simp only [List.map_toArray, List.map_cons, List.map_nil]); first | done | rfl | (simp only [List.length_drop, List.length_take]; rfl)) ?_; (with_reducible refine (exact_Scale.calls kj5 a1 a0 a2 t197 t198 t199 _ A37.out).mono ?_); rintro e w' ⟨rfl, ⟨nd, rfl⟩⟩; refine ⟨_, rfl, ?_⟩) | ((with_reducible refine gate_callee (f := 15) rfl ?_); refine goesL_ (some 172) rfl rfl Try.func15 (by kernel_rfl) rfl #[.int .i64 ji38, .int .i64 a1, .int .i64 a2] rfl (by (try simp only [List.map_toArray, List.map_cons, List.map_nil]); first | done | (simp only [hji38]; rfl) | rfl | (simp only [List.length_drop, List.length_take]; rfl)) ?_; (with_reducible refine (exact_Scale.calls kj5 ji38 a1 a2 t200 t201 t202 _ A39.out).mono ?_); rintro e w' ⟨rfl, ⟨nd, rfl⟩⟩; refine ⟨_, rfl, ?_⟩))
              go_ret
              exact ⟨by first | rfl | (simp [errW_none, errW_some] <;> rfl) | (simp only [← hji38]; first | rfl | (simp [errW_none, errW_some] <;> rfl)) | (simp [*, errW_none, errW_some] <;> rfl), by repeat (first | (with_reducible first | exact HB.out | apply below_alloc | apply pw_below_drewN | apply below_drew1) | exact HB.out)⟩
            · replace c40 := Bool.eq_false_iff.mpr c40
              subst c40
              have H1 : (some false) = some r := by rw [if_neg (show ¬ (false = true) by decide)] at H; exact H
              clear H
              have H := H1
              clear H1
              obtain rfl := Option.some.inj H
              go_wp2_with (first | ((with_reducible refine gate_callee (f := 15) rfl ?_); refine goesL_ (some 162) rfl rfl Try.func15 (by kernel_rfl) rfl #[.int .i64 a1, .int .i64 a0, .int .i64 a2] rfl (by (try simp only [List.map_toArray, List.map_cons, List.map_nil]); first | done | rfl | (simp only [List.length_drop, List.length_take]; rfl)) ?_; (with_reducible refine (exact_Scale.calls kj5 a1 a0 a2 t197 t198 t199 _ A37.out).mono ?_); rintro e w' ⟨rfl, ⟨nd, rfl⟩⟩; refine ⟨_, rfl, ?_⟩) | ((with_reducible refine gate_callee (f := 15) rfl ?_); refine goesL_ (some 172) rfl rfl Try.func15 (by kernel_rfl) rfl #[.int .i64 ji38, .int .i64 a1, .int .i64 a2] rfl (by (try simp only [List.map_toArray, List.map_cons, List.map_nil]); first | done | (simp only [hji38]; rfl) | rfl | (simp only [List.length_drop, List.length_take]; rfl)) ?_; (with_reducible refine (exact_Scale.calls kj5 ji38 a1 a2 t200 t201 t202 _ A39.out).mono ?_); rintro e w' ⟨rfl, ⟨nd, rfl⟩⟩; refine ⟨_, rfl, ?_⟩))
              go_ret
              exact ⟨by first | rfl | (simp [errW_none, errW_some] <;> rfl) | (simp only [← hji38]; first | rfl | (simp [errW_none, errW_some] <;> rfl)) | (simp [*, errW_none, errW_some] <;> rfl), by repeat (first | (with_reducible first | exact HB.out | apply below_alloc | apply pw_below_drewN | apply below_drew1) | exact HB.out)⟩
        · replace c17 := Bool.eq_false_iff.mpr c17
          subst c17
          have H1 : (if t181 = true then (if t182 = 0 then (some (t183 == 0)) else (some false)) else (some false)) = some r := by rw [if_neg (show ¬ (false = true) by decide)] at H; exact H
          clear H
          have H := H1
          clear H1
          by_cases c41 : t181 = true
          · subst c41
            have H1 : (if t182 = 0 then (some (t183 == 0)) else (some false)) = some r := by rw [if_pos rfl] at H; exact H
            clear H
            have H := H1
            clear H1
            by_cases c42 : t182 = 0
            · rw [if_pos c42] at H
              have c42b0 : (t182 == 0) = true := beq_iff_eq.mpr c42
              have c42b1 : (t182 != 0) = false := bne_eq_false_iff_eq.mpr c42
              clear c42
              obtain rfl := Option.some.inj H
              go_wp2
              go_ret
              exact ⟨by first | rfl | (simp [errW_none, errW_some] <;> rfl) | (simp [*, errW_none, errW_some] <;> rfl), by repeat (first | (with_reducible first | exact HB.out | apply below_alloc | apply pw_below_drewN | apply below_drew1) | exact HB.out)⟩
            · rw [if_neg c42] at H
              have c42b0 : (t182 == 0) = false := beq_eq_false_iff_ne.mpr c42
              have c42b1 : (t182 != 0) = true := bne_iff_ne.mpr c42
              obtain rfl := Option.some.inj H
              go_wp2
              go_ret
              exact ⟨by first | rfl | (simp [errW_none, errW_some] <;> rfl) | (simp [*, errW_none, errW_some] <;> rfl), by repeat (first | (with_reducible first | exact HB.out | apply below_alloc | apply pw_below_drewN | apply below_drew1) | exact HB.out)⟩
          · replace c41 := Bool.eq_false_iff.mpr c41
            subst c41
            have H1 : (some false) = some r := by rw [if_neg (show ¬ (false = true) by decide)] at H; exact H
            clear H
            have H := H1
            clear H1
            obtain rfl := Option.some.inj H
            go_wp2
            go_ret
            exact ⟨by first | rfl | (simp [errW_none, errW_some] <;> rfl) | (simp [*, errW_none, errW_some] <;> rfl), by repeat (first | (with_reducible first | exact HB.out | apply below_alloc | apply pw_below_drewN | apply below_drew1) | exact HB.out)⟩

/-- THE ONE PURE STATEMENT of bournelaw01_ExactScales: yours. -/
def bournelaw01_ExactScales.Pure : Prop := ∀ (a0 : Int) (a1 : Int) (a2 : Int), (Lit.int .i64 a0).wf = true → (Lit.int .i64 a1).wf = true → (Lit.int .i64 a2).wf = true → ∃ k, bournelaw01_ExactScales.f k a0 a1 a2 = some true
theorem bournelaw01_ExactScales.walk (P : bournelaw01_ExactScales.Pure) (a0 : Int) (a1 : Int) (a2 : Int) (w : World) (w0 : (Lit.int .i64 a0).wf = true) (w1 : (Lit.int .i64 a1).wf = true) (w2 : (Lit.int .i64 a2).wf = true) :
    Calls Try.prog 4 #[.int .i64 a0, .int .i64 a1, .int .i64 a2] w fun e w' => e = .returned (.bool true) ∧ Below w.heap.size w w' := by
  obtain ⟨k, h⟩ := P a0 a1 a2 w0 w1 w2
  refine (bournelaw01_ExactScales.calls k a0 a1 a2 true w h).mono ?_
  rintro e w' ⟨rfl, hd⟩
  exact ⟨rfl, hd⟩

end Go.Proofs.Ytcncjldggfbjdaa.PEx
