-- Printed by this session's turned copy of the print (wip/turnprint.py).
import Derived.Test.YtcncjldggfbjdaaPEmx0
import Derived.Test.YtcncjldggfbjdaaPExx3
import Derived.Test.YtcncjldggfbjdaaPExx4
import Derived.Test.YtcncjldggfbjdaaPExx5
namespace Go.Proofs.Ytcncjldggfbjdaa.PEm
open Go.RowKit Go.Proofs.Ytcncjldggfbjdaa.PEx Go.Proofs.YtcncjldggfbjdaaW.PrintWords Go.Proofs.YtcncjldggfbjdaaW.PrintLast Go.Proofs.YtcncjldggfbjdaaW.PrintMore
attribute [local go_sem] max2_int min2_int max_two min_two max_three min_three max_four min_four   -- for this text's walks alone
set_option linter.unusedVariables false
set_option linter.unusedSimpArgs false

/-! ### bournelaw01_ExactLimits: function 8 -/
mutual
def bournelaw01_ExactLimits.j0 : Nat → Int → Int → Int → Bool → Int → Int → Bool → Option (Bool)
  | 0, _, _, _, _, _, _, _ => none
  | k + 1, x0, x1, x2, x7, x8, x9, x10 => if x1 < 0 then (if x1 > 0 then (bournelaw01_ExactLimits.j1 k x0 x1 x2 x7 x8 x10 true) else (if x8 ≤ x0 then (bournelaw01_ExactLimits.j1 k x0 x1 x2 x7 x8 x10 (decide (x9 ≥ x0))) else (bournelaw01_ExactLimits.j1 k x0 x1 x2 x7 x8 x10 false))) else (if x8 ≥ x0 then (if x1 > 0 then (if x9 ≤ x0 then (bournelaw01_ExactLimits.j1 k x0 x1 x2 x7 x8 x10 true) else (bournelaw01_ExactLimits.j1 k x0 x1 x2 x7 x8 x10 false)) else (if x8 ≤ x0 then (if x9 ≤ x0 then (bournelaw01_ExactLimits.j1 k x0 x1 x2 x7 x8 x10 (decide (x9 ≥ x0))) else (bournelaw01_ExactLimits.j1 k x0 x1 x2 x7 x8 x10 false)) else (bournelaw01_ExactLimits.j1 k x0 x1 x2 x7 x8 x10 false))) else (bournelaw01_ExactLimits.j1 k x0 x1 x2 x7 x8 x10 false))
def bournelaw01_ExactLimits.j1 : Nat → Int → Int → Int → Bool → Int → Bool → Bool → Option (Bool)
  | 0, _, _, _, _, _, _, _ => none
  | k + 1, x0, x1, x2, x7, x8, x10, x11 => if x8 = 9223372036854775807 then (bournelaw01_ExactLimits.j2 k x0 x1 x2 x7 x10 x11 true) else (if x8 = (-9223372036854775808) then (bournelaw01_ExactLimits.j2 k x0 x1 x2 x7 x10 x11 true) else ((exact_Sub.f x8 x1).bind fun t108 => (if t108 = x0 then ((exact_Sub.f x8 x0).bind fun t109 => (bournelaw01_ExactLimits.j2 k x0 x1 x2 x7 x10 x11 (t109 == x1))) else (bournelaw01_ExactLimits.j2 k x0 x1 x2 x7 x10 x11 false))))
def bournelaw01_ExactLimits.j2 : Nat → Int → Int → Int → Bool → Bool → Bool → Bool → Option (Bool)
  | 0, _, _, _, _, _, _, _ => none
  | k + 1, x0, x1, x2, x7, x10, x11, x12 => if x0 > x2 then (bournelaw01_ExactLimits.j3 k x0 x1 x2 x7 x10 x11 x12 true) else ((exact_Add.f x0 x1).bind fun t110 => ((exact_Add.f x2 x1).bind fun t111 => (if t110 ≤ t111 then ((exact_Sub.f x0 x1).bind fun t112 => ((exact_Sub.f x2 x1).bind fun t113 => (bournelaw01_ExactLimits.j3 k x0 x1 x2 x7 x10 x11 x12 (decide (t112 ≤ t113))))) else (bournelaw01_ExactLimits.j3 k x0 x1 x2 x7 x10 x11 x12 false))))
def bournelaw01_ExactLimits.j3 : Nat → Int → Int → Int → Bool → Bool → Bool → Bool → Bool → Option (Bool)
  | 0, _, _, _, _, _, _, _, _ => none
  | k + 1, x0, x1, x2, x7, x10, x11, x12, x13 => (exact_Clamp.f x2 x0 x1).bind fun t114 => (if x0 > x1 then (bournelaw01_ExactLimits.j4 k x7 x10 x11 x12 x13 true) else (if t114 ≥ x0 then (if t114 ≤ x1 then ((exact_Clamp.f t114 x0 x1).bind fun t115 => (if t115 = t114 then (if x2 < x0 then (bournelaw01_ExactLimits.j4 k x7 x10 x11 x12 x13 true) else (if x2 > x1 then (bournelaw01_ExactLimits.j4 k x7 x10 x11 x12 x13 true) else (bournelaw01_ExactLimits.j4 k x7 x10 x11 x12 x13 (t114 == x2)))) else (bournelaw01_ExactLimits.j4 k x7 x10 x11 x12 x13 false))) else (bournelaw01_ExactLimits.j4 k x7 x10 x11 x12 x13 false)) else (bournelaw01_ExactLimits.j4 k x7 x10 x11 x12 x13 false)))
def bournelaw01_ExactLimits.j4 : Nat → Bool → Bool → Bool → Bool → Bool → Bool → Option (Bool)
  | 0, _, _, _, _, _, _ => none
  | k + 1, x7, x10, x11, x12, x13, x15 => if x7 = true then (if x10 = true then (if x11 = true then (if x12 = true then (if x13 = true then (bournelaw01_ExactLimits.j5 k x15) else (bournelaw01_ExactLimits.j5 k false)) else (bournelaw01_ExactLimits.j5 k false)) else (bournelaw01_ExactLimits.j5 k false)) else (bournelaw01_ExactLimits.j5 k false)) else (bournelaw01_ExactLimits.j5 k false)
def bournelaw01_ExactLimits.j5 : Nat → Bool → Option (Bool)
  | 0, _ => none
  | k + 1, x6 => some x6
end
def bournelaw01_ExactLimits.f (k : Nat) (a0 : Int) (a1 : Int) (a2 : Int) : Option (Bool) := (bournelaw01_small.f k).bind fun t101 => ((exact_Add.f a0 a1).bind fun t102 => ((exact_Sub.f a0 a1).bind fun t103 => ((exact_Add.f a1 a0).bind fun t104 => (if t102 = t104 then ((exact_Add.f a0 0).bind fun t105 => (if t105 = a0 then ((exact_Sub.f a0 0).bind fun t106 => (if t106 = a0 then ((exact_Sub.f a0 a0).bind fun t107 => (bournelaw01_ExactLimits.j0 k a0 a1 a2 t101 t102 t103 (t107 == 0))) else (bournelaw01_ExactLimits.j0 k a0 a1 a2 t101 t102 t103 false))) else (bournelaw01_ExactLimits.j0 k a0 a1 a2 t101 t102 t103 false))) else (bournelaw01_ExactLimits.j0 k a0 a1 a2 t101 t102 t103 false)))))
theorem bournelaw01_ExactLimits.mono_l : ∀ k, (∀ y0 y1 y2 y3 y4 y5 y6, LeO (bournelaw01_ExactLimits.j0 k y0 y1 y2 y3 y4 y5 y6) (bournelaw01_ExactLimits.j0 (k + 1) y0 y1 y2 y3 y4 y5 y6)) ∧ (∀ y0 y1 y2 y3 y4 y5 y6, LeO (bournelaw01_ExactLimits.j1 k y0 y1 y2 y3 y4 y5 y6) (bournelaw01_ExactLimits.j1 (k + 1) y0 y1 y2 y3 y4 y5 y6)) ∧ (∀ y0 y1 y2 y3 y4 y5 y6, LeO (bournelaw01_ExactLimits.j2 k y0 y1 y2 y3 y4 y5 y6) (bournelaw01_ExactLimits.j2 (k + 1) y0 y1 y2 y3 y4 y5 y6)) ∧ (∀ y0 y1 y2 y3 y4 y5 y6 y7, LeO (bournelaw01_ExactLimits.j3 k y0 y1 y2 y3 y4 y5 y6 y7) (bournelaw01_ExactLimits.j3 (k + 1) y0 y1 y2 y3 y4 y5 y6 y7)) ∧ (∀ y0 y1 y2 y3 y4 y5, LeO (bournelaw01_ExactLimits.j4 k y0 y1 y2 y3 y4 y5) (bournelaw01_ExactLimits.j4 (k + 1) y0 y1 y2 y3 y4 y5)) ∧ (∀ y0, LeO (bournelaw01_ExactLimits.j5 k y0) (bournelaw01_ExactLimits.j5 (k + 1) y0))
  | 0 => ⟨fun _ _ _ _ _ _ _ r h => by simp [bournelaw01_ExactLimits.j0] at h, fun _ _ _ _ _ _ _ r h => by simp [bournelaw01_ExactLimits.j1] at h, fun _ _ _ _ _ _ _ r h => by simp [bournelaw01_ExactLimits.j2] at h, fun _ _ _ _ _ _ _ _ r h => by simp [bournelaw01_ExactLimits.j3] at h, fun _ _ _ _ _ _ r h => by simp [bournelaw01_ExactLimits.j4] at h, fun _ r h => by simp [bournelaw01_ExactLimits.j5] at h⟩
  | k + 1 => by
    obtain ⟨ih0, ih1, ih2, ih3, ih4, ih5⟩ := bournelaw01_ExactLimits.mono_l k
    refine ⟨?_, ?_, ?_, ?_, ?_, ?_⟩
    · intro y0 y1 y2 y3 y4 y5 y6
      unfold bournelaw01_ExactLimits.j0
      repeat' first
      | (with_reducible exact ih0 _ _ _ _ _ _ _)
      | (with_reducible exact ih1 _ _ _ _ _ _ _)
      | (with_reducible exact ih2 _ _ _ _ _ _ _)
      | (with_reducible exact ih3 _ _ _ _ _ _ _ _)
      | (with_reducible exact ih4 _ _ _ _ _ _)
      | (with_reducible exact ih5 _)
      | (with_reducible exact bournelaw01_small.mono _)
      | (with_reducible exact LeO.refl _)
      | (with_reducible exact LeO.none _)
      | (with_reducible refine LeO.ite ?_ ?_)
      | (with_reducible refine LeO.bind ?_ (fun _ => ?_))
      | exact ih0 _ _ _ _ _ _ _
      | exact ih1 _ _ _ _ _ _ _
      | exact ih2 _ _ _ _ _ _ _
      | exact ih3 _ _ _ _ _ _ _ _
      | exact ih4 _ _ _ _ _ _
      | exact ih5 _
      | exact bournelaw01_small.mono _
      | exact LeO.none _
      | refine LeO.ite ?_ ?_
      | refine LeO.bind ?_ (fun _ => ?_)
    · intro y0 y1 y2 y3 y4 y5 y6
      unfold bournelaw01_ExactLimits.j1
      repeat' first
      | (with_reducible exact ih0 _ _ _ _ _ _ _)
      | (with_reducible exact ih1 _ _ _ _ _ _ _)
      | (with_reducible exact ih2 _ _ _ _ _ _ _)
      | (with_reducible exact ih3 _ _ _ _ _ _ _ _)
      | (with_reducible exact ih4 _ _ _ _ _ _)
      | (with_reducible exact ih5 _)
      | (with_reducible exact bournelaw01_small.mono _)
      | (with_reducible exact LeO.refl _)
      | (with_reducible exact LeO.none _)
      | (with_reducible refine LeO.ite ?_ ?_)
      | (with_reducible refine LeO.bind ?_ (fun _ => ?_))
      | exact ih0 _ _ _ _ _ _ _
      | exact ih1 _ _ _ _ _ _ _
      | exact ih2 _ _ _ _ _ _ _
      | exact ih3 _ _ _ _ _ _ _ _
      | exact ih4 _ _ _ _ _ _
      | exact ih5 _
      | exact bournelaw01_small.mono _
      | exact LeO.none _
      | refine LeO.ite ?_ ?_
      | refine LeO.bind ?_ (fun _ => ?_)
    · intro y0 y1 y2 y3 y4 y5 y6
      unfold bournelaw01_ExactLimits.j2
      repeat' first
      | (with_reducible exact ih0 _ _ _ _ _ _ _)
      | (with_reducible exact ih1 _ _ _ _ _ _ _)
      | (with_reducible exact ih2 _ _ _ _ _ _ _)
      | (with_reducible exact ih3 _ _ _ _ _ _ _ _)
      | (with_reducible exact ih4 _ _ _ _ _ _)
      | (with_reducible exact ih5 _)
      | (with_reducible exact bournelaw01_small.mono _)
      | (with_reducible exact LeO.refl _)
      | (with_reducible exact LeO.none _)
      | (with_reducible refine LeO.ite ?_ ?_)
      | (with_reducible refine LeO.bind ?_ (fun _ => ?_))
      | exact ih0 _ _ _ _ _ _ _
      | exact ih1 _ _ _ _ _ _ _
      | exact ih2 _ _ _ _ _ _ _
      | exact ih3 _ _ _ _ _ _ _ _
      | exact ih4 _ _ _ _ _ _
      | exact ih5 _
      | exact bournelaw01_small.mono _
      | exact LeO.none _
      | refine LeO.ite ?_ ?_
      | refine LeO.bind ?_ (fun _ => ?_)
    · intro y0 y1 y2 y3 y4 y5 y6 y7
      unfold bournelaw01_ExactLimits.j3
      repeat' first
      | (with_reducible exact ih0 _ _ _ _ _ _ _)
      | (with_reducible exact ih1 _ _ _ _ _ _ _)
      | (with_reducible exact ih2 _ _ _ _ _ _ _)
      | (with_reducible exact ih3 _ _ _ _ _ _ _ _)
      | (with_reducible exact ih4 _ _ _ _ _ _)
      | (with_reducible exact ih5 _)
      | (with_reducible exact bournelaw01_small.mono _)
      | (with_reducible exact LeO.refl _)
      | (with_reducible exact LeO.none _)
      | (with_reducible refine LeO.ite ?_ ?_)
      | (with_reducible refine LeO.bind ?_ (fun _ => ?_))
      | exact ih0 _ _ _ _ _ _ _
      | exact ih1 _ _ _ _ _ _ _
      | exact ih2 _ _ _ _ _ _ _
      | exact ih3 _ _ _ _ _ _ _ _
      | exact ih4 _ _ _ _ _ _
      | exact ih5 _
      | exact bournelaw01_small.mono _
      | exact LeO.none _
      | refine LeO.ite ?_ ?_
      | refine LeO.bind ?_ (fun _ => ?_)
    · intro y0 y1 y2 y3 y4 y5
      unfold bournelaw01_ExactLimits.j4
      repeat' first
      | (with_reducible exact ih0 _ _ _ _ _ _ _)
      | (with_reducible exact ih1 _ _ _ _ _ _ _)
      | (with_reducible exact ih2 _ _ _ _ _ _ _)
      | (with_reducible exact ih3 _ _ _ _ _ _ _ _)
      | (with_reducible exact ih4 _ _ _ _ _ _)
      | (with_reducible exact ih5 _)
      | (with_reducible exact bournelaw01_small.mono _)
      | (with_reducible exact LeO.refl _)
      | (with_reducible exact LeO.none _)
      | (with_reducible refine LeO.ite ?_ ?_)
      | (with_reducible refine LeO.bind ?_ (fun _ => ?_))
      | exact ih0 _ _ _ _ _ _ _
      | exact ih1 _ _ _ _ _ _ _
      | exact ih2 _ _ _ _ _ _ _
      | exact ih3 _ _ _ _ _ _ _ _
      | exact ih4 _ _ _ _ _ _
      | exact ih5 _
      | exact bournelaw01_small.mono _
      | exact LeO.none _
      | refine LeO.ite ?_ ?_
      | refine LeO.bind ?_ (fun _ => ?_)
    · intro y0
      unfold bournelaw01_ExactLimits.j5
      repeat' first
      | (with_reducible exact ih0 _ _ _ _ _ _ _)
      | (with_reducible exact ih1 _ _ _ _ _ _ _)
      | (with_reducible exact ih2 _ _ _ _ _ _ _)
      | (with_reducible exact ih3 _ _ _ _ _ _ _ _)
      | (with_reducible exact ih4 _ _ _ _ _ _)
      | (with_reducible exact ih5 _)
      | (with_reducible exact bournelaw01_small.mono _)
      | (with_reducible exact LeO.refl _)
      | (with_reducible exact LeO.none _)
      | (with_reducible refine LeO.ite ?_ ?_)
      | (with_reducible refine LeO.bind ?_ (fun _ => ?_))
      | exact ih0 _ _ _ _ _ _ _
      | exact ih1 _ _ _ _ _ _ _
      | exact ih2 _ _ _ _ _ _ _
      | exact ih3 _ _ _ _ _ _ _ _
      | exact ih4 _ _ _ _ _ _
      | exact ih5 _
      | exact bournelaw01_small.mono _
      | exact LeO.none _
      | refine LeO.ite ?_ ?_
      | refine LeO.bind ?_ (fun _ => ?_)
theorem bournelaw01_ExactLimits.mono : ∀ a0 a1 a2 k, LeO (bournelaw01_ExactLimits.f k a0 a1 a2) (bournelaw01_ExactLimits.f (k + 1) a0 a1 a2) := by
  intro a0 a1 a2 k
  obtain ⟨ih0, ih1, ih2, ih3, ih4, ih5⟩ := bournelaw01_ExactLimits.mono_l k
  unfold bournelaw01_ExactLimits.f
  repeat' first
      | (with_reducible exact ih0 _ _ _ _ _ _ _)
      | (with_reducible exact ih1 _ _ _ _ _ _ _)
      | (with_reducible exact ih2 _ _ _ _ _ _ _)
      | (with_reducible exact ih3 _ _ _ _ _ _ _ _)
      | (with_reducible exact ih4 _ _ _ _ _ _)
      | (with_reducible exact ih5 _)
      | (with_reducible exact bournelaw01_small.mono _)
      | (with_reducible exact LeO.refl _)
      | (with_reducible exact LeO.none _)
      | (with_reducible refine LeO.ite ?_ ?_)
      | (with_reducible refine LeO.bind ?_ (fun _ => ?_))
      | exact ih0 _ _ _ _ _ _ _
      | exact ih1 _ _ _ _ _ _ _
      | exact ih2 _ _ _ _ _ _ _
      | exact ih3 _ _ _ _ _ _ _ _
      | exact ih4 _ _ _ _ _ _
      | exact ih5 _
      | exact bournelaw01_small.mono _
      | exact LeO.none _
      | refine LeO.ite ?_ ?_
      | refine LeO.bind ?_ (fun _ => ?_)
set_option maxHeartbeats 8000000 in
set_option maxRecDepth 100000 in
theorem bournelaw01_ExactLimits.calls (k : Nat) (a0 : Int) (a1 : Int) (a2 : Int) (r : Bool) (w : World) (h : bournelaw01_ExactLimits.f k a0 a1 a2 = some r) :
    Calls Try.prog 8 #[.int .i64 a0, .int .i64 a1, .int .i64 a2] w fun e w' => e = .returned (.bool r) ∧ Below w.heap.size w w' := by
  have HB := Aside0.mk (Below.refl w.heap.size w)
  have H : ((bournelaw01_small.f k).bind fun t101 => ((exact_Add.f a0 a1).bind fun t102 => ((exact_Sub.f a0 a1).bind fun t103 => ((exact_Add.f a1 a0).bind fun t104 => (if t102 = t104 then ((exact_Add.f a0 0).bind fun t105 => (if t105 = a0 then ((exact_Sub.f a0 0).bind fun t106 => (if t106 = a0 then ((exact_Sub.f a0 a0).bind fun t107 => (bournelaw01_ExactLimits.j0 k a0 a1 a2 t101 t102 t103 (t107 == 0))) else (bournelaw01_ExactLimits.j0 k a0 a1 a2 t101 t102 t103 false))) else (bournelaw01_ExactLimits.j0 k a0 a1 a2 t101 t102 t103 false))) else (bournelaw01_ExactLimits.j0 k a0 a1 a2 t101 t102 t103 false)))))) = some r := h
  clear h
  replace H := Option.bind_eq_some_iff.mp H
  obtain ⟨t101, A40, H⟩ := H
  replace H : ((exact_Add.f a0 a1).bind fun t102 => ((exact_Sub.f a0 a1).bind fun t103 => ((exact_Add.f a1 a0).bind fun t104 => (if t102 = t104 then ((exact_Add.f a0 0).bind fun t105 => (if t105 = a0 then ((exact_Sub.f a0 0).bind fun t106 => (if t106 = a0 then ((exact_Sub.f a0 a0).bind fun t107 => (bournelaw01_ExactLimits.j0 k a0 a1 a2 t101 t102 t103 (t107 == 0))) else (bournelaw01_ExactLimits.j0 k a0 a1 a2 t101 t102 t103 false))) else (bournelaw01_ExactLimits.j0 k a0 a1 a2 t101 t102 t103 false))) else (bournelaw01_ExactLimits.j0 k a0 a1 a2 t101 t102 t103 false))))) = some r := H
  have A4 := Aside0.mk A40
  clear A40
  replace H := Option.bind_eq_some_iff.mp H
  obtain ⟨t102, A50, H⟩ := H
  replace H : ((exact_Sub.f a0 a1).bind fun t103 => ((exact_Add.f a1 a0).bind fun t104 => (if t102 = t104 then ((exact_Add.f a0 0).bind fun t105 => (if t105 = a0 then ((exact_Sub.f a0 0).bind fun t106 => (if t106 = a0 then ((exact_Sub.f a0 a0).bind fun t107 => (bournelaw01_ExactLimits.j0 k a0 a1 a2 t101 t102 t103 (t107 == 0))) else (bournelaw01_ExactLimits.j0 k a0 a1 a2 t101 t102 t103 false))) else (bournelaw01_ExactLimits.j0 k a0 a1 a2 t101 t102 t103 false))) else (bournelaw01_ExactLimits.j0 k a0 a1 a2 t101 t102 t103 false)))) = some r := H
  have A5 := Aside0.mk A50
  clear A50
  replace H := Option.bind_eq_some_iff.mp H
  obtain ⟨t103, A60, H⟩ := H
  replace H : ((exact_Add.f a1 a0).bind fun t104 => (if t102 = t104 then ((exact_Add.f a0 0).bind fun t105 => (if t105 = a0 then ((exact_Sub.f a0 0).bind fun t106 => (if t106 = a0 then ((exact_Sub.f a0 a0).bind fun t107 => (bournelaw01_ExactLimits.j0 k a0 a1 a2 t101 t102 t103 (t107 == 0))) else (bournelaw01_ExactLimits.j0 k a0 a1 a2 t101 t102 t103 false))) else (bournelaw01_ExactLimits.j0 k a0 a1 a2 t101 t102 t103 false))) else (bournelaw01_ExactLimits.j0 k a0 a1 a2 t101 t102 t103 false))) = some r := H
  have A6 := Aside0.mk A60
  clear A60
  have HC7 := Aside0.mk H
  clear H
  go_enter Try.func8, Try.ntmps8
  go_upto_region 4 with (first | ((with_reducible refine gate_callee (f := 14) rfl ?_); refine goesL_ (some 16) rfl rfl Try.func14 (by kernel_rfl) rfl #[] rfl (by (try simp only [List.map_toArray, List.map_cons, List.map_nil]); first | done | rfl | (simp only [List.length_drop, List.length_take]; rfl)) ?_; (with_reducible refine (bournelaw01_small.calls k  t101 _ A4.out).mono ?_); rintro e w8 ⟨rfl, hb⟩; refine ⟨_, rfl, ?_⟩; have n0_ := Aside0.mk (below_step (by repeat (first | (with_reducible first | exact HB.out | apply below_alloc | apply pw_below_drewN | apply below_drew1) | exact HB.out)) hb); clear HB; have HB := n0_; clear n0_; (try clear hb); (try clear hb2); (try clear hk); (try clear hi)) | ((with_reducible refine gate_callee (f := 24) rfl ?_); refine goesL_ (some 19) rfl rfl Try.func24 (by kernel_rfl) rfl #[.int .i64 a0, .int .i64 a1] rfl (by (try simp only [List.map_toArray, List.map_cons, List.map_nil]); first | done | rfl | (simp only [List.length_drop, List.length_take]; rfl)) ?_; (with_reducible refine (exact_Add.calls a0 a1 t102 _ A5.out).mono ?_); rintro e w' ⟨rfl, ⟨nd, rfl⟩⟩; refine ⟨_, rfl, ?_⟩) | ((with_reducible refine gate_callee (f := 26) rfl ?_); refine goesL_ (some 22) rfl rfl Try.func26 (by kernel_rfl) rfl #[.int .i64 a0, .int .i64 a1] rfl (by (try simp only [List.map_toArray, List.map_cons, List.map_nil]); first | done | rfl | (simp only [List.length_drop, List.length_take]; rfl)) ?_; (with_reducible refine (exact_Sub.calls a0 a1 t103 _ A6.out).mono ?_); rintro e w' ⟨rfl, ⟨nd, rfl⟩⟩; refine ⟨_, rfl, ?_⟩))
  (try simp only [Act.put, List.setIfInBounds_toArray, List.set_cons_zero, List.set_cons_succ])
  go_cut [10] (fun v10 wc => ∃ (kq : Nat) (x10_6 : Bool), v10 = .bool x10_6 ∧ Aside0 (bournelaw01_ExactLimits.j0 kq a0 a1 a2 t101 t102 t103 x10_6 = some r) ∧ Aside0 (kq ≤ k) ∧ Aside0 (Below w.heap.size w wc))
  case first =>
    as_aux_lemma =>
      have H := HC7.out
      clear HC7
      replace H := Option.bind_eq_some_iff.mp H
      obtain ⟨t104, A90, H⟩ := H
      replace H : (if t102 = t104 then ((exact_Add.f a0 0).bind fun t105 => (if t105 = a0 then ((exact_Sub.f a0 0).bind fun t106 => (if t106 = a0 then ((exact_Sub.f a0 a0).bind fun t107 => (bournelaw01_ExactLimits.j0 k a0 a1 a2 t101 t102 t103 (t107 == 0))) else (bournelaw01_ExactLimits.j0 k a0 a1 a2 t101 t102 t103 false))) else (bournelaw01_ExactLimits.j0 k a0 a1 a2 t101 t102 t103 false))) else (bournelaw01_ExactLimits.j0 k a0 a1 a2 t101 t102 t103 false)) = some r := H
      have A9 := Aside0.mk A90
      clear A90
      by_cases c10 : t102 = t104
      · rw [if_pos c10] at H
        have c10b0 : (t102 == t104) = true := beq_iff_eq.mpr c10
        have c10b1 : (t102 != t104) = false := bne_eq_false_iff_eq.mpr c10
        clear c10
        (first | rw [c10b0] | (simp only [i64_w, i32_w]; rw [c10b0]) | skip)
        replace H := Option.bind_eq_some_iff.mp H
        obtain ⟨t105, A110, H⟩ := H
        replace H : (if t105 = a0 then ((exact_Sub.f a0 0).bind fun t106 => (if t106 = a0 then ((exact_Sub.f a0 a0).bind fun t107 => (bournelaw01_ExactLimits.j0 k a0 a1 a2 t101 t102 t103 (t107 == 0))) else (bournelaw01_ExactLimits.j0 k a0 a1 a2 t101 t102 t103 false))) else (bournelaw01_ExactLimits.j0 k a0 a1 a2 t101 t102 t103 false)) = some r := H
        have A11 := Aside0.mk A110
        clear A110
        by_cases c12 : t105 = a0
        · rw [if_pos c12] at H
          have c12b0 : (t105 == a0) = true := beq_iff_eq.mpr c12
          have c12b1 : (t105 != a0) = false := bne_eq_false_iff_eq.mpr c12
          clear c12
          replace H := Option.bind_eq_some_iff.mp H
          obtain ⟨t106, A130, H⟩ := H
          replace H : (if t106 = a0 then ((exact_Sub.f a0 a0).bind fun t107 => (bournelaw01_ExactLimits.j0 k a0 a1 a2 t101 t102 t103 (t107 == 0))) else (bournelaw01_ExactLimits.j0 k a0 a1 a2 t101 t102 t103 false)) = some r := H
          have A13 := Aside0.mk A130
          clear A130
          by_cases c14 : t106 = a0
          · rw [if_pos c14] at H
            have c14b0 : (t106 == a0) = true := beq_iff_eq.mpr c14
            have c14b1 : (t106 != a0) = false := bne_eq_false_iff_eq.mpr c14
            clear c14
            replace H := Option.bind_eq_some_iff.mp H
            obtain ⟨t107, A150, H⟩ := H
            replace H : (bournelaw01_ExactLimits.j0 k a0 a1 a2 t101 t102 t103 (t107 == 0)) = some r := H
            have A15 := Aside0.mk A150
            clear A150
            have H' := Aside0.mk H
            clear H
            go_wp2_with (first | ((with_reducible refine gate_callee (f := 24) rfl ?_); refine goesL_ (some 26) rfl rfl Try.func24 (by kernel_rfl) rfl #[.int .i64 a1, .int .i64 a0] rfl (by (try simp only [List.map_toArray, List.map_cons, List.map_nil]); first | done | rfl | (simp only [List.length_drop, List.length_take]; rfl)) ?_; (with_reducible refine (exact_Add.calls a1 a0 t104 _ A9.out).mono ?_); rintro e w' ⟨rfl, ⟨nd, rfl⟩⟩; refine ⟨_, rfl, ?_⟩) | (go_at_call 24; (with_reducible refine (exact_Add.calls a0 0 t105 _ A11.out).mono ?_); rintro e w' ⟨rfl, ⟨nd, rfl⟩⟩) | (go_at_call 26; (with_reducible refine (exact_Sub.calls a0 0 t106 _ A13.out).mono ?_); rintro e w' ⟨rfl, ⟨nd, rfl⟩⟩) | (go_at_call 26; (with_reducible refine (exact_Sub.calls a0 a0 t107 _ A15.out).mono ?_); rintro e w' ⟨rfl, ⟨nd, rfl⟩⟩))
            go_meet
            case rel => exact ⟨_, ((t107 == 0)), (by first | rfl | (simp; done) | (simp [*]; done)), H', ⟨by first | omega | exact Nat.le_refl _⟩, ⟨by repeat (first | (with_reducible first | exact HB.out | apply below_alloc | apply pw_below_drewN | apply below_drew1) | exact HB.out)⟩⟩
          · rw [if_neg c14] at H
            have c14b0 : (t106 == a0) = false := beq_eq_false_iff_ne.mpr c14
            have c14b1 : (t106 != a0) = true := bne_iff_ne.mpr c14
            have H' := Aside0.mk H
            clear H
            go_wp2_with (first | ((with_reducible refine gate_callee (f := 24) rfl ?_); refine goesL_ (some 26) rfl rfl Try.func24 (by kernel_rfl) rfl #[.int .i64 a1, .int .i64 a0] rfl (by (try simp only [List.map_toArray, List.map_cons, List.map_nil]); first | done | rfl | (simp only [List.length_drop, List.length_take]; rfl)) ?_; (with_reducible refine (exact_Add.calls a1 a0 t104 _ A9.out).mono ?_); rintro e w' ⟨rfl, ⟨nd, rfl⟩⟩; refine ⟨_, rfl, ?_⟩) | (go_at_call 24; (with_reducible refine (exact_Add.calls a0 0 t105 _ A11.out).mono ?_); rintro e w' ⟨rfl, ⟨nd, rfl⟩⟩) | (go_at_call 26; (with_reducible refine (exact_Sub.calls a0 0 t106 _ A13.out).mono ?_); rintro e w' ⟨rfl, ⟨nd, rfl⟩⟩))
            go_meet
            case rel => exact ⟨_, (false), (by first | rfl | (simp; done) | (simp [*]; done)), H', ⟨by first | omega | exact Nat.le_refl _⟩, ⟨by repeat (first | (with_reducible first | exact HB.out | apply below_alloc | apply pw_below_drewN | apply below_drew1) | exact HB.out)⟩⟩
        · rw [if_neg c12] at H
          have c12b0 : (t105 == a0) = false := beq_eq_false_iff_ne.mpr c12
          have c12b1 : (t105 != a0) = true := bne_iff_ne.mpr c12
          have H' := Aside0.mk H
          clear H
          go_wp2_with (first | ((with_reducible refine gate_callee (f := 24) rfl ?_); refine goesL_ (some 26) rfl rfl Try.func24 (by kernel_rfl) rfl #[.int .i64 a1, .int .i64 a0] rfl (by (try simp only [List.map_toArray, List.map_cons, List.map_nil]); first | done | rfl | (simp only [List.length_drop, List.length_take]; rfl)) ?_; (with_reducible refine (exact_Add.calls a1 a0 t104 _ A9.out).mono ?_); rintro e w' ⟨rfl, ⟨nd, rfl⟩⟩; refine ⟨_, rfl, ?_⟩) | (go_at_call 24; (with_reducible refine (exact_Add.calls a0 0 t105 _ A11.out).mono ?_); rintro e w' ⟨rfl, ⟨nd, rfl⟩⟩))
          go_meet
          case rel => exact ⟨_, (false), (by first | rfl | (simp; done) | (simp [*]; done)), H', ⟨by first | omega | exact Nat.le_refl _⟩, ⟨by repeat (first | (with_reducible first | exact HB.out | apply below_alloc | apply pw_below_drewN | apply below_drew1) | exact HB.out)⟩⟩
      · rw [if_neg c10] at H
        have c10b0 : (t102 == t104) = false := beq_eq_false_iff_ne.mpr c10
        have c10b1 : (t102 != t104) = true := bne_iff_ne.mpr c10
        (first | rw [c10b0] | (simp only [i64_w, i32_w]; rw [c10b0]) | skip)
        have H' := Aside0.mk H
        clear H
        go_wp2_with (first | ((with_reducible refine gate_callee (f := 24) rfl ?_); refine goesL_ (some 26) rfl rfl Try.func24 (by kernel_rfl) rfl #[.int .i64 a1, .int .i64 a0] rfl (by (try simp only [List.map_toArray, List.map_cons, List.map_nil]); first | done | rfl | (simp only [List.length_drop, List.length_take]; rfl)) ?_; (with_reducible refine (exact_Add.calls a1 a0 t104 _ A9.out).mono ?_); rintro e w' ⟨rfl, ⟨nd, rfl⟩⟩; refine ⟨_, rfl, ?_⟩))
        go_meet
        case rel => exact ⟨_, (false), (by first | rfl | (simp; done) | (simp [*]; done)), H', ⟨by first | omega | exact Nat.le_refl _⟩, ⟨by repeat (first | (with_reducible first | exact HB.out | apply below_alloc | apply pw_below_drewN | apply below_drew1) | exact HB.out)⟩⟩
  case rest =>
    clear HC7
    try clear c1
    try clear c2
    try clear p2
    try clear c8
    try clear c10
    try clear c10b0
    try clear c10b1
    try clear c12
    try clear c12b0
    try clear c12b1
    try clear c14
    try clear c14b0
    try clear c14b1
    obtain ⟨kq, x10_6, rfl, HA, HJ6, HB⟩ := hcut
    cases kq with
    | zero => exact absurd HA.out (by simp [bournelaw01_ExactLimits.j0])
    | succ kj6 =>
      have H := HA.out
      clear HA
      simp only [bournelaw01_ExactLimits.j0] at H
      have HC16 := Aside0.mk H
      clear H
      go_upto_region 5 with (fail)
      go_cut [11] (fun v11 wc => ∃ (kq : Nat) (x11_15 : Bool), v11 = .bool x11_15 ∧ Aside0 (bournelaw01_ExactLimits.j1 kq a0 a1 a2 t101 t102 x10_6 x11_15 = some r) ∧ Aside0 (kq ≤ kj6) ∧ Aside0 (Below w.heap.size w wc))
      case first =>
        as_aux_lemma =>
          have H := HC16.out
          clear HC16
          by_cases c17 : a1 < 0
          · rw [if_pos c17] at H
            have c17b0 : decide (a1 < 0) = true := decide_eq_true c17
            clear c17
            (first | rw [c17b0] | (simp only [i64_w, i32_w]; rw [c17b0]) | skip)
            by_cases c18 : a1 > 0
            · rw [if_pos c18] at H
              have c18b0 : decide (0 < a1) = true := decide_eq_true c18
              clear c18
              have H' := Aside0.mk H
              clear H
              go_wp2
              go_meet
              case rel => exact ⟨_, (true), (by first | rfl | (simp; done) | (simp [*]; done)), H', ⟨by have := HJ6.out; first | omega | exact Nat.le_refl _⟩, ⟨by repeat (first | (with_reducible first | exact HB.out | apply below_alloc | apply pw_below_drewN | apply below_drew1) | exact HB.out)⟩⟩
            · rw [if_neg c18] at H
              have c18b0 : decide (0 < a1) = false := decide_eq_false c18
              clear c18
              by_cases c19 : t102 ≤ a0
              · rw [if_pos c19] at H
                have c19b0 : decide (t102 ≤ a0) = true := decide_eq_true c19
                clear c19
                have H' := Aside0.mk H
                clear H
                go_wp2
                go_meet
                case rel => exact ⟨_, (decide (t103 ≥ a0)), (by first | rfl | (simp; done) | (simp [*]; done)), H', ⟨by have := HJ6.out; first | omega | exact Nat.le_refl _⟩, ⟨by repeat (first | (with_reducible first | exact HB.out | apply below_alloc | apply pw_below_drewN | apply below_drew1) | exact HB.out)⟩⟩
              · rw [if_neg c19] at H
                have c19b0 : decide (t102 ≤ a0) = false := decide_eq_false c19
                clear c19
                have H' := Aside0.mk H
                clear H
                go_wp2
                go_meet
                case rel => exact ⟨_, (false), (by first | rfl | (simp; done) | (simp [*]; done)), H', ⟨by have := HJ6.out; first | omega | exact Nat.le_refl _⟩, ⟨by repeat (first | (with_reducible first | exact HB.out | apply below_alloc | apply pw_below_drewN | apply below_drew1) | exact HB.out)⟩⟩
          · rw [if_neg c17] at H
            have c17b0 : decide (a1 < 0) = false := decide_eq_false c17
            clear c17
            (first | rw [c17b0] | (simp only [i64_w, i32_w]; rw [c17b0]) | skip)
            by_cases c20 : t102 ≥ a0
            · rw [if_pos c20] at H
              have c20b0 : decide (a0 ≤ t102) = true := decide_eq_true c20
              clear c20
              by_cases c21 : a1 > 0
              · rw [if_pos c21] at H
                have c21b0 : decide (0 < a1) = true := decide_eq_true c21
                clear c21
                by_cases c22 : t103 ≤ a0
                · rw [if_pos c22] at H
                  have c22b0 : decide (t103 ≤ a0) = true := decide_eq_true c22
                  clear c22
                  have H' := Aside0.mk H
                  clear H
                  go_wp2
                  go_meet
                  case rel => exact ⟨_, (true), (by first | rfl | (simp; done) | (simp [*]; done)), H', ⟨by have := HJ6.out; first | omega | exact Nat.le_refl _⟩, ⟨by repeat (first | (with_reducible first | exact HB.out | apply below_alloc | apply pw_below_drewN | apply below_drew1) | exact HB.out)⟩⟩
                · rw [if_neg c22] at H
                  have c22b0 : decide (t103 ≤ a0) = false := decide_eq_false c22
                  clear c22
                  have H' := Aside0.mk H
                  clear H
                  go_wp2
                  go_meet
                  case rel => exact ⟨_, (false), (by first | rfl | (simp; done) | (simp [*]; done)), H', ⟨by have := HJ6.out; first | omega | exact Nat.le_refl _⟩, ⟨by repeat (first | (with_reducible first | exact HB.out | apply below_alloc | apply pw_below_drewN | apply below_drew1) | exact HB.out)⟩⟩
              · rw [if_neg c21] at H
                have c21b0 : decide (0 < a1) = false := decide_eq_false c21
                clear c21
                by_cases c23 : t102 ≤ a0
                · rw [if_pos c23] at H
                  have c23b0 : decide (t102 ≤ a0) = true := decide_eq_true c23
                  clear c23
                  by_cases c24 : t103 ≤ a0
                  · rw [if_pos c24] at H
                    have c24b0 : decide (t103 ≤ a0) = true := decide_eq_true c24
                    clear c24
                    have H' := Aside0.mk H
                    clear H
                    go_wp2
                    go_meet
                    case rel => exact ⟨_, (decide (t103 ≥ a0)), (by first | rfl | (simp; done) | (simp [*]; done)), H', ⟨by have := HJ6.out; first | omega | exact Nat.le_refl _⟩, ⟨by repeat (first | (with_reducible first | exact HB.out | apply below_alloc | apply pw_below_drewN | apply below_drew1) | exact HB.out)⟩⟩
                  · rw [if_neg c24] at H
                    have c24b0 : decide (t103 ≤ a0) = false := decide_eq_false c24
                    clear c24
                    have H' := Aside0.mk H
                    clear H
                    go_wp2
                    go_meet
                    case rel => exact ⟨_, (false), (by first | rfl | (simp; done) | (simp [*]; done)), H', ⟨by have := HJ6.out; first | omega | exact Nat.le_refl _⟩, ⟨by repeat (first | (with_reducible first | exact HB.out | apply below_alloc | apply pw_below_drewN | apply below_drew1) | exact HB.out)⟩⟩
                · rw [if_neg c23] at H
                  have c23b0 : decide (t102 ≤ a0) = false := decide_eq_false c23
                  clear c23
                  have H' := Aside0.mk H
                  clear H
                  go_wp2
                  go_meet
                  case rel => exact ⟨_, (false), (by first | rfl | (simp; done) | (simp [*]; done)), H', ⟨by have := HJ6.out; first | omega | exact Nat.le_refl _⟩, ⟨by repeat (first | (with_reducible first | exact HB.out | apply below_alloc | apply pw_below_drewN | apply below_drew1) | exact HB.out)⟩⟩
            · rw [if_neg c20] at H
              have c20b0 : decide (a0 ≤ t102) = false := decide_eq_false c20
              clear c20
              have H' := Aside0.mk H
              clear H
              go_wp2
              go_meet
              case rel => exact ⟨_, (false), (by first | rfl | (simp; done) | (simp [*]; done)), H', ⟨by have := HJ6.out; first | omega | exact Nat.le_refl _⟩, ⟨by repeat (first | (with_reducible first | exact HB.out | apply below_alloc | apply pw_below_drewN | apply below_drew1) | exact HB.out)⟩⟩
      case rest =>
        clear HC16
        try clear c1
        try clear c2
        try clear p2
        try clear c8
        try clear c10
        try clear c10b0
        try clear c10b1
        try clear c12
        try clear c12b0
        try clear c12b1
        try clear c14
        try clear c14b0
        try clear c14b1
        try clear c17
        try clear c17b0
        try clear c18
        try clear c18b0
        try clear c19
        try clear c19b0
        try clear c20
        try clear c20b0
        try clear c21
        try clear c21b0
        try clear c22
        try clear c22b0
        try clear c23
        try clear c23b0
        try clear c24
        try clear c24b0
        try clear p2
        obtain ⟨kq, x11_15, rfl, HA, HJ15, HB⟩ := hcut
        cases kq with
        | zero => exact absurd HA.out (by simp [bournelaw01_ExactLimits.j1])
        | succ kj15 =>
          have H := HA.out
          clear HA
          simp only [bournelaw01_ExactLimits.j1] at H
          have HC25 := Aside0.mk H
          clear H
          go_upto_region 6 with (fail)
          go_cut [12] (fun v12 wc => ∃ (kq : Nat) (x12_24 : Bool), v12 = .bool x12_24 ∧ Aside0 (bournelaw01_ExactLimits.j2 kq a0 a1 a2 t101 x10_6 x11_15 x12_24 = some r) ∧ Aside0 (kq ≤ kj15) ∧ Aside0 (Below w.heap.size w wc))
          case first =>
            as_aux_lemma =>
              have H := HC25.out
              clear HC25
              by_cases c26 : t102 = 9223372036854775807
              · rw [if_pos c26] at H
                have c26b0 : (t102 == 9223372036854775807) = true := beq_iff_eq.mpr c26
                have c26b1 : (t102 != 9223372036854775807) = false := bne_eq_false_iff_eq.mpr c26
                clear c26
                (first | rw [c26b0] | (simp only [i64_w, i32_w]; rw [c26b0]) | skip)
                have H' := Aside0.mk H
                clear H
                go_wp2
                go_meet
                case rel => exact ⟨_, (true), (by first | rfl | (simp; done) | (simp [*]; done)), H', ⟨by have := HJ6.out; have := HJ15.out; first | omega | exact Nat.le_refl _⟩, ⟨by repeat (first | (with_reducible first | exact HB.out | apply below_alloc | apply pw_below_drewN | apply below_drew1) | exact HB.out)⟩⟩
              · rw [if_neg c26] at H
                have c26b0 : (t102 == 9223372036854775807) = false := beq_eq_false_iff_ne.mpr c26
                have c26b1 : (t102 != 9223372036854775807) = true := bne_iff_ne.mpr c26
                (first | rw [c26b0] | (simp only [i64_w, i32_w]; rw [c26b0]) | skip)
                by_cases c27 : t102 = (-9223372036854775808)
                · rw [if_pos c27] at H
                  have c27b0 : (t102 == (-9223372036854775808)) = true := beq_iff_eq.mpr c27
                  have c27b1 : (t102 != (-9223372036854775808)) = false := bne_eq_false_iff_eq.mpr c27
                  clear c27
                  have H' := Aside0.mk H
                  clear H
                  go_wp2
                  go_meet
                  case rel => exact ⟨_, (true), (by first | rfl | (simp; done) | (simp [*]; done)), H', ⟨by have := HJ6.out; have := HJ15.out; first | omega | exact Nat.le_refl _⟩, ⟨by repeat (first | (with_reducible first | exact HB.out | apply below_alloc | apply pw_below_drewN | apply below_drew1) | exact HB.out)⟩⟩
                · rw [if_neg c27] at H
                  have c27b0 : (t102 == (-9223372036854775808)) = false := beq_eq_false_iff_ne.mpr c27
                  have c27b1 : (t102 != (-9223372036854775808)) = true := bne_iff_ne.mpr c27
                  replace H := Option.bind_eq_some_iff.mp H
                  obtain ⟨t108, A280, H⟩ := H
                  replace H : (if t108 = a0 then ((exact_Sub.f t102 a0).bind fun t109 => (bournelaw01_ExactLimits.j2 kj15 a0 a1 a2 t101 x10_6 x11_15 (t109 == a1))) else (bournelaw01_ExactLimits.j2 kj15 a0 a1 a2 t101 x10_6 x11_15 false)) = some r := H
                  have A28 := Aside0.mk A280
                  clear A280
                  by_cases c29 : t108 = a0
                  · rw [if_pos c29] at H
                    have c29b0 : (t108 == a0) = true := beq_iff_eq.mpr c29
                    have c29b1 : (t108 != a0) = false := bne_eq_false_iff_eq.mpr c29
                    clear c29
                    replace H := Option.bind_eq_some_iff.mp H
                    obtain ⟨t109, A300, H⟩ := H
                    replace H : (bournelaw01_ExactLimits.j2 kj15 a0 a1 a2 t101 x10_6 x11_15 (t109 == a1)) = some r := H
                    have A30 := Aside0.mk A300
                    clear A300
                    have H' := Aside0.mk H
                    clear H
                    go_wp2_with (first | (go_at_call 26; (with_reducible refine (exact_Sub.calls t102 a1 t108 _ A28.out).mono ?_); rintro e w' ⟨rfl, ⟨nd, rfl⟩⟩) | (go_at_call 26; (with_reducible refine (exact_Sub.calls t102 a0 t109 _ A30.out).mono ?_); rintro e w' ⟨rfl, ⟨nd, rfl⟩⟩))
                    go_meet
                    case rel => exact ⟨_, ((t109 == a1)), (by first | rfl | (simp; done) | (simp [*]; done)), H', ⟨by have := HJ6.out; have := HJ15.out; first | omega | exact Nat.le_refl _⟩, ⟨by repeat (first | (with_reducible first | exact HB.out | apply below_alloc | apply pw_below_drewN | apply below_drew1) | exact HB.out)⟩⟩
                  · rw [if_neg c29] at H
                    have c29b0 : (t108 == a0) = false := beq_eq_false_iff_ne.mpr c29
                    have c29b1 : (t108 != a0) = true := bne_iff_ne.mpr c29
                    have H' := Aside0.mk H
                    clear H
                    go_wp2_with (first | (go_at_call 26; (with_reducible refine (exact_Sub.calls t102 a1 t108 _ A28.out).mono ?_); rintro e w' ⟨rfl, ⟨nd, rfl⟩⟩))
                    go_meet
                    case rel => exact ⟨_, (false), (by first | rfl | (simp; done) | (simp [*]; done)), H', ⟨by have := HJ6.out; have := HJ15.out; first | omega | exact Nat.le_refl _⟩, ⟨by repeat (first | (with_reducible first | exact HB.out | apply below_alloc | apply pw_below_drewN | apply below_drew1) | exact HB.out)⟩⟩
          case rest =>
            clear HC25
            try clear c1
            try clear c2
            try clear p2
            try clear c8
            try clear c10
            try clear c10b0
            try clear c10b1
            try clear c12
            try clear c12b0
            try clear c12b1
            try clear c14
            try clear c14b0
            try clear c14b1
            try clear c17
            try clear c17b0
            try clear c18
            try clear c18b0
            try clear c19
            try clear c19b0
            try clear c20
            try clear c20b0
            try clear c21
            try clear c21b0
            try clear c22
            try clear c22b0
            try clear c23
            try clear c23b0
            try clear c24
            try clear c24b0
            try clear c26
            try clear c26b0
            try clear c26b1
            try clear c27
            try clear c27b0
            try clear c27b1
            try clear c29
            try clear c29b0
            try clear c29b1
            try clear p2
            obtain ⟨kq, x12_24, rfl, HA, HJ24, HB⟩ := hcut
            cases kq with
            | zero => exact absurd HA.out (by simp [bournelaw01_ExactLimits.j2])
            | succ kj24 =>
              have H := HA.out
              clear HA
              simp only [bournelaw01_ExactLimits.j2] at H
              have HC31 := Aside0.mk H
              clear H
              go_upto_region 7 with (fail)
              go_cut [13] (fun v13 wc => ∃ (kq : Nat) (x13_30 : Bool), v13 = .bool x13_30 ∧ Aside0 (bournelaw01_ExactLimits.j3 kq a0 a1 a2 t101 x10_6 x11_15 x12_24 x13_30 = some r) ∧ Aside0 (kq ≤ kj24) ∧ Aside0 (Below w.heap.size w wc))
              case first =>
                as_aux_lemma =>
                  have H := HC31.out
                  clear HC31
                  by_cases c32 : a0 > a2
                  · rw [if_pos c32] at H
                    have c32b0 : decide (a2 < a0) = true := decide_eq_true c32
                    clear c32
                    (first | rw [c32b0] | (simp only [i64_w, i32_w]; rw [c32b0]) | skip)
                    have H' := Aside0.mk H
                    clear H
                    go_wp2
                    go_meet
                    case rel => exact ⟨_, (true), (by first | rfl | (simp; done) | (simp [*]; done)), H', ⟨by have := HJ6.out; have := HJ15.out; have := HJ24.out; first | omega | exact Nat.le_refl _⟩, ⟨by repeat (first | (with_reducible first | exact HB.out | apply below_alloc | apply pw_below_drewN | apply below_drew1) | exact HB.out)⟩⟩
                  · rw [if_neg c32] at H
                    have c32b0 : decide (a2 < a0) = false := decide_eq_false c32
                    clear c32
                    (first | rw [c32b0] | (simp only [i64_w, i32_w]; rw [c32b0]) | skip)
                    replace H := Option.bind_eq_some_iff.mp H
                    obtain ⟨t110, A330, H⟩ := H
                    replace H : ((exact_Add.f a2 a1).bind fun t111 => (if t110 ≤ t111 then ((exact_Sub.f a0 a1).bind fun t112 => ((exact_Sub.f a2 a1).bind fun t113 => (bournelaw01_ExactLimits.j3 kj24 a0 a1 a2 t101 x10_6 x11_15 x12_24 (decide (t112 ≤ t113))))) else (bournelaw01_ExactLimits.j3 kj24 a0 a1 a2 t101 x10_6 x11_15 x12_24 false))) = some r := H
                    have A33 := Aside0.mk A330
                    clear A330
                    replace H := Option.bind_eq_some_iff.mp H
                    obtain ⟨t111, A340, H⟩ := H
                    replace H : (if t110 ≤ t111 then ((exact_Sub.f a0 a1).bind fun t112 => ((exact_Sub.f a2 a1).bind fun t113 => (bournelaw01_ExactLimits.j3 kj24 a0 a1 a2 t101 x10_6 x11_15 x12_24 (decide (t112 ≤ t113))))) else (bournelaw01_ExactLimits.j3 kj24 a0 a1 a2 t101 x10_6 x11_15 x12_24 false)) = some r := H
                    have A34 := Aside0.mk A340
                    clear A340
                    by_cases c35 : t110 ≤ t111
                    · rw [if_pos c35] at H
                      have c35b0 : decide (t110 ≤ t111) = true := decide_eq_true c35
                      clear c35
                      replace H := Option.bind_eq_some_iff.mp H
                      obtain ⟨t112, A360, H⟩ := H
                      replace H : ((exact_Sub.f a2 a1).bind fun t113 => (bournelaw01_ExactLimits.j3 kj24 a0 a1 a2 t101 x10_6 x11_15 x12_24 (decide (t112 ≤ t113)))) = some r := H
                      have A36 := Aside0.mk A360
                      clear A360
                      replace H := Option.bind_eq_some_iff.mp H
                      obtain ⟨t113, A370, H⟩ := H
                      replace H : (bournelaw01_ExactLimits.j3 kj24 a0 a1 a2 t101 x10_6 x11_15 x12_24 (decide (t112 ≤ t113))) = some r := H
                      have A37 := Aside0.mk A370
                      clear A370
                      have H' := Aside0.mk H
                      clear H
                      go_wp2_with (first | (go_at_call 24; (with_reducible refine (exact_Add.calls a0 a1 t110 _ A33.out).mono ?_); rintro e w' ⟨rfl, ⟨nd, rfl⟩⟩) | (go_at_call 24; (with_reducible refine (exact_Add.calls a2 a1 t111 _ A34.out).mono ?_); rintro e w' ⟨rfl, ⟨nd, rfl⟩⟩) | (go_at_call 26; (with_reducible refine (exact_Sub.calls a0 a1 t112 _ A36.out).mono ?_); rintro e w' ⟨rfl, ⟨nd, rfl⟩⟩) | (go_at_call 26; (with_reducible refine (exact_Sub.calls a2 a1 t113 _ A37.out).mono ?_); rintro e w' ⟨rfl, ⟨nd, rfl⟩⟩))
                      go_meet
                      case rel => exact ⟨_, (decide (t112 ≤ t113)), (by first | rfl | (simp; done) | (simp [*]; done)), H', ⟨by have := HJ6.out; have := HJ15.out; have := HJ24.out; first | omega | exact Nat.le_refl _⟩, ⟨by repeat (first | (with_reducible first | exact HB.out | apply below_alloc | apply pw_below_drewN | apply below_drew1) | exact HB.out)⟩⟩
                    · rw [if_neg c35] at H
                      have c35b0 : decide (t110 ≤ t111) = false := decide_eq_false c35
                      clear c35
                      have H' := Aside0.mk H
                      clear H
                      go_wp2_with (first | (go_at_call 24; (with_reducible refine (exact_Add.calls a0 a1 t110 _ A33.out).mono ?_); rintro e w' ⟨rfl, ⟨nd, rfl⟩⟩) | (go_at_call 24; (with_reducible refine (exact_Add.calls a2 a1 t111 _ A34.out).mono ?_); rintro e w' ⟨rfl, ⟨nd, rfl⟩⟩))
                      go_meet
                      case rel => exact ⟨_, (false), (by first | rfl | (simp; done) | (simp [*]; done)), H', ⟨by have := HJ6.out; have := HJ15.out; have := HJ24.out; first | omega | exact Nat.le_refl _⟩, ⟨by repeat (first | (with_reducible first | exact HB.out | apply below_alloc | apply pw_below_drewN | apply below_drew1) | exact HB.out)⟩⟩
              case rest =>
                clear HC31
                try clear c1
                try clear c2
                try clear p2
                try clear c3
                try clear c8
                try clear c10
                try clear c10b0
                try clear c10b1
                try clear c12
                try clear c12b0
                try clear c12b1
                try clear c14
                try clear c14b0
                try clear c14b1
                try clear c17
                try clear c17b0
                try clear c18
                try clear c18b0
                try clear c19
                try clear c19b0
                try clear c20
                try clear c20b0
                try clear c21
                try clear c21b0
                try clear c22
                try clear c22b0
                try clear c23
                try clear c23b0
                try clear c24
                try clear c24b0
                try clear c26
                try clear c26b0
                try clear c26b1
                try clear c27
                try clear c27b0
                try clear c27b1
                try clear c29
                try clear c29b0
                try clear c29b1
                try clear c32
                try clear c32b0
                try clear c35
                try clear c35b0
                try clear p2
                obtain ⟨kq, x13_30, rfl, HA, HJ30, HB⟩ := hcut
                cases kq with
                | zero => exact absurd HA.out (by simp [bournelaw01_ExactLimits.j3])
                | succ kj30 =>
                  have H := HA.out
                  clear HA
                  simp only [bournelaw01_ExactLimits.j3] at H
                  replace H := Option.bind_eq_some_iff.mp H
                  obtain ⟨t114, A380, H⟩ := H
                  replace H : (if a0 > a1 then (bournelaw01_ExactLimits.j4 kj30 t101 x10_6 x11_15 x12_24 x13_30 true) else (if t114 ≥ a0 then (if t114 ≤ a1 then ((exact_Clamp.f t114 a0 a1).bind fun t115 => (if t115 = t114 then (if a2 < a0 then (bournelaw01_ExactLimits.j4 kj30 t101 x10_6 x11_15 x12_24 x13_30 true) else (if a2 > a1 then (bournelaw01_ExactLimits.j4 kj30 t101 x10_6 x11_15 x12_24 x13_30 true) else (bournelaw01_ExactLimits.j4 kj30 t101 x10_6 x11_15 x12_24 x13_30 (t114 == a2)))) else (bournelaw01_ExactLimits.j4 kj30 t101 x10_6 x11_15 x12_24 x13_30 false))) else (bournelaw01_ExactLimits.j4 kj30 t101 x10_6 x11_15 x12_24 x13_30 false)) else (bournelaw01_ExactLimits.j4 kj30 t101 x10_6 x11_15 x12_24 x13_30 false))) = some r := H
                  have A38 := Aside0.mk A380
                  clear A380
                  have HC39 := Aside0.mk H
                  clear H
                  go_upto_region 9 with (first | ((with_reducible refine gate_callee (f := 22) rfl ?_); refine goesL_ (some 124) rfl rfl Try.func22 (by kernel_rfl) rfl #[.int .i64 a2, .int .i64 a0, .int .i64 a1] rfl (by (try simp only [List.map_toArray, List.map_cons, List.map_nil]); first | done | rfl | (simp only [List.length_drop, List.length_take]; rfl)) ?_; (with_reducible refine (exact_Clamp.calls a2 a0 a1 t114 _ A38.out).mono ?_); rintro e w' ⟨rfl, ⟨nd, rfl⟩⟩; refine ⟨_, rfl, ?_⟩))
                  (try simp only [Act.put, List.setIfInBounds_toArray, List.set_cons_zero, List.set_cons_succ])
                  go_cut [15] (fun v15 wc => ∃ (kq : Nat) (x15_38 : Bool), v15 = .bool x15_38 ∧ Aside0 (bournelaw01_ExactLimits.j4 kq t101 x10_6 x11_15 x12_24 x13_30 x15_38 = some r) ∧ Aside0 (kq ≤ kj30) ∧ Aside0 (Below w.heap.size w wc))
                  case first =>
                    as_aux_lemma =>
                      have H := HC39.out
                      clear HC39
                      by_cases c40 : a0 > a1
                      · rw [if_pos c40] at H
                        have c40b0 : decide (a1 < a0) = true := decide_eq_true c40
                        clear c40
                        (first | rw [c40b0] | (simp only [i64_w, i32_w]; rw [c40b0]) | skip)
                        have H' := Aside0.mk H
                        clear H
                        go_wp2
                        go_meet
                        case rel => exact ⟨_, (true), (by first | rfl | (simp; done) | (simp [*]; done)), H', ⟨by have := HJ6.out; have := HJ15.out; have := HJ24.out; have := HJ30.out; first | omega | exact Nat.le_refl _⟩, ⟨by repeat (first | (with_reducible first | exact HB.out | apply below_alloc | apply pw_below_drewN | apply below_drew1) | exact HB.out)⟩⟩
                      · rw [if_neg c40] at H
                        have c40b0 : decide (a1 < a0) = false := decide_eq_false c40
                        clear c40
                        (first | rw [c40b0] | (simp only [i64_w, i32_w]; rw [c40b0]) | skip)
                        by_cases c41 : t114 ≥ a0
                        · rw [if_pos c41] at H
                          have c41b0 : decide (a0 ≤ t114) = true := decide_eq_true c41
                          clear c41
                          by_cases c42 : t114 ≤ a1
                          · rw [if_pos c42] at H
                            have c42b0 : decide (t114 ≤ a1) = true := decide_eq_true c42
                            clear c42
                            replace H := Option.bind_eq_some_iff.mp H
                            obtain ⟨t115, A430, H⟩ := H
                            replace H : (if t115 = t114 then (if a2 < a0 then (bournelaw01_ExactLimits.j4 kj30 t101 x10_6 x11_15 x12_24 x13_30 true) else (if a2 > a1 then (bournelaw01_ExactLimits.j4 kj30 t101 x10_6 x11_15 x12_24 x13_30 true) else (bournelaw01_ExactLimits.j4 kj30 t101 x10_6 x11_15 x12_24 x13_30 (t114 == a2)))) else (bournelaw01_ExactLimits.j4 kj30 t101 x10_6 x11_15 x12_24 x13_30 false)) = some r := H
                            have A43 := Aside0.mk A430
                            clear A430
                            by_cases c44 : t115 = t114
                            · rw [if_pos c44] at H
                              have c44b0 : (t115 == t114) = true := beq_iff_eq.mpr c44
                              have c44b1 : (t115 != t114) = false := bne_eq_false_iff_eq.mpr c44
                              clear c44
                              by_cases c45 : a2 < a0
                              · rw [if_pos c45] at H
                                have c45b0 : decide (a2 < a0) = true := decide_eq_true c45
                                clear c45
                                have H' := Aside0.mk H
                                clear H
                                go_wp2_with (first | (go_at_call 22; (with_reducible refine (exact_Clamp.calls t114 a0 a1 t115 _ A43.out).mono ?_); rintro e w' ⟨rfl, ⟨nd, rfl⟩⟩))
                                go_meet
                                case rel => exact ⟨_, (true), (by first | rfl | (simp; done) | (simp [*]; done)), H', ⟨by have := HJ6.out; have := HJ15.out; have := HJ24.out; have := HJ30.out; first | omega | exact Nat.le_refl _⟩, ⟨by repeat (first | (with_reducible first | exact HB.out | apply below_alloc | apply pw_below_drewN | apply below_drew1) | exact HB.out)⟩⟩
                              · rw [if_neg c45] at H
                                have c45b0 : decide (a2 < a0) = false := decide_eq_false c45
                                clear c45
                                by_cases c46 : a2 > a1
                                · rw [if_pos c46] at H
                                  have c46b0 : decide (a1 < a2) = true := decide_eq_true c46
                                  clear c46
                                  have H' := Aside0.mk H
                                  clear H
                                  go_wp2_with (first | (go_at_call 22; (with_reducible refine (exact_Clamp.calls t114 a0 a1 t115 _ A43.out).mono ?_); rintro e w' ⟨rfl, ⟨nd, rfl⟩⟩))
                                  go_meet
                                  case rel => exact ⟨_, (true), (by first | rfl | (simp; done) | (simp [*]; done)), H', ⟨by have := HJ6.out; have := HJ15.out; have := HJ24.out; have := HJ30.out; first | omega | exact Nat.le_refl _⟩, ⟨by repeat (first | (with_reducible first | exact HB.out | apply below_alloc | apply pw_below_drewN | apply below_drew1) | exact HB.out)⟩⟩
                                · rw [if_neg c46] at H
                                  have c46b0 : decide (a1 < a2) = false := decide_eq_false c46
                                  clear c46
                                  have H' := Aside0.mk H
                                  clear H
                                  go_wp2_with (first | (go_at_call 22; (with_reducible refine (exact_Clamp.calls t114 a0 a1 t115 _ A43.out).mono ?_); rintro e w' ⟨rfl, ⟨nd, rfl⟩⟩))
                                  go_meet
                                  case rel => exact ⟨_, ((t114 == a2)), (by first | rfl | (simp; done) | (simp [*]; done)), H', ⟨by have := HJ6.out; have := HJ15.out; have := HJ24.out; have := HJ30.out; first | omega | exact Nat.le_refl _⟩, ⟨by repeat (first | (with_reducible first | exact HB.out | apply below_alloc | apply pw_below_drewN | apply below_drew1) | exact HB.out)⟩⟩
                            · rw [if_neg c44] at H
                              have c44b0 : (t115 == t114) = false := beq_eq_false_iff_ne.mpr c44
                              have c44b1 : (t115 != t114) = true := bne_iff_ne.mpr c44
                              have H' := Aside0.mk H
                              clear H
                              go_wp2_with (first | (go_at_call 22; (with_reducible refine (exact_Clamp.calls t114 a0 a1 t115 _ A43.out).mono ?_); rintro e w' ⟨rfl, ⟨nd, rfl⟩⟩))
                              go_meet
                              case rel => exact ⟨_, (false), (by first | rfl | (simp; done) | (simp [*]; done)), H', ⟨by have := HJ6.out; have := HJ15.out; have := HJ24.out; have := HJ30.out; first | omega | exact Nat.le_refl _⟩, ⟨by repeat (first | (with_reducible first | exact HB.out | apply below_alloc | apply pw_below_drewN | apply below_drew1) | exact HB.out)⟩⟩
                          · rw [if_neg c42] at H
                            have c42b0 : decide (t114 ≤ a1) = false := decide_eq_false c42
                            clear c42
                            have H' := Aside0.mk H
                            clear H
                            go_wp2
                            go_meet
                            case rel => exact ⟨_, (false), (by first | rfl | (simp; done) | (simp [*]; done)), H', ⟨by have := HJ6.out; have := HJ15.out; have := HJ24.out; have := HJ30.out; first | omega | exact Nat.le_refl _⟩, ⟨by repeat (first | (with_reducible first | exact HB.out | apply below_alloc | apply pw_below_drewN | apply below_drew1) | exact HB.out)⟩⟩
                        · rw [if_neg c41] at H
                          have c41b0 : decide (a0 ≤ t114) = false := decide_eq_false c41
                          clear c41
                          have H' := Aside0.mk H
                          clear H
                          go_wp2
                          go_meet
                          case rel => exact ⟨_, (false), (by first | rfl | (simp; done) | (simp [*]; done)), H', ⟨by have := HJ6.out; have := HJ15.out; have := HJ24.out; have := HJ30.out; first | omega | exact Nat.le_refl _⟩, ⟨by repeat (first | (with_reducible first | exact HB.out | apply below_alloc | apply pw_below_drewN | apply below_drew1) | exact HB.out)⟩⟩
                  case rest =>
                    clear HC39
                    try clear c1
                    try clear c2
                    try clear p2
                    try clear c3
                    try clear c4
                    try clear c8
                    try clear c10
                    try clear c10b0
                    try clear c10b1
                    try clear c12
                    try clear c12b0
                    try clear c12b1
                    try clear c14
                    try clear c14b0
                    try clear c14b1
                    try clear c17
                    try clear c17b0
                    try clear c18
                    try clear c18b0
                    try clear c19
                    try clear c19b0
                    try clear c20
                    try clear c20b0
                    try clear c21
                    try clear c21b0
                    try clear c22
                    try clear c22b0
                    try clear c23
                    try clear c23b0
                    try clear c24
                    try clear c24b0
                    try clear c26
                    try clear c26b0
                    try clear c26b1
                    try clear c27
                    try clear c27b0
                    try clear c27b1
                    try clear c29
                    try clear c29b0
                    try clear c29b1
                    try clear c32
                    try clear c32b0
                    try clear c35
                    try clear c35b0
                    try clear c40
                    try clear c40b0
                    try clear c41
                    try clear c41b0
                    try clear c42
                    try clear c42b0
                    try clear c44
                    try clear c44b0
                    try clear c44b1
                    try clear c45
                    try clear c45b0
                    try clear c46
                    try clear c46b0
                    try clear p2
                    obtain ⟨kq, x15_38, rfl, HA, HJ38, HB⟩ := hcut
                    cases kq with
                    | zero => exact absurd HA.out (by simp [bournelaw01_ExactLimits.j4])
                    | succ kj38 =>
                      have H := HA.out
                      clear HA
                      simp only [bournelaw01_ExactLimits.j4] at H
                      have HC47 := Aside0.mk H
                      clear H
                      go_upto_region 10 with (fail)
                      go_cut [6] (fun v6 wc => ∃ (kq : Nat) (x6_46 : Bool), v6 = .bool x6_46 ∧ Aside0 (bournelaw01_ExactLimits.j5 kq x6_46 = some r) ∧ Aside0 (kq ≤ kj38) ∧ Aside0 (Below w.heap.size w wc))
                      case first =>
                        as_aux_lemma =>
                          have H := HC47.out
                          clear HC47
                          by_cases c48 : t101 = true
                          · subst c48
                            have H1 : (if x10_6 = true then (if x11_15 = true then (if x12_24 = true then (if x13_30 = true then (bournelaw01_ExactLimits.j5 kj38 x15_38) else (bournelaw01_ExactLimits.j5 kj38 false)) else (bournelaw01_ExactLimits.j5 kj38 false)) else (bournelaw01_ExactLimits.j5 kj38 false)) else (bournelaw01_ExactLimits.j5 kj38 false)) = some r := by rw [if_pos rfl] at H; exact H
                            clear H
                            have H := H1
                            clear H1
                            by_cases c49 : x10_6 = true
                            · subst c49
                              have H1 : (if x11_15 = true then (if x12_24 = true then (if x13_30 = true then (bournelaw01_ExactLimits.j5 kj38 x15_38) else (bournelaw01_ExactLimits.j5 kj38 false)) else (bournelaw01_ExactLimits.j5 kj38 false)) else (bournelaw01_ExactLimits.j5 kj38 false)) = some r := by rw [if_pos rfl] at H; exact H
                              clear H
                              have H := H1
                              clear H1
                              by_cases c50 : x11_15 = true
                              · subst c50
                                have H1 : (if x12_24 = true then (if x13_30 = true then (bournelaw01_ExactLimits.j5 kj38 x15_38) else (bournelaw01_ExactLimits.j5 kj38 false)) else (bournelaw01_ExactLimits.j5 kj38 false)) = some r := by rw [if_pos rfl] at H; exact H
                                clear H
                                have H := H1
                                clear H1
                                by_cases c51 : x12_24 = true
                                · subst c51
                                  have H1 : (if x13_30 = true then (bournelaw01_ExactLimits.j5 kj38 x15_38) else (bournelaw01_ExactLimits.j5 kj38 false)) = some r := by rw [if_pos rfl] at H; exact H
                                  clear H
                                  have H := H1
                                  clear H1
                                  by_cases c52 : x13_30 = true
                                  · subst c52
                                    have H1 : (bournelaw01_ExactLimits.j5 kj38 x15_38) = some r := by rw [if_pos rfl] at H; exact H
                                    clear H
                                    have H := H1
                                    clear H1
                                    have H' := Aside0.mk H
                                    clear H
                                    go_wp2
                                    go_meet
                                    case rel => exact ⟨_, (x15_38), (by first | rfl | (simp; done) | (simp [*]; done)), H', ⟨by have := HJ6.out; have := HJ15.out; have := HJ24.out; have := HJ30.out; have := HJ38.out; first | omega | exact Nat.le_refl _⟩, ⟨by repeat (first | (with_reducible first | exact HB.out | apply below_alloc | apply pw_below_drewN | apply below_drew1) | exact HB.out)⟩⟩
                                  · replace c52 := Bool.eq_false_iff.mpr c52
                                    subst c52
                                    have H1 : (bournelaw01_ExactLimits.j5 kj38 false) = some r := by rw [if_neg (show ¬ (false = true) by decide)] at H; exact H
                                    clear H
                                    have H := H1
                                    clear H1
                                    have H' := Aside0.mk H
                                    clear H
                                    go_wp2
                                    go_meet
                                    case rel => exact ⟨_, (false), (by first | rfl | (simp; done) | (simp [*]; done)), H', ⟨by have := HJ6.out; have := HJ15.out; have := HJ24.out; have := HJ30.out; have := HJ38.out; first | omega | exact Nat.le_refl _⟩, ⟨by repeat (first | (with_reducible first | exact HB.out | apply below_alloc | apply pw_below_drewN | apply below_drew1) | exact HB.out)⟩⟩
                                · replace c51 := Bool.eq_false_iff.mpr c51
                                  subst c51
                                  have H1 : (bournelaw01_ExactLimits.j5 kj38 false) = some r := by rw [if_neg (show ¬ (false = true) by decide)] at H; exact H
                                  clear H
                                  have H := H1
                                  clear H1
                                  have H' := Aside0.mk H
                                  clear H
                                  go_wp2
                                  go_meet
                                  case rel => exact ⟨_, (false), (by first | rfl | (simp; done) | (simp [*]; done)), H', ⟨by have := HJ6.out; have := HJ15.out; have := HJ24.out; have := HJ30.out; have := HJ38.out; first | omega | exact Nat.le_refl _⟩, ⟨by repeat (first | (with_reducible first | exact HB.out | apply below_alloc | apply pw_below_drewN | apply below_drew1) | exact HB.out)⟩⟩
                              · replace c50 := Bool.eq_false_iff.mpr c50
                                subst c50
                                have H1 : (bournelaw01_ExactLimits.j5 kj38 false) = some r := by rw [if_neg (show ¬ (false = true) by decide)] at H; exact H
                                clear H
                                have H := H1
                                clear H1
                                have H' := Aside0.mk H
                                clear H
                                go_wp2
                                go_meet
                                case rel => exact ⟨_, (false), (by first | rfl | (simp; done) | (simp [*]; done)), H', ⟨by have := HJ6.out; have := HJ15.out; have := HJ24.out; have := HJ30.out; have := HJ38.out; first | omega | exact Nat.le_refl _⟩, ⟨by repeat (first | (with_reducible first | exact HB.out | apply below_alloc | apply pw_below_drewN | apply below_drew1) | exact HB.out)⟩⟩
                            · replace c49 := Bool.eq_false_iff.mpr c49
                              subst c49
                              have H1 : (bournelaw01_ExactLimits.j5 kj38 false) = some r := by rw [if_neg (show ¬ (false = true) by decide)] at H; exact H
                              clear H
                              have H := H1
                              clear H1
                              have H' := Aside0.mk H
                              clear H
                              go_wp2
                              go_meet
                              case rel => exact ⟨_, (false), (by first | rfl | (simp; done) | (simp [*]; done)), H', ⟨by have := HJ6.out; have := HJ15.out; have := HJ24.out; have := HJ30.out; have := HJ38.out; first | omega | exact Nat.le_refl _⟩, ⟨by repeat (first | (with_reducible first | exact HB.out | apply below_alloc | apply pw_below_drewN | apply below_drew1) | exact HB.out)⟩⟩
                          · replace c48 := Bool.eq_false_iff.mpr c48
                            subst c48
                            have H1 : (bournelaw01_ExactLimits.j5 kj38 false) = some r := by rw [if_neg (show ¬ (false = true) by decide)] at H; exact H
                            clear H
                            have H := H1
                            clear H1
                            have H' := Aside0.mk H
                            clear H
                            go_wp2
                            go_meet
                            case rel => exact ⟨_, (false), (by first | rfl | (simp; done) | (simp [*]; done)), H', ⟨by have := HJ6.out; have := HJ15.out; have := HJ24.out; have := HJ30.out; have := HJ38.out; first | omega | exact Nat.le_refl _⟩, ⟨by repeat (first | (with_reducible first | exact HB.out | apply below_alloc | apply pw_below_drewN | apply below_drew1) | exact HB.out)⟩⟩
                      case rest =>
                        clear HC47
                        try clear c1
                        try clear c2
                        try clear p2
                        try clear c3
                        try clear c4
                        try clear c5
                        try clear c8
                        try clear c10
                        try clear c10b0
                        try clear c10b1
                        try clear c12
                        try clear c12b0
                        try clear c12b1
                        try clear c14
                        try clear c14b0
                        try clear c14b1
                        try clear c17
                        try clear c17b0
                        try clear c18
                        try clear c18b0
                        try clear c19
                        try clear c19b0
                        try clear c20
                        try clear c20b0
                        try clear c21
                        try clear c21b0
                        try clear c22
                        try clear c22b0
                        try clear c23
                        try clear c23b0
                        try clear c24
                        try clear c24b0
                        try clear c26
                        try clear c26b0
                        try clear c26b1
                        try clear c27
                        try clear c27b0
                        try clear c27b1
                        try clear c29
                        try clear c29b0
                        try clear c29b1
                        try clear c32
                        try clear c32b0
                        try clear c35
                        try clear c35b0
                        try clear c40
                        try clear c40b0
                        try clear c41
                        try clear c41b0
                        try clear c42
                        try clear c42b0
                        try clear c44
                        try clear c44b0
                        try clear c44b1
                        try clear c45
                        try clear c45b0
                        try clear c46
                        try clear c46b0
                        try clear c48
                        try clear c49
                        try clear c50
                        try clear c51
                        try clear c52
                        try clear p2
                        obtain ⟨kq, x6_46, rfl, HA, HJ46, HB⟩ := hcut
                        cases kq with
                        | zero => exact absurd HA.out (by simp [bournelaw01_ExactLimits.j5])
                        | succ kj46 =>
                          have H := HA.out
                          clear HA
                          simp only [bournelaw01_ExactLimits.j5] at H
                          obtain rfl := Option.some.inj H
                          go_wp2
                          go_ret
                          exact ⟨by first | rfl | (simp [errW_none, errW_some] <;> rfl) | (simp [*, errW_none, errW_some] <;> rfl), by repeat (first | (with_reducible first | exact HB.out | apply below_alloc | apply pw_below_drewN | apply below_drew1) | exact HB.out)⟩

/-- THE ONE PURE STATEMENT of bournelaw01_ExactLimits: yours. -/
def bournelaw01_ExactLimits.Pure : Prop := ∀ (a0 : Int) (a1 : Int) (a2 : Int), (Lit.int .i64 a0).wf = true → (Lit.int .i64 a1).wf = true → (Lit.int .i64 a2).wf = true → ∃ k, bournelaw01_ExactLimits.f k a0 a1 a2 = some true
theorem bournelaw01_ExactLimits.walk (P : bournelaw01_ExactLimits.Pure) (a0 : Int) (a1 : Int) (a2 : Int) (w : World) (w0 : (Lit.int .i64 a0).wf = true) (w1 : (Lit.int .i64 a1).wf = true) (w2 : (Lit.int .i64 a2).wf = true) :
    Calls Try.prog 8 #[.int .i64 a0, .int .i64 a1, .int .i64 a2] w fun e w' => e = .returned (.bool true) ∧ Below w.heap.size w w' := by
  obtain ⟨k, h⟩ := P a0 a1 a2 w0 w1 w2
  refine (bournelaw01_ExactLimits.calls k a0 a1 a2 true w h).mono ?_
  rintro e w' ⟨rfl, hd⟩
  exact ⟨rfl, hd⟩

end Go.Proofs.Ytcncjldggfbjdaa.PEm
