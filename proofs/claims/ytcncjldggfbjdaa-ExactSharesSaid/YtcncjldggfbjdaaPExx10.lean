-- Printed by this session's turned copy of the print (wip/turnprint.py).
import Derived.Test.YtcncjldggfbjdaaPExx0
import Derived.Test.YtcncjldggfbjdaaPExx3
import Derived.Test.YtcncjldggfbjdaaPExx5
import Derived.Test.YtcncjldggfbjdaaPExx9
import Derived.Test.YtcncjldggfbjdaaG2
namespace Go.Proofs.Ytcncjldggfbjdaa.PEx
open Go.RowKit Go.Proofs.Ytcncjldggfbjdaa.G2 Go.Proofs.YtcncjldggfbjdaaW.PrintWords Go.Proofs.YtcncjldggfbjdaaW.PrintLast Go.Proofs.YtcncjldggfbjdaaW.PrintMore
attribute [local go_sem] max2_int min2_int max_two min_two max_three min_three max_four min_four   -- for this text's walks alone
set_option linter.unusedVariables false
set_option linter.unusedSimpArgs false

/-! ### bournelaw01_ExactShares: function 5 -/
mutual
def bournelaw01_ExactShares.j0 : Nat → Int → List Int → Bool → Int → List Int → Bool → Bool → Option (Bool)
  | 0, _, _, _, _, _, _, _ => none
  | k + 1, x0, x1, x5, x6, x8, x9, x42 => if x42 = true then (some false) else (if x9 = true then (if (x8.length : Int) = (x1.length : Int) then (bournelaw01_ExactShares.l0 k x0 x1 x5 x6 x8 0 (-1) 0 (-1) 0 0) else (some false)) else (if x5 = true then (some ((x8.length : Int) == 0)) else (some false)))
def bournelaw01_ExactShares.l0 : Nat → Int → List Int → Bool → Int → List Int → Int → Int → Int → Int → Int → Int → Option (Bool)
  | 0, _, _, _, _, _, _, _, _, _, _, _ => none
  | k + 1, x0, x1, x5, x6, x8, x10, x11, x12, x13, x14, x15 => if x15 < (x1.length : Int) then (if 0 ≤ x15 then (if x15 < (x8.length : Int) then ((exact_Scale.f k x0 (rd x1 x15) (mx x6 1)).bind fun bt245 => (if (rd x8 x15) = bt245.1 then (if (rd x8 x15) > (rd x1 x15) then (bournelaw01_ExactShares.j2 k x0 x1 x5 x6 x8 (wrap64 (x10 + (rd x8 x15))) x11 x12 x13 x14 x15 bt245.1 bt245.2.1 true) else (if (rd x8 x15) = (wrap64 (bt245.1 + 1)) then (bournelaw01_ExactShares.j2 k x0 x1 x5 x6 x8 (wrap64 (x10 + (rd x8 x15))) x11 x12 x13 x14 x15 bt245.1 bt245.2.1 (bt245.2.1 == 0)) else (bournelaw01_ExactShares.j2 k x0 x1 x5 x6 x8 (wrap64 (x10 + (rd x8 x15))) x11 x12 x13 x14 x15 bt245.1 bt245.2.1 false))) else (if (rd x8 x15) = (wrap64 (bt245.1 + 1)) then (if (rd x8 x15) > (rd x1 x15) then (bournelaw01_ExactShares.j2 k x0 x1 x5 x6 x8 (wrap64 (x10 + (rd x8 x15))) x11 x12 x13 x14 x15 bt245.1 bt245.2.1 true) else (bournelaw01_ExactShares.j2 k x0 x1 x5 x6 x8 (wrap64 (x10 + (rd x8 x15))) x11 x12 x13 x14 x15 bt245.1 bt245.2.1 (bt245.2.1 == 0))) else (bournelaw01_ExactShares.j2 k x0 x1 x5 x6 x8 (wrap64 (x10 + (rd x8 x15))) x11 x12 x13 x14 x15 bt245.1 bt245.2.1 true)))) else (none)) else (none)) else (if x10 = x0 then (if x5 = true then (if x11 < 0 then (some true) else (if x13 < 0 then (some true) else (if x11 > x13 then (some true) else (if x11 = x13 then (some (decide (x12 < x14))) else (some false))))) else (some false)) else (some false))
def bournelaw01_ExactShares.j2 : Nat → Int → List Int → Bool → Int → List Int → Int → Int → Int → Int → Int → Int → Int → Int → Bool → Option (Bool)
  | 0, _, _, _, _, _, _, _, _, _, _, _, _, _, _ => none
  | k + 1, x0, x1, x5, x6, x8, x10, x11, x12, x13, x14, x15, x16, x17, x118 => if x118 = true then (some false) else (if 0 ≤ x15 then (if x15 < (x8.length : Int) then (if (rd x8 x15) = (wrap64 (x16 + 1)) then (if x11 < 0 then (bournelaw01_ExactShares.j3 k x0 x1 x5 x6 x8 x10 x11 x12 x13 x14 x15 x16 x17 true) else (bournelaw01_ExactShares.j3 k x0 x1 x5 x6 x8 x10 x11 x12 x13 x14 x15 x16 x17 (decide (x17 ≤ x11)))) else (bournelaw01_ExactShares.j3 k x0 x1 x5 x6 x8 x10 x11 x12 x13 x14 x15 x16 x17 false)) else (none)) else (none))
def bournelaw01_ExactShares.j3 : Nat → Int → List Int → Bool → Int → List Int → Int → Int → Int → Int → Int → Int → Int → Int → Bool → Option (Bool)
  | 0, _, _, _, _, _, _, _, _, _, _, _, _, _, _ => none
  | k + 1, x0, x1, x5, x6, x8, x10, x11, x12, x13, x14, x15, x16, x17, x134 => if x134 = true then (if 0 ≤ x15 then (if x15 < (x8.length : Int) then (if (rd x8 x15) = x16 then (if x17 > x13 then (bournelaw01_ExactShares.l0 k x0 x1 x5 x6 x8 x10 x17 x15 x17 x15 (wrap64 (x15 + 1))) else (bournelaw01_ExactShares.l0 k x0 x1 x5 x6 x8 x10 x17 x15 x13 x14 (wrap64 (x15 + 1)))) else (bournelaw01_ExactShares.l0 k x0 x1 x5 x6 x8 x10 x17 x15 x13 x14 (wrap64 (x15 + 1)))) else (none)) else (none)) else (if 0 ≤ x15 then (if x15 < (x8.length : Int) then (if (rd x8 x15) = x16 then (if x17 > x13 then (bournelaw01_ExactShares.l0 k x0 x1 x5 x6 x8 x10 x11 x12 x17 x15 (wrap64 (x15 + 1))) else (bournelaw01_ExactShares.l0 k x0 x1 x5 x6 x8 x10 x11 x12 x13 x14 (wrap64 (x15 + 1)))) else (bournelaw01_ExactShares.l0 k x0 x1 x5 x6 x8 x10 x11 x12 x13 x14 (wrap64 (x15 + 1)))) else (none)) else (none))
end
def bournelaw01_ExactShares.f (k : Nat) (a0 : Int) (l1 : List Int) : Option (Bool) := (bournelaw01_small.f k).bind fun t236 => ((bournelaw01_whole.f k l1).bind fun bt237 => ((exact_Share.f a0 l1).bind fun bt239 => (if bt237.2 = true then (if a0 ≥ 0 then (bournelaw01_ExactShares.j0 k a0 l1 t236 bt237.1 bt239.1 bt239.2 (bt239.2 != (decide (a0 ≤ bt237.1)))) else (bournelaw01_ExactShares.j0 k a0 l1 t236 bt237.1 bt239.1 bt239.2 (bt239.2 != false))) else (bournelaw01_ExactShares.j0 k a0 l1 t236 bt237.1 bt239.1 bt239.2 (bt239.2 != false)))))
theorem bournelaw01_ExactShares.mono_l : ∀ k, (∀ y0 y1 y2 y3 y4 y5 y6, LeO (bournelaw01_ExactShares.j0 k y0 y1 y2 y3 y4 y5 y6) (bournelaw01_ExactShares.j0 (k + 1) y0 y1 y2 y3 y4 y5 y6)) ∧ (∀ y0 y1 y2 y3 y4 y5 y6 y7 y8 y9 y10, LeO (bournelaw01_ExactShares.l0 k y0 y1 y2 y3 y4 y5 y6 y7 y8 y9 y10) (bournelaw01_ExactShares.l0 (k + 1) y0 y1 y2 y3 y4 y5 y6 y7 y8 y9 y10)) ∧ (∀ y0 y1 y2 y3 y4 y5 y6 y7 y8 y9 y10 y11 y12 y13, LeO (bournelaw01_ExactShares.j2 k y0 y1 y2 y3 y4 y5 y6 y7 y8 y9 y10 y11 y12 y13) (bournelaw01_ExactShares.j2 (k + 1) y0 y1 y2 y3 y4 y5 y6 y7 y8 y9 y10 y11 y12 y13)) ∧ (∀ y0 y1 y2 y3 y4 y5 y6 y7 y8 y9 y10 y11 y12 y13, LeO (bournelaw01_ExactShares.j3 k y0 y1 y2 y3 y4 y5 y6 y7 y8 y9 y10 y11 y12 y13) (bournelaw01_ExactShares.j3 (k + 1) y0 y1 y2 y3 y4 y5 y6 y7 y8 y9 y10 y11 y12 y13))
  | 0 => ⟨fun _ _ _ _ _ _ _ r h => by simp [bournelaw01_ExactShares.j0] at h, fun _ _ _ _ _ _ _ _ _ _ _ r h => by simp [bournelaw01_ExactShares.l0] at h, fun _ _ _ _ _ _ _ _ _ _ _ _ _ _ r h => by simp [bournelaw01_ExactShares.j2] at h, fun _ _ _ _ _ _ _ _ _ _ _ _ _ _ r h => by simp [bournelaw01_ExactShares.j3] at h⟩
  | k + 1 => by
    obtain ⟨ih0, ih1, ih2, ih3⟩ := bournelaw01_ExactShares.mono_l k
    refine ⟨?_, ?_, ?_, ?_⟩
    · intro y0 y1 y2 y3 y4 y5 y6
      unfold bournelaw01_ExactShares.j0
      repeat' first
      | (with_reducible exact ih0 _ _ _ _ _ _ _)
      | (with_reducible exact ih1 _ _ _ _ _ _ _ _ _ _ _)
      | (with_reducible exact ih2 _ _ _ _ _ _ _ _ _ _ _ _ _ _)
      | (with_reducible exact ih3 _ _ _ _ _ _ _ _ _ _ _ _ _ _)
      | (with_reducible exact bournelaw01_small.mono _)
      | (with_reducible exact bournelaw01_whole.mono _ _)
      | (with_reducible exact exact_Scale.mono _ _ _ _)
      | (with_reducible exact LeO.refl _)
      | (with_reducible exact LeO.none _)
      | (with_reducible refine LeO.ite ?_ ?_)
      | (with_reducible refine LeO.bind ?_ (fun _ => ?_))
      | exact ih0 _ _ _ _ _ _ _
      | exact ih1 _ _ _ _ _ _ _ _ _ _ _
      | exact ih2 _ _ _ _ _ _ _ _ _ _ _ _ _ _
      | exact ih3 _ _ _ _ _ _ _ _ _ _ _ _ _ _
      | exact bournelaw01_small.mono _
      | exact bournelaw01_whole.mono _ _
      | exact exact_Scale.mono _ _ _ _
      | exact LeO.none _
      | refine LeO.ite ?_ ?_
      | refine LeO.bind ?_ (fun _ => ?_)
    · intro y0 y1 y2 y3 y4 y5 y6 y7 y8 y9 y10
      unfold bournelaw01_ExactShares.l0
      repeat' first
      | (with_reducible exact ih0 _ _ _ _ _ _ _)
      | (with_reducible exact ih1 _ _ _ _ _ _ _ _ _ _ _)
      | (with_reducible exact ih2 _ _ _ _ _ _ _ _ _ _ _ _ _ _)
      | (with_reducible exact ih3 _ _ _ _ _ _ _ _ _ _ _ _ _ _)
      | (with_reducible exact bournelaw01_small.mono _)
      | (with_reducible exact bournelaw01_whole.mono _ _)
      | (with_reducible exact exact_Scale.mono _ _ _ _)
      | (with_reducible exact LeO.refl _)
      | (with_reducible exact LeO.none _)
      | (with_reducible refine LeO.ite ?_ ?_)
      | (with_reducible refine LeO.bind ?_ (fun _ => ?_))
      | exact ih0 _ _ _ _ _ _ _
      | exact ih1 _ _ _ _ _ _ _ _ _ _ _
      | exact ih2 _ _ _ _ _ _ _ _ _ _ _ _ _ _
      | exact ih3 _ _ _ _ _ _ _ _ _ _ _ _ _ _
      | exact bournelaw01_small.mono _
      | exact bournelaw01_whole.mono _ _
      | exact exact_Scale.mono _ _ _ _
      | exact LeO.none _
      | refine LeO.ite ?_ ?_
      | refine LeO.bind ?_ (fun _ => ?_)
    · intro y0 y1 y2 y3 y4 y5 y6 y7 y8 y9 y10 y11 y12 y13
      unfold bournelaw01_ExactShares.j2
      repeat' first
      | (with_reducible exact ih0 _ _ _ _ _ _ _)
      | (with_reducible exact ih1 _ _ _ _ _ _ _ _ _ _ _)
      | (with_reducible exact ih2 _ _ _ _ _ _ _ _ _ _ _ _ _ _)
      | (with_reducible exact ih3 _ _ _ _ _ _ _ _ _ _ _ _ _ _)
      | (with_reducible exact bournelaw01_small.mono _)
      | (with_reducible exact bournelaw01_whole.mono _ _)
      | (with_reducible exact exact_Scale.mono _ _ _ _)
      | (with_reducible exact LeO.refl _)
      | (with_reducible exact LeO.none _)
      | (with_reducible refine LeO.ite ?_ ?_)
      | (with_reducible refine LeO.bind ?_ (fun _ => ?_))
      | exact ih0 _ _ _ _ _ _ _
      | exact ih1 _ _ _ _ _ _ _ _ _ _ _
      | exact ih2 _ _ _ _ _ _ _ _ _ _ _ _ _ _
      | exact ih3 _ _ _ _ _ _ _ _ _ _ _ _ _ _
      | exact bournelaw01_small.mono _
      | exact bournelaw01_whole.mono _ _
      | exact exact_Scale.mono _ _ _ _
      | exact LeO.none _
      | refine LeO.ite ?_ ?_
      | refine LeO.bind ?_ (fun _ => ?_)
    · intro y0 y1 y2 y3 y4 y5 y6 y7 y8 y9 y10 y11 y12 y13
      unfold bournelaw01_ExactShares.j3
      repeat' first
      | (with_reducible exact ih0 _ _ _ _ _ _ _)
      | (with_reducible exact ih1 _ _ _ _ _ _ _ _ _ _ _)
      | (with_reducible exact ih2 _ _ _ _ _ _ _ _ _ _ _ _ _ _)
      | (with_reducible exact ih3 _ _ _ _ _ _ _ _ _ _ _ _ _ _)
      | (with_reducible exact bournelaw01_small.mono _)
      | (with_reducible exact bournelaw01_whole.mono _ _)
      | (with_reducible exact exact_Scale.mono _ _ _ _)
      | (with_reducible exact LeO.refl _)
      | (with_reducible exact LeO.none _)
      | (with_reducible refine LeO.ite ?_ ?_)
      | (with_reducible refine LeO.bind ?_ (fun _ => ?_))
      | exact ih0 _ _ _ _ _ _ _
      | exact ih1 _ _ _ _ _ _ _ _ _ _ _
      | exact ih2 _ _ _ _ _ _ _ _ _ _ _ _ _ _
      | exact ih3 _ _ _ _ _ _ _ _ _ _ _ _ _ _
      | exact bournelaw01_small.mono _
      | exact bournelaw01_whole.mono _ _
      | exact exact_Scale.mono _ _ _ _
      | exact LeO.none _
      | refine LeO.ite ?_ ?_
      | refine LeO.bind ?_ (fun _ => ?_)
theorem bournelaw01_ExactShares.mono : ∀ a0 a1 k, LeO (bournelaw01_ExactShares.f k a0 a1) (bournelaw01_ExactShares.f (k + 1) a0 a1) := by
  intro a0 a1 k
  obtain ⟨ih0, ih1, ih2, ih3⟩ := bournelaw01_ExactShares.mono_l k
  unfold bournelaw01_ExactShares.f
  repeat' first
      | (with_reducible exact ih0 _ _ _ _ _ _ _)
      | (with_reducible exact ih1 _ _ _ _ _ _ _ _ _ _ _)
      | (with_reducible exact ih2 _ _ _ _ _ _ _ _ _ _ _ _ _ _)
      | (with_reducible exact ih3 _ _ _ _ _ _ _ _ _ _ _ _ _ _)
      | (with_reducible exact bournelaw01_small.mono _)
      | (with_reducible exact bournelaw01_whole.mono _ _)
      | (with_reducible exact exact_Scale.mono _ _ _ _)
      | (with_reducible exact LeO.refl _)
      | (with_reducible exact LeO.none _)
      | (with_reducible refine LeO.ite ?_ ?_)
      | (with_reducible refine LeO.bind ?_ (fun _ => ?_))
      | exact ih0 _ _ _ _ _ _ _
      | exact ih1 _ _ _ _ _ _ _ _ _ _ _
      | exact ih2 _ _ _ _ _ _ _ _ _ _ _ _ _ _
      | exact ih3 _ _ _ _ _ _ _ _ _ _ _ _ _ _
      | exact bournelaw01_small.mono _
      | exact bournelaw01_whole.mono _ _
      | exact exact_Scale.mono _ _ _ _
      | exact LeO.none _
      | refine LeO.ite ?_ ?_
      | refine LeO.bind ?_ (fun _ => ?_)
set_option maxHeartbeats 8000000 in
set_option maxRecDepth 100000 in
theorem bournelaw01_ExactShares.calls (k : Nat) (a0 : Int) (A1 : Option Addr) (c1 : Nat) (l1 : List Int) (r : Bool) (w : World) (hr1 : Kd.C (Kd.int .i64) w A1 l1.length l1) (hc1 : l1.length ≤ c1) (h : bournelaw01_ExactShares.f k a0 l1 = some r) :
    Calls Try.prog 5 #[.int .i64 a0, .slice A1 l1.length c1] w fun e w' => e = .returned (.bool r) ∧ Below w.heap.size w w' := by
  have HR1 := Aside0.mk hr1
  have HC1 := Aside0.mk hc1
  clear hr1 hc1
  have HB := Aside0.mk (Below.refl w.heap.size w)
  have H : ((bournelaw01_small.f k).bind fun t236 => ((bournelaw01_whole.f k l1).bind fun bt237 => ((exact_Share.f a0 l1).bind fun bt239 => (if bt237.2 = true then (if a0 ≥ 0 then (bournelaw01_ExactShares.j0 k a0 l1 t236 bt237.1 bt239.1 bt239.2 (bt239.2 != (decide (a0 ≤ bt237.1)))) else (bournelaw01_ExactShares.j0 k a0 l1 t236 bt237.1 bt239.1 bt239.2 (bt239.2 != false))) else (bournelaw01_ExactShares.j0 k a0 l1 t236 bt237.1 bt239.1 bt239.2 (bt239.2 != false)))))) = some r := h
  clear h
  replace H := Option.bind_eq_some_iff.mp H
  obtain ⟨t236, A30, H⟩ := H
  replace H : ((bournelaw01_whole.f k l1).bind fun bt237 => ((exact_Share.f a0 l1).bind fun bt239 => (if bt237.2 = true then (if a0 ≥ 0 then (bournelaw01_ExactShares.j0 k a0 l1 t236 bt237.1 bt239.1 bt239.2 (bt239.2 != (decide (a0 ≤ bt237.1)))) else (bournelaw01_ExactShares.j0 k a0 l1 t236 bt237.1 bt239.1 bt239.2 (bt239.2 != false))) else (bournelaw01_ExactShares.j0 k a0 l1 t236 bt237.1 bt239.1 bt239.2 (bt239.2 != false))))) = some r := H
  have A3 := Aside0.mk A30
  clear A30
  replace H := Option.bind_eq_some_iff.mp H
  obtain ⟨⟨t237, t238⟩, A40, H⟩ := H
  replace H : ((exact_Share.f a0 l1).bind fun bt239 => (if t238 = true then (if a0 ≥ 0 then (bournelaw01_ExactShares.j0 k a0 l1 t236 t237 bt239.1 bt239.2 (bt239.2 != (decide (a0 ≤ t237)))) else (bournelaw01_ExactShares.j0 k a0 l1 t236 t237 bt239.1 bt239.2 (bt239.2 != false))) else (bournelaw01_ExactShares.j0 k a0 l1 t236 t237 bt239.1 bt239.2 (bt239.2 != false)))) = some r := H
  have A4 := Aside0.mk A40
  clear A40
  replace H := Option.bind_eq_some_iff.mp H
  obtain ⟨⟨t239, t240⟩, A50, H⟩ := H
  replace H : (if t238 = true then (if a0 ≥ 0 then (bournelaw01_ExactShares.j0 k a0 l1 t236 t237 t239 t240 (t240 != (decide (a0 ≤ t237)))) else (bournelaw01_ExactShares.j0 k a0 l1 t236 t237 t239 t240 (t240 != false))) else (bournelaw01_ExactShares.j0 k a0 l1 t236 t237 t239 t240 (t240 != false))) = some r := H
  have A5 := Aside0.mk A50
  clear A50
  have HC6 := Aside0.mk H
  clear H
  go_enter Try.func5, Try.ntmps5
  go_upto_region 4 with (first | (go_at_call 14; (with_reducible refine (bournelaw01_small.calls k  t236 _ A3.out).mono ?_); rintro e w7 ⟨rfl, hb⟩; have n0_ := Aside0.mk (below_step (by repeat (first | (with_reducible first | exact HB.out | apply below_alloc | apply pw_below_drewN | apply below_drew1) | exact HB.out)) hb); clear HB; have HB := n0_; clear n0_; (try clear hb); (try clear hb2); (try clear hk); (try clear hi)) | (go_at_call 28; (with_reducible refine (bournelaw01_whole.calls k _ _ l1 t237 t238 _ ?side1 ?side2 A4.out).mono ?_); (case side1 => repeat (first | exact (Kd.C_below HR1.out HB.out) | (with_reducible refine Kd.C_alloc ?_ _) | (with_reducible refine Kd.C_drewN ?_ _) | (with_reducible refine Kd.C_drew ?_))); (case side2 => exact HC1.out); rintro e w' ⟨rfl, ⟨nd, rfl⟩⟩; (try first | exact ⟨rfl, _, World.drewN_drewN _ _ _⟩ | exact ⟨rfl, _, Eq.trans (World.drewN_drewN _ _ _) (congrArg (World.drewN _) (Nat.add_assoc _ _ _))⟩)) | (go_at_call 17; (with_reducible refine (exact_Share.calls a0 _ _ l1 t239 t240 _ ?side1 ?side2 A5.out).mono ?_); (case side1 => repeat (first | exact (Kd.C_below HR1.out (by repeat (first | (with_reducible first | exact HB.out | apply below_alloc | apply pw_below_drewN | apply below_drew1) | exact HB.out))) | (with_reducible refine Kd.C_alloc ?_ _) | (with_reducible refine Kd.C_drewN ?_ _) | (with_reducible refine Kd.C_drew ?_))); (case side2 => exact HC1.out); rintro e w8 ⟨v241, rfl, ho0, hb⟩; have n0_ := Aside0.mk (Kd.R_lower ho0 (below_size (by repeat (first | (with_reducible first | exact HB.out | apply below_alloc | apply pw_below_drewN | apply below_drew1) | exact HB.out)))); have n1_ := Aside0.mk (below_step (by repeat (first | (with_reducible first | exact HB.out | apply below_alloc | apply pw_below_drewN | apply below_drew1) | exact HB.out)) hb); clear HB; have HO242 := n0_; have HB := n1_; clear n0_ n1_; (try clear hb); (try clear hb2); (try clear hk); (try clear hi); (try clear ho0)))
  repeat (go_quiet (first | (go_at_call 14; (with_reducible refine (bournelaw01_small.calls k  t236 _ A3.out).mono ?_); rintro e w7 ⟨rfl, hb⟩; have n0_ := Aside0.mk (below_step (by repeat (first | (with_reducible first | exact HB.out | apply below_alloc | apply pw_below_drewN | apply below_drew1) | exact HB.out)) hb); clear HB; have HB := n0_; clear n0_; (try clear hb); (try clear hb2); (try clear hk); (try clear hi)) | (go_at_call 28; (with_reducible refine (bournelaw01_whole.calls k _ _ l1 t237 t238 _ ?side1 ?side2 A4.out).mono ?_); (case side1 => repeat (first | exact (Kd.C_below HR1.out HB.out) | (with_reducible refine Kd.C_alloc ?_ _) | (with_reducible refine Kd.C_drewN ?_ _) | (with_reducible refine Kd.C_drew ?_))); (case side2 => exact HC1.out); rintro e w' ⟨rfl, ⟨nd, rfl⟩⟩; (try first | exact ⟨rfl, _, World.drewN_drewN _ _ _⟩ | exact ⟨rfl, _, Eq.trans (World.drewN_drewN _ _ _) (congrArg (World.drewN _) (Nat.add_assoc _ _ _))⟩)) | (go_at_call 17; (with_reducible refine (exact_Share.calls a0 _ _ l1 t239 t240 _ ?side1 ?side2 A5.out).mono ?_); (case side1 => repeat (first | exact (Kd.C_below HR1.out (by repeat (first | (with_reducible first | exact HB.out | apply below_alloc | apply pw_below_drewN | apply below_drew1) | exact HB.out))) | (with_reducible refine Kd.C_alloc ?_ _) | (with_reducible refine Kd.C_drewN ?_ _) | (with_reducible refine Kd.C_drew ?_))); (case side2 => exact HC1.out); rintro e w8 ⟨v241, rfl, ho0, hb⟩; have n0_ := Aside0.mk (Kd.R_lower ho0 (below_size (by repeat (first | (with_reducible first | exact HB.out | apply below_alloc | apply pw_below_drewN | apply below_drew1) | exact HB.out)))); have n1_ := Aside0.mk (below_step (by repeat (first | (with_reducible first | exact HB.out | apply below_alloc | apply pw_below_drewN | apply below_drew1) | exact HB.out)) hb); clear HB; have HO242 := n0_; have HB := n1_; clear n0_ n1_; (try clear hb); (try clear hb2); (try clear hk); (try clear hi); (try clear ho0))); go_upto_region 4 with (first | (go_at_call 14; (with_reducible refine (bournelaw01_small.calls k  t236 _ A3.out).mono ?_); rintro e w7 ⟨rfl, hb⟩; have n0_ := Aside0.mk (below_step (by repeat (first | (with_reducible first | exact HB.out | apply below_alloc | apply pw_below_drewN | apply below_drew1) | exact HB.out)) hb); clear HB; have HB := n0_; clear n0_; (try clear hb); (try clear hb2); (try clear hk); (try clear hi)) | (go_at_call 28; (with_reducible refine (bournelaw01_whole.calls k _ _ l1 t237 t238 _ ?side1 ?side2 A4.out).mono ?_); (case side1 => repeat (first | exact (Kd.C_below HR1.out HB.out) | (with_reducible refine Kd.C_alloc ?_ _) | (with_reducible refine Kd.C_drewN ?_ _) | (with_reducible refine Kd.C_drew ?_))); (case side2 => exact HC1.out); rintro e w' ⟨rfl, ⟨nd, rfl⟩⟩; (try first | exact ⟨rfl, _, World.drewN_drewN _ _ _⟩ | exact ⟨rfl, _, Eq.trans (World.drewN_drewN _ _ _) (congrArg (World.drewN _) (Nat.add_assoc _ _ _))⟩)) | (go_at_call 17; (with_reducible refine (exact_Share.calls a0 _ _ l1 t239 t240 _ ?side1 ?side2 A5.out).mono ?_); (case side1 => repeat (first | exact (Kd.C_below HR1.out (by repeat (first | (with_reducible first | exact HB.out | apply below_alloc | apply pw_below_drewN | apply below_drew1) | exact HB.out))) | (with_reducible refine Kd.C_alloc ?_ _) | (with_reducible refine Kd.C_drewN ?_ _) | (with_reducible refine Kd.C_drew ?_))); (case side2 => exact HC1.out); rintro e w8 ⟨v241, rfl, ho0, hb⟩; have n0_ := Aside0.mk (Kd.R_lower ho0 (below_size (by repeat (first | (with_reducible first | exact HB.out | apply below_alloc | apply pw_below_drewN | apply below_drew1) | exact HB.out)))); have n1_ := Aside0.mk (below_step (by repeat (first | (with_reducible first | exact HB.out | apply below_alloc | apply pw_below_drewN | apply below_drew1) | exact HB.out)) hb); clear HB; have HO242 := n0_; have HB := n1_; clear n0_ n1_; (try clear hb); (try clear hb2); (try clear hk); (try clear hi); (try clear ho0))))
  (try simp only [Act.put, List.setIfInBounds_toArray, List.set_cons_zero, List.set_cons_succ])
  go_cut [42] (fun v42 wc => ∃ (kq : Nat) (x42_5 : Bool), v42 = .bool x42_5 ∧ Aside0 (bournelaw01_ExactShares.j0 kq a0 l1 t236 t237 t239 t240 x42_5 = some r) ∧ Aside0 (kq ≤ k) ∧ Aside0 (Kd.R (Kd.int .i64) 3 wc w.heap.size (fun _ => True) v241 t239) ∧ Aside0 (Below w.heap.size w wc))
  case first =>
    have H := HC6.out
    clear HC6
    by_cases c9 : t238 = true
    · subst c9
      have H1 : (if a0 ≥ 0 then (bournelaw01_ExactShares.j0 k a0 l1 t236 t237 t239 t240 (t240 != (decide (a0 ≤ t237)))) else (bournelaw01_ExactShares.j0 k a0 l1 t236 t237 t239 t240 (t240 != false))) = some r := by rw [if_pos rfl] at H; exact H
      clear H
      have H := H1
      clear H1
      by_cases c10 : a0 ≥ 0
      · rw [if_pos c10] at H
        have c10b0 : decide (0 ≤ a0) = true := decide_eq_true c10
        clear c10
        (first | rw [c10b0] | (simp only [i64_w, i32_w]; rw [c10b0]) | skip)
        have H' := Aside0.mk H
        clear H
        go_wp2
        repeat (go_quiet (fail); try go_wp2)
        go_meet
        case rel => exact ⟨_, ((t240 != (decide (a0 ≤ t237)))), (by first | rfl | (simp; done) | (simp [*]; done)), H', ⟨by first | omega | exact Nat.le_refl _⟩, ⟨by (with_reducible repeat (first | apply Kd.R_alloc | apply Kd.R_drewN | apply Kd.R_drew)); exact HO242.out⟩, ⟨by repeat (first | (with_reducible first | exact HB.out | apply below_alloc | apply pw_below_drewN | apply below_drew1) | exact HB.out)⟩⟩
      · rw [if_neg c10] at H
        have c10b0 : decide (0 ≤ a0) = false := decide_eq_false c10
        clear c10
        (first | rw [c10b0] | (simp only [i64_w, i32_w]; rw [c10b0]) | skip)
        have H' := Aside0.mk H
        clear H
        go_wp2
        repeat (go_quiet (fail); try go_wp2)
        go_meet
        case rel => exact ⟨_, ((t240 != false)), (by first | rfl | (simp; done) | (simp [*]; done)), H', ⟨by first | omega | exact Nat.le_refl _⟩, ⟨by (with_reducible repeat (first | apply Kd.R_alloc | apply Kd.R_drewN | apply Kd.R_drew)); exact HO242.out⟩, ⟨by repeat (first | (with_reducible first | exact HB.out | apply below_alloc | apply pw_below_drewN | apply below_drew1) | exact HB.out)⟩⟩
    · replace c9 := Bool.eq_false_iff.mpr c9
      subst c9
      have H1 : (bournelaw01_ExactShares.j0 k a0 l1 t236 t237 t239 t240 (t240 != false)) = some r := by rw [if_neg (show ¬ (false = true) by decide)] at H; exact H
      clear H
      have H := H1
      clear H1
      have H' := Aside0.mk H
      clear H
      go_wp2
      repeat (go_quiet (fail); try go_wp2)
      go_meet
      case rel => exact ⟨_, ((t240 != false)), (by first | rfl | (simp; done) | (simp [*]; done)), H', ⟨by first | omega | exact Nat.le_refl _⟩, ⟨by (with_reducible repeat (first | apply Kd.R_alloc | apply Kd.R_drewN | apply Kd.R_drew)); exact HO242.out⟩, ⟨by repeat (first | (with_reducible first | exact HB.out | apply below_alloc | apply pw_below_drewN | apply below_drew1) | exact HB.out)⟩⟩
  case rest =>
    clear HC6
    try clear c1
    try clear p2
    try clear c5
    try clear c9
    try clear c10
    try clear c10b0
    obtain ⟨kq, x42_5, rfl, HA, HJ5, HO_8, HB⟩ := hcut
    cases kq with
    | zero => exact absurd HA.out (by simp [bournelaw01_ExactShares.j0])
    | succ kj5 =>
      have H := HA.out
      clear HA
      simp only [bournelaw01_ExactShares.j0] at H
      by_cases c11 : x42_5 = true
      · subst c11
        have H1 : (some false) = some r := by rw [if_pos rfl] at H; exact H
        clear H
        have H := H1
        clear H1
        obtain rfl := Option.some.inj H
        go_wp2
        repeat (go_quiet (fail); try go_wp2)
        go_ret
        exact ⟨by first | rfl | (simp [errW_none, errW_some] <;> rfl) | (simp [*, errW_none, errW_some] <;> rfl), by repeat (first | (with_reducible first | exact HB.out | apply below_alloc | apply pw_below_drewN | apply below_drew1) | exact HB.out)⟩
      · replace c11 := Bool.eq_false_iff.mpr c11
        subst c11
        have H1 : (if t240 = true then (if (t239.length : Int) = (l1.length : Int) then (bournelaw01_ExactShares.l0 kj5 a0 l1 t236 t237 t239 0 (-1) 0 (-1) 0 0) else (some false)) else (if t236 = true then (some ((t239.length : Int) == 0)) else (some false))) = some r := by rw [if_neg (show ¬ (false = true) by decide)] at H; exact H
        clear H
        have H := H1
        clear H1
        by_cases c12 : t240 = true
        · subst c12
          have H1 : (if (t239.length : Int) = (l1.length : Int) then (bournelaw01_ExactShares.l0 kj5 a0 l1 t236 t237 t239 0 (-1) 0 (-1) 0 0) else (some false)) = some r := by rw [if_pos rfl] at H; exact H
          clear H
          have H := H1
          clear H1
          by_cases c13 : (t239.length : Int) = (l1.length : Int)
          · rw [if_pos c13] at H
            have c13b0 : ((t239.length : Int) == (l1.length : Int)) = true := beq_iff_eq.mpr c13
            have c13b1 : ((t239.length : Int) != (l1.length : Int)) = false := bne_eq_false_iff_eq.mpr c13
            have c13b2 : (t239.length == l1.length) = true := by first | simpa using c13 | (simp at c13 ⊢; omega)
            clear c13
            have H' := Aside0.mk H
            clear H
            obtain ⟨Ao14, co14, eo14⟩ := Kd.R_slice HO_8.out
            subst eo14
            go_wp2
            repeat (go_quiet (fail); try go_wp2)
            go_loopg [10, 11, 12, 13, 14, 15] kj5 (fun kq v10 v11 v12 v13 v14 v15 w' => ∃ (x10_2 : Int) (x11_2 : Int) (x12_2 : Int) (x13_2 : Int) (x14_2 : Int) (x15_2 : Int), v10 = .int .i64 x10_2 ∧ v11 = .int .i64 x11_2 ∧ v12 = .int .i64 x12_2 ∧ v13 = .int .i64 x13_2 ∧ v14 = .int .i64 x14_2 ∧ v15 = .int .i64 x15_2 ∧ Aside0 (bournelaw01_ExactShares.l0 kq a0 l1 t236 t237 t239 x10_2 x11_2 x12_2 x13_2 x14_2 x15_2 = some r) ∧ Aside0 (kq ≤ kj5) ∧ Aside0 (Kd.R (Kd.int .i64) 3 w' w.heap.size (fun _ => True) (.slice Ao14 t239.length co14) t239) ∧ Aside0 (Below w.heap.size w w'))
            case atStart => exact ⟨(0), ((-1)), (0), ((-1)), (0), (0), (by first | rfl | (simp; done) | (simp [*]; done)), (by first | rfl | (simp; done) | (simp [*]; done)), (by first | rfl | (simp; done) | (simp [*]; done)), (by first | rfl | (simp; done) | (simp [*]; done)), (by first | rfl | (simp; done) | (simp [*]; done)), (by first | rfl | (simp; done) | (simp [*]; done)), H', ⟨Nat.le_refl _⟩, ⟨by (with_reducible repeat (first | apply Kd.R_alloc | apply Kd.R_drewN | apply Kd.R_drew)); exact HO_8.out⟩, ⟨by repeat (first | (with_reducible first | exact HB.out | apply below_alloc | apply pw_below_drewN | apply below_drew1) | exact HB.out)⟩⟩
            case round =>
              clear H'
              try clear c1
              try clear p2
              try clear c5
              try clear c9
              try clear c10
              try clear c10b0
              try clear c11
              try clear c12
              try clear c13
              try clear c13b0
              try clear c13b1
              try clear c13b2
              try clear p2
              obtain ⟨x10_2, x11_2, x12_2, x13_2, x14_2, x15_2, rfl, rfl, rfl, rfl, rfl, rfl, HA, HK2, HO_8, HB⟩ := hrel
              cases gk with
              | zero => exact absurd HA.out (by simp [bournelaw01_ExactShares.l0])
              | succ k2 =>
                have H := HA.out
                clear HA
                simp only [bournelaw01_ExactShares.l0] at H
                by_cases c15 : x15_2 < (l1.length : Int)
                · rw [if_pos c15] at H
                  have c15b0 : decide (x15_2 < (l1.length : Int)) = true := decide_eq_true c15
                  clear c15
                  by_cases c16 : 0 ≤ x15_2
                  · rw [if_pos c16] at H
                    have c16b0 : decide (0 ≤ x15_2) = true := decide_eq_true c16
                    clear c16
                    by_cases c17 : x15_2 < (t239.length : Int)
                    · rw [if_pos c17] at H
                      have c17b0 : decide (x15_2 < (t239.length : Int)) = true := decide_eq_true c17
                      clear c17
                      obtain ⟨ji18, hji18⟩ : ∃ j_ : Int, (mx t237 1) = j_ := ⟨_, rfl⟩
                      replace H : ((exact_Scale.f k2 a0 (rd l1 x15_2) (ji18)).bind fun bt245 => (if (rd t239 x15_2) = bt245.1 then (if (rd t239 x15_2) > (rd l1 x15_2) then (bournelaw01_ExactShares.j2 k2 a0 l1 t236 t237 t239 (wrap64 (x10_2 + (rd t239 x15_2))) x11_2 x12_2 x13_2 x14_2 x15_2 bt245.1 bt245.2.1 true) else (if (rd t239 x15_2) = (wrap64 (bt245.1 + 1)) then (bournelaw01_ExactShares.j2 k2 a0 l1 t236 t237 t239 (wrap64 (x10_2 + (rd t239 x15_2))) x11_2 x12_2 x13_2 x14_2 x15_2 bt245.1 bt245.2.1 (bt245.2.1 == 0)) else (bournelaw01_ExactShares.j2 k2 a0 l1 t236 t237 t239 (wrap64 (x10_2 + (rd t239 x15_2))) x11_2 x12_2 x13_2 x14_2 x15_2 bt245.1 bt245.2.1 false))) else (if (rd t239 x15_2) = (wrap64 (bt245.1 + 1)) then (if (rd t239 x15_2) > (rd l1 x15_2) then (bournelaw01_ExactShares.j2 k2 a0 l1 t236 t237 t239 (wrap64 (x10_2 + (rd t239 x15_2))) x11_2 x12_2 x13_2 x14_2 x15_2 bt245.1 bt245.2.1 true) else (bournelaw01_ExactShares.j2 k2 a0 l1 t236 t237 t239 (wrap64 (x10_2 + (rd t239 x15_2))) x11_2 x12_2 x13_2 x14_2 x15_2 bt245.1 bt245.2.1 (bt245.2.1 == 0))) else (bournelaw01_ExactShares.j2 k2 a0 l1 t236 t237 t239 (wrap64 (x10_2 + (rd t239 x15_2))) x11_2 x12_2 x13_2 x14_2 x15_2 bt245.1 bt245.2.1 true)))) = some r := by first | (rw [hji18] at H; exact H) | (simp only [hji18] at H ⊢; exact H)
                      have hji18_ : (if t237 < 1 then 1 else t237) = ji18 := hji18
                      replace H := Option.bind_eq_some_iff.mp H
                      obtain ⟨⟨t245, t246, t247⟩, A190, H⟩ := H
                      replace H : (if (rd t239 x15_2) = t245 then (if (rd t239 x15_2) > (rd l1 x15_2) then (bournelaw01_ExactShares.j2 k2 a0 l1 t236 t237 t239 (wrap64 (x10_2 + (rd t239 x15_2))) x11_2 x12_2 x13_2 x14_2 x15_2 t245 t246 true) else (if (rd t239 x15_2) = (wrap64 (t245 + 1)) then (bournelaw01_ExactShares.j2 k2 a0 l1 t236 t237 t239 (wrap64 (x10_2 + (rd t239 x15_2))) x11_2 x12_2 x13_2 x14_2 x15_2 t245 t246 (t246 == 0)) else (bournelaw01_ExactShares.j2 k2 a0 l1 t236 t237 t239 (wrap64 (x10_2 + (rd t239 x15_2))) x11_2 x12_2 x13_2 x14_2 x15_2 t245 t246 false))) else (if (rd t239 x15_2) = (wrap64 (t245 + 1)) then (if (rd t239 x15_2) > (rd l1 x15_2) then (bournelaw01_ExactShares.j2 k2 a0 l1 t236 t237 t239 (wrap64 (x10_2 + (rd t239 x15_2))) x11_2 x12_2 x13_2 x14_2 x15_2 t245 t246 true) else (bournelaw01_ExactShares.j2 k2 a0 l1 t236 t237 t239 (wrap64 (x10_2 + (rd t239 x15_2))) x11_2 x12_2 x13_2 x14_2 x15_2 t245 t246 (t246 == 0))) else (bournelaw01_ExactShares.j2 k2 a0 l1 t236 t237 t239 (wrap64 (x10_2 + (rd t239 x15_2))) x11_2 x12_2 x13_2 x14_2 x15_2 t245 t246 true))) = some r := H
                      have A19 := Aside0.mk A190
                      clear A190
                      have HC20 := Aside0.mk H
                      clear H
                      have p243 : 0 ≤ (x15_2 : Int) := of_decide_eq_true (by first | (with_reducible assumption) | assumption)
                      have q243 : x15_2 < (t239.length : Int) := of_decide_eq_true (by first | (with_reducible assumption) | assumption)
                      obtain ⟨ad243, e243, hx243_0⟩ := Kd.at_int (Kd.R_reads' HO_8.out).2.2 x15_2 p243 q243
                      cases e243
                      replace p243 := eq_true p243
                      replace q243 := eq_true q243
                      have p244 : 0 ≤ (x15_2 : Int) := of_decide_eq_true (by first | (with_reducible assumption) | assumption)
                      have q244 : x15_2 < (l1.length : Int) := of_decide_eq_true (by first | (with_reducible assumption) | assumption)
                      obtain ⟨ad244, e244, hx244_0⟩ := Kd.at_int HR1.out x15_2 p244 q244
                      cases e244
                      replace hx244_0 := (HB.out.cell (World.block_lt_of_cell? w _ hx244_0)).trans hx244_0
                      replace p244 := eq_true p244
                      replace q244 := eq_true q244
                      go_upto_region 20 with (first | (go_at_call 15; (with_reducible refine (exact_Scale.calls k2 a0 (rd l1 x15_2) ji18 t245 t246 t247 _ A19.out).mono ?_); rintro e w' ⟨rfl, ⟨nd, rfl⟩⟩; (try first | exact ⟨rfl, _, World.drewN_drewN _ _ _⟩ | exact ⟨rfl, _, Eq.trans (World.drewN_drewN _ _ _) (congrArg (World.drewN _) (Nat.add_assoc _ _ _))⟩)))
                      repeat (go_quiet (first | (go_at_call 15; (with_reducible refine (exact_Scale.calls k2 a0 (rd l1 x15_2) ji18 t245 t246 t247 _ A19.out).mono ?_); rintro e w' ⟨rfl, ⟨nd, rfl⟩⟩; (try first | exact ⟨rfl, _, World.drewN_drewN _ _ _⟩ | exact ⟨rfl, _, Eq.trans (World.drewN_drewN _ _ _) (congrArg (World.drewN _) (Nat.add_assoc _ _ _))⟩))); go_upto_region 20 with (first | (go_at_call 15; (with_reducible refine (exact_Scale.calls k2 a0 (rd l1 x15_2) ji18 t245 t246 t247 _ A19.out).mono ?_); rintro e w' ⟨rfl, ⟨nd, rfl⟩⟩; (try first | exact ⟨rfl, _, World.drewN_drewN _ _ _⟩ | exact ⟨rfl, _, Eq.trans (World.drewN_drewN _ _ _) (congrArg (World.drewN _) (Nat.add_assoc _ _ _))⟩))))
                      (try simp only [Act.put, List.setIfInBounds_toArray, List.set_cons_zero, List.set_cons_succ])
                      go_cut [118] (fun v118 wc => ∃ (kq : Nat) (x118_19 : Bool), v118 = .bool x118_19 ∧ Aside0 (bournelaw01_ExactShares.j2 kq a0 l1 t236 t237 t239 (wrap64 (x10_2 + (rd t239 x15_2))) x11_2 x12_2 x13_2 x14_2 x15_2 t245 t246 x118_19 = some r) ∧ Aside0 (kq ≤ k2) ∧ Aside0 (Kd.R (Kd.int .i64) 3 wc w.heap.size (fun _ => True) (.slice (some ad243) t239.length co14) t239) ∧ Aside0 (Below w.heap.size w wc))
                      case first =>
                        have H := HC20.out
                        clear HC20
                        by_cases c21 : (rd t239 x15_2) = t245
                        · rw [if_pos c21] at H
                          have c21b0 : ((rd t239 x15_2) == t245) = true := beq_iff_eq.mpr c21
                          have c21b1 : ((rd t239 x15_2) != t245) = false := bne_eq_false_iff_eq.mpr c21
                          clear c21
                          (first | rw [c21b0] | (simp only [i64_w, i32_w]; rw [c21b0]) | skip)
                          by_cases c22 : (rd t239 x15_2) > (rd l1 x15_2)
                          · rw [if_pos c22] at H
                            have c22b0 : decide ((rd l1 x15_2) < (rd t239 x15_2)) = true := decide_eq_true c22
                            clear c22
                            have H' := Aside0.mk H
                            clear H
                            have p248 : 0 ≤ (x15_2 : Int) := of_decide_eq_true (by first | (with_reducible assumption) | assumption)
                            have q248 : x15_2 < (t239.length : Int) := of_decide_eq_true (by first | (with_reducible assumption) | assumption)
                            obtain ⟨ad248, e248, hx248_0⟩ := Kd.at_int (Kd.R_reads' HO_8.out).2.2 x15_2 p248 q248
                            obtain rfl : ad243 = ad248 := (by injection e248)
                            replace p248 := eq_true p248
                            replace q248 := eq_true q248
                            have p249 : 0 ≤ (x15_2 : Int) := of_decide_eq_true (by first | (with_reducible assumption) | assumption)
                            have q249 : x15_2 < (t239.length : Int) := of_decide_eq_true (by first | (with_reducible assumption) | assumption)
                            obtain ⟨ad249, e249, hx249_0⟩ := Kd.at_int (Kd.R_reads' HO_8.out).2.2 x15_2 p249 q249
                            obtain rfl : ad243 = ad249 := (by injection e249)
                            replace p249 := eq_true p249
                            replace q249 := eq_true q249
                            have p250 : 0 ≤ (x15_2 : Int) := of_decide_eq_true (by first | (with_reducible assumption) | assumption)
                            have q250 : x15_2 < (l1.length : Int) := of_decide_eq_true (by first | (with_reducible assumption) | assumption)
                            obtain ⟨ad250, e250, hx250_0⟩ := Kd.at_int HR1.out x15_2 p250 q250
                            obtain rfl : ad244 = ad250 := (by injection e250)
                            replace hx250_0 := (HB.out.cell (World.block_lt_of_cell? w _ hx250_0)).trans hx250_0
                            replace p250 := eq_true p250
                            replace q250 := eq_true q250
                            go_wp2
                            repeat (go_quiet (fail); try go_wp2)
                            go_meet
                            case rel => exact ⟨_, (true), (by first | rfl | (simp; done) | (simp [*]; done)), H', ⟨by have := HJ5.out; have := HK2.out; first | omega | exact Nat.le_refl _⟩, ⟨by (with_reducible repeat (first | apply Kd.R_alloc | apply Kd.R_drewN | apply Kd.R_drew)); exact HO_8.out⟩, ⟨by repeat (first | (with_reducible first | exact HB.out | apply below_alloc | apply pw_below_drewN | apply below_drew1) | exact HB.out)⟩⟩
                          · rw [if_neg c22] at H
                            have c22b0 : decide ((rd l1 x15_2) < (rd t239 x15_2)) = false := decide_eq_false c22
                            clear c22
                            by_cases c23 : (rd t239 x15_2) = (wrap64 (t245 + 1))
                            · rw [if_pos c23] at H
                              have c23b0 : ((rd t239 x15_2) == (wrap64 (t245 + 1))) = true := beq_iff_eq.mpr c23
                              have c23b1 : ((rd t239 x15_2) != (wrap64 (t245 + 1))) = false := bne_eq_false_iff_eq.mpr c23
                              clear c23
                              have H' := Aside0.mk H
                              clear H
                              have p248 : 0 ≤ (x15_2 : Int) := of_decide_eq_true (by first | (with_reducible assumption) | assumption)
                              have q248 : x15_2 < (t239.length : Int) := of_decide_eq_true (by first | (with_reducible assumption) | assumption)
                              obtain ⟨ad248, e248, hx248_0⟩ := Kd.at_int (Kd.R_reads' HO_8.out).2.2 x15_2 p248 q248
                              obtain rfl : ad243 = ad248 := (by injection e248)
                              replace p248 := eq_true p248
                              replace q248 := eq_true q248
                              have p249 : 0 ≤ (x15_2 : Int) := of_decide_eq_true (by first | (with_reducible assumption) | assumption)
                              have q249 : x15_2 < (t239.length : Int) := of_decide_eq_true (by first | (with_reducible assumption) | assumption)
                              obtain ⟨ad249, e249, hx249_0⟩ := Kd.at_int (Kd.R_reads' HO_8.out).2.2 x15_2 p249 q249
                              obtain rfl : ad243 = ad249 := (by injection e249)
                              replace p249 := eq_true p249
                              replace q249 := eq_true q249
                              have p250 : 0 ≤ (x15_2 : Int) := of_decide_eq_true (by first | (with_reducible assumption) | assumption)
                              have q250 : x15_2 < (l1.length : Int) := of_decide_eq_true (by first | (with_reducible assumption) | assumption)
                              obtain ⟨ad250, e250, hx250_0⟩ := Kd.at_int HR1.out x15_2 p250 q250
                              obtain rfl : ad244 = ad250 := (by injection e250)
                              replace hx250_0 := (HB.out.cell (World.block_lt_of_cell? w _ hx250_0)).trans hx250_0
                              replace p250 := eq_true p250
                              replace q250 := eq_true q250
                              have p251 : 0 ≤ (x15_2 : Int) := of_decide_eq_true (by first | (with_reducible assumption) | assumption)
                              have q251 : x15_2 < (t239.length : Int) := of_decide_eq_true (by first | (with_reducible assumption) | assumption)
                              obtain ⟨ad251, e251, hx251_0⟩ := Kd.at_int (Kd.R_reads' HO_8.out).2.2 x15_2 p251 q251
                              obtain rfl : ad243 = ad251 := (by injection e251)
                              replace p251 := eq_true p251
                              replace q251 := eq_true q251
                              go_wp2
                              repeat (go_quiet (fail); try go_wp2)
                              go_meet
                              case rel => exact ⟨_, ((t246 == 0)), (by first | rfl | (simp; done) | (simp [*]; done)), H', ⟨by have := HJ5.out; have := HK2.out; first | omega | exact Nat.le_refl _⟩, ⟨by (with_reducible repeat (first | apply Kd.R_alloc | apply Kd.R_drewN | apply Kd.R_drew)); exact HO_8.out⟩, ⟨by repeat (first | (with_reducible first | exact HB.out | apply below_alloc | apply pw_below_drewN | apply below_drew1) | exact HB.out)⟩⟩
                            · rw [if_neg c23] at H
                              have c23b0 : ((rd t239 x15_2) == (wrap64 (t245 + 1))) = false := beq_eq_false_iff_ne.mpr c23
                              have c23b1 : ((rd t239 x15_2) != (wrap64 (t245 + 1))) = true := bne_iff_ne.mpr c23
                              have H' := Aside0.mk H
                              clear H
                              have p248 : 0 ≤ (x15_2 : Int) := of_decide_eq_true (by first | (with_reducible assumption) | assumption)
                              have q248 : x15_2 < (t239.length : Int) := of_decide_eq_true (by first | (with_reducible assumption) | assumption)
                              obtain ⟨ad248, e248, hx248_0⟩ := Kd.at_int (Kd.R_reads' HO_8.out).2.2 x15_2 p248 q248
                              obtain rfl : ad243 = ad248 := (by injection e248)
                              replace p248 := eq_true p248
                              replace q248 := eq_true q248
                              have p249 : 0 ≤ (x15_2 : Int) := of_decide_eq_true (by first | (with_reducible assumption) | assumption)
                              have q249 : x15_2 < (t239.length : Int) := of_decide_eq_true (by first | (with_reducible assumption) | assumption)
                              obtain ⟨ad249, e249, hx249_0⟩ := Kd.at_int (Kd.R_reads' HO_8.out).2.2 x15_2 p249 q249
                              obtain rfl : ad243 = ad249 := (by injection e249)
                              replace p249 := eq_true p249
                              replace q249 := eq_true q249
                              have p250 : 0 ≤ (x15_2 : Int) := of_decide_eq_true (by first | (with_reducible assumption) | assumption)
                              have q250 : x15_2 < (l1.length : Int) := of_decide_eq_true (by first | (with_reducible assumption) | assumption)
                              obtain ⟨ad250, e250, hx250_0⟩ := Kd.at_int HR1.out x15_2 p250 q250
                              obtain rfl : ad244 = ad250 := (by injection e250)
                              replace hx250_0 := (HB.out.cell (World.block_lt_of_cell? w _ hx250_0)).trans hx250_0
                              replace p250 := eq_true p250
                              replace q250 := eq_true q250
                              have p251 : 0 ≤ (x15_2 : Int) := of_decide_eq_true (by first | (with_reducible assumption) | assumption)
                              have q251 : x15_2 < (t239.length : Int) := of_decide_eq_true (by first | (with_reducible assumption) | assumption)
                              obtain ⟨ad251, e251, hx251_0⟩ := Kd.at_int (Kd.R_reads' HO_8.out).2.2 x15_2 p251 q251
                              obtain rfl : ad243 = ad251 := (by injection e251)
                              replace p251 := eq_true p251
                              replace q251 := eq_true q251
                              go_wp2
                              repeat (go_quiet (fail); try go_wp2)
                              go_meet
                              case rel => exact ⟨_, (false), (by first | rfl | (simp; done) | (simp [*]; done)), H', ⟨by have := HJ5.out; have := HK2.out; first | omega | exact Nat.le_refl _⟩, ⟨by (with_reducible repeat (first | apply Kd.R_alloc | apply Kd.R_drewN | apply Kd.R_drew)); exact HO_8.out⟩, ⟨by repeat (first | (with_reducible first | exact HB.out | apply below_alloc | apply pw_below_drewN | apply below_drew1) | exact HB.out)⟩⟩
                        · rw [if_neg c21] at H
                          have c21b0 : ((rd t239 x15_2) == t245) = false := beq_eq_false_iff_ne.mpr c21
                          have c21b1 : ((rd t239 x15_2) != t245) = true := bne_iff_ne.mpr c21
                          (first | rw [c21b0] | (simp only [i64_w, i32_w]; rw [c21b0]) | skip)
                          by_cases c24 : (rd t239 x15_2) = (wrap64 (t245 + 1))
                          · rw [if_pos c24] at H
                            have c24b0 : ((rd t239 x15_2) == (wrap64 (t245 + 1))) = true := beq_iff_eq.mpr c24
                            have c24b1 : ((rd t239 x15_2) != (wrap64 (t245 + 1))) = false := bne_eq_false_iff_eq.mpr c24
                            clear c24
                            by_cases c25 : (rd t239 x15_2) > (rd l1 x15_2)
                            · rw [if_pos c25] at H
                              have c25b0 : decide ((rd l1 x15_2) < (rd t239 x15_2)) = true := decide_eq_true c25
                              clear c25
                              have H' := Aside0.mk H
                              clear H
                              have p248 : 0 ≤ (x15_2 : Int) := of_decide_eq_true (by first | (with_reducible assumption) | assumption)
                              have q248 : x15_2 < (t239.length : Int) := of_decide_eq_true (by first | (with_reducible assumption) | assumption)
                              obtain ⟨ad248, e248, hx248_0⟩ := Kd.at_int (Kd.R_reads' HO_8.out).2.2 x15_2 p248 q248
                              obtain rfl : ad243 = ad248 := (by injection e248)
                              replace p248 := eq_true p248
                              replace q248 := eq_true q248
                              have p252 : 0 ≤ (x15_2 : Int) := of_decide_eq_true (by first | (with_reducible assumption) | assumption)
                              have q252 : x15_2 < (t239.length : Int) := of_decide_eq_true (by first | (with_reducible assumption) | assumption)
                              obtain ⟨ad252, e252, hx252_0⟩ := Kd.at_int (Kd.R_reads' HO_8.out).2.2 x15_2 p252 q252
                              obtain rfl : ad243 = ad252 := (by injection e252)
                              replace p252 := eq_true p252
                              replace q252 := eq_true q252
                              have p253 : 0 ≤ (x15_2 : Int) := of_decide_eq_true (by first | (with_reducible assumption) | assumption)
                              have q253 : x15_2 < (t239.length : Int) := of_decide_eq_true (by first | (with_reducible assumption) | assumption)
                              obtain ⟨ad253, e253, hx253_0⟩ := Kd.at_int (Kd.R_reads' HO_8.out).2.2 x15_2 p253 q253
                              obtain rfl : ad243 = ad253 := (by injection e253)
                              replace p253 := eq_true p253
                              replace q253 := eq_true q253
                              have p254 : 0 ≤ (x15_2 : Int) := of_decide_eq_true (by first | (with_reducible assumption) | assumption)
                              have q254 : x15_2 < (l1.length : Int) := of_decide_eq_true (by first | (with_reducible assumption) | assumption)
                              obtain ⟨ad254, e254, hx254_0⟩ := Kd.at_int HR1.out x15_2 p254 q254
                              obtain rfl : ad244 = ad254 := (by injection e254)
                              replace hx254_0 := (HB.out.cell (World.block_lt_of_cell? w _ hx254_0)).trans hx254_0
                              replace p254 := eq_true p254
                              replace q254 := eq_true q254
                              go_wp2
                              repeat (go_quiet (fail); try go_wp2)
                              go_meet
                              case rel => exact ⟨_, (true), (by first | rfl | (simp; done) | (simp [*]; done)), H', ⟨by have := HJ5.out; have := HK2.out; first | omega | exact Nat.le_refl _⟩, ⟨by (with_reducible repeat (first | apply Kd.R_alloc | apply Kd.R_drewN | apply Kd.R_drew)); exact HO_8.out⟩, ⟨by repeat (first | (with_reducible first | exact HB.out | apply below_alloc | apply pw_below_drewN | apply below_drew1) | exact HB.out)⟩⟩
                            · rw [if_neg c25] at H
                              have c25b0 : decide ((rd l1 x15_2) < (rd t239 x15_2)) = false := decide_eq_false c25
                              clear c25
                              have H' := Aside0.mk H
                              clear H
                              have p248 : 0 ≤ (x15_2 : Int) := of_decide_eq_true (by first | (with_reducible assumption) | assumption)
                              have q248 : x15_2 < (t239.length : Int) := of_decide_eq_true (by first | (with_reducible assumption) | assumption)
                              obtain ⟨ad248, e248, hx248_0⟩ := Kd.at_int (Kd.R_reads' HO_8.out).2.2 x15_2 p248 q248
                              obtain rfl : ad243 = ad248 := (by injection e248)
                              replace p248 := eq_true p248
                              replace q248 := eq_true q248
                              have p252 : 0 ≤ (x15_2 : Int) := of_decide_eq_true (by first | (with_reducible assumption) | assumption)
                              have q252 : x15_2 < (t239.length : Int) := of_decide_eq_true (by first | (with_reducible assumption) | assumption)
                              obtain ⟨ad252, e252, hx252_0⟩ := Kd.at_int (Kd.R_reads' HO_8.out).2.2 x15_2 p252 q252
                              obtain rfl : ad243 = ad252 := (by injection e252)
                              replace p252 := eq_true p252
                              replace q252 := eq_true q252
                              have p253 : 0 ≤ (x15_2 : Int) := of_decide_eq_true (by first | (with_reducible assumption) | assumption)
                              have q253 : x15_2 < (t239.length : Int) := of_decide_eq_true (by first | (with_reducible assumption) | assumption)
                              obtain ⟨ad253, e253, hx253_0⟩ := Kd.at_int (Kd.R_reads' HO_8.out).2.2 x15_2 p253 q253
                              obtain rfl : ad243 = ad253 := (by injection e253)
                              replace p253 := eq_true p253
                              replace q253 := eq_true q253
                              have p254 : 0 ≤ (x15_2 : Int) := of_decide_eq_true (by first | (with_reducible assumption) | assumption)
                              have q254 : x15_2 < (l1.length : Int) := of_decide_eq_true (by first | (with_reducible assumption) | assumption)
                              obtain ⟨ad254, e254, hx254_0⟩ := Kd.at_int HR1.out x15_2 p254 q254
                              obtain rfl : ad244 = ad254 := (by injection e254)
                              replace hx254_0 := (HB.out.cell (World.block_lt_of_cell? w _ hx254_0)).trans hx254_0
                              replace p254 := eq_true p254
                              replace q254 := eq_true q254
                              have p255 : 0 ≤ (x15_2 : Int) := of_decide_eq_true (by first | (with_reducible assumption) | assumption)
                              have q255 : x15_2 < (t239.length : Int) := of_decide_eq_true (by first | (with_reducible assumption) | assumption)
                              obtain ⟨ad255, e255, hx255_0⟩ := Kd.at_int (Kd.R_reads' HO_8.out).2.2 x15_2 p255 q255
                              obtain rfl : ad243 = ad255 := (by injection e255)
                              replace p255 := eq_true p255
                              replace q255 := eq_true q255
                              go_wp2
                              repeat (go_quiet (fail); try go_wp2)
                              go_meet
                              case rel => exact ⟨_, ((t246 == 0)), (by first | rfl | (simp; done) | (simp [*]; done)), H', ⟨by have := HJ5.out; have := HK2.out; first | omega | exact Nat.le_refl _⟩, ⟨by (with_reducible repeat (first | apply Kd.R_alloc | apply Kd.R_drewN | apply Kd.R_drew)); exact HO_8.out⟩, ⟨by repeat (first | (with_reducible first | exact HB.out | apply below_alloc | apply pw_below_drewN | apply below_drew1) | exact HB.out)⟩⟩
                          · rw [if_neg c24] at H
                            have c24b0 : ((rd t239 x15_2) == (wrap64 (t245 + 1))) = false := beq_eq_false_iff_ne.mpr c24
                            have c24b1 : ((rd t239 x15_2) != (wrap64 (t245 + 1))) = true := bne_iff_ne.mpr c24
                            have H' := Aside0.mk H
                            clear H
                            have p248 : 0 ≤ (x15_2 : Int) := of_decide_eq_true (by first | (with_reducible assumption) | assumption)
                            have q248 : x15_2 < (t239.length : Int) := of_decide_eq_true (by first | (with_reducible assumption) | assumption)
                            obtain ⟨ad248, e248, hx248_0⟩ := Kd.at_int (Kd.R_reads' HO_8.out).2.2 x15_2 p248 q248
                            obtain rfl : ad243 = ad248 := (by injection e248)
                            replace p248 := eq_true p248
                            replace q248 := eq_true q248
                            have p252 : 0 ≤ (x15_2 : Int) := of_decide_eq_true (by first | (with_reducible assumption) | assumption)
                            have q252 : x15_2 < (t239.length : Int) := of_decide_eq_true (by first | (with_reducible assumption) | assumption)
                            obtain ⟨ad252, e252, hx252_0⟩ := Kd.at_int (Kd.R_reads' HO_8.out).2.2 x15_2 p252 q252
                            obtain rfl : ad243 = ad252 := (by injection e252)
                            replace p252 := eq_true p252
                            replace q252 := eq_true q252
                            go_wp2
                            repeat (go_quiet (fail); try go_wp2)
                            go_meet
                            case rel => exact ⟨_, (true), (by first | rfl | (simp; done) | (simp [*]; done)), H', ⟨by have := HJ5.out; have := HK2.out; first | omega | exact Nat.le_refl _⟩, ⟨by (with_reducible repeat (first | apply Kd.R_alloc | apply Kd.R_drewN | apply Kd.R_drew)); exact HO_8.out⟩, ⟨by repeat (first | (with_reducible first | exact HB.out | apply below_alloc | apply pw_below_drewN | apply below_drew1) | exact HB.out)⟩⟩
                      case rest =>
                        clear HC20
                        try clear c1
                        try clear c2
                        try clear p2
                        try clear q2
                        try clear hx2
                        try clear c5
                        try clear p6
                        try clear c9
                        try clear c10
                        try clear c10b0
                        try clear c11
                        try clear c12
                        try clear c13
                        try clear c13b0
                        try clear c13b1
                        try clear c13b2
                        try clear c15
                        try clear c15b0
                        try clear c16
                        try clear c16b0
                        try clear c17
                        try clear c17b0
                        try clear c21
                        try clear c21b0
                        try clear c21b1
                        try clear c22
                        try clear c22b0
                        try clear c23
                        try clear c23b0
                        try clear c23b1
                        try clear c24
                        try clear c24b0
                        try clear c24b1
                        try clear p24
                        try clear q24
                        try clear hx24
                        try clear c25
                        try clear c25b0
                        try clear p25
                        try clear q25
                        try clear hx25
                        try clear hx243_0
                        try clear hx244_0
                        try clear hx248_0
                        try clear hx249_0
                        try clear hx250_0
                        try clear hx251_0
                        try clear hx252_0
                        try clear hx253_0
                        try clear hx254_0
                        try clear hx255_0
                        try clear p2
                        try clear p243
                        try clear p244
                        try clear p248
                        try clear p249
                        try clear p250
                        try clear p251
                        try clear p252
                        try clear p253
                        try clear p254
                        try clear p255
                        try clear q243
                        try clear q244
                        try clear q248
                        try clear q249
                        try clear q250
                        try clear q251
                        try clear q252
                        try clear q253
                        try clear q254
                        try clear q255
                        obtain ⟨kq, x118_19, rfl, HA, HJ19, HO_8, HB⟩ := hcut
                        cases kq with
                        | zero => exact absurd HA.out (by simp [bournelaw01_ExactShares.j2])
                        | succ kj19 =>
                          have H := HA.out
                          clear HA
                          simp only [bournelaw01_ExactShares.j2] at H
                          by_cases c26 : x118_19 = true
                          · subst c26
                            have H1 : (some false) = some r := by rw [if_pos rfl] at H; exact H
                            clear H
                            have H := H1
                            clear H1
                            obtain rfl := Option.some.inj H
                            go_wp2
                            repeat (go_quiet (fail); try go_wp2)
                            go_ret
                            exact ⟨by first | rfl | (simp [errW_none, errW_some] <;> rfl) | (simp only [← hji18]; first | rfl | (simp [errW_none, errW_some] <;> rfl)) | (simp [*, errW_none, errW_some] <;> rfl), by repeat (first | (with_reducible first | exact HB.out | apply below_alloc | apply pw_below_drewN | apply below_drew1) | exact HB.out)⟩
                          · replace c26 := Bool.eq_false_iff.mpr c26
                            subst c26
                            have H1 : (if 0 ≤ x15_2 then (if x15_2 < (t239.length : Int) then (if (rd t239 x15_2) = (wrap64 (t245 + 1)) then (if x11_2 < 0 then (bournelaw01_ExactShares.j3 kj19 a0 l1 t236 t237 t239 (wrap64 (x10_2 + (rd t239 x15_2))) x11_2 x12_2 x13_2 x14_2 x15_2 t245 t246 true) else (bournelaw01_ExactShares.j3 kj19 a0 l1 t236 t237 t239 (wrap64 (x10_2 + (rd t239 x15_2))) x11_2 x12_2 x13_2 x14_2 x15_2 t245 t246 (decide (t246 ≤ x11_2)))) else (bournelaw01_ExactShares.j3 kj19 a0 l1 t236 t237 t239 (wrap64 (x10_2 + (rd t239 x15_2))) x11_2 x12_2 x13_2 x14_2 x15_2 t245 t246 false)) else (none)) else (none)) = some r := by rw [if_neg (show ¬ (false = true) by decide)] at H; exact H
                            clear H
                            have H := H1
                            clear H1
                            have HC27 := Aside0.mk H
                            clear H
                            go_upto_region 22 with (fail)
                            repeat (go_quiet (fail); go_upto_region 22 with (fail))
                            go_cut [134] (fun v134 wc => ∃ (kq : Nat) (x134_26 : Bool), v134 = .bool x134_26 ∧ Aside0 (bournelaw01_ExactShares.j3 kq a0 l1 t236 t237 t239 (wrap64 (x10_2 + (rd t239 x15_2))) x11_2 x12_2 x13_2 x14_2 x15_2 t245 t246 x134_26 = some r) ∧ Aside0 (kq ≤ kj19) ∧ Aside0 (Kd.R (Kd.int .i64) 3 wc w.heap.size (fun _ => True) (.slice (some ad243) t239.length co14) t239) ∧ Aside0 (Below w.heap.size w wc))
                            case first =>
                              have H := HC27.out
                              clear HC27
                              by_cases c28 : 0 ≤ x15_2
                              · rw [if_pos c28] at H
                                have c28b0 : decide (0 ≤ x15_2) = true := decide_eq_true c28
                                clear c28
                                (first | rw [c28b0] | (simp only [i64_w, i32_w]; rw [c28b0]) | skip)
                                by_cases c29 : x15_2 < (t239.length : Int)
                                · rw [if_pos c29] at H
                                  have c29b0 : decide (x15_2 < (t239.length : Int)) = true := decide_eq_true c29
                                  clear c29
                                  by_cases c30 : (rd t239 x15_2) = (wrap64 (t245 + 1))
                                  · rw [if_pos c30] at H
                                    have c30b0 : ((rd t239 x15_2) == (wrap64 (t245 + 1))) = true := beq_iff_eq.mpr c30
                                    have c30b1 : ((rd t239 x15_2) != (wrap64 (t245 + 1))) = false := bne_eq_false_iff_eq.mpr c30
                                    clear c30
                                    by_cases c31 : x11_2 < 0
                                    · rw [if_pos c31] at H
                                      have c31b0 : decide (x11_2 < 0) = true := decide_eq_true c31
                                      clear c31
                                      have H' := Aside0.mk H
                                      clear H
                                      have p256 : 0 ≤ (x15_2 : Int) := of_decide_eq_true (by first | (with_reducible assumption) | assumption)
                                      have q256 : x15_2 < (t239.length : Int) := of_decide_eq_true (by first | (with_reducible assumption) | assumption)
                                      obtain ⟨ad256, e256, hx256_0⟩ := Kd.at_int (Kd.R_reads' HO_8.out).2.2 x15_2 p256 q256
                                      obtain rfl : ad243 = ad256 := (by injection e256)
                                      replace p256 := eq_true p256
                                      replace q256 := eq_true q256
                                      go_wp2
                                      repeat (go_quiet (fail); try go_wp2)
                                      go_meet
                                      case rel => exact ⟨_, (true), (by first | rfl | (simp; done) | (simp [*]; done)), H', ⟨by have := HJ5.out; have := HK2.out; have := HJ19.out; first | omega | exact Nat.le_refl _⟩, ⟨by (with_reducible repeat (first | apply Kd.R_alloc | apply Kd.R_drewN | apply Kd.R_drew)); exact HO_8.out⟩, ⟨by repeat (first | (with_reducible first | exact HB.out | apply below_alloc | apply pw_below_drewN | apply below_drew1) | exact HB.out)⟩⟩
                                    · rw [if_neg c31] at H
                                      have c31b0 : decide (x11_2 < 0) = false := decide_eq_false c31
                                      clear c31
                                      have H' := Aside0.mk H
                                      clear H
                                      have p256 : 0 ≤ (x15_2 : Int) := of_decide_eq_true (by first | (with_reducible assumption) | assumption)
                                      have q256 : x15_2 < (t239.length : Int) := of_decide_eq_true (by first | (with_reducible assumption) | assumption)
                                      obtain ⟨ad256, e256, hx256_0⟩ := Kd.at_int (Kd.R_reads' HO_8.out).2.2 x15_2 p256 q256
                                      obtain rfl : ad243 = ad256 := (by injection e256)
                                      replace p256 := eq_true p256
                                      replace q256 := eq_true q256
                                      go_wp2
                                      repeat (go_quiet (fail); try go_wp2)
                                      go_meet
                                      case rel => exact ⟨_, (decide (t246 ≤ x11_2)), (by first | rfl | (simp; done) | (simp [*]; done)), H', ⟨by have := HJ5.out; have := HK2.out; have := HJ19.out; first | omega | exact Nat.le_refl _⟩, ⟨by (with_reducible repeat (first | apply Kd.R_alloc | apply Kd.R_drewN | apply Kd.R_drew)); exact HO_8.out⟩, ⟨by repeat (first | (with_reducible first | exact HB.out | apply below_alloc | apply pw_below_drewN | apply below_drew1) | exact HB.out)⟩⟩
                                  · rw [if_neg c30] at H
                                    have c30b0 : ((rd t239 x15_2) == (wrap64 (t245 + 1))) = false := beq_eq_false_iff_ne.mpr c30
                                    have c30b1 : ((rd t239 x15_2) != (wrap64 (t245 + 1))) = true := bne_iff_ne.mpr c30
                                    have H' := Aside0.mk H
                                    clear H
                                    have p256 : 0 ≤ (x15_2 : Int) := of_decide_eq_true (by first | (with_reducible assumption) | assumption)
                                    have q256 : x15_2 < (t239.length : Int) := of_decide_eq_true (by first | (with_reducible assumption) | assumption)
                                    obtain ⟨ad256, e256, hx256_0⟩ := Kd.at_int (Kd.R_reads' HO_8.out).2.2 x15_2 p256 q256
                                    obtain rfl : ad243 = ad256 := (by injection e256)
                                    replace p256 := eq_true p256
                                    replace q256 := eq_true q256
                                    go_wp2
                                    repeat (go_quiet (fail); try go_wp2)
                                    go_meet
                                    case rel => exact ⟨_, (false), (by first | rfl | (simp; done) | (simp [*]; done)), H', ⟨by have := HJ5.out; have := HK2.out; have := HJ19.out; first | omega | exact Nat.le_refl _⟩, ⟨by (with_reducible repeat (first | apply Kd.R_alloc | apply Kd.R_drewN | apply Kd.R_drew)); exact HO_8.out⟩, ⟨by repeat (first | (with_reducible first | exact HB.out | apply below_alloc | apply pw_below_drewN | apply below_drew1) | exact HB.out)⟩⟩
                                · rw [if_neg c29] at H
                                  exact absurd H (by simp)
                              · rw [if_neg c28] at H
                                exact absurd H (by simp)
                            case rest =>
                              clear HC27
                              try clear c1
                              try clear c2
                              try clear p2
                              try clear q2
                              try clear hx2
                              try clear c3
                              try clear c5
                              try clear p6
                              try clear c9
                              try clear c10
                              try clear c10b0
                              try clear c11
                              try clear c12
                              try clear c13
                              try clear c13b0
                              try clear c13b1
                              try clear c13b2
                              try clear c15
                              try clear c15b0
                              try clear c16
                              try clear c16b0
                              try clear c17
                              try clear c17b0
                              try clear c21
                              try clear c21b0
                              try clear c21b1
                              try clear c22
                              try clear c22b0
                              try clear c23
                              try clear c23b0
                              try clear c23b1
                              try clear c24
                              try clear c24b0
                              try clear c24b1
                              try clear p24
                              try clear q24
                              try clear hx24
                              try clear c25
                              try clear c25b0
                              try clear p25
                              try clear q25
                              try clear hx25
                              try clear c26
                              try clear c28
                              try clear c28b0
                              try clear c29
                              try clear c29b0
                              try clear c30
                              try clear c30b0
                              try clear c30b1
                              try clear c31
                              try clear c31b0
                              try clear hx243_0
                              try clear hx244_0
                              try clear hx248_0
                              try clear hx249_0
                              try clear hx250_0
                              try clear hx251_0
                              try clear hx252_0
                              try clear hx253_0
                              try clear hx254_0
                              try clear hx255_0
                              try clear hx256_0
                              try clear p2
                              try clear p24
                              try clear p243
                              try clear p244
                              try clear p248
                              try clear p249
                              try clear p25
                              try clear p250
                              try clear p251
                              try clear p252
                              try clear p253
                              try clear p254
                              try clear p255
                              try clear p256
                              try clear p6
                              try clear q2
                              try clear q24
                              try clear q243
                              try clear q244
                              try clear q248
                              try clear q249
                              try clear q25
                              try clear q250
                              try clear q251
                              try clear q252
                              try clear q253
                              try clear q254
                              try clear q255
                              try clear q256
                              obtain ⟨kq, x134_26, rfl, HA, HJ26, HO_8, HB⟩ := hcut
                              cases kq with
                              | zero => exact absurd HA.out (by simp [bournelaw01_ExactShares.j3])
                              | succ kj26 =>
                                have H := HA.out
                                clear HA
                                simp only [bournelaw01_ExactShares.j3] at H
                                by_cases c32 : x134_26 = true
                                · subst c32
                                  have H1 : (if 0 ≤ x15_2 then (if x15_2 < (t239.length : Int) then (if (rd t239 x15_2) = t245 then (if t246 > x13_2 then (bournelaw01_ExactShares.l0 kj26 a0 l1 t236 t237 t239 (wrap64 (x10_2 + (rd t239 x15_2))) t246 x15_2 t246 x15_2 (wrap64 (x15_2 + 1))) else (bournelaw01_ExactShares.l0 kj26 a0 l1 t236 t237 t239 (wrap64 (x10_2 + (rd t239 x15_2))) t246 x15_2 x13_2 x14_2 (wrap64 (x15_2 + 1)))) else (bournelaw01_ExactShares.l0 kj26 a0 l1 t236 t237 t239 (wrap64 (x10_2 + (rd t239 x15_2))) t246 x15_2 x13_2 x14_2 (wrap64 (x15_2 + 1)))) else (none)) else (none)) = some r := by rw [if_pos rfl] at H; exact H
                                  clear H
                                  have H := H1
                                  clear H1
                                  by_cases c33 : 0 ≤ x15_2
                                  · rw [if_pos c33] at H
                                    have c33b0 : decide (0 ≤ x15_2) = true := decide_eq_true c33
                                    clear c33
                                    by_cases c34 : x15_2 < (t239.length : Int)
                                    · rw [if_pos c34] at H
                                      have c34b0 : decide (x15_2 < (t239.length : Int)) = true := decide_eq_true c34
                                      clear c34
                                      by_cases c35 : (rd t239 x15_2) = t245
                                      · rw [if_pos c35] at H
                                        have c35b0 : ((rd t239 x15_2) == t245) = true := beq_iff_eq.mpr c35
                                        have c35b1 : ((rd t239 x15_2) != t245) = false := bne_eq_false_iff_eq.mpr c35
                                        clear c35
                                        by_cases c36 : t246 > x13_2
                                        · rw [if_pos c36] at H
                                          have c36b0 : decide (x13_2 < t246) = true := decide_eq_true c36
                                          clear c36
                                          have H' := Aside0.mk H
                                          clear H
                                          have p257 : 0 ≤ (x15_2 : Int) := of_decide_eq_true (by first | (with_reducible assumption) | assumption)
                                          have q257 : x15_2 < (t239.length : Int) := of_decide_eq_true (by first | (with_reducible assumption) | assumption)
                                          obtain ⟨ad257, e257, hx257_0⟩ := Kd.at_int (Kd.R_reads' HO_8.out).2.2 x15_2 p257 q257
                                          obtain rfl : ad243 = ad257 := (by injection e257)
                                          replace p257 := eq_true p257
                                          replace q257 := eq_true q257
                                          go_wp2
                                          repeat (go_quiet (fail); try go_wp2)
                                          go_roundg kj26
                                          case measure => have := HJ5.out; have := HK2.out; have := HJ19.out; have := HJ26.out; omega
                                          case rel => exact ⟨((wrap64 (x10_2 + (rd t239 x15_2)))), (t246), (x15_2), (t246), (x15_2), (wrap64 (x15_2 + 1)), (by first | rfl | (simp; done) | (simp [*]; done)), (by first | rfl | (simp; done) | (simp [*]; done)), (by first | rfl | (simp; done) | (simp [*]; done)), (by first | rfl | (simp; done) | (simp [*]; done)), (by first | rfl | (simp; done) | (simp [*]; done)), (by first | rfl | (simp; done) | (simp [*]; done)), H', ⟨by have := HJ5.out; have := HK2.out; have := HJ19.out; have := HJ26.out; omega⟩, ⟨by (with_reducible repeat (first | apply Kd.R_alloc | apply Kd.R_drewN | apply Kd.R_drew)); exact HO_8.out⟩, ⟨by repeat (first | (with_reducible first | exact HB.out | apply below_alloc | apply pw_below_drewN | apply below_drew1) | exact HB.out)⟩⟩
                                        · rw [if_neg c36] at H
                                          have c36b0 : decide (x13_2 < t246) = false := decide_eq_false c36
                                          clear c36
                                          have H' := Aside0.mk H
                                          clear H
                                          have p257 : 0 ≤ (x15_2 : Int) := of_decide_eq_true (by first | (with_reducible assumption) | assumption)
                                          have q257 : x15_2 < (t239.length : Int) := of_decide_eq_true (by first | (with_reducible assumption) | assumption)
                                          obtain ⟨ad257, e257, hx257_0⟩ := Kd.at_int (Kd.R_reads' HO_8.out).2.2 x15_2 p257 q257
                                          obtain rfl : ad243 = ad257 := (by injection e257)
                                          replace p257 := eq_true p257
                                          replace q257 := eq_true q257
                                          go_wp2
                                          repeat (go_quiet (fail); try go_wp2)
                                          go_roundg kj26
                                          case measure => have := HJ5.out; have := HK2.out; have := HJ19.out; have := HJ26.out; omega
                                          case rel => exact ⟨((wrap64 (x10_2 + (rd t239 x15_2)))), (t246), (x15_2), (x13_2), (x14_2), (wrap64 (x15_2 + 1)), (by first | rfl | (simp; done) | (simp [*]; done)), (by first | rfl | (simp; done) | (simp [*]; done)), (by first | rfl | (simp; done) | (simp [*]; done)), (by first | rfl | (simp; done) | (simp [*]; done)), (by first | rfl | (simp; done) | (simp [*]; done)), (by first | rfl | (simp; done) | (simp [*]; done)), H', ⟨by have := HJ5.out; have := HK2.out; have := HJ19.out; have := HJ26.out; omega⟩, ⟨by (with_reducible repeat (first | apply Kd.R_alloc | apply Kd.R_drewN | apply Kd.R_drew)); exact HO_8.out⟩, ⟨by repeat (first | (with_reducible first | exact HB.out | apply below_alloc | apply pw_below_drewN | apply below_drew1) | exact HB.out)⟩⟩
                                      · rw [if_neg c35] at H
                                        have c35b0 : ((rd t239 x15_2) == t245) = false := beq_eq_false_iff_ne.mpr c35
                                        have c35b1 : ((rd t239 x15_2) != t245) = true := bne_iff_ne.mpr c35
                                        have H' := Aside0.mk H
                                        clear H
                                        have p257 : 0 ≤ (x15_2 : Int) := of_decide_eq_true (by first | (with_reducible assumption) | assumption)
                                        have q257 : x15_2 < (t239.length : Int) := of_decide_eq_true (by first | (with_reducible assumption) | assumption)
                                        obtain ⟨ad257, e257, hx257_0⟩ := Kd.at_int (Kd.R_reads' HO_8.out).2.2 x15_2 p257 q257
                                        obtain rfl : ad243 = ad257 := (by injection e257)
                                        replace p257 := eq_true p257
                                        replace q257 := eq_true q257
                                        go_wp2
                                        repeat (go_quiet (fail); try go_wp2)
                                        go_roundg kj26
                                        case measure => have := HJ5.out; have := HK2.out; have := HJ19.out; have := HJ26.out; omega
                                        case rel => exact ⟨((wrap64 (x10_2 + (rd t239 x15_2)))), (t246), (x15_2), (x13_2), (x14_2), (wrap64 (x15_2 + 1)), (by first | rfl | (simp; done) | (simp [*]; done)), (by first | rfl | (simp; done) | (simp [*]; done)), (by first | rfl | (simp; done) | (simp [*]; done)), (by first | rfl | (simp; done) | (simp [*]; done)), (by first | rfl | (simp; done) | (simp [*]; done)), (by first | rfl | (simp; done) | (simp [*]; done)), H', ⟨by have := HJ5.out; have := HK2.out; have := HJ19.out; have := HJ26.out; omega⟩, ⟨by (with_reducible repeat (first | apply Kd.R_alloc | apply Kd.R_drewN | apply Kd.R_drew)); exact HO_8.out⟩, ⟨by repeat (first | (with_reducible first | exact HB.out | apply below_alloc | apply pw_below_drewN | apply below_drew1) | exact HB.out)⟩⟩
                                    · rw [if_neg c34] at H
                                      exact absurd H (by simp)
                                  · rw [if_neg c33] at H
                                    exact absurd H (by simp)
                                · replace c32 := Bool.eq_false_iff.mpr c32
                                  subst c32
                                  have H1 : (if 0 ≤ x15_2 then (if x15_2 < (t239.length : Int) then (if (rd t239 x15_2) = t245 then (if t246 > x13_2 then (bournelaw01_ExactShares.l0 kj26 a0 l1 t236 t237 t239 (wrap64 (x10_2 + (rd t239 x15_2))) x11_2 x12_2 t246 x15_2 (wrap64 (x15_2 + 1))) else (bournelaw01_ExactShares.l0 kj26 a0 l1 t236 t237 t239 (wrap64 (x10_2 + (rd t239 x15_2))) x11_2 x12_2 x13_2 x14_2 (wrap64 (x15_2 + 1)))) else (bournelaw01_ExactShares.l0 kj26 a0 l1 t236 t237 t239 (wrap64 (x10_2 + (rd t239 x15_2))) x11_2 x12_2 x13_2 x14_2 (wrap64 (x15_2 + 1)))) else (none)) else (none)) = some r := by rw [if_neg (show ¬ (false = true) by decide)] at H; exact H
                                  clear H
                                  have H := H1
                                  clear H1
                                  by_cases c37 : 0 ≤ x15_2
                                  · rw [if_pos c37] at H
                                    have c37b0 : decide (0 ≤ x15_2) = true := decide_eq_true c37
                                    clear c37
                                    by_cases c38 : x15_2 < (t239.length : Int)
                                    · rw [if_pos c38] at H
                                      have c38b0 : decide (x15_2 < (t239.length : Int)) = true := decide_eq_true c38
                                      clear c38
                                      by_cases c39 : (rd t239 x15_2) = t245
                                      · rw [if_pos c39] at H
                                        have c39b0 : ((rd t239 x15_2) == t245) = true := beq_iff_eq.mpr c39
                                        have c39b1 : ((rd t239 x15_2) != t245) = false := bne_eq_false_iff_eq.mpr c39
                                        clear c39
                                        by_cases c40 : t246 > x13_2
                                        · rw [if_pos c40] at H
                                          have c40b0 : decide (x13_2 < t246) = true := decide_eq_true c40
                                          clear c40
                                          have H' := Aside0.mk H
                                          clear H
                                          have p258 : 0 ≤ (x15_2 : Int) := of_decide_eq_true (by first | (with_reducible assumption) | assumption)
                                          have q258 : x15_2 < (t239.length : Int) := of_decide_eq_true (by first | (with_reducible assumption) | assumption)
                                          obtain ⟨ad258, e258, hx258_0⟩ := Kd.at_int (Kd.R_reads' HO_8.out).2.2 x15_2 p258 q258
                                          obtain rfl : ad243 = ad258 := (by injection e258)
                                          replace p258 := eq_true p258
                                          replace q258 := eq_true q258
                                          go_wp2
                                          repeat (go_quiet (fail); try go_wp2)
                                          go_roundg kj26
                                          case measure => have := HJ5.out; have := HK2.out; have := HJ19.out; have := HJ26.out; omega
                                          case rel => exact ⟨((wrap64 (x10_2 + (rd t239 x15_2)))), (x11_2), (x12_2), (t246), (x15_2), (wrap64 (x15_2 + 1)), (by first | rfl | (simp; done) | (simp [*]; done)), (by first | rfl | (simp; done) | (simp [*]; done)), (by first | rfl | (simp; done) | (simp [*]; done)), (by first | rfl | (simp; done) | (simp [*]; done)), (by first | rfl | (simp; done) | (simp [*]; done)), (by first | rfl | (simp; done) | (simp [*]; done)), H', ⟨by have := HJ5.out; have := HK2.out; have := HJ19.out; have := HJ26.out; omega⟩, ⟨by (with_reducible repeat (first | apply Kd.R_alloc | apply Kd.R_drewN | apply Kd.R_drew)); exact HO_8.out⟩, ⟨by repeat (first | (with_reducible first | exact HB.out | apply below_alloc | apply pw_below_drewN | apply below_drew1) | exact HB.out)⟩⟩
                                        · rw [if_neg c40] at H
                                          have c40b0 : decide (x13_2 < t246) = false := decide_eq_false c40
                                          clear c40
                                          have H' := Aside0.mk H
                                          clear H
                                          have p258 : 0 ≤ (x15_2 : Int) := of_decide_eq_true (by first | (with_reducible assumption) | assumption)
                                          have q258 : x15_2 < (t239.length : Int) := of_decide_eq_true (by first | (with_reducible assumption) | assumption)
                                          obtain ⟨ad258, e258, hx258_0⟩ := Kd.at_int (Kd.R_reads' HO_8.out).2.2 x15_2 p258 q258
                                          obtain rfl : ad243 = ad258 := (by injection e258)
                                          replace p258 := eq_true p258
                                          replace q258 := eq_true q258
                                          go_wp2
                                          repeat (go_quiet (fail); try go_wp2)
                                          go_roundg kj26
                                          case measure => have := HJ5.out; have := HK2.out; have := HJ19.out; have := HJ26.out; omega
                                          case rel => exact ⟨((wrap64 (x10_2 + (rd t239 x15_2)))), (x11_2), (x12_2), (x13_2), (x14_2), (wrap64 (x15_2 + 1)), (by first | rfl | (simp; done) | (simp [*]; done)), (by first | rfl | (simp; done) | (simp [*]; done)), (by first | rfl | (simp; done) | (simp [*]; done)), (by first | rfl | (simp; done) | (simp [*]; done)), (by first | rfl | (simp; done) | (simp [*]; done)), (by first | rfl | (simp; done) | (simp [*]; done)), H', ⟨by have := HJ5.out; have := HK2.out; have := HJ19.out; have := HJ26.out; omega⟩, ⟨by (with_reducible repeat (first | apply Kd.R_alloc | apply Kd.R_drewN | apply Kd.R_drew)); exact HO_8.out⟩, ⟨by repeat (first | (with_reducible first | exact HB.out | apply below_alloc | apply pw_below_drewN | apply below_drew1) | exact HB.out)⟩⟩
                                      · rw [if_neg c39] at H
                                        have c39b0 : ((rd t239 x15_2) == t245) = false := beq_eq_false_iff_ne.mpr c39
                                        have c39b1 : ((rd t239 x15_2) != t245) = true := bne_iff_ne.mpr c39
                                        have H' := Aside0.mk H
                                        clear H
                                        have p258 : 0 ≤ (x15_2 : Int) := of_decide_eq_true (by first | (with_reducible assumption) | assumption)
                                        have q258 : x15_2 < (t239.length : Int) := of_decide_eq_true (by first | (with_reducible assumption) | assumption)
                                        obtain ⟨ad258, e258, hx258_0⟩ := Kd.at_int (Kd.R_reads' HO_8.out).2.2 x15_2 p258 q258
                                        obtain rfl : ad243 = ad258 := (by injection e258)
                                        replace p258 := eq_true p258
                                        replace q258 := eq_true q258
                                        go_wp2
                                        repeat (go_quiet (fail); try go_wp2)
                                        go_roundg kj26
                                        case measure => have := HJ5.out; have := HK2.out; have := HJ19.out; have := HJ26.out; omega
                                        case rel => exact ⟨((wrap64 (x10_2 + (rd t239 x15_2)))), (x11_2), (x12_2), (x13_2), (x14_2), (wrap64 (x15_2 + 1)), (by first | rfl | (simp; done) | (simp [*]; done)), (by first | rfl | (simp; done) | (simp [*]; done)), (by first | rfl | (simp; done) | (simp [*]; done)), (by first | rfl | (simp; done) | (simp [*]; done)), (by first | rfl | (simp; done) | (simp [*]; done)), (by first | rfl | (simp; done) | (simp [*]; done)), H', ⟨by have := HJ5.out; have := HK2.out; have := HJ19.out; have := HJ26.out; omega⟩, ⟨by (with_reducible repeat (first | apply Kd.R_alloc | apply Kd.R_drewN | apply Kd.R_drew)); exact HO_8.out⟩, ⟨by repeat (first | (with_reducible first | exact HB.out | apply below_alloc | apply pw_below_drewN | apply below_drew1) | exact HB.out)⟩⟩
                                    · rw [if_neg c38] at H
                                      exact absurd H (by simp)
                                  · rw [if_neg c37] at H
                                    exact absurd H (by simp)
                    · rw [if_neg c17] at H
                      exact absurd H (by simp)
                  · rw [if_neg c16] at H
                    exact absurd H (by simp)
                · rw [if_neg c15] at H
                  have c15b0 : decide (x15_2 < (l1.length : Int)) = false := decide_eq_false c15
                  clear c15
                  by_cases c41 : x10_2 = a0
                  · rw [if_pos c41] at H
                    have c41b0 : (x10_2 == a0) = true := beq_iff_eq.mpr c41
                    have c41b1 : (x10_2 != a0) = false := bne_eq_false_iff_eq.mpr c41
                    clear c41
                    by_cases c42 : t236 = true
                    · subst c42
                      have H1 : (if x11_2 < 0 then (some true) else (if x13_2 < 0 then (some true) else (if x11_2 > x13_2 then (some true) else (if x11_2 = x13_2 then (some (decide (x12_2 < x14_2))) else (some false))))) = some r := by rw [if_pos rfl] at H; exact H
                      clear H
                      have H := H1
                      clear H1
                      by_cases c43 : x11_2 < 0
                      · rw [if_pos c43] at H
                        have c43b0 : decide (x11_2 < 0) = true := decide_eq_true c43
                        clear c43
                        obtain rfl := Option.some.inj H
                        go_wp2
                        repeat (go_quiet (fail); try go_wp2)
                        go_ret
                        exact ⟨by first | rfl | (simp [errW_none, errW_some] <;> rfl) | (simp [*, errW_none, errW_some] <;> rfl), by repeat (first | (with_reducible first | exact HB.out | apply below_alloc | apply pw_below_drewN | apply below_drew1) | exact HB.out)⟩
                      · rw [if_neg c43] at H
                        have c43b0 : decide (x11_2 < 0) = false := decide_eq_false c43
                        clear c43
                        by_cases c44 : x13_2 < 0
                        · rw [if_pos c44] at H
                          have c44b0 : decide (x13_2 < 0) = true := decide_eq_true c44
                          clear c44
                          obtain rfl := Option.some.inj H
                          go_wp2
                          repeat (go_quiet (fail); try go_wp2)
                          go_ret
                          exact ⟨by first | rfl | (simp [errW_none, errW_some] <;> rfl) | (simp [*, errW_none, errW_some] <;> rfl), by repeat (first | (with_reducible first | exact HB.out | apply below_alloc | apply pw_below_drewN | apply below_drew1) | exact HB.out)⟩
                        · rw [if_neg c44] at H
                          have c44b0 : decide (x13_2 < 0) = false := decide_eq_false c44
                          clear c44
                          by_cases c45 : x11_2 > x13_2
                          · rw [if_pos c45] at H
                            have c45b0 : decide (x13_2 < x11_2) = true := decide_eq_true c45
                            clear c45
                            obtain rfl := Option.some.inj H
                            go_wp2
                            repeat (go_quiet (fail); try go_wp2)
                            go_ret
                            exact ⟨by first | rfl | (simp [errW_none, errW_some] <;> rfl) | (simp [*, errW_none, errW_some] <;> rfl), by repeat (first | (with_reducible first | exact HB.out | apply below_alloc | apply pw_below_drewN | apply below_drew1) | exact HB.out)⟩
                          · rw [if_neg c45] at H
                            have c45b0 : decide (x13_2 < x11_2) = false := decide_eq_false c45
                            clear c45
                            by_cases c46 : x11_2 = x13_2
                            · rw [if_pos c46] at H
                              have c46b0 : (x11_2 == x13_2) = true := beq_iff_eq.mpr c46
                              have c46b1 : (x11_2 != x13_2) = false := bne_eq_false_iff_eq.mpr c46
                              clear c46
                              obtain rfl := Option.some.inj H
                              go_wp2
                              repeat (go_quiet (fail); try go_wp2)
                              go_ret
                              exact ⟨by first | rfl | (simp [errW_none, errW_some] <;> rfl) | (simp [*, errW_none, errW_some] <;> rfl), by repeat (first | (with_reducible first | exact HB.out | apply below_alloc | apply pw_below_drewN | apply below_drew1) | exact HB.out)⟩
                            · rw [if_neg c46] at H
                              have c46b0 : (x11_2 == x13_2) = false := beq_eq_false_iff_ne.mpr c46
                              have c46b1 : (x11_2 != x13_2) = true := bne_iff_ne.mpr c46
                              obtain rfl := Option.some.inj H
                              go_wp2
                              repeat (go_quiet (fail); try go_wp2)
                              go_ret
                              exact ⟨by first | rfl | (simp [errW_none, errW_some] <;> rfl) | (simp [*, errW_none, errW_some] <;> rfl), by repeat (first | (with_reducible first | exact HB.out | apply below_alloc | apply pw_below_drewN | apply below_drew1) | exact HB.out)⟩
                    · replace c42 := Bool.eq_false_iff.mpr c42
                      subst c42
                      have H1 : (some false) = some r := by rw [if_neg (show ¬ (false = true) by decide)] at H; exact H
                      clear H
                      have H := H1
                      clear H1
                      obtain rfl := Option.some.inj H
                      go_wp2
                      repeat (go_quiet (fail); try go_wp2)
                      go_ret
                      exact ⟨by first | rfl | (simp [errW_none, errW_some] <;> rfl) | (simp [*, errW_none, errW_some] <;> rfl), by repeat (first | (with_reducible first | exact HB.out | apply below_alloc | apply pw_below_drewN | apply below_drew1) | exact HB.out)⟩
                  · rw [if_neg c41] at H
                    have c41b0 : (x10_2 == a0) = false := beq_eq_false_iff_ne.mpr c41
                    have c41b1 : (x10_2 != a0) = true := bne_iff_ne.mpr c41
                    obtain rfl := Option.some.inj H
                    go_wp2
                    repeat (go_quiet (fail); try go_wp2)
                    go_ret
                    exact ⟨by first | rfl | (simp [errW_none, errW_some] <;> rfl) | (simp [*, errW_none, errW_some] <;> rfl), by repeat (first | (with_reducible first | exact HB.out | apply below_alloc | apply pw_below_drewN | apply below_drew1) | exact HB.out)⟩
          · rw [if_neg c13] at H
            have c13b0 : ((t239.length : Int) == (l1.length : Int)) = false := beq_eq_false_iff_ne.mpr c13
            have c13b1 : ((t239.length : Int) != (l1.length : Int)) = true := bne_iff_ne.mpr c13
            have c13b2 : (t239.length == l1.length) = false := by first | simpa using c13 | (simp at c13 ⊢; omega)
            obtain rfl := Option.some.inj H
            obtain ⟨Ao47, co47, eo47⟩ := Kd.R_slice HO_8.out
            subst eo47
            go_wp2
            repeat (go_quiet (fail); try go_wp2)
            go_ret
            exact ⟨by first | rfl | (simp [errW_none, errW_some] <;> rfl) | (simp [*, errW_none, errW_some] <;> rfl), by repeat (first | (with_reducible first | exact HB.out | apply below_alloc | apply pw_below_drewN | apply below_drew1) | exact HB.out)⟩
        · replace c12 := Bool.eq_false_iff.mpr c12
          subst c12
          have H1 : (if t236 = true then (some ((t239.length : Int) == 0)) else (some false)) = some r := by rw [if_neg (show ¬ (false = true) by decide)] at H; exact H
          clear H
          have H := H1
          clear H1
          by_cases c48 : t236 = true
          · subst c48
            have H1 : (some ((t239.length : Int) == 0)) = some r := by rw [if_pos rfl] at H; exact H
            clear H
            have H := H1
            clear H1
            obtain rfl := Option.some.inj H
            obtain ⟨Ao49, co49, eo49⟩ := Kd.R_slice HO_8.out
            subst eo49
            go_wp2
            repeat (go_quiet (fail); try go_wp2)
            go_ret
            exact ⟨by first | rfl | (simp [errW_none, errW_some] <;> rfl) | (simp [*, errW_none, errW_some] <;> rfl), by repeat (first | (with_reducible first | exact HB.out | apply below_alloc | apply pw_below_drewN | apply below_drew1) | exact HB.out)⟩
          · replace c48 := Bool.eq_false_iff.mpr c48
            subst c48
            have H1 : (some false) = some r := by rw [if_neg (show ¬ (false = true) by decide)] at H; exact H
            clear H
            have H := H1
            clear H1
            obtain rfl := Option.some.inj H
            go_wp2
            repeat (go_quiet (fail); try go_wp2)
            go_ret
            exact ⟨by first | rfl | (simp [errW_none, errW_some] <;> rfl) | (simp [*, errW_none, errW_some] <;> rfl), by repeat (first | (with_reducible first | exact HB.out | apply below_alloc | apply pw_below_drewN | apply below_drew1) | exact HB.out)⟩

/-- THE ONE PURE STATEMENT of bournelaw01_ExactShares: yours. -/
def bournelaw01_ExactShares.Pure : Prop := ∀ (a0 : Int) (l1 : List Int), (Lit.int .i64 a0).wf = true → l1.length ≤ maxLen → l1.length * 8 ≤ 140737488351232 → (∀ x ∈ l1, (Lit.int .i64 x).wf = true) → ∃ k, bournelaw01_ExactShares.f k a0 l1 = some true
theorem bournelaw01_ExactShares.walk (P : bournelaw01_ExactShares.Pure) (a0 : Int) (a1 : Option Addr) (len1 cap1 : Nat) (z1 : List Int) (w : World) (w0 : (Lit.int .i64 a0).wf = true) (w1 : (a1 = none ∧ len1 = 0 ∧ cap1 = 0 ∧ z1 = []) ∨ ∃ x, a1 = some x ∧ len1 ≤ cap1 ∧ cap1 ≤ maxLen ∧ z1.length = cap1 ∧ (∀ i, i < z1.length → w.cell? (x.add i) = some (.int .i64 (z1.getD i 0))) ∧ ∀ n ∈ z1, (Lit.int .i64 n).wf = true) (y1 : len1 * 8 ≤ 140737488351232) :
    Calls Try.prog 5 #[.int .i64 a0, .slice a1 len1 cap1] w fun e w' => e = .returned (.bool true) ∧ Below w.heap.size w w' := by
  obtain ⟨l1, rfl, hr1, hm1, hw1, hc1⟩ := ReadsInt.ofRowC w1
  obtain ⟨k, h⟩ := P a0 l1 w0 hm1 y1 hw1
  refine (bournelaw01_ExactShares.calls k a0 _ _ l1 true w (Kd.C_of_reads (d := (0 : Int)) (h1 := fun _ => rfl) hr1) hc1 h).mono ?_
  rintro e w' ⟨rfl, hd⟩
  exact ⟨rfl, hd⟩

end Go.Proofs.Ytcncjldggfbjdaa.PEx
