-- Printed by this session's turned copy of the print (wip/turnprint.py).
import Derived.Test.YtddhaagfieldfaaPCallTellsx0
import Derived.Test.YtddhaagfieldfaaPCallTellsx2
namespace Go.Proofs.Ytddhaagfieldfaa.PCallTells
open Go.RowKit Go.Proofs.YtddhaagfieldfaaW.PrintWords Go.Proofs.YtddhaagfieldfaaW.PrintLast Go.Proofs.YtddhaagfieldfaaW.PrintMore
attribute [local go_sem] max2_int min2_int max_two min_two max_three min_three max_four min_four   -- for this text's walks alone
set_option linter.unusedVariables false
set_option linter.unusedSimpArgs false

/-! ### allot_Day: function 23 -/
mutual
def allot_Day.l0 : Nat → List (S39) → List Int → List Int → Int → Int → V1 → V1 → V1 → List (S79) → V1 → V1 → V1 → V1 → V1 → V1 → V1 → Option ((List (S53)) × List Int)
  | 0, _, _, _, _, _, _, _, _, _, _, _, _, _, _, _, _ => none
  | k + 1, x1, x2, x8, x25, x26, x124000, x124001, x124002, x124003, x124004, x124005, x124006, x124007, x124008, x124009, x124010 => if x26 < x25 then (if x26 ≥ (x2.length : Int) then (allot_Day.j1 k x1 x2 x8 x26 x25 x26 true x124000 x124001 x124002 x124003 x124004 x124005 x124006 x124007 x124008 x124009 x124010) else (if 0 ≤ x26 then (if x26 < (x2.length : Int) then (allot_Day.j1 k x1 x2 x8 x26 x25 x26 (decide ((rd x2 x26) < 0)) x124000 x124001 x124002 x124003 x124004 x124005 x124006 x124007 x124008 x124009 x124010) else (none)) else (none))) else (allot_Day.l2 k x8 ([] : List (S53)) x1 (x1.length : Int) 0 x124000 x124001 x124002 x124003 x124004 x124005 x124006 x124007 x124008 x124009 x124010)
def allot_Day.j1 : Nat → List (S39) → List Int → List Int → Int → Int → Int → Bool → V1 → V1 → V1 → List (S79) → V1 → V1 → V1 → V1 → V1 → V1 → V1 → Option ((List (S53)) × List Int)
  | 0, _, _, _, _, _, _, _, _, _, _, _, _, _, _, _, _, _, _ => none
  | k + 1, x1, x2, x8, x9, x25, x26, x39, x124000, x124001, x124002, x124003, x124004, x124005, x124006, x124007, x124008, x124009, x124010 => if x39 = true then (allot_Day.l0 k x1 x2 x8 x25 (wrap64 (x26 + 1)) x124000 x124001 x124002 x124003 x124004 x124005 x124006 x124007 x124008 x124009 x124010) else ((allot_Reach.f k x124000 x124001 x124002 x124003 x124004 x124005 x124006 x124007 x124008 x124009 x124010 x9).bind fun t128 => (allot_Day.l1 k x1 x2 x8 x9 x25 x26 t128 (t128.length : Int) 0 x124000 x124001 x124002 x124003 x124004 x124005 x124006 x124007 x124008 x124009 x124010))
def allot_Day.l1 : Nat → List (S39) → List Int → List Int → Int → Int → Int → List Int → Int → Int → V1 → V1 → V1 → List (S79) → V1 → V1 → V1 → V1 → V1 → V1 → V1 → Option ((List (S53)) × List Int)
  | 0, _, _, _, _, _, _, _, _, _, _, _, _, _, _, _, _, _, _, _, _ => none
  | k + 1, x1, x2, x8, x9, x25, x26, x42, x43, x44, x124000, x124001, x124002, x124003, x124004, x124005, x124006, x124007, x124008, x124009, x124010 => if x44 < x43 then (if 0 ≤ x44 then (if x44 < (x42.length : Int) then (if 0 ≤ (rd x42 x44) then (if (rd x42 x44) < (x8.length : Int) then (if 0 ≤ x9 then (if x9 < (x2.length : Int) then ((exact_Add.f (rd x8 (rd x42 x44)) (rd x2 x9)).bind fun t134 => (allot_Day.l1 k x1 x2 (x8.set ((rd x42 x44) : Int).toNat t134) x9 x25 x26 x42 x43 (wrap64 (x44 + 1)) x124000 x124001 x124002 x124003 x124004 x124005 x124006 x124007 x124008 x124009 x124010)) else (none)) else (none)) else (none)) else (none)) else (none)) else (none)) else (allot_Day.l0 k x1 x2 x8 x25 (wrap64 (x26 + 1)) x124000 x124001 x124002 x124003 x124004 x124005 x124006 x124007 x124008 x124009 x124010)
def allot_Day.l2 : Nat → List Int → List (S53) → List (S39) → Int → Int → V1 → V1 → V1 → List (S79) → V1 → V1 → V1 → V1 → V1 → V1 → V1 → Option ((List (S53)) × List Int)
  | 0, _, _, _, _, _, _, _, _, _, _, _, _, _, _, _, _ => none
  | k + 1, x8, x12, x62, x63, x64, x124000, x124001, x124002, x124003, x124004, x124005, x124006, x124007, x124008, x124009, x124010 => if x64 < x63 then (if 0 ≤ x64 then (if x64 < (x62.length : Int) then ((allot_Reach.f k x124000 x124001 x124002 x124003 x124004 x124005 x124006 x124007 x124008 x124009 x124010 ((rd_T39 x62 x64).f3)).bind fun t138 => ((allot_least.f k ((rd_T39 x62 x64).f4) x8 t138).bind fun t141 => (if (t138.length : Int) = 0 then (allot_Day.j4 k x8 x12 t138 0 x62 x63 x64 x124000 x124001 x124002 x124003 x124004 x124005 x124006 x124007 x124008 x124009 x124010 ((rd_T39 x62 x64).f0) ((rd_T39 x62 x64).f1) ((rd_T39 x62 x64).f2) ((rd_T39 x62 x64).f3) ((rd_T39 x62 x64).f4) ((rd_T39 x62 x64).f5) ((rd_T39 x62 x64).f6) ((rd_T39 x62 x64).f7) ((rd_T39 x62 x64).f8)) else (allot_Day.j4 k x8 x12 t138 (mx 0 t141) x62 x63 x64 x124000 x124001 x124002 x124003 x124004 x124005 x124006 x124007 x124008 x124009 x124010 ((rd_T39 x62 x64).f0) ((rd_T39 x62 x64).f1) ((rd_T39 x62 x64).f2) ((rd_T39 x62 x64).f3) ((rd_T39 x62 x64).f4) ((rd_T39 x62 x64).f5) ((rd_T39 x62 x64).f6) ((rd_T39 x62 x64).f7) ((rd_T39 x62 x64).f8))))) else (none)) else (none)) else (some (x12, x8))
def allot_Day.j4 : Nat → List Int → List (S53) → List Int → Int → List (S39) → Int → Int → V1 → V1 → V1 → List (S79) → V1 → V1 → V1 → V1 → V1 → V1 → V1 → Int → Int → Int → Int → Int → Int → Int → Int → Int → Option ((List (S53)) × List Int)
  | 0, _, _, _, _, _, _, _, _, _, _, _, _, _, _, _, _, _, _, _, _, _, _, _, _, _, _, _ => none
  | k + 1, x8, x12, x15, x16, x62, x63, x64, x124000, x124001, x124002, x124003, x124004, x124005, x124006, x124007, x124008, x124009, x124010, x138000, x138001, x138002, x138003, x138004, x138005, x138006, x138007, x138008 => allot_Day.l3 k x8 x12 x16 x62 x63 x64 x15 (x15.length : Int) 0 x124000 x124001 x124002 x124003 x124004 x124005 x124006 x124007 x124008 x124009 x124010 x138000 x138001 x138002 x138003 x138004 x138005 x138006 x138007 x138008
def allot_Day.l3 : Nat → List Int → List (S53) → Int → List (S39) → Int → Int → List Int → Int → Int → V1 → V1 → V1 → List (S79) → V1 → V1 → V1 → V1 → V1 → V1 → V1 → Int → Int → Int → Int → Int → Int → Int → Int → Int → Option ((List (S53)) × List Int)
  | 0, _, _, _, _, _, _, _, _, _, _, _, _, _, _, _, _, _, _, _, _, _, _, _, _, _, _, _, _, _ => none
  | k + 1, x8, x12, x16, x62, x63, x64, x81, x82, x83, x124000, x124001, x124002, x124003, x124004, x124005, x124006, x124007, x124008, x124009, x124010, x138000, x138001, x138002, x138003, x138004, x138005, x138006, x138007, x138008 => if x83 < x82 then (if 0 ≤ x83 then (if x83 < (x81.length : Int) then (if 0 ≤ (rd x81 x83) then (if (rd x81 x83) < (x8.length : Int) then (allot_Day.l3 k (x8.set ((rd x81 x83) : Int).toNat (wrap64 ((rd x8 (rd x81 x83)) - x16))) x12 x16 x62 x63 x64 x81 x82 (wrap64 (x83 + 1)) x124000 x124001 x124002 x124003 x124004 x124005 x124006 x124007 x124008 x124009 x124010 x138000 x138001 x138002 x138003 x138004 x138005 x138006 x138007 x138008) else (none)) else (none)) else (none)) else (none)) else (if x12.length < 8796093022208 then (allot_Day.l2 k x8 (x12 ++ [(⟨x138000, x16⟩ : S53)]) x62 x63 (wrap64 (x64 + 1)) x124000 x124001 x124002 x124003 x124004 x124005 x124006 x124007 x124008 x124009 x124010) else (none))
end
def allot_Day.f (k : Nat) (a0_0 : V1) (a0_1 : V1) (a0_2 : V1) (l0_3 : List (S79)) (a0_4 : V1) (a0_5 : V1) (a0_6 : V1) (a0_7 : V1) (a0_8 : V1) (a0_9 : V1) (a0_10 : V1) (l1 : List (S39)) (l2 : List Int) : Option ((List (S53)) × List Int) := if 0 ≤ (l0_3.length : Int) then (if ((l0_3.length : Int) : Int).toNat ≤ 35184372088832 then (allot_Day.l0 k l1 l2 (List.replicate ((l0_3.length : Int) : Int).toNat 0) (l0_3.length : Int) 0 a0_0 a0_1 a0_2 l0_3 a0_4 a0_5 a0_6 a0_7 a0_8 a0_9 a0_10) else (none)) else (none)
theorem allot_Day.mono_l : ∀ k, (∀ y0 y1 y2 y3 y4 y5 y6 y7 y8 y9 y10 y11 y12 y13 y14 y15, LeO (allot_Day.l0 k y0 y1 y2 y3 y4 y5 y6 y7 y8 y9 y10 y11 y12 y13 y14 y15) (allot_Day.l0 (k + 1) y0 y1 y2 y3 y4 y5 y6 y7 y8 y9 y10 y11 y12 y13 y14 y15)) ∧ (∀ y0 y1 y2 y3 y4 y5 y6 y7 y8 y9 y10 y11 y12 y13 y14 y15 y16 y17, LeO (allot_Day.j1 k y0 y1 y2 y3 y4 y5 y6 y7 y8 y9 y10 y11 y12 y13 y14 y15 y16 y17) (allot_Day.j1 (k + 1) y0 y1 y2 y3 y4 y5 y6 y7 y8 y9 y10 y11 y12 y13 y14 y15 y16 y17)) ∧ (∀ y0 y1 y2 y3 y4 y5 y6 y7 y8 y9 y10 y11 y12 y13 y14 y15 y16 y17 y18 y19, LeO (allot_Day.l1 k y0 y1 y2 y3 y4 y5 y6 y7 y8 y9 y10 y11 y12 y13 y14 y15 y16 y17 y18 y19) (allot_Day.l1 (k + 1) y0 y1 y2 y3 y4 y5 y6 y7 y8 y9 y10 y11 y12 y13 y14 y15 y16 y17 y18 y19)) ∧ (∀ y0 y1 y2 y3 y4 y5 y6 y7 y8 y9 y10 y11 y12 y13 y14 y15, LeO (allot_Day.l2 k y0 y1 y2 y3 y4 y5 y6 y7 y8 y9 y10 y11 y12 y13 y14 y15) (allot_Day.l2 (k + 1) y0 y1 y2 y3 y4 y5 y6 y7 y8 y9 y10 y11 y12 y13 y14 y15)) ∧ (∀ y0 y1 y2 y3 y4 y5 y6 y7 y8 y9 y10 y11 y12 y13 y14 y15 y16 y17 y18 y19 y20 y21 y22 y23 y24 y25 y26, LeO (allot_Day.j4 k y0 y1 y2 y3 y4 y5 y6 y7 y8 y9 y10 y11 y12 y13 y14 y15 y16 y17 y18 y19 y20 y21 y22 y23 y24 y25 y26) (allot_Day.j4 (k + 1) y0 y1 y2 y3 y4 y5 y6 y7 y8 y9 y10 y11 y12 y13 y14 y15 y16 y17 y18 y19 y20 y21 y22 y23 y24 y25 y26)) ∧ (∀ y0 y1 y2 y3 y4 y5 y6 y7 y8 y9 y10 y11 y12 y13 y14 y15 y16 y17 y18 y19 y20 y21 y22 y23 y24 y25 y26 y27 y28, LeO (allot_Day.l3 k y0 y1 y2 y3 y4 y5 y6 y7 y8 y9 y10 y11 y12 y13 y14 y15 y16 y17 y18 y19 y20 y21 y22 y23 y24 y25 y26 y27 y28) (allot_Day.l3 (k + 1) y0 y1 y2 y3 y4 y5 y6 y7 y8 y9 y10 y11 y12 y13 y14 y15 y16 y17 y18 y19 y20 y21 y22 y23 y24 y25 y26 y27 y28))
  | 0 => ⟨fun _ _ _ _ _ _ _ _ _ _ _ _ _ _ _ _ r h => by simp [allot_Day.l0] at h, fun _ _ _ _ _ _ _ _ _ _ _ _ _ _ _ _ _ _ r h => by simp [allot_Day.j1] at h, fun _ _ _ _ _ _ _ _ _ _ _ _ _ _ _ _ _ _ _ _ r h => by simp [allot_Day.l1] at h, fun _ _ _ _ _ _ _ _ _ _ _ _ _ _ _ _ r h => by simp [allot_Day.l2] at h, fun _ _ _ _ _ _ _ _ _ _ _ _ _ _ _ _ _ _ _ _ _ _ _ _ _ _ _ r h => by simp [allot_Day.j4] at h, fun _ _ _ _ _ _ _ _ _ _ _ _ _ _ _ _ _ _ _ _ _ _ _ _ _ _ _ _ _ r h => by simp [allot_Day.l3] at h⟩
  | k + 1 => by
    obtain ⟨ih0, ih1, ih2, ih3, ih4, ih5⟩ := allot_Day.mono_l k
    refine ⟨?_, ?_, ?_, ?_, ?_, ?_⟩
    · intro y0 y1 y2 y3 y4 y5 y6 y7 y8 y9 y10 y11 y12 y13 y14 y15
      unfold allot_Day.l0
      repeat' first
      | (with_reducible exact ih0 _ _ _ _ _ _ _ _ _ _ _ _ _ _ _ _)
      | (with_reducible exact ih1 _ _ _ _ _ _ _ _ _ _ _ _ _ _ _ _ _ _)
      | (with_reducible exact ih2 _ _ _ _ _ _ _ _ _ _ _ _ _ _ _ _ _ _ _ _)
      | (with_reducible exact ih3 _ _ _ _ _ _ _ _ _ _ _ _ _ _ _ _)
      | (with_reducible exact ih4 _ _ _ _ _ _ _ _ _ _ _ _ _ _ _ _ _ _ _ _ _ _ _ _ _ _ _)
      | (with_reducible exact ih5 _ _ _ _ _ _ _ _ _ _ _ _ _ _ _ _ _ _ _ _ _ _ _ _ _ _ _ _ _)
      | (with_reducible exact allot_Reach.mono _ _ _ _ _ _ _ _ _ _ _ _ _)
      | (with_reducible exact allot_least.mono _ _ _ _)
      | (with_reducible exact LeO.refl _)
      | (with_reducible exact LeO.none _)
      | (with_reducible refine LeO.ite ?_ ?_)
      | (with_reducible refine LeO.bind ?_ (fun _ => ?_))
      | exact ih0 _ _ _ _ _ _ _ _ _ _ _ _ _ _ _ _
      | exact ih1 _ _ _ _ _ _ _ _ _ _ _ _ _ _ _ _ _ _
      | exact ih2 _ _ _ _ _ _ _ _ _ _ _ _ _ _ _ _ _ _ _ _
      | exact ih3 _ _ _ _ _ _ _ _ _ _ _ _ _ _ _ _
      | exact ih4 _ _ _ _ _ _ _ _ _ _ _ _ _ _ _ _ _ _ _ _ _ _ _ _ _ _ _
      | exact ih5 _ _ _ _ _ _ _ _ _ _ _ _ _ _ _ _ _ _ _ _ _ _ _ _ _ _ _ _ _
      | exact allot_Reach.mono _ _ _ _ _ _ _ _ _ _ _ _ _
      | exact allot_least.mono _ _ _ _
      | exact LeO.none _
      | refine LeO.ite ?_ ?_
      | refine LeO.bind ?_ (fun _ => ?_)
    · intro y0 y1 y2 y3 y4 y5 y6 y7 y8 y9 y10 y11 y12 y13 y14 y15 y16 y17
      unfold allot_Day.j1
      repeat' first
      | (with_reducible exact ih0 _ _ _ _ _ _ _ _ _ _ _ _ _ _ _ _)
      | (with_reducible exact ih1 _ _ _ _ _ _ _ _ _ _ _ _ _ _ _ _ _ _)
      | (with_reducible exact ih2 _ _ _ _ _ _ _ _ _ _ _ _ _ _ _ _ _ _ _ _)
      | (with_reducible exact ih3 _ _ _ _ _ _ _ _ _ _ _ _ _ _ _ _)
      | (with_reducible exact ih4 _ _ _ _ _ _ _ _ _ _ _ _ _ _ _ _ _ _ _ _ _ _ _ _ _ _ _)
      | (with_reducible exact ih5 _ _ _ _ _ _ _ _ _ _ _ _ _ _ _ _ _ _ _ _ _ _ _ _ _ _ _ _ _)
      | (with_reducible exact allot_Reach.mono _ _ _ _ _ _ _ _ _ _ _ _ _)
      | (with_reducible exact allot_least.mono _ _ _ _)
      | (with_reducible exact LeO.refl _)
      | (with_reducible exact LeO.none _)
      | (with_reducible refine LeO.ite ?_ ?_)
      | (with_reducible refine LeO.bind ?_ (fun _ => ?_))
      | exact ih0 _ _ _ _ _ _ _ _ _ _ _ _ _ _ _ _
      | exact ih1 _ _ _ _ _ _ _ _ _ _ _ _ _ _ _ _ _ _
      | exact ih2 _ _ _ _ _ _ _ _ _ _ _ _ _ _ _ _ _ _ _ _
      | exact ih3 _ _ _ _ _ _ _ _ _ _ _ _ _ _ _ _
      | exact ih4 _ _ _ _ _ _ _ _ _ _ _ _ _ _ _ _ _ _ _ _ _ _ _ _ _ _ _
      | exact ih5 _ _ _ _ _ _ _ _ _ _ _ _ _ _ _ _ _ _ _ _ _ _ _ _ _ _ _ _ _
      | exact allot_Reach.mono _ _ _ _ _ _ _ _ _ _ _ _ _
      | exact allot_least.mono _ _ _ _
      | exact LeO.none _
      | refine LeO.ite ?_ ?_
      | refine LeO.bind ?_ (fun _ => ?_)
    · intro y0 y1 y2 y3 y4 y5 y6 y7 y8 y9 y10 y11 y12 y13 y14 y15 y16 y17 y18 y19
      unfold allot_Day.l1
      repeat' first
      | (with_reducible exact ih0 _ _ _ _ _ _ _ _ _ _ _ _ _ _ _ _)
      | (with_reducible exact ih1 _ _ _ _ _ _ _ _ _ _ _ _ _ _ _ _ _ _)
      | (with_reducible exact ih2 _ _ _ _ _ _ _ _ _ _ _ _ _ _ _ _ _ _ _ _)
      | (with_reducible exact ih3 _ _ _ _ _ _ _ _ _ _ _ _ _ _ _ _)
      | (with_reducible exact ih4 _ _ _ _ _ _ _ _ _ _ _ _ _ _ _ _ _ _ _ _ _ _ _ _ _ _ _)
      | (with_reducible exact ih5 _ _ _ _ _ _ _ _ _ _ _ _ _ _ _ _ _ _ _ _ _ _ _ _ _ _ _ _ _)
      | (with_reducible exact allot_Reach.mono _ _ _ _ _ _ _ _ _ _ _ _ _)
      | (with_reducible exact allot_least.mono _ _ _ _)
      | (with_reducible exact LeO.refl _)
      | (with_reducible exact LeO.none _)
      | (with_reducible refine LeO.ite ?_ ?_)
      | (with_reducible refine LeO.bind ?_ (fun _ => ?_))
      | exact ih0 _ _ _ _ _ _ _ _ _ _ _ _ _ _ _ _
      | exact ih1 _ _ _ _ _ _ _ _ _ _ _ _ _ _ _ _ _ _
      | exact ih2 _ _ _ _ _ _ _ _ _ _ _ _ _ _ _ _ _ _ _ _
      | exact ih3 _ _ _ _ _ _ _ _ _ _ _ _ _ _ _ _
      | exact ih4 _ _ _ _ _ _ _ _ _ _ _ _ _ _ _ _ _ _ _ _ _ _ _ _ _ _ _
      | exact ih5 _ _ _ _ _ _ _ _ _ _ _ _ _ _ _ _ _ _ _ _ _ _ _ _ _ _ _ _ _
      | exact allot_Reach.mono _ _ _ _ _ _ _ _ _ _ _ _ _
      | exact allot_least.mono _ _ _ _
      | exact LeO.none _
      | refine LeO.ite ?_ ?_
      | refine LeO.bind ?_ (fun _ => ?_)
    · intro y0 y1 y2 y3 y4 y5 y6 y7 y8 y9 y10 y11 y12 y13 y14 y15
      unfold allot_Day.l2
      repeat' first
      | (with_reducible exact ih0 _ _ _ _ _ _ _ _ _ _ _ _ _ _ _ _)
      | (with_reducible exact ih1 _ _ _ _ _ _ _ _ _ _ _ _ _ _ _ _ _ _)
      | (with_reducible exact ih2 _ _ _ _ _ _ _ _ _ _ _ _ _ _ _ _ _ _ _ _)
      | (with_reducible exact ih3 _ _ _ _ _ _ _ _ _ _ _ _ _ _ _ _)
      | (with_reducible exact ih4 _ _ _ _ _ _ _ _ _ _ _ _ _ _ _ _ _ _ _ _ _ _ _ _ _ _ _)
      | (with_reducible exact ih5 _ _ _ _ _ _ _ _ _ _ _ _ _ _ _ _ _ _ _ _ _ _ _ _ _ _ _ _ _)
      | (with_reducible exact allot_Reach.mono _ _ _ _ _ _ _ _ _ _ _ _ _)
      | (with_reducible exact allot_least.mono _ _ _ _)
      | (with_reducible exact LeO.refl _)
      | (with_reducible exact LeO.none _)
      | (with_reducible refine LeO.ite ?_ ?_)
      | (with_reducible refine LeO.bind ?_ (fun _ => ?_))
      | exact ih0 _ _ _ _ _ _ _ _ _ _ _ _ _ _ _ _
      | exact ih1 _ _ _ _ _ _ _ _ _ _ _ _ _ _ _ _ _ _
      | exact ih2 _ _ _ _ _ _ _ _ _ _ _ _ _ _ _ _ _ _ _ _
      | exact ih3 _ _ _ _ _ _ _ _ _ _ _ _ _ _ _ _
      | exact ih4 _ _ _ _ _ _ _ _ _ _ _ _ _ _ _ _ _ _ _ _ _ _ _ _ _ _ _
      | exact ih5 _ _ _ _ _ _ _ _ _ _ _ _ _ _ _ _ _ _ _ _ _ _ _ _ _ _ _ _ _
      | exact allot_Reach.mono _ _ _ _ _ _ _ _ _ _ _ _ _
      | exact allot_least.mono _ _ _ _
      | exact LeO.none _
      | refine LeO.ite ?_ ?_
      | refine LeO.bind ?_ (fun _ => ?_)
    · intro y0 y1 y2 y3 y4 y5 y6 y7 y8 y9 y10 y11 y12 y13 y14 y15 y16 y17 y18 y19 y20 y21 y22 y23 y24 y25 y26
      unfold allot_Day.j4
      repeat' first
      | (with_reducible exact ih0 _ _ _ _ _ _ _ _ _ _ _ _ _ _ _ _)
      | (with_reducible exact ih1 _ _ _ _ _ _ _ _ _ _ _ _ _ _ _ _ _ _)
      | (with_reducible exact ih2 _ _ _ _ _ _ _ _ _ _ _ _ _ _ _ _ _ _ _ _)
      | (with_reducible exact ih3 _ _ _ _ _ _ _ _ _ _ _ _ _ _ _ _)
      | (with_reducible exact ih4 _ _ _ _ _ _ _ _ _ _ _ _ _ _ _ _ _ _ _ _ _ _ _ _ _ _ _)
      | (with_reducible exact ih5 _ _ _ _ _ _ _ _ _ _ _ _ _ _ _ _ _ _ _ _ _ _ _ _ _ _ _ _ _)
      | (with_reducible exact allot_Reach.mono _ _ _ _ _ _ _ _ _ _ _ _ _)
      | (with_reducible exact allot_least.mono _ _ _ _)
      | (with_reducible exact LeO.refl _)
      | (with_reducible exact LeO.none _)
      | (with_reducible refine LeO.ite ?_ ?_)
      | (with_reducible refine LeO.bind ?_ (fun _ => ?_))
      | exact ih0 _ _ _ _ _ _ _ _ _ _ _ _ _ _ _ _
      | exact ih1 _ _ _ _ _ _ _ _ _ _ _ _ _ _ _ _ _ _
      | exact ih2 _ _ _ _ _ _ _ _ _ _ _ _ _ _ _ _ _ _ _ _
      | exact ih3 _ _ _ _ _ _ _ _ _ _ _ _ _ _ _ _
      | exact ih4 _ _ _ _ _ _ _ _ _ _ _ _ _ _ _ _ _ _ _ _ _ _ _ _ _ _ _
      | exact ih5 _ _ _ _ _ _ _ _ _ _ _ _ _ _ _ _ _ _ _ _ _ _ _ _ _ _ _ _ _
      | exact allot_Reach.mono _ _ _ _ _ _ _ _ _ _ _ _ _
      | exact allot_least.mono _ _ _ _
      | exact LeO.none _
      | refine LeO.ite ?_ ?_
      | refine LeO.bind ?_ (fun _ => ?_)
    · intro y0 y1 y2 y3 y4 y5 y6 y7 y8 y9 y10 y11 y12 y13 y14 y15 y16 y17 y18 y19 y20 y21 y22 y23 y24 y25 y26 y27 y28
      unfold allot_Day.l3
      repeat' first
      | (with_reducible exact ih0 _ _ _ _ _ _ _ _ _ _ _ _ _ _ _ _)
      | (with_reducible exact ih1 _ _ _ _ _ _ _ _ _ _ _ _ _ _ _ _ _ _)
      | (with_reducible exact ih2 _ _ _ _ _ _ _ _ _ _ _ _ _ _ _ _ _ _ _ _)
      | (with_reducible exact ih3 _ _ _ _ _ _ _ _ _ _ _ _ _ _ _ _)
      | (with_reducible exact ih4 _ _ _ _ _ _ _ _ _ _ _ _ _ _ _ _ _ _ _ _ _ _ _ _ _ _ _)
      | (with_reducible exact ih5 _ _ _ _ _ _ _ _ _ _ _ _ _ _ _ _ _ _ _ _ _ _ _ _ _ _ _ _ _)
      | (with_reducible exact allot_Reach.mono _ _ _ _ _ _ _ _ _ _ _ _ _)
      | (with_reducible exact allot_least.mono _ _ _ _)
      | (with_reducible exact LeO.refl _)
      | (with_reducible exact LeO.none _)
      | (with_reducible refine LeO.ite ?_ ?_)
      | (with_reducible refine LeO.bind ?_ (fun _ => ?_))
      | exact ih0 _ _ _ _ _ _ _ _ _ _ _ _ _ _ _ _
      | exact ih1 _ _ _ _ _ _ _ _ _ _ _ _ _ _ _ _ _ _
      | exact ih2 _ _ _ _ _ _ _ _ _ _ _ _ _ _ _ _ _ _ _ _
      | exact ih3 _ _ _ _ _ _ _ _ _ _ _ _ _ _ _ _
      | exact ih4 _ _ _ _ _ _ _ _ _ _ _ _ _ _ _ _ _ _ _ _ _ _ _ _ _ _ _
      | exact ih5 _ _ _ _ _ _ _ _ _ _ _ _ _ _ _ _ _ _ _ _ _ _ _ _ _ _ _ _ _
      | exact allot_Reach.mono _ _ _ _ _ _ _ _ _ _ _ _ _
      | exact allot_least.mono _ _ _ _
      | exact LeO.none _
      | refine LeO.ite ?_ ?_
      | refine LeO.bind ?_ (fun _ => ?_)
theorem allot_Day.mono : ∀ a0 a1 a2 a3 a4 a5 a6 a7 a8 a9 a10 a11 a12 k, LeO (allot_Day.f k a0 a1 a2 a3 a4 a5 a6 a7 a8 a9 a10 a11 a12) (allot_Day.f (k + 1) a0 a1 a2 a3 a4 a5 a6 a7 a8 a9 a10 a11 a12) := by
  intro a0 a1 a2 a3 a4 a5 a6 a7 a8 a9 a10 a11 a12 k
  obtain ⟨ih0, ih1, ih2, ih3, ih4, ih5⟩ := allot_Day.mono_l k
  unfold allot_Day.f
  repeat' first
      | (with_reducible exact ih0 _ _ _ _ _ _ _ _ _ _ _ _ _ _ _ _)
      | (with_reducible exact ih1 _ _ _ _ _ _ _ _ _ _ _ _ _ _ _ _ _ _)
      | (with_reducible exact ih2 _ _ _ _ _ _ _ _ _ _ _ _ _ _ _ _ _ _ _ _)
      | (with_reducible exact ih3 _ _ _ _ _ _ _ _ _ _ _ _ _ _ _ _)
      | (with_reducible exact ih4 _ _ _ _ _ _ _ _ _ _ _ _ _ _ _ _ _ _ _ _ _ _ _ _ _ _ _)
      | (with_reducible exact ih5 _ _ _ _ _ _ _ _ _ _ _ _ _ _ _ _ _ _ _ _ _ _ _ _ _ _ _ _ _)
      | (with_reducible exact allot_Reach.mono _ _ _ _ _ _ _ _ _ _ _ _ _)
      | (with_reducible exact allot_least.mono _ _ _ _)
      | (with_reducible exact LeO.refl _)
      | (with_reducible exact LeO.none _)
      | (with_reducible refine LeO.ite ?_ ?_)
      | (with_reducible refine LeO.bind ?_ (fun _ => ?_))
      | exact ih0 _ _ _ _ _ _ _ _ _ _ _ _ _ _ _ _
      | exact ih1 _ _ _ _ _ _ _ _ _ _ _ _ _ _ _ _ _ _
      | exact ih2 _ _ _ _ _ _ _ _ _ _ _ _ _ _ _ _ _ _ _ _
      | exact ih3 _ _ _ _ _ _ _ _ _ _ _ _ _ _ _ _
      | exact ih4 _ _ _ _ _ _ _ _ _ _ _ _ _ _ _ _ _ _ _ _ _ _ _ _ _ _ _
      | exact ih5 _ _ _ _ _ _ _ _ _ _ _ _ _ _ _ _ _ _ _ _ _ _ _ _ _ _ _ _ _
      | exact allot_Reach.mono _ _ _ _ _ _ _ _ _ _ _ _ _
      | exact allot_least.mono _ _ _ _
      | exact LeO.none _
      | refine LeO.ite ?_ ?_
      | refine LeO.bind ?_ (fun _ => ?_)
def allot_Day.T9 : Bool × List (List Nat × List Nat) := (true, [([], []), ([], []), ([], []), ([], []), ([2, 3], [2, 3]), ([4], [4]), ([], []), ([], []), ([6, 7], [6, 7]), ([8], [8]), ([5, 9], [5, 9]), ([0, 1, 0, 1, 2, 3, 4, 5, 6, 7, 8, 9, 10], [0, 1]), ([11, 10, 10, 0, 1, 2, 3, 4, 5, 6, 7, 8, 9, 10], [10, 11])])
def allot_Day.B9 : List Nat := [0, 0, 0, 0, 12, 28, 0, 0, 192, 448, 1020, 2047, 4095]
theorem allot_Day.tab9 : rtab .any (opsOf Try.f23 9) = allot_Day.T9 := by kernel_rfl
theorem allot_Day.bits9 : waitsOk allot_Day.T9.2 allot_Day.B9 = true := by kernel_rfl
set_option maxHeartbeats 8000000 in
set_option maxRecDepth 100000 in
theorem allot_Day.calls (k : Nat) (a0_0 : V1) (a0_1 : V1) (a0_2 : V1) (A0_3 : Option Addr) (c0_3 : Nat) (l0_3 : List (S79)) (a0_4 : V1) (a0_5 : V1) (a0_6 : V1) (a0_7 : V1) (a0_8 : V1) (a0_9 : V1) (a0_10 : V1) (A1 : Option Addr) (c1 : Nat) (l1 : List (S39)) (A2 : Option Addr) (c2 : Nat) (l2 : List Int) (r1 : List (S53)) (r2 : List Int) (w : World) (hr0_3 : Kd.C k79 w A0_3 l0_3.length l0_3) (hc0_3 : l0_3.length ≤ c0_3) (hr1 : Kd.C k39 w A1 l1.length l1) (hc1 : l1.length ≤ c1) (hr2 : Kd.C (Kd.int .i64) w A2 l2.length l2) (hc2 : l2.length ≤ c2) (h : allot_Day.f k a0_0 a0_1 a0_2 l0_3 a0_4 a0_5 a0_6 a0_7 a0_8 a0_9 a0_10 l1 l2 = some (r1, r2)) :
    Calls Try.prog 23 #[.agg #[a0_0.v, a0_1.v, a0_2.v, .slice A0_3 l0_3.length c0_3, a0_4.v, a0_5.v, a0_6.v, a0_7.v, a0_8.v, a0_9.v, a0_10.v], .slice A1 l1.length c1, .slice A2 l2.length c2] w fun e w' => ∃ v0_ v1_ : Value, e = .returned (.tuple #[v0_, v1_]) ∧ Kd.R k53 53 w' w.heap.size (fun _ => True) v0_ r1 ∧ Kd.R (Kd.int .i64) 3 w' w.heap.size (fun _ => True) v1_ r2 ∧ Below w.heap.size w w' := by
  have hu31 := Try.underlying31
  have hu39 := Try.underlying39
  have hu53 := Try.underlying53
  have HR0_3 := Aside0.mk hr0_3
  have HC0_3 := Aside0.mk hc0_3
  clear hr0_3 hc0_3
  have HR1 := Aside0.mk hr1
  have HC1 := Aside0.mk hc1
  clear hr1 hc1
  have HR2 := Aside0.mk hr2
  have HC2 := Aside0.mk hc2
  clear hr2 hc2
  have HB := Aside0.mk (Below.refl w.heap.size w)
  have H : (if 0 ≤ (l0_3.length : Int) then (if ((l0_3.length : Int) : Int).toNat ≤ 35184372088832 then (allot_Day.l0 k l1 l2 (List.replicate ((l0_3.length : Int) : Int).toNat 0) (l0_3.length : Int) 0 a0_0 a0_1 a0_2 l0_3 a0_4 a0_5 a0_6 a0_7 a0_8 a0_9 a0_10) else (none)) else (none)) = some (r1, r2) := h
  clear h
  by_cases c4 : 0 ≤ (l0_3.length : Int)
  · rw [if_pos c4] at H
    have c4b0 := eq_true c4
    have c4b1 : decide (0 ≤ (l0_3.length : Int)) = true := decide_eq_true c4
    clear c4
    by_cases c5 : ((l0_3.length : Int) : Int).toNat ≤ 35184372088832
    · rw [if_pos c5] at H
      have c5b0 := eq_true c5
      have c5b1 : decide (((l0_3.length : Int) : Int).toNat ≤ 35184372088832) = true := decide_eq_true c5
      clear c5
      obtain ⟨y124, hy124⟩ : ∃ y_ : List Int, y_ = (List.replicate ((l0_3.length : Int) : Int).toNat 0) := ⟨_, rfl⟩
      replace H : (allot_Day.l0 k l1 l2 y124 (l0_3.length : Int) 0 a0_0 a0_1 a0_2 l0_3 a0_4 a0_5 a0_6 a0_7 a0_8 a0_9 a0_10) = some (r1, r2) := by first | (rw [hy124]; with_reducible exact H) | (have H2_ := (Option.bind_some _ _).symm.trans H; rw [hy124]; with_reducible exact H2_) | (have H2_ := (Option.bind_some _ _).symm.trans H; with_reducible exact H2_) | with_reducible exact H | (rw [hy124]; exact H) | exact H
      have Ny124 := Aside0.mk hy124
      clear hy124
      have H' := Aside0.mk H
      clear H
      go_enter Try.func23, Try.ntmps23
      go_wp2_with (first | ((with_reducible refine gate_dst (N := 3) rfl ?_); refine box_event ?hg (N := 3) ?hd (cs := #[a0_0.v, a0_1.v, a0_2.v, .slice A0_3 l0_3.length c0_3, a0_4.v, a0_5.v, a0_6.v, a0_7.v, a0_8.v, a0_9.v, a0_10.v]) (t := 31) ?hr ?_; (case hd => rfl); (case hg => rfl); (case hr => first | (go_simp; done) | (go_simp; rfl)); intro gb123 hg w6 hbox hb; have n0_ := Aside0.mk (below_step (by repeat (first | (with_reducible first | exact HB.out | apply below_alloc | apply pw_below_drewN | apply below_drew1) | exact HB.out)) hb); have n1_ := Aside0.mk (hbox); have n2_ := Aside0.mk ((by rw [hg]; exact (below_size (by repeat (first | (with_reducible first | exact HB.out | apply below_alloc | apply pw_below_drewN | apply below_drew1) | exact HB.out))) : w.heap.size ≤ gb123)); have n3_ := Aside0.mk ((by rw [hg]; exact (below_size (by repeat (first | (with_reducible first | exact HB.out | apply below_alloc | apply pw_below_drewN | apply below_drew1) | exact HB.out))) : w.heap.size ≤ gb123)); clear HB; have HB := n0_; have BK123 := n1_; have GW123 := n2_; have GE123 := n3_; clear n0_ n1_ n2_ n3_; clear hb hbox hg; have hcz7_0 : w6.cell? ⟨gb123, 0, none⟩ = some (a0_0.v) := (blk_cell BK123.out 0).trans rfl; have hcz7_1 : w6.cell? ⟨gb123, 1, none⟩ = some (a0_1.v) := (blk_cell BK123.out 1).trans rfl; have hcz7_2 : w6.cell? ⟨gb123, 2, none⟩ = some (a0_2.v) := (blk_cell BK123.out 2).trans rfl; have hcz7_3 : w6.cell? ⟨gb123, 3, none⟩ = some (.slice A0_3 l0_3.length c0_3) := (blk_cell BK123.out 3).trans rfl; have hcz7_4 : w6.cell? ⟨gb123, 4, none⟩ = some (a0_4.v) := (blk_cell BK123.out 4).trans rfl; have hcz7_5 : w6.cell? ⟨gb123, 5, none⟩ = some (a0_5.v) := (blk_cell BK123.out 5).trans rfl; have hcz7_6 : w6.cell? ⟨gb123, 6, none⟩ = some (a0_6.v) := (blk_cell BK123.out 6).trans rfl; have hcz7_7 : w6.cell? ⟨gb123, 7, none⟩ = some (a0_7.v) := (blk_cell BK123.out 7).trans rfl; have hcz7_8 : w6.cell? ⟨gb123, 8, none⟩ = some (a0_8.v) := (blk_cell BK123.out 8).trans rfl; have hcz7_9 : w6.cell? ⟨gb123, 9, none⟩ = some (a0_9.v) := (blk_cell BK123.out 9).trans rfl; have hcz7_10 : w6.cell? ⟨gb123, 10, none⟩ = some (a0_10.v) := (blk_cell BK123.out 10).trans rfl; have hfz7_0 := blk_frozen BK123.out 0; have hfz7_1 := blk_frozen BK123.out 1; have hfz7_2 := blk_frozen BK123.out 2; have hfz7_3 := blk_frozen BK123.out 3; have hfz7_4 := blk_frozen BK123.out 4; have hfz7_5 := blk_frozen BK123.out 5; have hfz7_6 := blk_frozen BK123.out 6; have hfz7_7 := blk_frozen BK123.out 7; have hfz7_8 := blk_frozen BK123.out 8; have hfz7_9 := blk_frozen BK123.out 9; have hfz7_10 := blk_frozen BK123.out 10) | ((with_reducible refine gate_dst (N := 22) rfl ?_); refine Kd.R_make (Kd.int .i64) _ 3 rfl (N := 22) rfl 29 _ _ rfl (l0_3.length : Int) rfl rfl Try.underlying29 (.int .i64 0) 8 info3 rfl (by decide) (by omega) 0 (ok := fun _ => True) (okp := fun _ => True) rfl (fun _ hk => hk) trivial (of_decide_eq_true (by first | (with_reducible assumption) | assumption)) (Nat.le_trans (Nat.mul_le_mul_right _ (of_decide_eq_true (by first | (with_reducible assumption) | assumption) : (l0_3.length : Int).toNat ≤ 35184372088832)) (by omega)) (Below.refl _ _) (Nat.le_refl _) ?_; intro v125 w8 ho9 hb hg_ hnew_; clear hg_ hnew_; (first | rw [← Ny124.out] at ho9 | (simp only [Int.reduceToNat] at ho9; rw [← Ny124.out] at ho9)); have n0_ := Aside0.mk (Kd.R_lower ho9 (below_size (by repeat (first | (with_reducible first | exact HB.out | apply below_alloc | apply pw_below_drewN | apply below_drew1 | refine below_set ?_ GE123.out) | exact HB.out)))); have n1_ := Aside0.mk (blk_below (g := gb123) (o := .cells #[a0_0.v, a0_1.v, a0_2.v, .slice A0_3 l0_3.length c0_3, a0_4.v, a0_5.v, a0_6.v, a0_7.v, a0_8.v, a0_9.v, a0_10.v] 31 (0, 0)) (by (with_reducible repeat (first | refine blk_drewN ?_ _ | refine blk_drew ?_ | refine blk_alloc ?_ _)); exact BK123.out) hb); have n2_ := Aside0.mk (below_step (by repeat (first | (with_reducible first | exact HB.out | apply below_alloc | apply pw_below_drewN | apply below_drew1 | refine below_set ?_ GE123.out) | exact HB.out)) hb); clear BK123; clear HB; have HO126 := n0_; have BK123 := n1_; have HB := n2_; clear n0_ n1_ n2_; clear hb ho9; have hcz10_0 : w8.cell? ⟨gb123, 0, none⟩ = some (a0_0.v) := (blk_cell BK123.out 0).trans rfl; have hcz10_1 : w8.cell? ⟨gb123, 1, none⟩ = some (a0_1.v) := (blk_cell BK123.out 1).trans rfl; have hcz10_2 : w8.cell? ⟨gb123, 2, none⟩ = some (a0_2.v) := (blk_cell BK123.out 2).trans rfl; have hcz10_3 : w8.cell? ⟨gb123, 3, none⟩ = some (.slice A0_3 l0_3.length c0_3) := (blk_cell BK123.out 3).trans rfl; have hcz10_4 : w8.cell? ⟨gb123, 4, none⟩ = some (a0_4.v) := (blk_cell BK123.out 4).trans rfl; have hcz10_5 : w8.cell? ⟨gb123, 5, none⟩ = some (a0_5.v) := (blk_cell BK123.out 5).trans rfl; have hcz10_6 : w8.cell? ⟨gb123, 6, none⟩ = some (a0_6.v) := (blk_cell BK123.out 6).trans rfl; have hcz10_7 : w8.cell? ⟨gb123, 7, none⟩ = some (a0_7.v) := (blk_cell BK123.out 7).trans rfl; have hcz10_8 : w8.cell? ⟨gb123, 8, none⟩ = some (a0_8.v) := (blk_cell BK123.out 8).trans rfl; have hcz10_9 : w8.cell? ⟨gb123, 9, none⟩ = some (a0_9.v) := (blk_cell BK123.out 9).trans rfl; have hcz10_10 : w8.cell? ⟨gb123, 10, none⟩ = some (a0_10.v) := (blk_cell BK123.out 10).trans rfl; have hfz10_0 := blk_frozen BK123.out 0; have hfz10_1 := blk_frozen BK123.out 1; have hfz10_2 := blk_frozen BK123.out 2; have hfz10_3 := blk_frozen BK123.out 3; have hfz10_4 := blk_frozen BK123.out 4; have hfz10_5 := blk_frozen BK123.out 5; have hfz10_6 := blk_frozen BK123.out 6; have hfz10_7 := blk_frozen BK123.out 7; have hfz10_8 := blk_frozen BK123.out 8; have hfz10_9 := blk_frozen BK123.out 9; have hfz10_10 := blk_frozen BK123.out 10))
      go_loopg [26] k (fun kq v26 w' => ∃ (x8_1 : List Int) (x26_1 : Int), v26 = .int .i64 x26_1 ∧ Aside0 (allot_Day.l0 kq l1 l2 x8_1 (l0_3.length : Int) x26_1 a0_0 a0_1 a0_2 l0_3 a0_4 a0_5 a0_6 a0_7 a0_8 a0_9 a0_10 = some (r1, r2)) ∧ Aside0 (kq ≤ k) ∧ Aside0 (Kd.R (Kd.int .i64) 3 w' w.heap.size (fun _ => True) v125 x8_1) ∧ Aside0 (w'.heap[gb123]? = some (.cells #[a0_0.v, a0_1.v, a0_2.v, (.slice A0_3 l0_3.length c0_3), a0_4.v, a0_5.v, a0_6.v, a0_7.v, a0_8.v, a0_9.v, a0_10.v] 31 (0, 0))) ∧ Aside0 (Below w.heap.size w w'))
      case atStart => exact ⟨(y124), (0), (by first | rfl | (simp; done) | (simp [*]; done)), H', ⟨Nat.le_refl _⟩, ⟨by (with_reducible repeat (first | apply Kd.R_alloc | apply Kd.R_drewN | apply Kd.R_drew)); exact HO126.out⟩, ⟨by (with_reducible repeat (first | refine blk_drewN ?_ _ | refine blk_drew ?_ | refine blk_alloc ?_ _)); exact BK123.out⟩, ⟨by repeat (first | (with_reducible first | exact HB.out | apply below_alloc | apply pw_below_drewN | apply below_drew1 | refine below_set ?_ GE123.out) | exact HB.out)⟩⟩
      case round =>
        clear H'
        try clear c1
        try clear c2
        try clear p2
        try clear c4
        try clear c4b0
        try clear c4b1
        try clear c5
        try clear c5b0
        try clear c5b1
        try clear hcz10_0
        try clear hcz10_1
        try clear hcz10_10
        try clear hcz10_2
        try clear hcz10_3
        try clear hcz10_4
        try clear hcz10_5
        try clear hcz10_6
        try clear hcz10_7
        try clear hcz10_8
        try clear hcz10_9
        try clear hcz7_0
        try clear hcz7_1
        try clear hcz7_10
        try clear hcz7_2
        try clear hcz7_3
        try clear hcz7_4
        try clear hcz7_5
        try clear hcz7_6
        try clear hcz7_7
        try clear hcz7_8
        try clear hcz7_9
        try clear hfz10_0
        try clear hfz10_1
        try clear hfz10_10
        try clear hfz10_2
        try clear hfz10_3
        try clear hfz10_4
        try clear hfz10_5
        try clear hfz10_6
        try clear hfz10_7
        try clear hfz10_8
        try clear hfz10_9
        try clear hfz7_0
        try clear hfz7_1
        try clear hfz7_10
        try clear hfz7_2
        try clear hfz7_3
        try clear hfz7_4
        try clear hfz7_5
        try clear hfz7_6
        try clear hfz7_7
        try clear hfz7_8
        try clear hfz7_9
        obtain ⟨x8_1, x26_1, rfl, HA, HK1, HO_8, BK123, HB⟩ := hrel
        cases gk with
        | zero => exact absurd HA.out (by simp [allot_Day.l0])
        | succ k1 =>
          have H := HA.out
          clear HA
          simp only [allot_Day.l0] at H
          by_cases c11 : x26_1 < (l0_3.length : Int)
          · rw [if_pos c11] at H
            have c11b0 : decide (x26_1 < (l0_3.length : Int)) = true := decide_eq_true c11
            clear c11
            have HC12 := Aside0.mk H
            clear H
            go_upto_region 5 with (fail)
            go_cut [39] (fun v39 wc => ∃ (kq : Nat) (x39_11 : Bool), v39 = .bool x39_11 ∧ Aside0 (allot_Day.j1 kq l1 l2 x8_1 x26_1 (l0_3.length : Int) x26_1 x39_11 a0_0 a0_1 a0_2 l0_3 a0_4 a0_5 a0_6 a0_7 a0_8 a0_9 a0_10 = some (r1, r2)) ∧ Aside0 (kq ≤ k1) ∧ Aside0 (Kd.R (Kd.int .i64) 3 wc w.heap.size (fun _ => True) v125 x8_1) ∧ Aside0 (wc.heap[gb123]? = some (.cells #[a0_0.v, a0_1.v, a0_2.v, (.slice A0_3 l0_3.length c0_3), a0_4.v, a0_5.v, a0_6.v, a0_7.v, a0_8.v, a0_9.v, a0_10.v] 31 (0, 0))) ∧ Aside0 (Below w.heap.size w wc))
            case first =>
              have H := HC12.out
              clear HC12
              by_cases c13 : x26_1 ≥ (l2.length : Int)
              · rw [if_pos c13] at H
                have c13b0 : decide ((l2.length : Int) ≤ x26_1) = true := decide_eq_true c13
                clear c13
                (first | rw [c13b0] | (simp only [i64_w, i32_w]; rw [c13b0]) | skip)
                have H' := Aside0.mk H
                clear H
                go_wp2
                go_meet
                case rel => exact ⟨_, (true), (by first | rfl | (simp; done) | (simp [*]; done)), H', ⟨by have := HK1.out; first | omega | exact Nat.le_refl _⟩, ⟨by (with_reducible repeat (first | apply Kd.R_alloc | apply Kd.R_drewN | apply Kd.R_drew)); exact HO_8.out⟩, ⟨by (with_reducible repeat (first | refine blk_drewN ?_ _ | refine blk_drew ?_ | refine blk_alloc ?_ _)); exact BK123.out⟩, ⟨by repeat (first | (with_reducible first | exact HB.out | apply below_alloc | apply pw_below_drewN | apply below_drew1 | refine below_set ?_ GE123.out) | exact HB.out)⟩⟩
              · rw [if_neg c13] at H
                have c13b0 : decide ((l2.length : Int) ≤ x26_1) = false := decide_eq_false c13
                clear c13
                (first | rw [c13b0] | (simp only [i64_w, i32_w]; rw [c13b0]) | skip)
                by_cases c14 : 0 ≤ x26_1
                · rw [if_pos c14] at H
                  have c14b0 : decide (0 ≤ x26_1) = true := decide_eq_true c14
                  clear c14
                  by_cases c15 : x26_1 < (l2.length : Int)
                  · rw [if_pos c15] at H
                    have c15b0 : decide (x26_1 < (l2.length : Int)) = true := decide_eq_true c15
                    clear c15
                    have H' := Aside0.mk H
                    clear H
                    have p127 : 0 ≤ (x26_1 : Int) := of_decide_eq_true (by first | (with_reducible assumption) | assumption)
                    have q127 : x26_1 < (l2.length : Int) := of_decide_eq_true (by first | (with_reducible assumption) | assumption)
                    obtain ⟨ad127, e127, hx127_0⟩ := Kd.at_int HR2.out x26_1 p127 q127
                    cases e127
                    replace hx127_0 := (HB.out.cell (World.block_lt_of_cell? w _ hx127_0)).trans hx127_0
                    replace p127 := eq_true p127
                    replace q127 := eq_true q127
                    go_wp2
                    go_meet
                    case rel => exact ⟨_, (decide ((rd l2 x26_1) < 0)), (by first | rfl | (simp; done) | (simp [*]; done)), H', ⟨by have := HK1.out; first | omega | exact Nat.le_refl _⟩, ⟨by (with_reducible repeat (first | apply Kd.R_alloc | apply Kd.R_drewN | apply Kd.R_drew)); exact HO_8.out⟩, ⟨by (with_reducible repeat (first | refine blk_drewN ?_ _ | refine blk_drew ?_ | refine blk_alloc ?_ _)); exact BK123.out⟩, ⟨by repeat (first | (with_reducible first | exact HB.out | apply below_alloc | apply pw_below_drewN | apply below_drew1 | refine below_set ?_ GE123.out) | exact HB.out)⟩⟩
                  · rw [if_neg c15] at H
                    exact absurd H (by simp)
                · rw [if_neg c14] at H
                  exact absurd H (by simp)
            case rest =>
              clear HC12
              try clear c1
              try clear p1
              try clear q1
              try clear hx1
              try clear c2
              try clear p2
              try clear c4
              try clear c4b0
              try clear c4b1
              try clear c5
              try clear c5b0
              try clear c5b1
              try clear c11
              try clear c11b0
              try clear p12
              try clear q12
              try clear hx12
              try clear c13
              try clear c13b0
              try clear c14
              try clear c14b0
              try clear c15
              try clear c15b0
              try clear hcz10_0
              try clear hcz10_1
              try clear hcz10_10
              try clear hcz10_2
              try clear hcz10_3
              try clear hcz10_4
              try clear hcz10_5
              try clear hcz10_6
              try clear hcz10_7
              try clear hcz10_8
              try clear hcz10_9
              try clear hcz7_0
              try clear hcz7_1
              try clear hcz7_10
              try clear hcz7_2
              try clear hcz7_3
              try clear hcz7_4
              try clear hcz7_5
              try clear hcz7_6
              try clear hcz7_7
              try clear hcz7_8
              try clear hcz7_9
              try clear hfz10_0
              try clear hfz10_1
              try clear hfz10_10
              try clear hfz10_2
              try clear hfz10_3
              try clear hfz10_4
              try clear hfz10_5
              try clear hfz10_6
              try clear hfz10_7
              try clear hfz10_8
              try clear hfz10_9
              try clear hfz7_0
              try clear hfz7_1
              try clear hfz7_10
              try clear hfz7_2
              try clear hfz7_3
              try clear hfz7_4
              try clear hfz7_5
              try clear hfz7_6
              try clear hfz7_7
              try clear hfz7_8
              try clear hfz7_9
              try clear hx127_0
              try clear p127
              try clear p2
              try clear q127
              obtain ⟨kq, x39_11, rfl, HA, HJ11, HO_8, BK123, HB⟩ := hcut
              cases kq with
              | zero => exact absurd HA.out (by simp [allot_Day.j1])
              | succ kj11 =>
                have H := HA.out
                clear HA
                simp only [allot_Day.j1] at H
                by_cases c16 : x39_11 = true
                · subst c16
                  have H1 : (allot_Day.l0 kj11 l1 l2 x8_1 (l0_3.length : Int) (wrap64 (x26_1 + 1)) a0_0 a0_1 a0_2 l0_3 a0_4 a0_5 a0_6 a0_7 a0_8 a0_9 a0_10) = some (r1, r2) := by rw [if_pos rfl] at H; exact H
                  clear H
                  have H := H1
                  clear H1
                  have H' := Aside0.mk H
                  clear H
                  go_wp2
                  go_roundg kj11
                  case measure => have := HK1.out; have := HJ11.out; omega
                  case rel => exact ⟨(x8_1), (wrap64 (x26_1 + 1)), (by first | rfl | (simp; done) | (simp [*]; done)), H', ⟨by have := HK1.out; have := HJ11.out; omega⟩, ⟨by (with_reducible repeat (first | apply Kd.R_alloc | apply Kd.R_drewN | apply Kd.R_drew)); exact HO_8.out⟩, ⟨by (with_reducible repeat (first | refine blk_drewN ?_ _ | refine blk_drew ?_ | refine blk_alloc ?_ _)); exact BK123.out⟩, ⟨by repeat (first | (with_reducible first | exact HB.out | apply below_alloc | apply pw_below_drewN | apply below_drew1 | refine below_set ?_ GE123.out) | exact HB.out)⟩⟩
                · replace c16 := Bool.eq_false_iff.mpr c16
                  subst c16
                  have H1 : ((allot_Reach.f kj11 a0_0 a0_1 a0_2 l0_3 a0_4 a0_5 a0_6 a0_7 a0_8 a0_9 a0_10 x26_1).bind fun t128 => (allot_Day.l1 kj11 l1 l2 x8_1 x26_1 (l0_3.length : Int) x26_1 t128 (t128.length : Int) 0 a0_0 a0_1 a0_2 l0_3 a0_4 a0_5 a0_6 a0_7 a0_8 a0_9 a0_10)) = some (r1, r2) := by rw [if_neg (show ¬ (false = true) by decide)] at H; exact H
                  clear H
                  have H := H1
                  clear H1
                  replace H := Option.bind_eq_some_iff.mp H
                  obtain ⟨t128, A170, H⟩ := H
                  replace H : (allot_Day.l1 kj11 l1 l2 x8_1 x26_1 (l0_3.length : Int) x26_1 t128 (t128.length : Int) 0 a0_0 a0_1 a0_2 l0_3 a0_4 a0_5 a0_6 a0_7 a0_8 a0_9 a0_10) = some (r1, r2) := H
                  have A17 := Aside0.mk A170
                  clear A170
                  have H' := Aside0.mk H
                  clear H
                  have hcz18_0 : wc.cell? ⟨gb123, 0, none⟩ = some (a0_0.v) := (blk_cell BK123.out 0).trans rfl
                  have hcz18_1 : wc.cell? ⟨gb123, 1, none⟩ = some (a0_1.v) := (blk_cell BK123.out 1).trans rfl
                  have hcz18_2 : wc.cell? ⟨gb123, 2, none⟩ = some (a0_2.v) := (blk_cell BK123.out 2).trans rfl
                  have hcz18_3 : wc.cell? ⟨gb123, 3, none⟩ = some (.slice A0_3 l0_3.length c0_3) := (blk_cell BK123.out 3).trans rfl
                  have hcz18_4 : wc.cell? ⟨gb123, 4, none⟩ = some (a0_4.v) := (blk_cell BK123.out 4).trans rfl
                  have hcz18_5 : wc.cell? ⟨gb123, 5, none⟩ = some (a0_5.v) := (blk_cell BK123.out 5).trans rfl
                  have hcz18_6 : wc.cell? ⟨gb123, 6, none⟩ = some (a0_6.v) := (blk_cell BK123.out 6).trans rfl
                  have hcz18_7 : wc.cell? ⟨gb123, 7, none⟩ = some (a0_7.v) := (blk_cell BK123.out 7).trans rfl
                  have hcz18_8 : wc.cell? ⟨gb123, 8, none⟩ = some (a0_8.v) := (blk_cell BK123.out 8).trans rfl
                  have hcz18_9 : wc.cell? ⟨gb123, 9, none⟩ = some (a0_9.v) := (blk_cell BK123.out 9).trans rfl
                  have hcz18_10 : wc.cell? ⟨gb123, 10, none⟩ = some (a0_10.v) := (blk_cell BK123.out 10).trans rfl
                  have hfz18_0 := blk_frozen BK123.out 0
                  have hfz18_1 := blk_frozen BK123.out 1
                  have hfz18_2 := blk_frozen BK123.out 2
                  have hfz18_3 := blk_frozen BK123.out 3
                  have hfz18_4 := blk_frozen BK123.out 4
                  have hfz18_5 := blk_frozen BK123.out 5
                  have hfz18_6 := blk_frozen BK123.out 6
                  have hfz18_7 := blk_frozen BK123.out 7
                  have hfz18_8 := blk_frozen BK123.out 8
                  have hfz18_9 := blk_frozen BK123.out 9
                  have hfz18_10 := blk_frozen BK123.out 10
                  go_wp2_with (first | ((with_reducible refine gate_callee (f := 25) rfl ?_); refine goesL_ (some 42) rfl rfl Try.func25 (by kernel_rfl) rfl #[.agg #[a0_0.v, a0_1.v, a0_2.v, .slice A0_3 l0_3.length c0_3, a0_4.v, a0_5.v, a0_6.v, a0_7.v, a0_8.v, a0_9.v, a0_10.v], .int .i64 x26_1] rfl (by (try simp only [List.map_toArray, List.map_cons, List.map_nil]); first | done | rfl | (simp only [List.length_drop, List.length_take]; rfl)) ?_; (with_reducible refine (allot_Reach.calls kj11 a0_0 a0_1 a0_2 _ _ l0_3 a0_4 a0_5 a0_6 a0_7 a0_8 a0_9 a0_10 x26_1 t128 _ ?side1 ?side2 A17.out).mono ?_); (case side1 => repeat (first | exact (Kd.C_below HR0_3.out HB.out) | (with_reducible refine Kd.C_alloc ?_ _) | (with_reducible refine Kd.C_drewN ?_ _) | (with_reducible refine Kd.C_drew ?_))); (case side2 => exact HC0_3.out); rintro e w19 ⟨v129, rfl, ho0, hb⟩; refine ⟨_, rfl, ?_⟩; have n0_ := Aside0.mk (Kd.R_elder' (by (with_reducible repeat (first | apply Kd.R_alloc | apply Kd.R_drewN | apply Kd.R_drew)); exact HO_8.out) (Kd.R_base ho0) hb); have n1_ := Aside0.mk (Kd.R_lower (Kd.R_new' ho0 (Kd.R_lt (by (with_reducible repeat (first | apply Kd.R_alloc | apply Kd.R_drewN | apply Kd.R_drew)); exact HO_8.out))) (below_size (by repeat (first | (with_reducible first | exact HB.out | apply below_alloc | apply pw_below_drewN | apply below_drew1 | refine below_set ?_ GE123.out) | exact HB.out)))); have n2_ := Aside0.mk (blk_below (g := gb123) (o := .cells #[a0_0.v, a0_1.v, a0_2.v, .slice A0_3 l0_3.length c0_3, a0_4.v, a0_5.v, a0_6.v, a0_7.v, a0_8.v, a0_9.v, a0_10.v] 31 (0, 0)) (by (with_reducible repeat (first | refine blk_drewN ?_ _ | refine blk_drew ?_ | refine blk_alloc ?_ _)); exact BK123.out) hb); have n3_ := Aside0.mk (below_step (by repeat (first | (with_reducible first | exact HB.out | apply below_alloc | apply pw_below_drewN | apply below_drew1 | refine below_set ?_ GE123.out) | exact HB.out)) hb); clear HO_8; clear BK123; clear HB; have HO_8 := n0_; have HO130 := n1_; have BK123 := n2_; have HB := n3_; clear n0_ n1_ n2_ n3_; (try clear hb); (try clear hb2); (try clear hk); (try clear hi); (try clear ho0); obtain ⟨Ao20, co20, eo20⟩ := Kd.R_slice HO130.out; subst eo20))
                  go_loopg [44] kj11 (fun kq v44 w' => ∃ (x8_3 : List Int) (x44_3 : Int), v44 = .int .i64 x44_3 ∧ Aside0 (allot_Day.l1 kq l1 l2 x8_3 x26_1 (l0_3.length : Int) x26_1 t128 (t128.length : Int) x44_3 a0_0 a0_1 a0_2 l0_3 a0_4 a0_5 a0_6 a0_7 a0_8 a0_9 a0_10 = some (r1, r2)) ∧ Aside0 (kq ≤ kj11) ∧ Aside0 (Kd.R (Kd.int .i64) 3 w' w.heap.size (fun k_ => some k_ ≠ ((.slice Ao20 t128.length co20) : Value).ownBlock) v125 x8_3) ∧ Aside0 (Kd.R (Kd.int .i64) 3 w' w.heap.size (fun k_ => some k_ ≠ (v125 : Value).ownBlock) (.slice Ao20 t128.length co20) t128) ∧ Aside0 (w'.heap[gb123]? = some (.cells #[a0_0.v, a0_1.v, a0_2.v, (.slice A0_3 l0_3.length c0_3), a0_4.v, a0_5.v, a0_6.v, a0_7.v, a0_8.v, a0_9.v, a0_10.v] 31 (0, 0))) ∧ Aside0 (Below w.heap.size w w'))
                  case atStart => exact ⟨(x8_1), (0), (by first | rfl | (simp; done) | (simp [*]; done)), H', ⟨Nat.le_refl _⟩, ⟨by (with_reducible repeat (first | apply Kd.R_alloc | apply Kd.R_drewN | apply Kd.R_drew)); exact Kd.R_mono HO_8.out (fun _ hk => hk.2)⟩, ⟨by (with_reducible repeat (first | apply Kd.R_alloc | apply Kd.R_drewN | apply Kd.R_drew)); exact Kd.R_mono HO130.out (fun _ hk => hk.2)⟩, ⟨by (with_reducible repeat (first | refine blk_drewN ?_ _ | refine blk_drew ?_ | refine blk_alloc ?_ _)); exact BK123.out⟩, ⟨by repeat (first | (with_reducible first | exact HB.out | apply below_alloc | apply pw_below_drewN | apply below_drew1 | refine below_set ?_ GE123.out) | exact HB.out)⟩⟩
                  case round =>
                    clear H'
                    try clear c1
                    try clear p1
                    try clear q1
                    try clear hx1
                    try clear c2
                    try clear p2
                    try clear c4
                    try clear c4b0
                    try clear c4b1
                    try clear c5
                    try clear c5b0
                    try clear c5b1
                    try clear p6
                    try clear c11
                    try clear c11b0
                    try clear p12
                    try clear q12
                    try clear hx12
                    try clear c13
                    try clear c13b0
                    try clear c14
                    try clear c14b0
                    try clear c15
                    try clear c15b0
                    try clear c16
                    try clear hcz10_0
                    try clear hcz10_1
                    try clear hcz10_10
                    try clear hcz10_2
                    try clear hcz10_3
                    try clear hcz10_4
                    try clear hcz10_5
                    try clear hcz10_6
                    try clear hcz10_7
                    try clear hcz10_8
                    try clear hcz10_9
                    try clear hcz18_0
                    try clear hcz18_1
                    try clear hcz18_10
                    try clear hcz18_2
                    try clear hcz18_3
                    try clear hcz18_4
                    try clear hcz18_5
                    try clear hcz18_6
                    try clear hcz18_7
                    try clear hcz18_8
                    try clear hcz18_9
                    try clear hcz7_0
                    try clear hcz7_1
                    try clear hcz7_10
                    try clear hcz7_2
                    try clear hcz7_3
                    try clear hcz7_4
                    try clear hcz7_5
                    try clear hcz7_6
                    try clear hcz7_7
                    try clear hcz7_8
                    try clear hcz7_9
                    try clear hfz10_0
                    try clear hfz10_1
                    try clear hfz10_10
                    try clear hfz10_2
                    try clear hfz10_3
                    try clear hfz10_4
                    try clear hfz10_5
                    try clear hfz10_6
                    try clear hfz10_7
                    try clear hfz10_8
                    try clear hfz10_9
                    try clear hfz18_0
                    try clear hfz18_1
                    try clear hfz18_10
                    try clear hfz18_2
                    try clear hfz18_3
                    try clear hfz18_4
                    try clear hfz18_5
                    try clear hfz18_6
                    try clear hfz18_7
                    try clear hfz18_8
                    try clear hfz18_9
                    try clear hfz7_0
                    try clear hfz7_1
                    try clear hfz7_10
                    try clear hfz7_2
                    try clear hfz7_3
                    try clear hfz7_4
                    try clear hfz7_5
                    try clear hfz7_6
                    try clear hfz7_7
                    try clear hfz7_8
                    try clear hfz7_9
                    try clear hx127_0
                    try clear p1
                    try clear p12
                    try clear p127
                    try clear p2
                    try clear q1
                    try clear q12
                    try clear q127
                    obtain ⟨x8_3, x44_3, rfl, HA, HK3, HO_8, HO_42, BK123, HB⟩ := hrel
                    cases gk with
                    | zero => exact absurd HA.out (by simp [allot_Day.l1])
                    | succ k3 =>
                      have H := HA.out
                      clear HA
                      simp only [allot_Day.l1] at H
                      by_cases c21 : x44_3 < (t128.length : Int)
                      · rw [if_pos c21] at H
                        have c21b0 : decide (x44_3 < (t128.length : Int)) = true := decide_eq_true c21
                        clear c21
                        by_cases c22 : 0 ≤ x44_3
                        · rw [if_pos c22] at H
                          have c22b0 : decide (0 ≤ x44_3) = true := decide_eq_true c22
                          clear c22
                          by_cases c23 : x44_3 < (t128.length : Int)
                          · rw [if_pos c23] at H
                            have c23b0 : decide (x44_3 < (t128.length : Int)) = true := decide_eq_true c23
                            clear c23
                            by_cases c24 : 0 ≤ (rd t128 x44_3)
                            · rw [if_pos c24] at H
                              have c24b0 : decide (0 ≤ (rd t128 x44_3)) = true := decide_eq_true c24
                              clear c24
                              by_cases c25 : (rd t128 x44_3) < (x8_3.length : Int)
                              · rw [if_pos c25] at H
                                have c25b0 : decide ((rd t128 x44_3) < (x8_3.length : Int)) = true := decide_eq_true c25
                                clear c25
                                by_cases c26 : 0 ≤ x26_1
                                · rw [if_pos c26] at H
                                  have c26b0 : decide (0 ≤ x26_1) = true := decide_eq_true c26
                                  clear c26
                                  by_cases c27 : x26_1 < (l2.length : Int)
                                  · rw [if_pos c27] at H
                                    have c27b0 : decide (x26_1 < (l2.length : Int)) = true := decide_eq_true c27
                                    clear c27
                                    replace H := Option.bind_eq_some_iff.mp H
                                    obtain ⟨t134, A280, H⟩ := H
                                    replace H : (allot_Day.l1 k3 l1 l2 (x8_3.set ((rd t128 x44_3) : Int).toNat t134) x26_1 (l0_3.length : Int) x26_1 t128 (t128.length : Int) (wrap64 (x44_3 + 1)) a0_0 a0_1 a0_2 l0_3 a0_4 a0_5 a0_6 a0_7 a0_8 a0_9 a0_10) = some (r1, r2) := H
                                    have A28 := Aside0.mk A280
                                    clear A280
                                    obtain ⟨y135, hy135⟩ : ∃ y_ : List Int, y_ = (x8_3.set ((rd t128 x44_3) : Int).toNat t134) := ⟨_, rfl⟩
                                    replace H : (allot_Day.l1 k3 l1 l2 y135 x26_1 (l0_3.length : Int) x26_1 t128 (t128.length : Int) (wrap64 (x44_3 + 1)) a0_0 a0_1 a0_2 l0_3 a0_4 a0_5 a0_6 a0_7 a0_8 a0_9 a0_10) = some (r1, r2) := by first | (rw [hy135]; with_reducible exact H) | (have H2_ := (Option.bind_some _ _).symm.trans H; rw [hy135]; with_reducible exact H2_) | (have H2_ := (Option.bind_some _ _).symm.trans H; with_reducible exact H2_) | with_reducible exact H | (rw [hy135]; exact H) | exact H
                                    have Ny135 := Aside0.mk hy135
                                    clear hy135
                                    have H' := Aside0.mk H
                                    clear H
                                    have p131 : 0 ≤ (x44_3 : Int) := of_decide_eq_true (by first | (with_reducible assumption) | assumption)
                                    have q131 : x44_3 < (t128.length : Int) := of_decide_eq_true (by first | (with_reducible assumption) | assumption)
                                    obtain ⟨ad131, e131, hx131_0⟩ := Kd.at_int (Kd.R_reads' HO_42.out).2.2 x44_3 p131 q131
                                    cases e131
                                    replace p131 := eq_true p131
                                    replace q131 := eq_true q131
                                    try go_wp2
                                    have n0_ := Aside0.mk (Kd.R_drew HO_8.out)
                                    have n1_ := Aside0.mk (Kd.R_drew HO_42.out)
                                    have n2_ := Aside0.mk (blk_drew BK123.out)
                                    have n3_ := Aside0.mk (below_drew1 HB.out)
                                    clear HO_8
                                    clear HO_42
                                    clear BK123
                                    clear HB
                                    have HO_8 := n0_
                                    have HO_42 := n1_
                                    have BK123 := n2_
                                    have HB := n3_
                                    clear n0_ n1_ n2_ n3_
                                    obtain ⟨Ao31, co31, eo31⟩ := Kd.R_slice HO_8.out
                                    (first | subst eo31 | (injection eo31 with f1_ f2_ f3_; have f4_ := f1_.symm; have f5_ := f3_.symm; clear f1_ f2_ f3_; subst f4_; subst f5_))
                                    have p132 : 0 ≤ ((rd t128 x44_3) : Int) := of_decide_eq_true (by first | (with_reducible assumption) | assumption)
                                    have q132 : (rd t128 x44_3) < (x8_3.length : Int) := of_decide_eq_true (by first | (with_reducible assumption) | assumption)
                                    obtain ⟨ad132, e132, hx132_0⟩ := Kd.at_int (Kd.R_reads' HO_8.out).2.2 (rd t128 x44_3) p132 q132
                                    cases e132
                                    replace p132 := eq_true p132
                                    replace q132 := eq_true q132
                                    have p133 : 0 ≤ (x26_1 : Int) := of_decide_eq_true (by first | (with_reducible assumption) | assumption)
                                    have q133 : x26_1 < (l2.length : Int) := of_decide_eq_true (by first | (with_reducible assumption) | assumption)
                                    obtain ⟨ad133, e133, hx133_0⟩ := Kd.at_int HR2.out x26_1 p133 q133
                                    have hw133_0 := hx133_0
                                    cases e133
                                    replace hx133_0 := (HB.out.cell (World.block_lt_of_cell? w _ hx133_0)).trans hx133_0
                                    replace p133 := eq_true p133
                                    replace q133 := eq_true q133
                                    refine start_ (n := 13) (S := fun w' => w'.cell? (ad132.add ((rd t128 x44_3)).toNat) = some (.int .i64 (rd x8_3 (rd t128 x44_3))) ∧ w'.cell? (ad133.add (x26_1).toNat) = some (.int .i64 (rd l2 x26_1))) (ds := [12]) #[false, false, false, false, false, false, false, false, false, false, false, false, false] (by kernel_rfl) rfl rfl ⟨hx132_0, ((HB.out.cell (World.block_lt_of_cell? w _ hw133_0)).trans hw133_0)⟩ (fun hHeld => ?_); refine with_tabW allot_Day.tab9 allot_Day.bits9 (fun HT_ HW_ => ?_)
                                    generalize wr.drew = w30 at HO_8 HO_42 BK123 HB hx132_0 hx133_0 hHeld ⊢
                                    refine pure_ (i := 0) (N := some 48) (v := ?_) (a' := ?_) #[true, false, false, false, false, false, false, false, false, false, false, false, false] rfl rfl (any_of HT_.out (by kernel_rfl)) (fun _ _ _ h => h) (Or.inl ⟨by rfl, ?_⟩) ?_ ?_
                                    rotate_left
                                    · intro w'
                                      go_simp
                                      with_reducible rfl
                                    rotate_left
                                    · simp only [Act.put, List.setIfInBounds_toArray, List.set_cons_zero, List.set_cons_succ, i64_w, i32_w]
                                      rfl
                                    refine pure_ (i := 1) (N := some 49) (v := ?_) (a' := ?_) #[true, true, false, false, false, false, false, false, false, false, false, false, false] rfl rfl (any_of HT_.out (by kernel_rfl)) (fun _ _ _ h => h) (Or.inl ⟨by rfl, ?_⟩) ?_ ?_
                                    rotate_left
                                    · intro w'
                                      go_simp
                                      with_reducible rfl
                                    rotate_left
                                    · simp only [Act.put, List.setIfInBounds_toArray, List.set_cons_zero, List.set_cons_succ, i64_w, i32_w]
                                      rfl
                                    refine pure_ (i := 2) (N := some 50) (v := ?_) (a' := ?_) #[true, true, true, false, false, false, false, false, false, false, false, false, false] rfl rfl (any_of HT_.out (by kernel_rfl)) (fun _ _ _ h => h) (Or.inl ⟨by rfl, ?_⟩) ?_ ?_
                                    rotate_left
                                    · intro w'
                                      go_simp
                                      with_reducible rfl
                                    rotate_left
                                    · simp only [Act.put, List.setIfInBounds_toArray, List.set_cons_zero, List.set_cons_succ, i64_w, i32_w]
                                      rfl
                                    refine pure_ (i := 3) (N := some 51) (v := ?_) (a' := ?_) #[true, true, true, true, false, false, false, false, false, false, false, false, false] rfl rfl (any_of HT_.out (by kernel_rfl)) (fun _ _ _ h => h) (Or.inl ⟨by rfl, ?_⟩) ?_ ?_
                                    rotate_left
                                    · intro w'
                                      go_simp
                                      with_reducible rfl
                                    rotate_left
                                    · simp only [Act.put, List.setIfInBounds_toArray, List.set_cons_zero, List.set_cons_succ, i64_w, i32_w]
                                      rfl
                                    refine pure_ (i := 4) (N := some 52) (v := ?_) (a' := ?_) #[true, true, true, true, true, false, false, false, false, false, false, false, false] rfl rfl (any_of HT_.out (by kernel_rfl)) (fun _ _ _ h => h) (Or.inl ⟨by rfl, ?_⟩) ?_ ?_
                                    rotate_left
                                    · intro w'
                                      go_simp
                                      with_reducible rfl
                                    rotate_left
                                    · simp only [Act.put, List.setIfInBounds_toArray, List.set_cons_zero, List.set_cons_succ, i64_w, i32_w]
                                      rfl
                                    refine pure_ (i := 6) (N := some 54) (v := ?_) (a' := ?_) #[true, true, true, true, true, false, true, false, false, false, false, false, false] rfl rfl (any_of HT_.out (by kernel_rfl)) (fun _ _ _ h => h) (Or.inl ⟨by rfl, ?_⟩) ?_ ?_
                                    rotate_left
                                    · intro w'
                                      go_simp
                                      with_reducible rfl
                                    rotate_left
                                    · simp only [Act.put, List.setIfInBounds_toArray, List.set_cons_zero, List.set_cons_succ, i64_w, i32_w]
                                      rfl
                                    refine pure_ (i := 7) (N := some 55) (v := ?_) (a' := ?_) #[true, true, true, true, true, false, true, true, false, false, false, false, false] rfl rfl (any_of HT_.out (by kernel_rfl)) (fun _ _ _ h => h) (Or.inl ⟨by rfl, ?_⟩) ?_ ?_
                                    rotate_left
                                    · intro w'
                                      go_simp
                                      with_reducible rfl
                                    rotate_left
                                    · simp only [Act.put, List.setIfInBounds_toArray, List.set_cons_zero, List.set_cons_succ, i64_w, i32_w]
                                      rfl
                                    refine pure_ (i := 8) (N := some 56) (v := ?_) (a' := ?_) #[true, true, true, true, true, false, true, true, true, false, false, false, false] rfl rfl (any_of HT_.out (by kernel_rfl)) (fun _ _ _ h => h) (Or.inl ⟨by rfl, ?_⟩) ?_ ?_
                                    rotate_left
                                    · intro w'
                                      go_simp
                                      with_reducible rfl
                                    rotate_left
                                    · simp only [Act.put, List.setIfInBounds_toArray, List.set_cons_zero, List.set_cons_succ, i64_w, i32_w]
                                      rfl
                                    refine take_ (i := 5) (N := some 53) (v := ?_) (a' := ?_) #[true, true, true, true, true, true, true, true, true, false, false, false, false] rfl rfl (take_ofW HT_.out HW_.out (by kernel_rfl)) (fun _ _ _ h => h) (Or.inl ⟨by rfl, ?_⟩) hHeld ?_ ?_
                                    rotate_left
                                    · rintro w' ⟨s0, s1⟩
                                      go_simp
                                      with_reducible rfl
                                    rotate_left
                                    · simp only [Act.put, List.setIfInBounds_toArray, List.set_cons_zero, List.set_cons_succ, i64_w, i32_w]
                                      rfl
                                    refine take_ (i := 9) (N := some 57) (v := ?_) (a' := ?_) #[true, true, true, true, true, true, true, true, true, true, false, false, false] rfl rfl (take_ofW HT_.out HW_.out (by kernel_rfl)) (fun _ _ _ h => h) (Or.inl ⟨by rfl, ?_⟩) hHeld ?_ ?_
                                    rotate_left
                                    · rintro w' ⟨s0, s1⟩
                                      go_simp
                                      with_reducible rfl
                                    rotate_left
                                    · simp only [Act.put, List.setIfInBounds_toArray, List.set_cons_zero, List.set_cons_succ, i64_w, i32_w]
                                      rfl
                                    refine one_ (i := 10) (N := some 58) #[true, true, true, true, true, true, true, true, true, true, true, false, false] rfl rfl (one_of HT_.out (by kernel_rfl)) (by decide) (fun K hK => ?_)
                                    refine goes_ Try.func41 (by kernel_rfl) rfl #[.int .i64 (rd x8_3 (rd t128 x44_3)), .int .i64 (rd l2 x26_1)] (by rfl) rfl rfl (by (try simp only [List.map_toArray, List.map_cons, List.map_nil]); first | done | rfl | (simp only [List.length_drop, List.length_take]; rfl)) ?_
                                    with_reducible refine (exact_Add.calls (rd x8_3 (rd t128 x44_3)) (rd l2 x26_1) t134 _ A28.out).mono ?_
                                    rintro e w' ⟨rfl, ⟨nd, rfl⟩⟩
                                    refine ⟨_, rfl, ?_⟩
                                    have p29 : 0 ≤ ((rd t128 x44_3) : Int) := of_decide_eq_true (by first | (with_reducible assumption) | assumption)
                                    have q29 : ((rd t128 x44_3) : Int) < ((x8_3.length : Int) : Int) := of_decide_eq_true (by first | (with_reducible assumption) | assumption)
                                    obtain ⟨go29, co29, eo29, gb29, gl29, cl29, HG29⟩ := Kd.R_form HO_8.out (by omega)
                                    (first | cases eo29 | (injection eo29 with ea_ en_ ec_; (first | subst ea_ | (injection ea_ with ea_; subst ea_)); subst ec_; clear en_))
                                    have GB29 := Aside0.mk gb29
                                    have GG29 := Aside0.mk HG29
                                    clear gb29 gl29 HG29
                                    (first | simp only [add_plain] at hx132_0 | skip)
                                    obtain ⟨hx29_0, hf29_0⟩ := Kd.R_celln 0 HO_8.out ((rd t128 x44_3) : Int) p29 q29
                                    replace p29 := eq_true p29
                                    replace q29 := eq_true q29
                                    have HP32 := Kd.R_putn HO_8.out ((rd t128 x44_3) : Int) t134
                                    rw [← Ny135.out] at HP32
                                    have HQ32 := Aside0.mk HP32
                                    clear HP32
                                    refine hK.out _ _ ⟨hHeld.1, ((HB.out.cell (World.block_lt_of_cell? w _ hw133_0)).trans hw133_0)⟩ (fun hHeld => ?_)
                                    clear hK K
                                    refine norm_ (a' := ?_) ?_ ?_
                                    rotate_left
                                    · show Act.put _ (some 58) _ = _
                                      simp only [Act.put, List.setIfInBounds_toArray, List.set_cons_zero, List.set_cons_succ, i64_w, i32_w]
                                      rfl
                                    refine pure_ (i := 11) (N := some 59) (v := ?_) (a' := ?_) #[true, true, true, true, true, true, true, true, true, true, true, true, false] rfl rfl (any_of HT_.out (by kernel_rfl)) (fun _ _ _ h => h) (Or.inl ⟨by rfl, ?_⟩) ?_ ?_
                                    rotate_left
                                    · intro w'
                                      go_simp
                                      with_reducible rfl
                                    rotate_left
                                    · simp only [Act.put, List.setIfInBounds_toArray, List.set_cons_zero, List.set_cons_succ, i64_w, i32_w]
                                      rfl
                                    refine last_ (i := 12) (N := none) #[true, true, true, true, true, true, true, true, true, true, true, true, true] rfl rfl (one_of HT_.out (by kernel_rfl)) (by decide) (fun K hK => ?_)
                                    refine skip_ (w1 := ?_) (by rfl) rfl ?_ ?_
                                    rotate_left
                                    · go_simp
                                      rfl
                                    refine hK.out _ _ ?_
                                    clear hK K
                                    refine done_ (done_of HT_.out (by kernel_rfl)) ?_
                                    try go_wp2
                                    go_roundg k3
                                    case measure => have := HK1.out; have := HJ11.out; have := HK3.out; omega
                                    case rel => exact ⟨(y135), (wrap64 (x44_3 + 1)), (by first | rfl | (simp; done) | (simp [*]; done)), H', ⟨by have := HK1.out; have := HJ11.out; have := HK3.out; omega⟩, ⟨by (with_reducible repeat (first | apply Kd.R_alloc | apply Kd.R_drewN | apply Kd.R_drew)); exact HQ32.out⟩, ⟨by (with_reducible repeat (first | apply Kd.R_alloc | apply Kd.R_drewN | apply Kd.R_drew)); exact Kd.R_mono (Kd.R_far (p := ⟨go29, ((rd t128 x44_3) : Int).toNat, none⟩) (Kd.R_mono HO_42.out (fun k_ hk => (⟨hk, fun e_ => hk (by rw [e_]; rfl)⟩ : _ ∧ k_ ≠ go29))) (fun _ hk => hk.2) (.int .i64 t134)) (fun _ hk => hk.1)⟩, ⟨by (with_reducible repeat (first | refine blk_drewN ?_ _ | refine blk_drew ?_ | refine blk_alloc ?_ _)); refine blk_far ?_ (by have h_ := Kd.R_ne HO_8.out BK123.out (by decide); intro e_; exact h_ (by rw [e_]; rfl)) _; (with_reducible repeat (first | refine blk_drewN ?_ _ | refine blk_drew ?_ | refine blk_alloc ?_ _)); exact BK123.out⟩, ⟨by repeat (first | (with_reducible first | exact HB.out | apply below_alloc | apply pw_below_drewN | apply below_drew1 | refine below_set ?_ GB29.out | refine below_set ?_ GE123.out) | exact HB.out)⟩⟩
                                  · rw [if_neg c27] at H
                                    exact absurd H (by simp)
                                · rw [if_neg c26] at H
                                  exact absurd H (by simp)
                              · rw [if_neg c25] at H
                                exact absurd H (by simp)
                            · rw [if_neg c24] at H
                              exact absurd H (by simp)
                          · rw [if_neg c23] at H
                            exact absurd H (by simp)
                        · rw [if_neg c22] at H
                          exact absurd H (by simp)
                      · rw [if_neg c21] at H
                        have c21b0 : decide (x44_3 < (t128.length : Int)) = false := decide_eq_false c21
                        clear c21
                        have H' := Aside0.mk H
                        clear H
                        go_wp2
                        go_roundg k3
                        case measure => have := HK1.out; have := HJ11.out; have := HK3.out; omega
                        case rel => exact ⟨(x8_3), (wrap64 (x26_1 + 1)), (by first | rfl | (simp; done) | (simp [*]; done)), H', ⟨by have := HK1.out; have := HJ11.out; have := HK3.out; omega⟩, ⟨by (with_reducible repeat (first | apply Kd.R_alloc | apply Kd.R_drewN | apply Kd.R_drew)); exact Kd.R_mono HO_8.out (fun _ hk => trivial)⟩, ⟨by (with_reducible repeat (first | refine blk_drewN ?_ _ | refine blk_drew ?_ | refine blk_alloc ?_ _)); exact BK123.out⟩, ⟨by repeat (first | (with_reducible first | exact HB.out | apply below_alloc | apply pw_below_drewN | apply below_drew1 | refine below_set ?_ GE123.out) | exact HB.out)⟩⟩
          · rw [if_neg c11] at H
            have c11b0 : decide (x26_1 < (l0_3.length : Int)) = false := decide_eq_false c11
            clear c11
            have H' := Aside0.mk H
            clear H
            go_wp2
            go_loopg [12, 64] k1 (fun kq v12 v64 w' => ∃ (x8_2 : List Int) (x12_2 : List (S53)) (x64_2 : Int), v64 = .int .i64 x64_2 ∧ Aside0 (allot_Day.l2 kq x8_2 x12_2 l1 (l1.length : Int) x64_2 a0_0 a0_1 a0_2 l0_3 a0_4 a0_5 a0_6 a0_7 a0_8 a0_9 a0_10 = some (r1, r2)) ∧ Aside0 (kq ≤ k1) ∧ Aside0 (Kd.R (Kd.int .i64) 3 w' w.heap.size (fun _ => True) v125 x8_2) ∧ Aside0 (Kd.R k53 53 w' w.heap.size (fun _ => True) v12 x12_2) ∧ Aside0 (w'.heap[gb123]? = some (.cells #[a0_0.v, a0_1.v, a0_2.v, (.slice A0_3 l0_3.length c0_3), a0_4.v, a0_5.v, a0_6.v, a0_7.v, a0_8.v, a0_9.v, a0_10.v] 31 (0, 0))) ∧ Aside0 (Below w.heap.size w w'))
            case atStart => exact ⟨(x8_1), (([] : List (S53))), (0), (by first | rfl | (simp; done) | (simp [*]; done)), H', ⟨Nat.le_refl _⟩, ⟨by (with_reducible repeat (first | apply Kd.R_alloc | apply Kd.R_drewN | apply Kd.R_drew)); exact HO_8.out⟩, ⟨by first | exact Kd.R_nil _ _ _ _ _ | exact Kd.N_nil _ _ _ _ _ | exact Kd.V_nil _ _ _ _ _ | exact Kd.Q_nil _ _ _ _ _ | exact Kd.S_nil _ _ _ _ _⟩, ⟨by (with_reducible repeat (first | refine blk_drewN ?_ _ | refine blk_drew ?_ | refine blk_alloc ?_ _)); exact BK123.out⟩, ⟨by repeat (first | (with_reducible first | exact HB.out | apply below_alloc | apply pw_below_drewN | apply below_drew1 | refine below_set ?_ GE123.out) | exact HB.out)⟩⟩
            case round =>
              clear H'
              try clear c1
              try clear p1
              try clear q1
              try clear hx1
              try clear c2
              try clear p2
              try clear q2
              try clear hx2
              try clear c4
              try clear c4b0
              try clear c4b1
              try clear c5
              try clear c5b0
              try clear c5b1
              try clear p6
              try clear c11
              try clear c11b0
              try clear p12
              try clear q12
              try clear hx12
              try clear c13
              try clear c13b0
              try clear p13
              try clear q13
              try clear hx13
              try clear c14
              try clear c14b0
              try clear c15
              try clear c15b0
              try clear c16
              try clear c21
              try clear c21b0
              try clear c22
              try clear c22b0
              try clear c23
              try clear c23b0
              try clear c24
              try clear c24b0
              try clear c25
              try clear c25b0
              try clear c26
              try clear c26b0
              try clear c27
              try clear c27b0
              try clear p29
              try clear q29
              try clear hx29
              try clear hf29
              try clear hcz10_0
              try clear hcz10_1
              try clear hcz10_10
              try clear hcz10_2
              try clear hcz10_3
              try clear hcz10_4
              try clear hcz10_5
              try clear hcz10_6
              try clear hcz10_7
              try clear hcz10_8
              try clear hcz10_9
              try clear hcz18_0
              try clear hcz18_1
              try clear hcz18_10
              try clear hcz18_2
              try clear hcz18_3
              try clear hcz18_4
              try clear hcz18_5
              try clear hcz18_6
              try clear hcz18_7
              try clear hcz18_8
              try clear hcz18_9
              try clear hcz7_0
              try clear hcz7_1
              try clear hcz7_10
              try clear hcz7_2
              try clear hcz7_3
              try clear hcz7_4
              try clear hcz7_5
              try clear hcz7_6
              try clear hcz7_7
              try clear hcz7_8
              try clear hcz7_9
              try clear hfz10_0
              try clear hfz10_1
              try clear hfz10_10
              try clear hfz10_2
              try clear hfz10_3
              try clear hfz10_4
              try clear hfz10_5
              try clear hfz10_6
              try clear hfz10_7
              try clear hfz10_8
              try clear hfz10_9
              try clear hfz18_0
              try clear hfz18_1
              try clear hfz18_10
              try clear hfz18_2
              try clear hfz18_3
              try clear hfz18_4
              try clear hfz18_5
              try clear hfz18_6
              try clear hfz18_7
              try clear hfz18_8
              try clear hfz18_9
              try clear hfz7_0
              try clear hfz7_1
              try clear hfz7_10
              try clear hfz7_2
              try clear hfz7_3
              try clear hfz7_4
              try clear hfz7_5
              try clear hfz7_6
              try clear hfz7_7
              try clear hfz7_8
              try clear hfz7_9
              try clear hx127_0
              try clear hx131_0
              try clear hx132_0
              try clear hx133_0
              try clear hx29_0
              try clear p1
              try clear p12
              try clear p127
              try clear p131
              try clear p132
              try clear p133
              try clear p2
              try clear p29
              try clear p6
              try clear q1
              try clear q12
              try clear q127
              try clear q131
              try clear q132
              try clear q133
              try clear q29
              obtain ⟨x8_2, x12_2, x64_2, rfl, HA, HK2, HO_8, HO_12, BK123, HB⟩ := hrel
              cases gk with
              | zero => exact absurd HA.out (by simp [allot_Day.l2])
              | succ k2 =>
                have H := HA.out
                clear HA
                simp only [allot_Day.l2] at H
                by_cases c33 : x64_2 < (l1.length : Int)
                · rw [if_pos c33] at H
                  have c33b0 : decide (x64_2 < (l1.length : Int)) = true := decide_eq_true c33
                  clear c33
                  by_cases c34 : 0 ≤ x64_2
                  · rw [if_pos c34] at H
                    have c34b0 : decide (0 ≤ x64_2) = true := decide_eq_true c34
                    clear c34
                    by_cases c35 : x64_2 < (l1.length : Int)
                    · rw [if_pos c35] at H
                      have c35b0 : decide (x64_2 < (l1.length : Int)) = true := decide_eq_true c35
                      clear c35
                      replace H := Option.bind_eq_some_iff.mp H
                      obtain ⟨t138, A360, H⟩ := H
                      replace H : ((allot_least.f k2 ((rd_T39 l1 x64_2).f4) x8_2 t138).bind fun t141 => (if (t138.length : Int) = 0 then (allot_Day.j4 k2 x8_2 x12_2 t138 0 l1 (l1.length : Int) x64_2 a0_0 a0_1 a0_2 l0_3 a0_4 a0_5 a0_6 a0_7 a0_8 a0_9 a0_10 ((rd_T39 l1 x64_2).f0) ((rd_T39 l1 x64_2).f1) ((rd_T39 l1 x64_2).f2) ((rd_T39 l1 x64_2).f3) ((rd_T39 l1 x64_2).f4) ((rd_T39 l1 x64_2).f5) ((rd_T39 l1 x64_2).f6) ((rd_T39 l1 x64_2).f7) ((rd_T39 l1 x64_2).f8)) else (allot_Day.j4 k2 x8_2 x12_2 t138 (mx 0 t141) l1 (l1.length : Int) x64_2 a0_0 a0_1 a0_2 l0_3 a0_4 a0_5 a0_6 a0_7 a0_8 a0_9 a0_10 ((rd_T39 l1 x64_2).f0) ((rd_T39 l1 x64_2).f1) ((rd_T39 l1 x64_2).f2) ((rd_T39 l1 x64_2).f3) ((rd_T39 l1 x64_2).f4) ((rd_T39 l1 x64_2).f5) ((rd_T39 l1 x64_2).f6) ((rd_T39 l1 x64_2).f7) ((rd_T39 l1 x64_2).f8)))) = some (r1, r2) := H
                      have A36 := Aside0.mk A360
                      clear A360
                      replace H := Option.bind_eq_some_iff.mp H
                      obtain ⟨t141, A370, H⟩ := H
                      replace H : (if (t138.length : Int) = 0 then (allot_Day.j4 k2 x8_2 x12_2 t138 0 l1 (l1.length : Int) x64_2 a0_0 a0_1 a0_2 l0_3 a0_4 a0_5 a0_6 a0_7 a0_8 a0_9 a0_10 ((rd_T39 l1 x64_2).f0) ((rd_T39 l1 x64_2).f1) ((rd_T39 l1 x64_2).f2) ((rd_T39 l1 x64_2).f3) ((rd_T39 l1 x64_2).f4) ((rd_T39 l1 x64_2).f5) ((rd_T39 l1 x64_2).f6) ((rd_T39 l1 x64_2).f7) ((rd_T39 l1 x64_2).f8)) else (allot_Day.j4 k2 x8_2 x12_2 t138 (mx 0 t141) l1 (l1.length : Int) x64_2 a0_0 a0_1 a0_2 l0_3 a0_4 a0_5 a0_6 a0_7 a0_8 a0_9 a0_10 ((rd_T39 l1 x64_2).f0) ((rd_T39 l1 x64_2).f1) ((rd_T39 l1 x64_2).f2) ((rd_T39 l1 x64_2).f3) ((rd_T39 l1 x64_2).f4) ((rd_T39 l1 x64_2).f5) ((rd_T39 l1 x64_2).f6) ((rd_T39 l1 x64_2).f7) ((rd_T39 l1 x64_2).f8))) = some (r1, r2) := H
                      have A37 := Aside0.mk A370
                      clear A370
                      obtain ⟨ji38, hji38⟩ : ∃ j_ : Int, (mx 0 t141) = j_ := ⟨_, rfl⟩
                      replace H : (if (t138.length : Int) = 0 then (allot_Day.j4 k2 x8_2 x12_2 t138 0 l1 (l1.length : Int) x64_2 a0_0 a0_1 a0_2 l0_3 a0_4 a0_5 a0_6 a0_7 a0_8 a0_9 a0_10 ((rd_T39 l1 x64_2).f0) ((rd_T39 l1 x64_2).f1) ((rd_T39 l1 x64_2).f2) ((rd_T39 l1 x64_2).f3) ((rd_T39 l1 x64_2).f4) ((rd_T39 l1 x64_2).f5) ((rd_T39 l1 x64_2).f6) ((rd_T39 l1 x64_2).f7) ((rd_T39 l1 x64_2).f8)) else (allot_Day.j4 k2 x8_2 x12_2 t138 ji38 l1 (l1.length : Int) x64_2 a0_0 a0_1 a0_2 l0_3 a0_4 a0_5 a0_6 a0_7 a0_8 a0_9 a0_10 ((rd_T39 l1 x64_2).f0) ((rd_T39 l1 x64_2).f1) ((rd_T39 l1 x64_2).f2) ((rd_T39 l1 x64_2).f3) ((rd_T39 l1 x64_2).f4) ((rd_T39 l1 x64_2).f5) ((rd_T39 l1 x64_2).f6) ((rd_T39 l1 x64_2).f7) ((rd_T39 l1 x64_2).f8))) = some (r1, r2) := by first | (rw [hji38] at H; exact H) | (simp only [hji38] at H ⊢; exact H)
                      (try rw [hji38] at A36)
                      (try rw [hji38] at A37)
                      (try (have hji38l : 0 ≤ ji38 := by (rw [← hji38]; unfold mx; (repeat' split) <;> omega)))
                      (try (have hji38m : 0 ≤ ji38 := by omega))
                      have hji38_ : (if 0 < t141 then t141 else 0) = ji38 := hji38
                      have HC39 := Aside0.mk H
                      clear H
                      have p136 : 0 ≤ (x64_2 : Int) := of_decide_eq_true (by first | (with_reducible assumption) | assumption)
                      have q136 : x64_2 < (l1.length : Int) := of_decide_eq_true (by first | (with_reducible assumption) | assumption)
                      obtain ⟨ad136, e136, hx136_0, hx136_1, hx136_2, hx136_3, hx136_4, hx136_5, hx136_6, hx136_7, hx136_8⟩ := at_T39 HR1.out x64_2 p136 q136
                      cases e136
                      replace hx136_0 := (HB.out.cell (World.block_lt_of_cell? w _ hx136_0)).trans hx136_0
                      replace hx136_1 := (HB.out.cell (World.block_lt_of_cell? w _ hx136_1)).trans hx136_1
                      replace hx136_2 := (HB.out.cell (World.block_lt_of_cell? w _ hx136_2)).trans hx136_2
                      replace hx136_3 := (HB.out.cell (World.block_lt_of_cell? w _ hx136_3)).trans hx136_3
                      replace hx136_4 := (HB.out.cell (World.block_lt_of_cell? w _ hx136_4)).trans hx136_4
                      replace hx136_5 := (HB.out.cell (World.block_lt_of_cell? w _ hx136_5)).trans hx136_5
                      replace hx136_6 := (HB.out.cell (World.block_lt_of_cell? w _ hx136_6)).trans hx136_6
                      replace hx136_7 := (HB.out.cell (World.block_lt_of_cell? w _ hx136_7)).trans hx136_7
                      replace hx136_8 := (HB.out.cell (World.block_lt_of_cell? w _ hx136_8)).trans hx136_8
                      replace p136 := eq_true p136
                      replace q136 := eq_true q136
                      go_upto_if 80 with (first | ((with_reducible refine gate_dst (N := 14) rfl ?_); refine box_event ?hg (N := 14) ?hd (cs := #[.int .i64 0, .int .i64 0, .int .i64 0, .int .i64 0, .int .i64 0, .int .i64 0, .int .i64 0, .int .i64 0, .int .i64 0]) (t := 39) ?hr ?_; (case hd => rfl); (case hg => rfl); (case hr => first | (go_simp; done) | (go_simp; rfl)); intro gb137 hg w40 hbox hb; have n0_ := Aside0.mk (Kd.R_below (by (with_reducible repeat (first | apply Kd.R_alloc | apply Kd.R_drewN | apply Kd.R_drew)); exact HO_8.out) hb); have n1_ := Aside0.mk (Kd.R_below (by (with_reducible repeat (first | apply Kd.R_alloc | apply Kd.R_drewN | apply Kd.R_drew)); exact HO_12.out) hb); have n2_ := Aside0.mk (blk_below (g := gb123) (o := .cells #[a0_0.v, a0_1.v, a0_2.v, .slice A0_3 l0_3.length c0_3, a0_4.v, a0_5.v, a0_6.v, a0_7.v, a0_8.v, a0_9.v, a0_10.v] 31 (0, 0)) (by (with_reducible repeat (first | refine blk_drewN ?_ _ | refine blk_drew ?_ | refine blk_alloc ?_ _)); exact BK123.out) hb); have n3_ := Aside0.mk (below_step (by repeat (first | (with_reducible first | exact HB.out | apply below_alloc | apply pw_below_drewN | apply below_drew1 | refine below_set ?_ GE123.out) | exact HB.out)) hb); have n4_ := Aside0.mk (hbox); have n5_ := Aside0.mk ((by rw [hg]; exact (below_size (by repeat (first | (with_reducible first | exact HB.out | apply below_alloc | apply pw_below_drewN | apply below_drew1 | refine below_set ?_ GE123.out) | exact HB.out))) : w.heap.size ≤ gb137)); have n6_ := Aside0.mk ((by rw [hg]; exact (below_size (by repeat (first | (with_reducible first | exact HB.out | apply below_alloc | apply pw_below_drewN | apply below_drew1 | refine below_set ?_ GE123.out) | exact HB.out))) : w.heap.size ≤ gb137)); have n7_ := Aside0.mk ((by rw [hg]; exact Nat.ne_of_lt (blk_lt (g := gb123) (o := .cells #[a0_0.v, a0_1.v, a0_2.v, .slice A0_3 l0_3.length c0_3, a0_4.v, a0_5.v, a0_6.v, a0_7.v, a0_8.v, a0_9.v, a0_10.v] 31 (0, 0)) (by (with_reducible repeat (first | refine blk_drewN ?_ _ | refine blk_drew ?_ | refine blk_alloc ?_ _)); exact BK123.out)) : gb123 ≠ gb137)); have n8_ := Aside0.mk ((by rw [hg]; exact Nat.ne_of_gt (blk_lt (g := gb123) (o := .cells #[a0_0.v, a0_1.v, a0_2.v, .slice A0_3 l0_3.length c0_3, a0_4.v, a0_5.v, a0_6.v, a0_7.v, a0_8.v, a0_9.v, a0_10.v] 31 (0, 0)) (by (with_reducible repeat (first | refine blk_drewN ?_ _ | refine blk_drew ?_ | refine blk_alloc ?_ _)); exact BK123.out)) : gb137 ≠ gb123)); clear HO_8; clear HO_12; clear BK123; clear HB; have HO_8 := n0_; have HO_12 := n1_; have BK123 := n2_; have HB := n3_; have BK137 := n4_; have GW137 := n5_; have GE137 := n6_; have NB123_137 := n7_; have NB137_123 := n8_; clear n0_ n1_ n2_ n3_ n4_ n5_ n6_ n7_ n8_; clear hb hbox hg; have hnb41 := NB137_123.out; have hnc41 := NB123_137.out; have hcz42_0 : w40.cell? ⟨gb137, 0, none⟩ = some (.int .i64 0) := (blk_cell BK137.out 0).trans rfl; have hcz42_1 : w40.cell? ⟨gb137, 1, none⟩ = some (.int .i64 0) := (blk_cell BK137.out 1).trans rfl; have hcz42_2 : w40.cell? ⟨gb137, 2, none⟩ = some (.int .i64 0) := (blk_cell BK137.out 2).trans rfl; have hcz42_3 : w40.cell? ⟨gb137, 3, none⟩ = some (.int .i64 0) := (blk_cell BK137.out 3).trans rfl; have hcz42_4 : w40.cell? ⟨gb137, 4, none⟩ = some (.int .i64 0) := (blk_cell BK137.out 4).trans rfl; have hcz42_5 : w40.cell? ⟨gb137, 5, none⟩ = some (.int .i64 0) := (blk_cell BK137.out 5).trans rfl; have hcz42_6 : w40.cell? ⟨gb137, 6, none⟩ = some (.int .i64 0) := (blk_cell BK137.out 6).trans rfl; have hcz42_7 : w40.cell? ⟨gb137, 7, none⟩ = some (.int .i64 0) := (blk_cell BK137.out 7).trans rfl; have hcz42_8 : w40.cell? ⟨gb137, 8, none⟩ = some (.int .i64 0) := (blk_cell BK137.out 8).trans rfl; have hfz42_0 := blk_frozen BK137.out 0; have hfz42_1 := blk_frozen BK137.out 1; have hfz42_2 := blk_frozen BK137.out 2; have hfz42_3 := blk_frozen BK137.out 3; have hfz42_4 := blk_frozen BK137.out 4; have hfz42_5 := blk_frozen BK137.out 5; have hfz42_6 := blk_frozen BK137.out 6; have hfz42_7 := blk_frozen BK137.out 7; have hfz42_8 := blk_frozen BK137.out 8; have hcz43_0 : w40.cell? ⟨gb123, 0, none⟩ = some (a0_0.v) := (blk_cell BK123.out 0).trans rfl; have hcz43_1 : w40.cell? ⟨gb123, 1, none⟩ = some (a0_1.v) := (blk_cell BK123.out 1).trans rfl; have hcz43_2 : w40.cell? ⟨gb123, 2, none⟩ = some (a0_2.v) := (blk_cell BK123.out 2).trans rfl; have hcz43_3 : w40.cell? ⟨gb123, 3, none⟩ = some (.slice A0_3 l0_3.length c0_3) := (blk_cell BK123.out 3).trans rfl; have hcz43_4 : w40.cell? ⟨gb123, 4, none⟩ = some (a0_4.v) := (blk_cell BK123.out 4).trans rfl; have hcz43_5 : w40.cell? ⟨gb123, 5, none⟩ = some (a0_5.v) := (blk_cell BK123.out 5).trans rfl; have hcz43_6 : w40.cell? ⟨gb123, 6, none⟩ = some (a0_6.v) := (blk_cell BK123.out 6).trans rfl; have hcz43_7 : w40.cell? ⟨gb123, 7, none⟩ = some (a0_7.v) := (blk_cell BK123.out 7).trans rfl; have hcz43_8 : w40.cell? ⟨gb123, 8, none⟩ = some (a0_8.v) := (blk_cell BK123.out 8).trans rfl; have hcz43_9 : w40.cell? ⟨gb123, 9, none⟩ = some (a0_9.v) := (blk_cell BK123.out 9).trans rfl; have hcz43_10 : w40.cell? ⟨gb123, 10, none⟩ = some (a0_10.v) := (blk_cell BK123.out 10).trans rfl; have hfz43_0 := blk_frozen BK123.out 0; have hfz43_1 := blk_frozen BK123.out 1; have hfz43_2 := blk_frozen BK123.out 2; have hfz43_3 := blk_frozen BK123.out 3; have hfz43_4 := blk_frozen BK123.out 4; have hfz43_5 := blk_frozen BK123.out 5; have hfz43_6 := blk_frozen BK123.out 6; have hfz43_7 := blk_frozen BK123.out 7; have hfz43_8 := blk_frozen BK123.out 8; have hfz43_9 := blk_frozen BK123.out 9; have hfz43_10 := blk_frozen BK123.out 10) | ((with_reducible refine gate_callee (f := 25) rfl ?_); refine goesL_ (some 71) rfl rfl Try.func25 (by kernel_rfl) rfl #[.agg #[a0_0.v, a0_1.v, a0_2.v, .slice A0_3 l0_3.length c0_3, a0_4.v, a0_5.v, a0_6.v, a0_7.v, a0_8.v, a0_9.v, a0_10.v], .int .i64 ((rd_T39 l1 x64_2).f3)] rfl (by (try simp only [List.map_toArray, List.map_cons, List.map_nil]); first | done | rfl | (simp only [List.length_drop, List.length_take]; rfl)) ?_; (with_reducible refine (allot_Reach.calls k2 a0_0 a0_1 a0_2 _ _ l0_3 a0_4 a0_5 a0_6 a0_7 a0_8 a0_9 a0_10 ((rd_T39 l1 x64_2).f3) t138 _ ?side1 ?side2 A36.out).mono ?_); (case side1 => exact Kd.C_below HR0_3.out (by repeat (first | (with_reducible first | exact HB.out | apply below_alloc | apply pw_below_drewN | apply below_drew1 | refine below_set ?_ GE123.out | refine below_set ?_ GE137.out) | exact HB.out))); (case side2 => exact HC0_3.out); rintro e w44 ⟨v139, rfl, ho0, hb⟩; refine ⟨_, rfl, ?_⟩; have n0_ := Aside0.mk (Kd.R_elder' (by (with_reducible repeat (first | apply Kd.R_alloc | apply Kd.R_drewN | apply Kd.R_drew)); exact (Kd.R_mono (Kd.R_far (p := ⟨gb137, 8, none⟩) (Kd.R_far (p := ⟨gb137, 7, none⟩) (Kd.R_far (p := ⟨gb137, 6, none⟩) (Kd.R_far (p := ⟨gb137, 5, none⟩) (Kd.R_far (p := ⟨gb137, 4, none⟩) (Kd.R_far (p := ⟨gb137, 3, none⟩) (Kd.R_far (p := ⟨gb137, 2, none⟩) (Kd.R_far (p := ⟨gb137, 1, none⟩) (Kd.R_far (p := ⟨gb137, 0, none⟩) (Kd.R_types HO_8.out BK137.out (by decide)) (fun _ hk => hk.2) (.int .i64 ((rd_T39 l1 x64_2).f0))) (fun _ hk => hk.2) (.int .i64 ((rd_T39 l1 x64_2).f1))) (fun _ hk => hk.2) (.int .i64 ((rd_T39 l1 x64_2).f2))) (fun _ hk => hk.2) (.int .i64 ((rd_T39 l1 x64_2).f3))) (fun _ hk => hk.2) (.int .i64 ((rd_T39 l1 x64_2).f4))) (fun _ hk => hk.2) (.int .i64 ((rd_T39 l1 x64_2).f5))) (fun _ hk => hk.2) (.int .i64 ((rd_T39 l1 x64_2).f6))) (fun _ hk => hk.2) (.int .i64 ((rd_T39 l1 x64_2).f7))) (fun _ hk => hk.2) (.int .i64 ((rd_T39 l1 x64_2).f8))) (fun _ h_ => h_.1))) (Kd.R_base ho0) hb); have n1_ := Aside0.mk (Kd.R_below (by (with_reducible repeat (first | apply Kd.R_alloc | apply Kd.R_drewN | apply Kd.R_drew)); exact (Kd.R_mono (Kd.R_far (p := ⟨gb137, 8, none⟩) (Kd.R_far (p := ⟨gb137, 7, none⟩) (Kd.R_far (p := ⟨gb137, 6, none⟩) (Kd.R_far (p := ⟨gb137, 5, none⟩) (Kd.R_far (p := ⟨gb137, 4, none⟩) (Kd.R_far (p := ⟨gb137, 3, none⟩) (Kd.R_far (p := ⟨gb137, 2, none⟩) (Kd.R_far (p := ⟨gb137, 1, none⟩) (Kd.R_far (p := ⟨gb137, 0, none⟩) (Kd.R_types HO_12.out BK137.out (by decide)) (fun _ hk => hk.2) (.int .i64 ((rd_T39 l1 x64_2).f0))) (fun _ hk => hk.2) (.int .i64 ((rd_T39 l1 x64_2).f1))) (fun _ hk => hk.2) (.int .i64 ((rd_T39 l1 x64_2).f2))) (fun _ hk => hk.2) (.int .i64 ((rd_T39 l1 x64_2).f3))) (fun _ hk => hk.2) (.int .i64 ((rd_T39 l1 x64_2).f4))) (fun _ hk => hk.2) (.int .i64 ((rd_T39 l1 x64_2).f5))) (fun _ hk => hk.2) (.int .i64 ((rd_T39 l1 x64_2).f6))) (fun _ hk => hk.2) (.int .i64 ((rd_T39 l1 x64_2).f7))) (fun _ hk => hk.2) (.int .i64 ((rd_T39 l1 x64_2).f8))) (fun _ h_ => h_.1))) hb); have n2_ := Aside0.mk (Kd.R_lower (Kd.R_new' ho0 (Kd.R_lt (by (with_reducible repeat (first | apply Kd.R_alloc | apply Kd.R_drewN | apply Kd.R_drew)); exact (Kd.R_mono (Kd.R_far (p := ⟨gb137, 8, none⟩) (Kd.R_far (p := ⟨gb137, 7, none⟩) (Kd.R_far (p := ⟨gb137, 6, none⟩) (Kd.R_far (p := ⟨gb137, 5, none⟩) (Kd.R_far (p := ⟨gb137, 4, none⟩) (Kd.R_far (p := ⟨gb137, 3, none⟩) (Kd.R_far (p := ⟨gb137, 2, none⟩) (Kd.R_far (p := ⟨gb137, 1, none⟩) (Kd.R_far (p := ⟨gb137, 0, none⟩) (Kd.R_types HO_8.out BK137.out (by decide)) (fun _ hk => hk.2) (.int .i64 ((rd_T39 l1 x64_2).f0))) (fun _ hk => hk.2) (.int .i64 ((rd_T39 l1 x64_2).f1))) (fun _ hk => hk.2) (.int .i64 ((rd_T39 l1 x64_2).f2))) (fun _ hk => hk.2) (.int .i64 ((rd_T39 l1 x64_2).f3))) (fun _ hk => hk.2) (.int .i64 ((rd_T39 l1 x64_2).f4))) (fun _ hk => hk.2) (.int .i64 ((rd_T39 l1 x64_2).f5))) (fun _ hk => hk.2) (.int .i64 ((rd_T39 l1 x64_2).f6))) (fun _ hk => hk.2) (.int .i64 ((rd_T39 l1 x64_2).f7))) (fun _ hk => hk.2) (.int .i64 ((rd_T39 l1 x64_2).f8))) (fun _ h_ => h_.1))))) (below_size (by repeat (first | (with_reducible first | exact HB.out | apply below_alloc | apply pw_below_drewN | apply below_drew1 | refine below_set ?_ GE123.out | refine below_set ?_ GE137.out) | exact HB.out)))); have n3_ := Aside0.mk (blk_below (g := gb123) (o := .cells #[a0_0.v, a0_1.v, a0_2.v, .slice A0_3 l0_3.length c0_3, a0_4.v, a0_5.v, a0_6.v, a0_7.v, a0_8.v, a0_9.v, a0_10.v] 31 (0, 0)) (by (with_reducible repeat (first | refine blk_drewN ?_ _ | refine blk_drew ?_ | refine blk_alloc ?_ _)); refine blk_far ?_ NB123_137.out _; (with_reducible repeat (first | refine blk_drewN ?_ _ | refine blk_drew ?_ | refine blk_alloc ?_ _)); refine blk_far ?_ NB123_137.out _; (with_reducible repeat (first | refine blk_drewN ?_ _ | refine blk_drew ?_ | refine blk_alloc ?_ _)); refine blk_far ?_ NB123_137.out _; (with_reducible repeat (first | refine blk_drewN ?_ _ | refine blk_drew ?_ | refine blk_alloc ?_ _)); refine blk_far ?_ NB123_137.out _; (with_reducible repeat (first | refine blk_drewN ?_ _ | refine blk_drew ?_ | refine blk_alloc ?_ _)); refine blk_far ?_ NB123_137.out _; (with_reducible repeat (first | refine blk_drewN ?_ _ | refine blk_drew ?_ | refine blk_alloc ?_ _)); refine blk_far ?_ NB123_137.out _; (with_reducible repeat (first | refine blk_drewN ?_ _ | refine blk_drew ?_ | refine blk_alloc ?_ _)); refine blk_far ?_ NB123_137.out _; (with_reducible repeat (first | refine blk_drewN ?_ _ | refine blk_drew ?_ | refine blk_alloc ?_ _)); refine blk_far ?_ NB123_137.out _; (with_reducible repeat (first | refine blk_drewN ?_ _ | refine blk_drew ?_ | refine blk_alloc ?_ _)); refine blk_far ?_ NB123_137.out _; (with_reducible repeat (first | refine blk_drewN ?_ _ | refine blk_drew ?_ | refine blk_alloc ?_ _)); exact BK123.out) hb); have n4_ := Aside0.mk (blk_below (g := gb137) (o := .cells #[.int .i64 ((rd_T39 l1 x64_2).f0), .int .i64 ((rd_T39 l1 x64_2).f1), .int .i64 ((rd_T39 l1 x64_2).f2), .int .i64 ((rd_T39 l1 x64_2).f3), .int .i64 ((rd_T39 l1 x64_2).f4), .int .i64 ((rd_T39 l1 x64_2).f5), .int .i64 ((rd_T39 l1 x64_2).f6), .int .i64 ((rd_T39 l1 x64_2).f7), .int .i64 ((rd_T39 l1 x64_2).f8)] 39 (0, 0)) (by (with_reducible repeat (first | refine blk_drewN ?_ _ | refine blk_drew ?_ | refine blk_alloc ?_ _)); refine blk_put (cs := #[.int .i64 ((rd_T39 l1 x64_2).f0), .int .i64 ((rd_T39 l1 x64_2).f1), .int .i64 ((rd_T39 l1 x64_2).f2), .int .i64 ((rd_T39 l1 x64_2).f3), .int .i64 ((rd_T39 l1 x64_2).f4), .int .i64 ((rd_T39 l1 x64_2).f5), .int .i64 ((rd_T39 l1 x64_2).f6), .int .i64 ((rd_T39 l1 x64_2).f7), .int .i64 0]) ?_ 8 _ rfl; (with_reducible repeat (first | refine blk_drewN ?_ _ | refine blk_drew ?_ | refine blk_alloc ?_ _)); refine blk_put (cs := #[.int .i64 ((rd_T39 l1 x64_2).f0), .int .i64 ((rd_T39 l1 x64_2).f1), .int .i64 ((rd_T39 l1 x64_2).f2), .int .i64 ((rd_T39 l1 x64_2).f3), .int .i64 ((rd_T39 l1 x64_2).f4), .int .i64 ((rd_T39 l1 x64_2).f5), .int .i64 ((rd_T39 l1 x64_2).f6), .int .i64 0, .int .i64 0]) ?_ 7 _ rfl; (with_reducible repeat (first | refine blk_drewN ?_ _ | refine blk_drew ?_ | refine blk_alloc ?_ _)); refine blk_put (cs := #[.int .i64 ((rd_T39 l1 x64_2).f0), .int .i64 ((rd_T39 l1 x64_2).f1), .int .i64 ((rd_T39 l1 x64_2).f2), .int .i64 ((rd_T39 l1 x64_2).f3), .int .i64 ((rd_T39 l1 x64_2).f4), .int .i64 ((rd_T39 l1 x64_2).f5), .int .i64 0, .int .i64 0, .int .i64 0]) ?_ 6 _ rfl; (with_reducible repeat (first | refine blk_drewN ?_ _ | refine blk_drew ?_ | refine blk_alloc ?_ _)); refine blk_put (cs := #[.int .i64 ((rd_T39 l1 x64_2).f0), .int .i64 ((rd_T39 l1 x64_2).f1), .int .i64 ((rd_T39 l1 x64_2).f2), .int .i64 ((rd_T39 l1 x64_2).f3), .int .i64 ((rd_T39 l1 x64_2).f4), .int .i64 0, .int .i64 0, .int .i64 0, .int .i64 0]) ?_ 5 _ rfl; (with_reducible repeat (first | refine blk_drewN ?_ _ | refine blk_drew ?_ | refine blk_alloc ?_ _)); refine blk_put (cs := #[.int .i64 ((rd_T39 l1 x64_2).f0), .int .i64 ((rd_T39 l1 x64_2).f1), .int .i64 ((rd_T39 l1 x64_2).f2), .int .i64 ((rd_T39 l1 x64_2).f3), .int .i64 0, .int .i64 0, .int .i64 0, .int .i64 0, .int .i64 0]) ?_ 4 _ rfl; (with_reducible repeat (first | refine blk_drewN ?_ _ | refine blk_drew ?_ | refine blk_alloc ?_ _)); refine blk_put (cs := #[.int .i64 ((rd_T39 l1 x64_2).f0), .int .i64 ((rd_T39 l1 x64_2).f1), .int .i64 ((rd_T39 l1 x64_2).f2), .int .i64 0, .int .i64 0, .int .i64 0, .int .i64 0, .int .i64 0, .int .i64 0]) ?_ 3 _ rfl; (with_reducible repeat (first | refine blk_drewN ?_ _ | refine blk_drew ?_ | refine blk_alloc ?_ _)); refine blk_put (cs := #[.int .i64 ((rd_T39 l1 x64_2).f0), .int .i64 ((rd_T39 l1 x64_2).f1), .int .i64 0, .int .i64 0, .int .i64 0, .int .i64 0, .int .i64 0, .int .i64 0, .int .i64 0]) ?_ 2 _ rfl; (with_reducible repeat (first | refine blk_drewN ?_ _ | refine blk_drew ?_ | refine blk_alloc ?_ _)); refine blk_put (cs := #[.int .i64 ((rd_T39 l1 x64_2).f0), .int .i64 0, .int .i64 0, .int .i64 0, .int .i64 0, .int .i64 0, .int .i64 0, .int .i64 0, .int .i64 0]) ?_ 1 _ rfl; (with_reducible repeat (first | refine blk_drewN ?_ _ | refine blk_drew ?_ | refine blk_alloc ?_ _)); refine blk_put (cs := #[.int .i64 0, .int .i64 0, .int .i64 0, .int .i64 0, .int .i64 0, .int .i64 0, .int .i64 0, .int .i64 0, .int .i64 0]) ?_ 0 _ rfl; (with_reducible repeat (first | refine blk_drewN ?_ _ | refine blk_drew ?_ | refine blk_alloc ?_ _)); exact BK137.out) hb); have n5_ := Aside0.mk (below_step (by repeat (first | (with_reducible first | exact HB.out | apply below_alloc | apply pw_below_drewN | apply below_drew1 | refine below_set ?_ GE123.out | refine below_set ?_ GE137.out) | exact HB.out)) hb); clear HO_8; clear HO_12; clear BK123; clear BK137; clear HB; have HO_8 := n0_; have HO_12 := n1_; have HO140 := n2_; have BK123 := n3_; have BK137 := n4_; have HB := n5_; clear n0_ n1_ n2_ n3_ n4_ n5_; (try clear hb); (try clear hb2); (try clear hk); (try clear hi); (try clear ho0); have hcz45_0 : w44.cell? ⟨gb137, 0, none⟩ = some (.int .i64 ((rd_T39 l1 x64_2).f0)) := (blk_cell BK137.out 0).trans rfl; have hcz45_1 : w44.cell? ⟨gb137, 1, none⟩ = some (.int .i64 ((rd_T39 l1 x64_2).f1)) := (blk_cell BK137.out 1).trans rfl; have hcz45_2 : w44.cell? ⟨gb137, 2, none⟩ = some (.int .i64 ((rd_T39 l1 x64_2).f2)) := (blk_cell BK137.out 2).trans rfl; have hcz45_3 : w44.cell? ⟨gb137, 3, none⟩ = some (.int .i64 ((rd_T39 l1 x64_2).f3)) := (blk_cell BK137.out 3).trans rfl; have hcz45_4 : w44.cell? ⟨gb137, 4, none⟩ = some (.int .i64 ((rd_T39 l1 x64_2).f4)) := (blk_cell BK137.out 4).trans rfl; have hcz45_5 : w44.cell? ⟨gb137, 5, none⟩ = some (.int .i64 ((rd_T39 l1 x64_2).f5)) := (blk_cell BK137.out 5).trans rfl; have hcz45_6 : w44.cell? ⟨gb137, 6, none⟩ = some (.int .i64 ((rd_T39 l1 x64_2).f6)) := (blk_cell BK137.out 6).trans rfl; have hcz45_7 : w44.cell? ⟨gb137, 7, none⟩ = some (.int .i64 ((rd_T39 l1 x64_2).f7)) := (blk_cell BK137.out 7).trans rfl; have hcz45_8 : w44.cell? ⟨gb137, 8, none⟩ = some (.int .i64 ((rd_T39 l1 x64_2).f8)) := (blk_cell BK137.out 8).trans rfl; have hfz45_0 := blk_frozen BK137.out 0; have hfz45_1 := blk_frozen BK137.out 1; have hfz45_2 := blk_frozen BK137.out 2; have hfz45_3 := blk_frozen BK137.out 3; have hfz45_4 := blk_frozen BK137.out 4; have hfz45_5 := blk_frozen BK137.out 5; have hfz45_6 := blk_frozen BK137.out 6; have hfz45_7 := blk_frozen BK137.out 7; have hfz45_8 := blk_frozen BK137.out 8; obtain ⟨Ao46, co46, eo46⟩ := Kd.R_slice HO_8.out; subst eo46; obtain ⟨Ao47, co47, eo47⟩ := Kd.R_slice HO140.out; subst eo47) | ((with_reducible refine gate_callee (f := 42) rfl ?_); refine goesL_ (some 76) rfl rfl Try.func42 (by kernel_rfl) rfl #[.int .i64 ((rd_T39 l1 x64_2).f4), .slice Ao46 x8_2.length co46, .slice Ao47 t138.length co47] rfl (by (try simp only [List.map_toArray, List.map_cons, List.map_nil]); first | done | rfl | (simp only [List.length_drop, List.length_take]; rfl)) ?_; (with_reducible refine (allot_least.calls k2 ((rd_T39 l1 x64_2).f4) _ _ x8_2 _ _ t138 t141 _ ?side1 ?side2 ?side3 ?side4 A37.out).mono ?_); (case side1 => repeat (first | exact (Kd.R_reads' HO_8.out).2.2 | (with_reducible refine Kd.C_alloc ?_ _) | (with_reducible refine Kd.C_drewN ?_ _) | (with_reducible refine Kd.C_drew ?_))); (case side2 => exact (Kd.R_reads' HO_8.out).2.1); (case side3 => repeat (first | exact (Kd.R_reads' HO140.out).2.2 | (with_reducible refine Kd.C_alloc ?_ _) | (with_reducible refine Kd.C_drewN ?_ _) | (with_reducible refine Kd.C_drew ?_))); (case side4 => exact (Kd.R_reads' HO140.out).2.1); rintro e w48 ⟨rfl, hb⟩; refine ⟨_, rfl, ?_⟩; have n0_ := Aside0.mk (Kd.R_below (by (with_reducible repeat (first | apply Kd.R_alloc | apply Kd.R_drewN | apply Kd.R_drew)); exact HO_8.out) hb); have n1_ := Aside0.mk (Kd.R_below (by (with_reducible repeat (first | apply Kd.R_alloc | apply Kd.R_drewN | apply Kd.R_drew)); exact HO_12.out) hb); have n2_ := Aside0.mk (Kd.R_below (by (with_reducible repeat (first | apply Kd.R_alloc | apply Kd.R_drewN | apply Kd.R_drew)); exact HO140.out) hb); have n3_ := Aside0.mk (blk_below (g := gb123) (o := .cells #[a0_0.v, a0_1.v, a0_2.v, .slice A0_3 l0_3.length c0_3, a0_4.v, a0_5.v, a0_6.v, a0_7.v, a0_8.v, a0_9.v, a0_10.v] 31 (0, 0)) (by (with_reducible repeat (first | refine blk_drewN ?_ _ | refine blk_drew ?_ | refine blk_alloc ?_ _)); exact BK123.out) hb); have n4_ := Aside0.mk (blk_below (g := gb137) (o := .cells #[.int .i64 ((rd_T39 l1 x64_2).f0), .int .i64 ((rd_T39 l1 x64_2).f1), .int .i64 ((rd_T39 l1 x64_2).f2), .int .i64 ((rd_T39 l1 x64_2).f3), .int .i64 ((rd_T39 l1 x64_2).f4), .int .i64 ((rd_T39 l1 x64_2).f5), .int .i64 ((rd_T39 l1 x64_2).f6), .int .i64 ((rd_T39 l1 x64_2).f7), .int .i64 ((rd_T39 l1 x64_2).f8)] 39 (0, 0)) (by (with_reducible repeat (first | refine blk_drewN ?_ _ | refine blk_drew ?_ | refine blk_alloc ?_ _)); exact BK137.out) hb); have n5_ := Aside0.mk (below_step (by repeat (first | (with_reducible first | exact HB.out | apply below_alloc | apply pw_below_drewN | apply below_drew1 | refine below_set ?_ GE123.out | refine below_set ?_ GE137.out) | exact HB.out)) hb); clear HO_8; clear HO_12; clear HO140; clear BK123; clear BK137; clear HB; have HO_8 := n0_; have HO_12 := n1_; have HO140 := n2_; have BK123 := n3_; have BK137 := n4_; have HB := n5_; clear n0_ n1_ n2_ n3_ n4_ n5_; (try clear hb); (try clear hb2); (try clear hk); (try clear hi)))
                      (try simp only [Act.put, List.setIfInBounds_toArray, List.set_cons_zero, List.set_cons_succ])
                      go_cut [16] (fun v16 wc => ∃ (kq : Nat) (x16_38 : Int), v16 = .int .i64 x16_38 ∧ Aside0 (allot_Day.j4 kq x8_2 x12_2 t138 x16_38 l1 (l1.length : Int) x64_2 a0_0 a0_1 a0_2 l0_3 a0_4 a0_5 a0_6 a0_7 a0_8 a0_9 a0_10 ((rd_T39 l1 x64_2).f0) ((rd_T39 l1 x64_2).f1) ((rd_T39 l1 x64_2).f2) ((rd_T39 l1 x64_2).f3) ((rd_T39 l1 x64_2).f4) ((rd_T39 l1 x64_2).f5) ((rd_T39 l1 x64_2).f6) ((rd_T39 l1 x64_2).f7) ((rd_T39 l1 x64_2).f8) = some (r1, r2)) ∧ Aside0 (kq ≤ k2) ∧ Aside0 (Kd.R (Kd.int .i64) 3 wc w.heap.size (fun k_ => some k_ ≠ ((.slice Ao47 t138.length co47) : Value).ownBlock) (.slice Ao46 x8_2.length co46) x8_2) ∧ Aside0 (Kd.R k53 53 wc w.heap.size (fun _ => True) u12 x12_2) ∧ Aside0 (Kd.R (Kd.int .i64) 3 wc w.heap.size (fun k_ => some k_ ≠ ((.slice Ao46 x8_2.length co46) : Value).ownBlock) (.slice Ao47 t138.length co47) t138) ∧ Aside0 (wc.heap[gb123]? = some (.cells #[a0_0.v, a0_1.v, a0_2.v, (.slice A0_3 l0_3.length c0_3), a0_4.v, a0_5.v, a0_6.v, a0_7.v, a0_8.v, a0_9.v, a0_10.v] 31 (0, 0))) ∧ Aside0 (wc.heap[gb137]? = some (.cells #[.int .i64 ((rd_T39 l1 x64_2).f0), .int .i64 ((rd_T39 l1 x64_2).f1), .int .i64 ((rd_T39 l1 x64_2).f2), .int .i64 ((rd_T39 l1 x64_2).f3), .int .i64 ((rd_T39 l1 x64_2).f4), .int .i64 ((rd_T39 l1 x64_2).f5), .int .i64 ((rd_T39 l1 x64_2).f6), .int .i64 ((rd_T39 l1 x64_2).f7), .int .i64 ((rd_T39 l1 x64_2).f8)] 39 (0, 0))) ∧ Aside0 (Below w.heap.size w wc))
                      case first =>
                        have H := HC39.out
                        clear HC39
                        by_cases c49 : (t138.length : Int) = 0
                        · rw [if_pos c49] at H
                          have c49b0 : ((t138.length : Int) == 0) = true := beq_iff_eq.mpr c49
                          have c49b1 : ((t138.length : Int) != 0) = false := bne_eq_false_iff_eq.mpr c49
                          clear c49
                          (first | rw [c49b0] | (simp only [i64_w, i32_w]; rw [c49b0]) | skip)
                          have H' := Aside0.mk H
                          clear H
                          go_wp2
                          go_meet
                          case rel => exact ⟨_, (0), (by first | rfl | (simp; done) | (simp [*]; done)), H', ⟨by have := HK1.out; have := HK2.out; first | omega | exact Nat.le_refl _⟩, ⟨by (with_reducible repeat (first | apply Kd.R_alloc | apply Kd.R_drewN | apply Kd.R_drew)); exact Kd.R_mono HO_8.out (fun _ hk => hk.2)⟩, ⟨by (with_reducible repeat (first | apply Kd.R_alloc | apply Kd.R_drewN | apply Kd.R_drew)); exact HO_12.out⟩, ⟨by (with_reducible repeat (first | apply Kd.R_alloc | apply Kd.R_drewN | apply Kd.R_drew)); exact Kd.R_mono HO140.out (fun _ hk => hk.2)⟩, ⟨by (with_reducible repeat (first | refine blk_drewN ?_ _ | refine blk_drew ?_ | refine blk_alloc ?_ _)); exact BK123.out⟩, ⟨by (with_reducible repeat (first | refine blk_drewN ?_ _ | refine blk_drew ?_ | refine blk_alloc ?_ _)); exact BK137.out⟩, ⟨by repeat (first | (with_reducible first | exact HB.out | apply below_alloc | apply pw_below_drewN | apply below_drew1 | refine below_set ?_ GE123.out | refine below_set ?_ GE137.out) | exact HB.out)⟩⟩
                        · rw [if_neg c49] at H
                          have c49b0 : ((t138.length : Int) == 0) = false := beq_eq_false_iff_ne.mpr c49
                          have c49b1 : ((t138.length : Int) != 0) = true := bne_iff_ne.mpr c49
                          have c49b2 : ¬ (t138 = []) := fun h_ => c49 (by rw [h_]; rfl)
                          (first | rw [c49b0] | (simp only [i64_w, i32_w]; rw [c49b0]) | skip)
                          have H' := Aside0.mk H
                          clear H
                          go_wp2
                          go_meet
                          case rel => exact ⟨_, (ji38), (by first | rfl | (simp; done) | (simp only [← hji38] <;> (first | rfl | simp)) | (simp [*]; done)), H', ⟨by have := HK1.out; have := HK2.out; first | omega | exact Nat.le_refl _⟩, ⟨by (with_reducible repeat (first | apply Kd.R_alloc | apply Kd.R_drewN | apply Kd.R_drew)); exact Kd.R_mono HO_8.out (fun _ hk => hk.2)⟩, ⟨by (with_reducible repeat (first | apply Kd.R_alloc | apply Kd.R_drewN | apply Kd.R_drew)); exact HO_12.out⟩, ⟨by (with_reducible repeat (first | apply Kd.R_alloc | apply Kd.R_drewN | apply Kd.R_drew)); exact Kd.R_mono HO140.out (fun _ hk => hk.2)⟩, ⟨by (with_reducible repeat (first | refine blk_drewN ?_ _ | refine blk_drew ?_ | refine blk_alloc ?_ _)); exact BK123.out⟩, ⟨by (with_reducible repeat (first | refine blk_drewN ?_ _ | refine blk_drew ?_ | refine blk_alloc ?_ _)); exact BK137.out⟩, ⟨by repeat (first | (with_reducible first | exact HB.out | apply below_alloc | apply pw_below_drewN | apply below_drew1 | refine below_set ?_ GE123.out | refine below_set ?_ GE137.out) | exact HB.out)⟩⟩
                      case rest =>
                        clear HC39
                        try clear c1
                        try clear p1
                        try clear q1
                        try clear hx1
                        try clear c2
                        try clear p2
                        try clear q2
                        try clear hx2
                        try clear c3
                        try clear c4
                        try clear c4b0
                        try clear c4b1
                        try clear c5
                        try clear c5b0
                        try clear c5b1
                        try clear p6
                        try clear c11
                        try clear c11b0
                        try clear p12
                        try clear q12
                        try clear hx12
                        try clear c13
                        try clear c13b0
                        try clear p13
                        try clear q13
                        try clear hx13
                        try clear c14
                        try clear c14b0
                        try clear c15
                        try clear c15b0
                        try clear c16
                        try clear c21
                        try clear c21b0
                        try clear c22
                        try clear c22b0
                        try clear c23
                        try clear c23b0
                        try clear c24
                        try clear c24b0
                        try clear c25
                        try clear c25b0
                        try clear c26
                        try clear c26b0
                        try clear c27
                        try clear c27b0
                        try clear p29
                        try clear q29
                        try clear hx29
                        try clear hf29
                        try clear c33
                        try clear c33b0
                        try clear c34
                        try clear c34b0
                        try clear c35
                        try clear c35b0
                        try clear c41
                        try clear c42
                        try clear c49
                        try clear c49b0
                        try clear c49b1
                        try clear c49b2
                        try clear hcz10_0
                        try clear hcz10_1
                        try clear hcz10_10
                        try clear hcz10_2
                        try clear hcz10_3
                        try clear hcz10_4
                        try clear hcz10_5
                        try clear hcz10_6
                        try clear hcz10_7
                        try clear hcz10_8
                        try clear hcz10_9
                        try clear hcz18_0
                        try clear hcz18_1
                        try clear hcz18_10
                        try clear hcz18_2
                        try clear hcz18_3
                        try clear hcz18_4
                        try clear hcz18_5
                        try clear hcz18_6
                        try clear hcz18_7
                        try clear hcz18_8
                        try clear hcz18_9
                        try clear hcz42_0
                        try clear hcz42_1
                        try clear hcz42_2
                        try clear hcz42_3
                        try clear hcz42_4
                        try clear hcz42_5
                        try clear hcz42_6
                        try clear hcz42_7
                        try clear hcz42_8
                        try clear hcz43_0
                        try clear hcz43_1
                        try clear hcz43_10
                        try clear hcz43_2
                        try clear hcz43_3
                        try clear hcz43_4
                        try clear hcz43_5
                        try clear hcz43_6
                        try clear hcz43_7
                        try clear hcz43_8
                        try clear hcz43_9
                        try clear hcz45_0
                        try clear hcz45_1
                        try clear hcz45_2
                        try clear hcz45_3
                        try clear hcz45_4
                        try clear hcz45_5
                        try clear hcz45_6
                        try clear hcz45_7
                        try clear hcz45_8
                        try clear hcz7_0
                        try clear hcz7_1
                        try clear hcz7_10
                        try clear hcz7_2
                        try clear hcz7_3
                        try clear hcz7_4
                        try clear hcz7_5
                        try clear hcz7_6
                        try clear hcz7_7
                        try clear hcz7_8
                        try clear hcz7_9
                        try clear hfz10_0
                        try clear hfz10_1
                        try clear hfz10_10
                        try clear hfz10_2
                        try clear hfz10_3
                        try clear hfz10_4
                        try clear hfz10_5
                        try clear hfz10_6
                        try clear hfz10_7
                        try clear hfz10_8
                        try clear hfz10_9
                        try clear hfz18_0
                        try clear hfz18_1
                        try clear hfz18_10
                        try clear hfz18_2
                        try clear hfz18_3
                        try clear hfz18_4
                        try clear hfz18_5
                        try clear hfz18_6
                        try clear hfz18_7
                        try clear hfz18_8
                        try clear hfz18_9
                        try clear hfz42_0
                        try clear hfz42_1
                        try clear hfz42_2
                        try clear hfz42_3
                        try clear hfz42_4
                        try clear hfz42_5
                        try clear hfz42_6
                        try clear hfz42_7
                        try clear hfz42_8
                        try clear hfz43_0
                        try clear hfz43_1
                        try clear hfz43_10
                        try clear hfz43_2
                        try clear hfz43_3
                        try clear hfz43_4
                        try clear hfz43_5
                        try clear hfz43_6
                        try clear hfz43_7
                        try clear hfz43_8
                        try clear hfz43_9
                        try clear hfz45_0
                        try clear hfz45_1
                        try clear hfz45_2
                        try clear hfz45_3
                        try clear hfz45_4
                        try clear hfz45_5
                        try clear hfz45_6
                        try clear hfz45_7
                        try clear hfz45_8
                        try clear hfz7_0
                        try clear hfz7_1
                        try clear hfz7_10
                        try clear hfz7_2
                        try clear hfz7_3
                        try clear hfz7_4
                        try clear hfz7_5
                        try clear hfz7_6
                        try clear hfz7_7
                        try clear hfz7_8
                        try clear hfz7_9
                        try clear hx127_0
                        try clear hx131_0
                        try clear hx132_0
                        try clear hx133_0
                        try clear hx136_0
                        try clear hx136_1
                        try clear hx136_2
                        try clear hx136_3
                        try clear hx136_4
                        try clear hx136_5
                        try clear hx136_6
                        try clear hx136_7
                        try clear hx136_8
                        try clear hx29_0
                        try clear p1
                        try clear p12
                        try clear p127
                        try clear p13
                        try clear p131
                        try clear p132
                        try clear p133
                        try clear p136
                        try clear p2
                        try clear p29
                        try clear p6
                        try clear q1
                        try clear q12
                        try clear q127
                        try clear q13
                        try clear q131
                        try clear q132
                        try clear q133
                        try clear q136
                        try clear q2
                        try clear q29
                        obtain ⟨kq, x16_38, rfl, HA, HJ38, HO_8, HO_12, HO_15, BK123, BK137, HB⟩ := hcut
                        cases kq with
                        | zero => exact absurd HA.out (by simp [allot_Day.j4])
                        | succ kj38 =>
                          have H := HA.out
                          clear HA
                          simp only [allot_Day.j4] at H
                          have H' := Aside0.mk H
                          clear H
                          go_wp2
                          go_loopg [83] kj38 (fun kq v83 w' => ∃ (x8_4 : List Int) (x83_4 : Int), v83 = .int .i64 x83_4 ∧ Aside0 (allot_Day.l3 kq x8_4 x12_2 x16_38 l1 (l1.length : Int) x64_2 t138 (t138.length : Int) x83_4 a0_0 a0_1 a0_2 l0_3 a0_4 a0_5 a0_6 a0_7 a0_8 a0_9 a0_10 ((rd_T39 l1 x64_2).f0) ((rd_T39 l1 x64_2).f1) ((rd_T39 l1 x64_2).f2) ((rd_T39 l1 x64_2).f3) ((rd_T39 l1 x64_2).f4) ((rd_T39 l1 x64_2).f5) ((rd_T39 l1 x64_2).f6) ((rd_T39 l1 x64_2).f7) ((rd_T39 l1 x64_2).f8) = some (r1, r2)) ∧ Aside0 (kq ≤ kj38) ∧ Aside0 (Kd.R (Kd.int .i64) 3 w' w.heap.size (fun k_ => some k_ ≠ ((.slice Ao47 t138.length co47) : Value).ownBlock) (.slice Ao46 x8_2.length co46) x8_4) ∧ Aside0 (Kd.R k53 53 w' w.heap.size (fun _ => True) u12 x12_2) ∧ Aside0 (Kd.R (Kd.int .i64) 3 w' w.heap.size (fun k_ => some k_ ≠ ((.slice Ao46 x8_2.length co46) : Value).ownBlock) (.slice Ao47 t138.length co47) t138) ∧ Aside0 (w'.heap[gb123]? = some (.cells #[a0_0.v, a0_1.v, a0_2.v, (.slice A0_3 l0_3.length c0_3), a0_4.v, a0_5.v, a0_6.v, a0_7.v, a0_8.v, a0_9.v, a0_10.v] 31 (0, 0))) ∧ Aside0 (w'.heap[gb137]? = some (.cells #[.int .i64 ((rd_T39 l1 x64_2).f0), .int .i64 ((rd_T39 l1 x64_2).f1), .int .i64 ((rd_T39 l1 x64_2).f2), .int .i64 ((rd_T39 l1 x64_2).f3), .int .i64 ((rd_T39 l1 x64_2).f4), .int .i64 ((rd_T39 l1 x64_2).f5), .int .i64 ((rd_T39 l1 x64_2).f6), .int .i64 ((rd_T39 l1 x64_2).f7), .int .i64 ((rd_T39 l1 x64_2).f8)] 39 (0, 0))) ∧ Aside0 (Below w.heap.size w w'))
                          case atStart => exact ⟨(x8_2), (0), (by first | rfl | (simp; done) | (simp [*]; done)), H', ⟨Nat.le_refl _⟩, ⟨by (with_reducible repeat (first | apply Kd.R_alloc | apply Kd.R_drewN | apply Kd.R_drew)); exact HO_8.out⟩, ⟨by (with_reducible repeat (first | apply Kd.R_alloc | apply Kd.R_drewN | apply Kd.R_drew)); exact HO_12.out⟩, ⟨by (with_reducible repeat (first | apply Kd.R_alloc | apply Kd.R_drewN | apply Kd.R_drew)); exact HO_15.out⟩, ⟨by (with_reducible repeat (first | refine blk_drewN ?_ _ | refine blk_drew ?_ | refine blk_alloc ?_ _)); exact BK123.out⟩, ⟨by (with_reducible repeat (first | refine blk_drewN ?_ _ | refine blk_drew ?_ | refine blk_alloc ?_ _)); exact BK137.out⟩, ⟨by repeat (first | (with_reducible first | exact HB.out | apply below_alloc | apply pw_below_drewN | apply below_drew1 | refine below_set ?_ GE123.out | refine below_set ?_ GE137.out) | exact HB.out)⟩⟩
                          case round =>
                            clear H'
                            try clear c1
                            try clear p1
                            try clear q1
                            try clear hx1
                            try clear c2
                            try clear p2
                            try clear q2
                            try clear hx2
                            try clear c3
                            try clear c4
                            try clear c4b0
                            try clear c4b1
                            try clear c5
                            try clear c5b0
                            try clear c5b1
                            try clear p6
                            try clear c11
                            try clear c11b0
                            try clear p12
                            try clear q12
                            try clear hx12
                            try clear c13
                            try clear c13b0
                            try clear p13
                            try clear q13
                            try clear hx13
                            try clear c14
                            try clear c14b0
                            try clear c15
                            try clear c15b0
                            try clear c16
                            try clear c21
                            try clear c21b0
                            try clear c22
                            try clear c22b0
                            try clear c23
                            try clear c23b0
                            try clear c24
                            try clear c24b0
                            try clear c25
                            try clear c25b0
                            try clear c26
                            try clear c26b0
                            try clear c27
                            try clear c27b0
                            try clear p29
                            try clear q29
                            try clear hx29
                            try clear hf29
                            try clear c33
                            try clear c33b0
                            try clear c34
                            try clear c34b0
                            try clear c35
                            try clear c35b0
                            try clear c41
                            try clear c42
                            try clear c49
                            try clear c49b0
                            try clear c49b1
                            try clear c49b2
                            try clear hcz10_0
                            try clear hcz10_1
                            try clear hcz10_10
                            try clear hcz10_2
                            try clear hcz10_3
                            try clear hcz10_4
                            try clear hcz10_5
                            try clear hcz10_6
                            try clear hcz10_7
                            try clear hcz10_8
                            try clear hcz10_9
                            try clear hcz18_0
                            try clear hcz18_1
                            try clear hcz18_10
                            try clear hcz18_2
                            try clear hcz18_3
                            try clear hcz18_4
                            try clear hcz18_5
                            try clear hcz18_6
                            try clear hcz18_7
                            try clear hcz18_8
                            try clear hcz18_9
                            try clear hcz42_0
                            try clear hcz42_1
                            try clear hcz42_2
                            try clear hcz42_3
                            try clear hcz42_4
                            try clear hcz42_5
                            try clear hcz42_6
                            try clear hcz42_7
                            try clear hcz42_8
                            try clear hcz43_0
                            try clear hcz43_1
                            try clear hcz43_10
                            try clear hcz43_2
                            try clear hcz43_3
                            try clear hcz43_4
                            try clear hcz43_5
                            try clear hcz43_6
                            try clear hcz43_7
                            try clear hcz43_8
                            try clear hcz43_9
                            try clear hcz45_0
                            try clear hcz45_1
                            try clear hcz45_2
                            try clear hcz45_3
                            try clear hcz45_4
                            try clear hcz45_5
                            try clear hcz45_6
                            try clear hcz45_7
                            try clear hcz45_8
                            try clear hcz7_0
                            try clear hcz7_1
                            try clear hcz7_10
                            try clear hcz7_2
                            try clear hcz7_3
                            try clear hcz7_4
                            try clear hcz7_5
                            try clear hcz7_6
                            try clear hcz7_7
                            try clear hcz7_8
                            try clear hcz7_9
                            try clear hfz10_0
                            try clear hfz10_1
                            try clear hfz10_10
                            try clear hfz10_2
                            try clear hfz10_3
                            try clear hfz10_4
                            try clear hfz10_5
                            try clear hfz10_6
                            try clear hfz10_7
                            try clear hfz10_8
                            try clear hfz10_9
                            try clear hfz18_0
                            try clear hfz18_1
                            try clear hfz18_10
                            try clear hfz18_2
                            try clear hfz18_3
                            try clear hfz18_4
                            try clear hfz18_5
                            try clear hfz18_6
                            try clear hfz18_7
                            try clear hfz18_8
                            try clear hfz18_9
                            try clear hfz42_0
                            try clear hfz42_1
                            try clear hfz42_2
                            try clear hfz42_3
                            try clear hfz42_4
                            try clear hfz42_5
                            try clear hfz42_6
                            try clear hfz42_7
                            try clear hfz42_8
                            try clear hfz43_0
                            try clear hfz43_1
                            try clear hfz43_10
                            try clear hfz43_2
                            try clear hfz43_3
                            try clear hfz43_4
                            try clear hfz43_5
                            try clear hfz43_6
                            try clear hfz43_7
                            try clear hfz43_8
                            try clear hfz43_9
                            try clear hfz45_0
                            try clear hfz45_1
                            try clear hfz45_2
                            try clear hfz45_3
                            try clear hfz45_4
                            try clear hfz45_5
                            try clear hfz45_6
                            try clear hfz45_7
                            try clear hfz45_8
                            try clear hfz7_0
                            try clear hfz7_1
                            try clear hfz7_10
                            try clear hfz7_2
                            try clear hfz7_3
                            try clear hfz7_4
                            try clear hfz7_5
                            try clear hfz7_6
                            try clear hfz7_7
                            try clear hfz7_8
                            try clear hfz7_9
                            try clear hx127_0
                            try clear hx131_0
                            try clear hx132_0
                            try clear hx133_0
                            try clear hx136_0
                            try clear hx136_1
                            try clear hx136_2
                            try clear hx136_3
                            try clear hx136_4
                            try clear hx136_5
                            try clear hx136_6
                            try clear hx136_7
                            try clear hx136_8
                            try clear hx29_0
                            try clear p1
                            try clear p12
                            try clear p127
                            try clear p13
                            try clear p131
                            try clear p132
                            try clear p133
                            try clear p136
                            try clear p2
                            try clear p29
                            try clear p6
                            try clear q1
                            try clear q12
                            try clear q127
                            try clear q13
                            try clear q131
                            try clear q132
                            try clear q133
                            try clear q136
                            try clear q2
                            try clear q29
                            obtain ⟨x8_4, x83_4, rfl, HA, HK4, HO_8, HO_12, HO_81, BK123, BK137, HB⟩ := hrel
                            have hl8_4 := (Kd.R_reads' HO_8.out).1
                            rw [hl8_4] at HO_8
                            (try simp only [hl8_4])
                            (try simp only [hl8_4] at BK123)
                            (try simp only [hl8_4] at BK137)
                            (try simp only [hl8_4] at HO_12)
                            (try simp only [hl8_4] at HO_81)
                            cases gk with
                            | zero => exact absurd HA.out (by simp [allot_Day.l3])
                            | succ k4 =>
                              have H := HA.out
                              clear HA
                              simp only [allot_Day.l3] at H
                              by_cases c50 : x83_4 < (t138.length : Int)
                              · rw [if_pos c50] at H
                                have c50b0 : decide (x83_4 < (t138.length : Int)) = true := decide_eq_true c50
                                clear c50
                                by_cases c51 : 0 ≤ x83_4
                                · rw [if_pos c51] at H
                                  have c51b0 : decide (0 ≤ x83_4) = true := decide_eq_true c51
                                  clear c51
                                  by_cases c52 : x83_4 < (t138.length : Int)
                                  · rw [if_pos c52] at H
                                    have c52b0 : decide (x83_4 < (t138.length : Int)) = true := decide_eq_true c52
                                    clear c52
                                    by_cases c53 : 0 ≤ (rd t138 x83_4)
                                    · rw [if_pos c53] at H
                                      have c53b0 : decide (0 ≤ (rd t138 x83_4)) = true := decide_eq_true c53
                                      clear c53
                                      by_cases c54 : (rd t138 x83_4) < (x8_4.length : Int)
                                      · rw [if_pos c54] at H
                                        have c54b0 : decide ((rd t138 x83_4) < (x8_4.length : Int)) = true := decide_eq_true c54
                                        clear c54
                                        obtain ⟨y144, hy144⟩ : ∃ y_ : List Int, y_ = (x8_4.set ((rd t138 x83_4) : Int).toNat (wrap64 ((rd x8_4 (rd t138 x83_4)) - x16_38))) := ⟨_, rfl⟩
                                        replace H : (allot_Day.l3 k4 y144 x12_2 x16_38 l1 (l1.length : Int) x64_2 t138 (t138.length : Int) (wrap64 (x83_4 + 1)) a0_0 a0_1 a0_2 l0_3 a0_4 a0_5 a0_6 a0_7 a0_8 a0_9 a0_10 ((rd_T39 l1 x64_2).f0) ((rd_T39 l1 x64_2).f1) ((rd_T39 l1 x64_2).f2) ((rd_T39 l1 x64_2).f3) ((rd_T39 l1 x64_2).f4) ((rd_T39 l1 x64_2).f5) ((rd_T39 l1 x64_2).f6) ((rd_T39 l1 x64_2).f7) ((rd_T39 l1 x64_2).f8)) = some (r1, r2) := by first | (rw [hy144]; with_reducible exact H) | (have H2_ := (Option.bind_some _ _).symm.trans H; rw [hy144]; with_reducible exact H2_) | (have H2_ := (Option.bind_some _ _).symm.trans H; with_reducible exact H2_) | with_reducible exact H | (rw [hy144]; exact H) | exact H
                                        have Ny144 := Aside0.mk hy144
                                        clear hy144
                                        have H' := Aside0.mk H
                                        clear H
                                        have p142 : 0 ≤ (x83_4 : Int) := of_decide_eq_true (by first | (with_reducible assumption) | assumption)
                                        have q142 : x83_4 < (t138.length : Int) := of_decide_eq_true (by first | (with_reducible assumption) | assumption)
                                        obtain ⟨ad142, e142, hx142_0⟩ := Kd.at_int (Kd.R_reads' HO_81.out).2.2 x83_4 p142 q142
                                        cases e142
                                        replace p142 := eq_true p142
                                        replace q142 := eq_true q142
                                        have p143 : 0 ≤ ((rd t138 x83_4) : Int) := of_decide_eq_true (by first | (with_reducible assumption) | assumption)
                                        have q143 : (rd t138 x83_4) < (x8_4.length : Int) := of_decide_eq_true (by first | (with_reducible assumption) | assumption)
                                        obtain ⟨ad143, e143, hx143_0⟩ := Kd.at_int (Kd.R_reads' HO_8.out).2.2 (rd t138 x83_4) p143 q143
                                        cases e143
                                        replace p143 := eq_true p143
                                        replace q143 := eq_true q143
                                        have p55 : 0 ≤ ((rd t138 x83_4) : Int) := of_decide_eq_true (by first | (with_reducible assumption) | assumption)
                                        have q55 : ((rd t138 x83_4) : Int) < ((x8_4.length : Int) : Int) := of_decide_eq_true (by first | (with_reducible assumption) | assumption)
                                        obtain ⟨go55, co55, eo55, gb55, gl55, cl55, HG55⟩ := Kd.R_form HO_8.out (by omega)
                                        (first | cases eo55 | (injection eo55 with ea_ en_ ec_; (first | subst ea_ | (injection ea_ with ea_; subst ea_)); subst ec_; clear en_))
                                        have GB55 := Aside0.mk gb55
                                        have GG55 := Aside0.mk HG55
                                        clear gb55 gl55 HG55
                                        (first | simp only [add_plain] at hx143_0 | skip)
                                        obtain ⟨hx55_0, hf55_0⟩ := Kd.R_celln 0 HO_8.out ((rd t138 x83_4) : Int) p55 q55
                                        replace p55 := eq_true p55
                                        replace q55 := eq_true q55
                                        have HP56 := Kd.R_putg HO_8.out ((rd t138 x83_4) : Int) (wrap64 ((rd x8_4 (rd t138 x83_4)) - x16_38))
                                        go_wp2_with (first | ((with_reducible refine gate_store (t := 3) (p := 93) rfl ?_); refine store_event (t := 3) (p := 93) (v := ?vo_w57) (w1 := (wr.setCell ⟨go55, ((rd t138 x83_4) : Int).toNat, none⟩ (.int .i64 (wrap64 ((rd x8_4 (rd t138 x83_4)) - x16_38))))) ?hg ?ho ?hn ?hr ?_; (case ho => rfl); (case hg => rfl); (case hn => rfl); (case hr => first | (go_simp; done) | (go_simp; rfl)); intro w57 hw; have hg : wr.grownBy w57 (some go55) := (by rw [hw]; exact HP56.2); have hp_ : Kd.R (Kd.int .i64) 3 w57 w.heap.size (fun k_ => some k_ ≠ (.slice (some ad142) t138.length co47 : Value).ownBlock) (.slice (some ⟨go55, 0, none⟩) x8_4.length co46) y144 := (by rw [hw, Ny144.out]; exact HP56.1); clear HP56; have n0_ := Aside0.mk (hp_); have n1_ := Aside0.mk (Kd.R_over' (v := (.slice (some ⟨go55, 0, none⟩) x8_4.length co46)) (by (with_reducible repeat (first | apply Kd.R_alloc | apply Kd.R_drewN | apply Kd.R_drew)); exact HO_12.out) (Kd.R_typed HO_8.out) (by decide) hg); have n2_ := Aside0.mk (Kd.R_after (v := (.slice (some ⟨go55, 0, none⟩) x8_4.length co46)) (v1 := (.slice (some ⟨go55, 0, none⟩) x8_4.length co46)) (ok := (fun _ => True)) (by (with_reducible repeat (first | apply Kd.R_alloc | apply Kd.R_drewN | apply Kd.R_drew)); exact Kd.R_mono HO_81.out (fun _ hk => ⟨trivial, hk⟩)) hg (.inl rfl)); have n3_ := Aside0.mk (blk_grown (g := gb123) (o := .cells #[a0_0.v, a0_1.v, a0_2.v, .slice A0_3 l0_3.length c0_3, a0_4.v, a0_5.v, a0_6.v, a0_7.v, a0_8.v, a0_9.v, a0_10.v] 31 (0, 0)) (by (with_reducible repeat (first | refine blk_drewN ?_ _ | refine blk_drew ?_ | refine blk_alloc ?_ _)); exact BK123.out) hg (Kd.R_ne HO_8.out BK123.out (by decide))); have n4_ := Aside0.mk (blk_grown (g := gb137) (o := .cells #[.int .i64 ((rd_T39 l1 x64_2).f0), .int .i64 ((rd_T39 l1 x64_2).f1), .int .i64 ((rd_T39 l1 x64_2).f2), .int .i64 ((rd_T39 l1 x64_2).f3), .int .i64 ((rd_T39 l1 x64_2).f4), .int .i64 ((rd_T39 l1 x64_2).f5), .int .i64 ((rd_T39 l1 x64_2).f6), .int .i64 ((rd_T39 l1 x64_2).f7), .int .i64 ((rd_T39 l1 x64_2).f8)] 39 (0, 0)) (by (with_reducible repeat (first | refine blk_drewN ?_ _ | refine blk_drew ?_ | refine blk_alloc ?_ _)); exact BK137.out) hg (Kd.R_ne HO_8.out BK137.out (by decide))); have n5_ := Aside0.mk ((by rw [hw]; exact below_set (HB.out) GB55.out : Below w.heap.size w w57)); clear HO_8; clear HO_12; clear HO_81; clear BK123; clear BK137; clear HB; have HO_8 := n0_; have HO_12 := n1_; have HO_81 := n2_; have BK123 := n3_; have BK137 := n4_; have HB := n5_; clear n0_ n1_ n2_ n3_ n4_ n5_; clear hg hw hp_))
                                        (try simp only [← hl8_4])
                                        go_roundg k4
                                        case measure => have := HK1.out; have := HK2.out; have := HJ38.out; have := HK4.out; omega
                                        case rel => exact ⟨(y144), (wrap64 (x83_4 + 1)), (by first | rfl | (simp; done) | (simp [*]; done)), H', ⟨by have := HK1.out; have := HK2.out; have := HJ38.out; have := HK4.out; omega⟩, ⟨by (try simp only [hl8_4]); (with_reducible repeat (first | apply Kd.R_alloc | apply Kd.R_drewN | apply Kd.R_drew)); exact HO_8.out⟩, ⟨by (try simp only [hl8_4]); (with_reducible repeat (first | apply Kd.R_alloc | apply Kd.R_drewN | apply Kd.R_drew)); exact HO_12.out⟩, ⟨by (try simp only [hl8_4]); (with_reducible repeat (first | apply Kd.R_alloc | apply Kd.R_drewN | apply Kd.R_drew)); exact Kd.R_mono HO_81.out (fun _ hk => hk.2)⟩, ⟨by (try simp only [hl8_4]); (with_reducible repeat (first | refine blk_drewN ?_ _ | refine blk_drew ?_ | refine blk_alloc ?_ _)); exact BK123.out⟩, ⟨by (try simp only [hl8_4]); (with_reducible repeat (first | refine blk_drewN ?_ _ | refine blk_drew ?_ | refine blk_alloc ?_ _)); exact BK137.out⟩, ⟨by repeat (first | (with_reducible first | exact HB.out | apply below_alloc | apply pw_below_drewN | apply below_drew1 | refine below_set ?_ GE123.out | refine below_set ?_ GE137.out) | exact HB.out)⟩⟩
                                      · rw [if_neg c54] at H
                                        exact absurd H (by simp)
                                    · rw [if_neg c53] at H
                                      exact absurd H (by simp)
                                  · rw [if_neg c52] at H
                                    exact absurd H (by simp)
                                · rw [if_neg c51] at H
                                  exact absurd H (by simp)
                              · rw [if_neg c50] at H
                                have c50b0 : decide (x83_4 < (t138.length : Int)) = false := decide_eq_false c50
                                clear c50
                                by_cases c58 : x12_2.length < 8796093022208
                                · rw [if_pos c58] at H
                                  have LMc58 := Aside0.mk c58
                                  clear c58
                                  obtain ⟨y145, hy145⟩ : ∃ y_ : List (S53), y_ = (x12_2 ++ [(⟨((rd_T39 l1 x64_2).f0), x16_38⟩ : S53)]) := ⟨_, rfl⟩
                                  replace H : (allot_Day.l2 k4 x8_4 y145 l1 (l1.length : Int) (wrap64 (x64_2 + 1)) a0_0 a0_1 a0_2 l0_3 a0_4 a0_5 a0_6 a0_7 a0_8 a0_9 a0_10) = some (r1, r2) := by first | (rw [hy145]; with_reducible exact H) | (have H2_ := (Option.bind_some _ _).symm.trans H; rw [hy145]; with_reducible exact H2_) | (have H2_ := (Option.bind_some _ _).symm.trans H; with_reducible exact H2_) | with_reducible exact H | (rw [hy145]; exact H) | exact H
                                  have Ny145 := Aside0.mk hy145
                                  clear hy145
                                  have H' := Aside0.mk H
                                  clear H
                                  have hnb59 := NB137_123.out
                                  have hnc59 := NB123_137.out
                                  have hcz60_0 : wr.cell? ⟨gb137, 0, none⟩ = some (.int .i64 ((rd_T39 l1 x64_2).f0)) := (blk_cell BK137.out 0).trans rfl
                                  have hcz60_1 : wr.cell? ⟨gb137, 1, none⟩ = some (.int .i64 ((rd_T39 l1 x64_2).f1)) := (blk_cell BK137.out 1).trans rfl
                                  have hcz60_2 : wr.cell? ⟨gb137, 2, none⟩ = some (.int .i64 ((rd_T39 l1 x64_2).f2)) := (blk_cell BK137.out 2).trans rfl
                                  have hcz60_3 : wr.cell? ⟨gb137, 3, none⟩ = some (.int .i64 ((rd_T39 l1 x64_2).f3)) := (blk_cell BK137.out 3).trans rfl
                                  have hcz60_4 : wr.cell? ⟨gb137, 4, none⟩ = some (.int .i64 ((rd_T39 l1 x64_2).f4)) := (blk_cell BK137.out 4).trans rfl
                                  have hcz60_5 : wr.cell? ⟨gb137, 5, none⟩ = some (.int .i64 ((rd_T39 l1 x64_2).f5)) := (blk_cell BK137.out 5).trans rfl
                                  have hcz60_6 : wr.cell? ⟨gb137, 6, none⟩ = some (.int .i64 ((rd_T39 l1 x64_2).f6)) := (blk_cell BK137.out 6).trans rfl
                                  have hcz60_7 : wr.cell? ⟨gb137, 7, none⟩ = some (.int .i64 ((rd_T39 l1 x64_2).f7)) := (blk_cell BK137.out 7).trans rfl
                                  have hcz60_8 : wr.cell? ⟨gb137, 8, none⟩ = some (.int .i64 ((rd_T39 l1 x64_2).f8)) := (blk_cell BK137.out 8).trans rfl
                                  have hfz60_0 := blk_frozen BK137.out 0
                                  have hfz60_1 := blk_frozen BK137.out 1
                                  have hfz60_2 := blk_frozen BK137.out 2
                                  have hfz60_3 := blk_frozen BK137.out 3
                                  have hfz60_4 := blk_frozen BK137.out 4
                                  have hfz60_5 := blk_frozen BK137.out 5
                                  have hfz60_6 := blk_frozen BK137.out 6
                                  have hfz60_7 := blk_frozen BK137.out 7
                                  have hfz60_8 := blk_frozen BK137.out 8
                                  go_wp2_with (first | ((with_reducible refine gate_builtin (b := .append) (xs := #[.tmp 95, .tmp 100]) rfl ?_); at_builtin; refine Kd.R_append k53 (w0 := w) w.heap.size rfl (.tmp 95) (.tmp 100) 33 53 (.agg #[(.int .i64 0), (.int .i64 0)]) 16 rfl Try.underlying33 info53 rfl (by decide) (by omega) u12 x12_2 (⟨((rd_T39 l1 x64_2).f0), x16_38⟩ : S53) [.int .i64 ((rd_T39 l1 x64_2).f0), .int .i64 x16_38] (fun _ => True) (fun _ => False) rfl rfl ?aP (fun _ hk => hk.elim) ?aF ?aO ?aB ?aS ?aL ?_; (case aP => exact k53_mkM _ _ _ (⟨((rd_T39 l1 x64_2).f0), x16_38⟩ : S53)); (case aB => exact (by repeat (first | (with_reducible first | exact HB.out | apply below_alloc | apply pw_below_drewN | apply below_drew1 | refine below_set ?_ GE123.out | refine below_set ?_ GE137.out) | exact HB.out))); (case aF => exact (fun _ _ => trivial)); (case aO => exact (by (with_reducible repeat (first | apply Kd.R_alloc | apply Kd.R_drewN | apply Kd.R_drew)); exact HO_12.out)); (case aS => exact (below_size (by repeat (first | (with_reducible first | exact HB.out | apply below_alloc | apply pw_below_drewN | apply below_drew1 | refine below_set ?_ GE123.out | refine below_set ?_ GE137.out) | exact HB.out)))); (case aL => have := LMc58.out; omega); intro v146 w61 ho hb hg hat; rw [← Ny145.out] at ho; have n0_ := Aside0.mk (Kd.R_over' (by (with_reducible repeat (first | apply Kd.R_alloc | apply Kd.R_drewN | apply Kd.R_drew)); exact HO_8.out) (Kd.R_typed (by (with_reducible repeat (first | apply Kd.R_alloc | apply Kd.R_drewN | apply Kd.R_drew)); exact HO_12.out)) (by decide) hg); have n1_ := Aside0.mk (Kd.R_over' (by (with_reducible repeat (first | apply Kd.R_alloc | apply Kd.R_drewN | apply Kd.R_drew)); exact HO_81.out) (Kd.R_typed (by (with_reducible repeat (first | apply Kd.R_alloc | apply Kd.R_drewN | apply Kd.R_drew)); exact HO_12.out)) (by decide) hg); have n2_ := Aside0.mk (blk_grown (g := gb123) (o := .cells #[a0_0.v, a0_1.v, a0_2.v, .slice A0_3 l0_3.length c0_3, a0_4.v, a0_5.v, a0_6.v, a0_7.v, a0_8.v, a0_9.v, a0_10.v] 31 (0, 0)) (by (with_reducible repeat (first | refine blk_drewN ?_ _ | refine blk_drew ?_ | refine blk_alloc ?_ _)); exact BK123.out) hg (Kd.R_ne HO_12.out BK123.out (by decide))); have n3_ := Aside0.mk (blk_grown (g := gb137) (o := .cells #[.int .i64 ((rd_T39 l1 x64_2).f0), .int .i64 ((rd_T39 l1 x64_2).f1), .int .i64 ((rd_T39 l1 x64_2).f2), .int .i64 ((rd_T39 l1 x64_2).f3), .int .i64 ((rd_T39 l1 x64_2).f4), .int .i64 ((rd_T39 l1 x64_2).f5), .int .i64 ((rd_T39 l1 x64_2).f6), .int .i64 ((rd_T39 l1 x64_2).f7), .int .i64 ((rd_T39 l1 x64_2).f8)] 39 (0, 0)) (by (with_reducible repeat (first | refine blk_drewN ?_ _ | refine blk_drew ?_ | refine blk_alloc ?_ _)); exact BK137.out) hg (Kd.R_ne HO_12.out BK137.out (by decide))); have n4_ := Aside0.mk (hb); have n5_ := Aside0.mk (ho); clear HO_8; clear HO_81; clear BK123; clear BK137; clear HB; clear HO_12; have HO_8 := n0_; have HO_81 := n1_; have BK123 := n2_; have BK137 := n3_; have HB := n4_; have HO147 := n5_; clear n0_ n1_ n2_ n3_ n4_ n5_; clear ho hb hg hat))
                                  (try simp only [← hl8_4])
                                  go_roundg k4
                                  case measure => have := HK1.out; have := HK2.out; have := HJ38.out; have := HK4.out; omega
                                  case rel => exact ⟨(x8_4), (y145), (wrap64 (x64_2 + 1)), (by first | rfl | (simp; done) | (simp [*]; done)), H', ⟨by have := HK1.out; have := HK2.out; have := HJ38.out; have := HK4.out; omega⟩, ⟨by (try simp only [hl8_4]); (with_reducible repeat (first | apply Kd.R_alloc | apply Kd.R_drewN | apply Kd.R_drew)); exact Kd.R_mono HO_8.out (fun _ hk => trivial)⟩, ⟨by (try simp only [hl8_4]); (with_reducible repeat (first | apply Kd.R_alloc | apply Kd.R_drewN | apply Kd.R_drew)); exact HO147.out⟩, ⟨by (try simp only [hl8_4]); (with_reducible repeat (first | refine blk_drewN ?_ _ | refine blk_drew ?_ | refine blk_alloc ?_ _)); exact BK123.out⟩, ⟨by repeat (first | (with_reducible first | exact HB.out | apply below_alloc | apply pw_below_drewN | apply below_drew1 | refine below_set ?_ GE123.out | refine below_set ?_ GE137.out) | exact HB.out)⟩⟩
                                · rw [if_neg c58] at H
                                  exact absurd H (by simp)
                    · rw [if_neg c35] at H
                      exact absurd H (by simp)
                  · rw [if_neg c34] at H
                    exact absurd H (by simp)
                · rw [if_neg c33] at H
                  have c33b0 : decide (x64_2 < (l1.length : Int)) = false := decide_eq_false c33
                  clear c33
                  simp only [Option.some.injEq, Prod.mk.injEq] at H
                  obtain ⟨rfl, rfl⟩ := H
                  go_wp2
                  go_ret2
                  exact ⟨_, _, by first | rfl | (simp [errW_none, errW_some] <;> rfl) | (simp [*, errW_none, errW_some] <;> rfl), by (with_reducible repeat (first | apply Kd.R_alloc | apply Kd.R_drewN | apply Kd.R_drew)); exact HO_12.out, by (with_reducible repeat (first | apply Kd.R_alloc | apply Kd.R_drewN | apply Kd.R_drew)); exact HO_8.out, by repeat (first | (with_reducible first | exact HB.out | apply below_alloc | apply pw_below_drewN | apply below_drew1 | refine below_set ?_ GE123.out) | exact HB.out)⟩
    · rw [if_neg c5] at H
      exact absurd H (by simp)
  · rw [if_neg c4] at H
    exact absurd H (by simp)

end Go.Proofs.Ytddhaagfieldfaa.PCallTells
