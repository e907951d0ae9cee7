-- Printed by this session's turned copy of the print (wip/turnprint.py).
import Derived.Test.YtddhaagfieldfaaPCallTellsx0
import Derived.Test.YtddhaagfieldfaaPCallTellsx1
namespace Go.Proofs.Ytddhaagfieldfaa.PCallTells
open Go.RowKit Go.Proofs.YtddhaagfieldfaaW.PrintWords Go.Proofs.YtddhaagfieldfaaW.PrintLast Go.Proofs.YtddhaagfieldfaaW.PrintMore
attribute [local go_sem] max2_int min2_int max_two min_two max_three min_three max_four min_four   -- for this text's walks alone
set_option linter.unusedVariables false
set_option linter.unusedSimpArgs false

attribute [local go_sem high] eqA60
-- NOT PRINTED: function 30 (call_of)

/-! ### call_day_short: function 31 -/
def call_day_short.f (a0_0 : V1) (a0_1 : V1) (a0_2 : V1) (l0_3 : List (S79)) (a0_4 : V1) (a0_5 : V1) (a0_6 : V1) (a0_7 : V1) (a0_8 : V1) (a0_9 : V1) (a0_10 : V1) (l0_11 : List (S39)) (l0_12 : List (List Int)) (l0_13 : List Int) (l0_14 : List Int) (a1 : Int) (a2 : Int) : Option (Bool) := if a1 < a2 then (if 0 ≤ a1 then (if a1 < (l0_12.length : Int) then (if ((rd_L9 l0_12 a1).length : Int) > 0 then (if a1 < (l0_13.length : Int) then (if a1 < (l0_11.length : Int) then (some (decide ((rd l0_13 a1) < ((rd_T39 l0_11 a1).f4)))) else (none)) else (none)) else (some false)) else (none)) else (none)) else (some false)
set_option maxHeartbeats 8000000 in
set_option maxRecDepth 100000 in
theorem call_day_short.calls (a0_0 : V1) (a0_1 : V1) (a0_2 : V1) (A0_3 : Option Addr) (c0_3 : Nat) (l0_3 : List (S79)) (a0_4 : V1) (a0_5 : V1) (a0_6 : V1) (a0_7 : V1) (a0_8 : V1) (a0_9 : V1) (a0_10 : V1) (A0_11 : Option Addr) (c0_11 : Nat) (l0_11 : List (S39)) (A0_12 : Option Addr) (c0_12 : Nat) (l0_12 : List (List Int)) (A0_13 : Option Addr) (c0_13 : Nat) (l0_13 : List Int) (A0_14 : Option Addr) (c0_14 : Nat) (l0_14 : List Int) (a1 : Int) (a2 : Int) (r : Bool) (w : World) (hr0_3 : Kd.C k79 w A0_3 l0_3.length l0_3) (hc0_3 : l0_3.length ≤ c0_3) (hr0_11 : Kd.C k39 w A0_11 l0_11.length l0_11) (hc0_11 : l0_11.length ≤ c0_11) (hr0_12 : Kd.C (Kd.slice 3 (Kd.int .i64)) w A0_12 l0_12.length l0_12) (hc0_12 : l0_12.length ≤ c0_12) (hr0_13 : Kd.C (Kd.int .i64) w A0_13 l0_13.length l0_13) (hc0_13 : l0_13.length ≤ c0_13) (hr0_14 : Kd.C (Kd.int .i64) w A0_14 l0_14.length l0_14) (hc0_14 : l0_14.length ≤ c0_14) (h : call_day_short.f a0_0 a0_1 a0_2 l0_3 a0_4 a0_5 a0_6 a0_7 a0_8 a0_9 a0_10 l0_11 l0_12 l0_13 l0_14 a1 a2 = some r) :
    Calls Try.prog 31 #[.agg #[a0_0.v, a0_1.v, a0_2.v, .slice A0_3 l0_3.length c0_3, a0_4.v, a0_5.v, a0_6.v, a0_7.v, a0_8.v, a0_9.v, a0_10.v, .slice A0_11 l0_11.length c0_11, .slice A0_12 l0_12.length c0_12, .slice A0_13 l0_13.length c0_13, .slice A0_14 l0_14.length c0_14], .int .i64 a1, .int .i64 a2] w fun e w' => e = .returned (.bool r) ∧ Below w.heap.size w w' := by
  have hu63 := Try.underlying63
  have HR0_3 := Aside0.mk hr0_3
  have HC0_3 := Aside0.mk hc0_3
  clear hr0_3 hc0_3
  have HR0_11 := Aside0.mk hr0_11
  have HC0_11 := Aside0.mk hc0_11
  clear hr0_11 hc0_11
  have HR0_12 := Aside0.mk hr0_12
  have HC0_12 := Aside0.mk hc0_12
  clear hr0_12 hc0_12
  have HR0_13 := Aside0.mk hr0_13
  have HC0_13 := Aside0.mk hc0_13
  clear hr0_13 hc0_13
  have HR0_14 := Aside0.mk hr0_14
  have HC0_14 := Aside0.mk hc0_14
  clear hr0_14 hc0_14
  have HB := Aside0.mk (Below.refl w.heap.size w)
  have H : (if a1 < a2 then (if 0 ≤ a1 then (if a1 < (l0_12.length : Int) then (if ((rd_L9 l0_12 a1).length : Int) > 0 then (if a1 < (l0_13.length : Int) then (if a1 < (l0_11.length : Int) then (some (decide ((rd l0_13 a1) < ((rd_T39 l0_11 a1).f4)))) else (none)) else (none)) else (some false)) else (none)) else (none)) else (some false)) = some r := h
  clear h
  by_cases c4 : a1 < a2
  · rw [if_pos c4] at H
    have c4b0 : decide (a1 < a2) = true := decide_eq_true c4
    clear c4
    by_cases c5 : 0 ≤ a1
    · rw [if_pos c5] at H
      have c5b0 : decide (0 ≤ a1) = true := decide_eq_true c5
      clear c5
      by_cases c6 : a1 < (l0_12.length : Int)
      · rw [if_pos c6] at H
        have c6b0 : decide (a1 < (l0_12.length : Int)) = true := decide_eq_true c6
        clear c6
        by_cases c7 : ((rd_L9 l0_12 a1).length : Int) > 0
        · rw [if_pos c7] at H
          have c7b0 : decide (0 < ((rd_L9 l0_12 a1).length : Int)) = true := decide_eq_true c7
          have c7b1 : decide (0 < (rd_L9 l0_12 a1).length) = true := decide_eq_true (by omega)
          clear c7
          by_cases c8 : a1 < (l0_13.length : Int)
          · rw [if_pos c8] at H
            have c8b0 : decide (a1 < (l0_13.length : Int)) = true := decide_eq_true c8
            clear c8
            by_cases c9 : a1 < (l0_11.length : Int)
            · rw [if_pos c9] at H
              have c9b0 : decide (a1 < (l0_11.length : Int)) = true := decide_eq_true c9
              clear c9
              obtain rfl := Option.some.inj H
              go_enter Try.func31, Try.ntmps31
              go_wp2_with (first | ((with_reducible refine gate_dst (N := 3) rfl ?_); (try (refine gate_guard (by rfl) ?_; dsimp only)); refine box_event ?hg (N := 3) ?hd (cs := #[a0_0.v, a0_1.v, a0_2.v, .slice A0_3 l0_3.length c0_3, a0_4.v, a0_5.v, a0_6.v, a0_7.v, a0_8.v, a0_9.v, a0_10.v, .slice A0_11 l0_11.length c0_11, .slice A0_12 l0_12.length c0_12, .slice A0_13 l0_13.length c0_13, .slice A0_14 l0_14.length c0_14]) (t := 63) ?hr ?_; (case hd => rfl); (case hg => rfl); (case hr => first | (go_simp; done) | (go_simp; rfl)); intro gb175 hg w10 hbox hb; have n0_ := Aside0.mk (below_step (by repeat (first | (with_reducible first | exact HB.out | apply below_alloc | apply pw_below_drewN | apply below_drew1) | exact HB.out)) hb); have n1_ := Aside0.mk (hbox); have n2_ := Aside0.mk ((by rw [hg]; exact (below_size (by repeat (first | (with_reducible first | exact HB.out | apply below_alloc | apply pw_below_drewN | apply below_drew1) | exact HB.out))) : w.heap.size ≤ gb175)); have n3_ := Aside0.mk ((by rw [hg]; exact (below_size (by repeat (first | (with_reducible first | exact HB.out | apply below_alloc | apply pw_below_drewN | apply below_drew1) | exact HB.out))) : w.heap.size ≤ gb175)); clear HB; have HB := n0_; have BK175 := n1_; have GW175 := n2_; have GE175 := n3_; clear n0_ n1_ n2_ n3_; clear hb hbox hg; have hcz11_0 : w10.cell? ⟨gb175, 0, none⟩ = some (a0_0.v) := (blk_cell BK175.out 0).trans rfl; have hcz11_1 : w10.cell? ⟨gb175, 1, none⟩ = some (a0_1.v) := (blk_cell BK175.out 1).trans rfl; have hcz11_2 : w10.cell? ⟨gb175, 2, none⟩ = some (a0_2.v) := (blk_cell BK175.out 2).trans rfl; have hcz11_3 : w10.cell? ⟨gb175, 3, none⟩ = some (.slice A0_3 l0_3.length c0_3) := (blk_cell BK175.out 3).trans rfl; have hcz11_4 : w10.cell? ⟨gb175, 4, none⟩ = some (a0_4.v) := (blk_cell BK175.out 4).trans rfl; have hcz11_5 : w10.cell? ⟨gb175, 5, none⟩ = some (a0_5.v) := (blk_cell BK175.out 5).trans rfl; have hcz11_6 : w10.cell? ⟨gb175, 6, none⟩ = some (a0_6.v) := (blk_cell BK175.out 6).trans rfl; have hcz11_7 : w10.cell? ⟨gb175, 7, none⟩ = some (a0_7.v) := (blk_cell BK175.out 7).trans rfl; have hcz11_8 : w10.cell? ⟨gb175, 8, none⟩ = some (a0_8.v) := (blk_cell BK175.out 8).trans rfl; have hcz11_9 : w10.cell? ⟨gb175, 9, none⟩ = some (a0_9.v) := (blk_cell BK175.out 9).trans rfl; have hcz11_10 : w10.cell? ⟨gb175, 10, none⟩ = some (a0_10.v) := (blk_cell BK175.out 10).trans rfl; have hcz11_11 : w10.cell? ⟨gb175, 11, none⟩ = some (.slice A0_11 l0_11.length c0_11) := (blk_cell BK175.out 11).trans rfl; have hcz11_12 : w10.cell? ⟨gb175, 12, none⟩ = some (.slice A0_12 l0_12.length c0_12) := (blk_cell BK175.out 12).trans rfl; have hcz11_13 : w10.cell? ⟨gb175, 13, none⟩ = some (.slice A0_13 l0_13.length c0_13) := (blk_cell BK175.out 13).trans rfl; have hcz11_14 : w10.cell? ⟨gb175, 14, none⟩ = some (.slice A0_14 l0_14.length c0_14) := (blk_cell BK175.out 14).trans rfl; have hfz11_0 := blk_frozen BK175.out 0; have hfz11_1 := blk_frozen BK175.out 1; have hfz11_2 := blk_frozen BK175.out 2; have hfz11_3 := blk_frozen BK175.out 3; have hfz11_4 := blk_frozen BK175.out 4; have hfz11_5 := blk_frozen BK175.out 5; have hfz11_6 := blk_frozen BK175.out 6; have hfz11_7 := blk_frozen BK175.out 7; have hfz11_8 := blk_frozen BK175.out 8; have hfz11_9 := blk_frozen BK175.out 9; have hfz11_10 := blk_frozen BK175.out 10; have hfz11_11 := blk_frozen BK175.out 11; have hfz11_12 := blk_frozen BK175.out 12; have hfz11_13 := blk_frozen BK175.out 13; have hfz11_14 := blk_frozen BK175.out 14; have p176 : 0 ≤ (a1 : Int) := of_decide_eq_true (by first | (with_reducible assumption) | assumption); have q176 : a1 < (l0_12.length : Int) := of_decide_eq_true (by first | (with_reducible assumption) | assumption); obtain ⟨ad176, A176_0, c176_0, e176, hx176_0, hl176_0, hi176_0⟩ := at_L9 HR0_12.out a1 p176 q176; cases e176; replace hx176_0 := (HB.out.cell (World.block_lt_of_cell? w _ hx176_0)).trans hx176_0; have HR176_0 := Aside0.mk hi176_0; have HC176_0 := Aside0.mk hl176_0; clear hi176_0 hl176_0; replace p176 := eq_true p176; replace q176 := eq_true q176; have p177 : 0 ≤ (a1 : Int) := of_decide_eq_true (by first | (with_reducible assumption) | assumption); have q177 : a1 < (l0_13.length : Int) := of_decide_eq_true (by first | (with_reducible assumption) | assumption); obtain ⟨ad177, e177, hx177_0⟩ := Kd.at_int HR0_13.out a1 p177 q177; cases e177; replace hx177_0 := (HB.out.cell (World.block_lt_of_cell? w _ hx177_0)).trans hx177_0; replace p177 := eq_true p177; replace q177 := eq_true q177; have p178 : 0 ≤ (a1 : Int) := of_decide_eq_true (by first | (with_reducible assumption) | assumption); have q178 : a1 < (l0_11.length : Int) := of_decide_eq_true (by first | (with_reducible assumption) | assumption); obtain ⟨ad178, e178, hx178_0, hx178_1, hx178_2, hx178_3, hx178_4, hx178_5, hx178_6, hx178_7, hx178_8⟩ := at_T39 HR0_11.out a1 p178 q178; cases e178; replace hx178_0 := (HB.out.cell (World.block_lt_of_cell? w _ hx178_0)).trans hx178_0; replace hx178_1 := (HB.out.cell (World.block_lt_of_cell? w _ hx178_1)).trans hx178_1; replace hx178_2 := (HB.out.cell (World.block_lt_of_cell? w _ hx178_2)).trans hx178_2; replace hx178_3 := (HB.out.cell (World.block_lt_of_cell? w _ hx178_3)).trans hx178_3; replace hx178_4 := (HB.out.cell (World.block_lt_of_cell? w _ hx178_4)).trans hx178_4; replace hx178_5 := (HB.out.cell (World.block_lt_of_cell? w _ hx178_5)).trans hx178_5; replace hx178_6 := (HB.out.cell (World.block_lt_of_cell? w _ hx178_6)).trans hx178_6; replace hx178_7 := (HB.out.cell (World.block_lt_of_cell? w _ hx178_7)).trans hx178_7; replace hx178_8 := (HB.out.cell (World.block_lt_of_cell? w _ hx178_8)).trans hx178_8; replace p178 := eq_true p178; replace q178 := eq_true q178))
              repeat (go_quiet (first | ((with_reducible refine gate_dst (N := 3) rfl ?_); (try (refine gate_guard (by rfl) ?_; dsimp only)); refine box_event ?hg (N := 3) ?hd (cs := #[a0_0.v, a0_1.v, a0_2.v, .slice A0_3 l0_3.length c0_3, a0_4.v, a0_5.v, a0_6.v, a0_7.v, a0_8.v, a0_9.v, a0_10.v, .slice A0_11 l0_11.length c0_11, .slice A0_12 l0_12.length c0_12, .slice A0_13 l0_13.length c0_13, .slice A0_14 l0_14.length c0_14]) (t := 63) ?hr ?_; (case hd => rfl); (case hg => rfl); (case hr => first | (go_simp; done) | (go_simp; rfl)); intro gb175 hg w10 hbox hb; have n0_ := Aside0.mk (below_step (by repeat (first | (with_reducible first | exact HB.out | apply below_alloc | apply pw_below_drewN | apply below_drew1) | exact HB.out)) hb); have n1_ := Aside0.mk (hbox); have n2_ := Aside0.mk ((by rw [hg]; exact (below_size (by repeat (first | (with_reducible first | exact HB.out | apply below_alloc | apply pw_below_drewN | apply below_drew1) | exact HB.out))) : w.heap.size ≤ gb175)); have n3_ := Aside0.mk ((by rw [hg]; exact (below_size (by repeat (first | (with_reducible first | exact HB.out | apply below_alloc | apply pw_below_drewN | apply below_drew1) | exact HB.out))) : w.heap.size ≤ gb175)); clear HB; have HB := n0_; have BK175 := n1_; have GW175 := n2_; have GE175 := n3_; clear n0_ n1_ n2_ n3_; clear hb hbox hg; have hcz11_0 : w10.cell? ⟨gb175, 0, none⟩ = some (a0_0.v) := (blk_cell BK175.out 0).trans rfl; have hcz11_1 : w10.cell? ⟨gb175, 1, none⟩ = some (a0_1.v) := (blk_cell BK175.out 1).trans rfl; have hcz11_2 : w10.cell? ⟨gb175, 2, none⟩ = some (a0_2.v) := (blk_cell BK175.out 2).trans rfl; have hcz11_3 : w10.cell? ⟨gb175, 3, none⟩ = some (.slice A0_3 l0_3.length c0_3) := (blk_cell BK175.out 3).trans rfl; have hcz11_4 : w10.cell? ⟨gb175, 4, none⟩ = some (a0_4.v) := (blk_cell BK175.out 4).trans rfl; have hcz11_5 : w10.cell? ⟨gb175, 5, none⟩ = some (a0_5.v) := (blk_cell BK175.out 5).trans rfl; have hcz11_6 : w10.cell? ⟨gb175, 6, none⟩ = some (a0_6.v) := (blk_cell BK175.out 6).trans rfl; have hcz11_7 : w10.cell? ⟨gb175, 7, none⟩ = some (a0_7.v) := (blk_cell BK175.out 7).trans rfl; have hcz11_8 : w10.cell? ⟨gb175, 8, none⟩ = some (a0_8.v) := (blk_cell BK175.out 8).trans rfl; have hcz11_9 : w10.cell? ⟨gb175, 9, none⟩ = some (a0_9.v) := (blk_cell BK175.out 9).trans rfl; have hcz11_10 : w10.cell? ⟨gb175, 10, none⟩ = some (a0_10.v) := (blk_cell BK175.out 10).trans rfl; have hcz11_11 : w10.cell? ⟨gb175, 11, none⟩ = some (.slice A0_11 l0_11.length c0_11) := (blk_cell BK175.out 11).trans rfl; have hcz11_12 : w10.cell? ⟨gb175, 12, none⟩ = some (.slice A0_12 l0_12.length c0_12) := (blk_cell BK175.out 12).trans rfl; have hcz11_13 : w10.cell? ⟨gb175, 13, none⟩ = some (.slice A0_13 l0_13.length c0_13) := (blk_cell BK175.out 13).trans rfl; have hcz11_14 : w10.cell? ⟨gb175, 14, none⟩ = some (.slice A0_14 l0_14.length c0_14) := (blk_cell BK175.out 14).trans rfl; have hfz11_0 := blk_frozen BK175.out 0; have hfz11_1 := blk_frozen BK175.out 1; have hfz11_2 := blk_frozen BK175.out 2; have hfz11_3 := blk_frozen BK175.out 3; have hfz11_4 := blk_frozen BK175.out 4; have hfz11_5 := blk_frozen BK175.out 5; have hfz11_6 := blk_frozen BK175.out 6; have hfz11_7 := blk_frozen BK175.out 7; have hfz11_8 := blk_frozen BK175.out 8; have hfz11_9 := blk_frozen BK175.out 9; have hfz11_10 := blk_frozen BK175.out 10; have hfz11_11 := blk_frozen BK175.out 11; have hfz11_12 := blk_frozen BK175.out 12; have hfz11_13 := blk_frozen BK175.out 13; have hfz11_14 := blk_frozen BK175.out 14; have p176 : 0 ≤ (a1 : Int) := of_decide_eq_true (by first | (with_reducible assumption) | assumption); have q176 : a1 < (l0_12.length : Int) := of_decide_eq_true (by first | (with_reducible assumption) | assumption); obtain ⟨ad176, A176_0, c176_0, e176, hx176_0, hl176_0, hi176_0⟩ := at_L9 HR0_12.out a1 p176 q176; cases e176; replace hx176_0 := (HB.out.cell (World.block_lt_of_cell? w _ hx176_0)).trans hx176_0; have HR176_0 := Aside0.mk hi176_0; have HC176_0 := Aside0.mk hl176_0; clear hi176_0 hl176_0; replace p176 := eq_true p176; replace q176 := eq_true q176; have p177 : 0 ≤ (a1 : Int) := of_decide_eq_true (by first | (with_reducible assumption) | assumption); have q177 : a1 < (l0_13.length : Int) := of_decide_eq_true (by first | (with_reducible assumption) | assumption); obtain ⟨ad177, e177, hx177_0⟩ := Kd.at_int HR0_13.out a1 p177 q177; cases e177; replace hx177_0 := (HB.out.cell (World.block_lt_of_cell? w _ hx177_0)).trans hx177_0; replace p177 := eq_true p177; replace q177 := eq_true q177; have p178 : 0 ≤ (a1 : Int) := of_decide_eq_true (by first | (with_reducible assumption) | assumption); have q178 : a1 < (l0_11.length : Int) := of_decide_eq_true (by first | (with_reducible assumption) | assumption); obtain ⟨ad178, e178, hx178_0, hx178_1, hx178_2, hx178_3, hx178_4, hx178_5, hx178_6, hx178_7, hx178_8⟩ := at_T39 HR0_11.out a1 p178 q178; cases e178; replace hx178_0 := (HB.out.cell (World.block_lt_of_cell? w _ hx178_0)).trans hx178_0; replace hx178_1 := (HB.out.cell (World.block_lt_of_cell? w _ hx178_1)).trans hx178_1; replace hx178_2 := (HB.out.cell (World.block_lt_of_cell? w _ hx178_2)).trans hx178_2; replace hx178_3 := (HB.out.cell (World.block_lt_of_cell? w _ hx178_3)).trans hx178_3; replace hx178_4 := (HB.out.cell (World.block_lt_of_cell? w _ hx178_4)).trans hx178_4; replace hx178_5 := (HB.out.cell (World.block_lt_of_cell? w _ hx178_5)).trans hx178_5; replace hx178_6 := (HB.out.cell (World.block_lt_of_cell? w _ hx178_6)).trans hx178_6; replace hx178_7 := (HB.out.cell (World.block_lt_of_cell? w _ hx178_7)).trans hx178_7; replace hx178_8 := (HB.out.cell (World.block_lt_of_cell? w _ hx178_8)).trans hx178_8; replace p178 := eq_true p178; replace q178 := eq_true q178)); try go_wp2_with (first | ((with_reducible refine gate_dst (N := 3) rfl ?_); (try (refine gate_guard (by rfl) ?_; dsimp only)); refine box_event ?hg (N := 3) ?hd (cs := #[a0_0.v, a0_1.v, a0_2.v, .slice A0_3 l0_3.length c0_3, a0_4.v, a0_5.v, a0_6.v, a0_7.v, a0_8.v, a0_9.v, a0_10.v, .slice A0_11 l0_11.length c0_11, .slice A0_12 l0_12.length c0_12, .slice A0_13 l0_13.length c0_13, .slice A0_14 l0_14.length c0_14]) (t := 63) ?hr ?_; (case hd => rfl); (case hg => rfl); (case hr => first | (go_simp; done) | (go_simp; rfl)); intro gb175 hg w10 hbox hb; have n0_ := Aside0.mk (below_step (by repeat (first | (with_reducible first | exact HB.out | apply below_alloc | apply pw_below_drewN | apply below_drew1) | exact HB.out)) hb); have n1_ := Aside0.mk (hbox); have n2_ := Aside0.mk ((by rw [hg]; exact (below_size (by repeat (first | (with_reducible first | exact HB.out | apply below_alloc | apply pw_below_drewN | apply below_drew1) | exact HB.out))) : w.heap.size ≤ gb175)); have n3_ := Aside0.mk ((by rw [hg]; exact (below_size (by repeat (first | (with_reducible first | exact HB.out | apply below_alloc | apply pw_below_drewN | apply below_drew1) | exact HB.out))) : w.heap.size ≤ gb175)); clear HB; have HB := n0_; have BK175 := n1_; have GW175 := n2_; have GE175 := n3_; clear n0_ n1_ n2_ n3_; clear hb hbox hg; have hcz11_0 : w10.cell? ⟨gb175, 0, none⟩ = some (a0_0.v) := (blk_cell BK175.out 0).trans rfl; have hcz11_1 : w10.cell? ⟨gb175, 1, none⟩ = some (a0_1.v) := (blk_cell BK175.out 1).trans rfl; have hcz11_2 : w10.cell? ⟨gb175, 2, none⟩ = some (a0_2.v) := (blk_cell BK175.out 2).trans rfl; have hcz11_3 : w10.cell? ⟨gb175, 3, none⟩ = some (.slice A0_3 l0_3.length c0_3) := (blk_cell BK175.out 3).trans rfl; have hcz11_4 : w10.cell? ⟨gb175, 4, none⟩ = some (a0_4.v) := (blk_cell BK175.out 4).trans rfl; have hcz11_5 : w10.cell? ⟨gb175, 5, none⟩ = some (a0_5.v) := (blk_cell BK175.out 5).trans rfl; have hcz11_6 : w10.cell? ⟨gb175, 6, none⟩ = some (a0_6.v) := (blk_cell BK175.out 6).trans rfl; have hcz11_7 : w10.cell? ⟨gb175, 7, none⟩ = some (a0_7.v) := (blk_cell BK175.out 7).trans rfl; have hcz11_8 : w10.cell? ⟨gb175, 8, none⟩ = some (a0_8.v) := (blk_cell BK175.out 8).trans rfl; have hcz11_9 : w10.cell? ⟨gb175, 9, none⟩ = some (a0_9.v) := (blk_cell BK175.out 9).trans rfl; have hcz11_10 : w10.cell? ⟨gb175, 10, none⟩ = some (a0_10.v) := (blk_cell BK175.out 10).trans rfl; have hcz11_11 : w10.cell? ⟨gb175, 11, none⟩ = some (.slice A0_11 l0_11.length c0_11) := (blk_cell BK175.out 11).trans rfl; have hcz11_12 : w10.cell? ⟨gb175, 12, none⟩ = some (.slice A0_12 l0_12.length c0_12) := (blk_cell BK175.out 12).trans rfl; have hcz11_13 : w10.cell? ⟨gb175, 13, none⟩ = some (.slice A0_13 l0_13.length c0_13) := (blk_cell BK175.out 13).trans rfl; have hcz11_14 : w10.cell? ⟨gb175, 14, none⟩ = some (.slice A0_14 l0_14.length c0_14) := (blk_cell BK175.out 14).trans rfl; have hfz11_0 := blk_frozen BK175.out 0; have hfz11_1 := blk_frozen BK175.out 1; have hfz11_2 := blk_frozen BK175.out 2; have hfz11_3 := blk_frozen BK175.out 3; have hfz11_4 := blk_frozen BK175.out 4; have hfz11_5 := blk_frozen BK175.out 5; have hfz11_6 := blk_frozen BK175.out 6; have hfz11_7 := blk_frozen BK175.out 7; have hfz11_8 := blk_frozen BK175.out 8; have hfz11_9 := blk_frozen BK175.out 9; have hfz11_10 := blk_frozen BK175.out 10; have hfz11_11 := blk_frozen BK175.out 11; have hfz11_12 := blk_frozen BK175.out 12; have hfz11_13 := blk_frozen BK175.out 13; have hfz11_14 := blk_frozen BK175.out 14; have p176 : 0 ≤ (a1 : Int) := of_decide_eq_true (by first | (with_reducible assumption) | assumption); have q176 : a1 < (l0_12.length : Int) := of_decide_eq_true (by first | (with_reducible assumption) | assumption); obtain ⟨ad176, A176_0, c176_0, e176, hx176_0, hl176_0, hi176_0⟩ := at_L9 HR0_12.out a1 p176 q176; cases e176; replace hx176_0 := (HB.out.cell (World.block_lt_of_cell? w _ hx176_0)).trans hx176_0; have HR176_0 := Aside0.mk hi176_0; have HC176_0 := Aside0.mk hl176_0; clear hi176_0 hl176_0; replace p176 := eq_true p176; replace q176 := eq_true q176; have p177 : 0 ≤ (a1 : Int) := of_decide_eq_true (by first | (with_reducible assumption) | assumption); have q177 : a1 < (l0_13.length : Int) := of_decide_eq_true (by first | (with_reducible assumption) | assumption); obtain ⟨ad177, e177, hx177_0⟩ := Kd.at_int HR0_13.out a1 p177 q177; cases e177; replace hx177_0 := (HB.out.cell (World.block_lt_of_cell? w _ hx177_0)).trans hx177_0; replace p177 := eq_true p177; replace q177 := eq_true q177; have p178 : 0 ≤ (a1 : Int) := of_decide_eq_true (by first | (with_reducible assumption) | assumption); have q178 : a1 < (l0_11.length : Int) := of_decide_eq_true (by first | (with_reducible assumption) | assumption); obtain ⟨ad178, e178, hx178_0, hx178_1, hx178_2, hx178_3, hx178_4, hx178_5, hx178_6, hx178_7, hx178_8⟩ := at_T39 HR0_11.out a1 p178 q178; cases e178; replace hx178_0 := (HB.out.cell (World.block_lt_of_cell? w _ hx178_0)).trans hx178_0; replace hx178_1 := (HB.out.cell (World.block_lt_of_cell? w _ hx178_1)).trans hx178_1; replace hx178_2 := (HB.out.cell (World.block_lt_of_cell? w _ hx178_2)).trans hx178_2; replace hx178_3 := (HB.out.cell (World.block_lt_of_cell? w _ hx178_3)).trans hx178_3; replace hx178_4 := (HB.out.cell (World.block_lt_of_cell? w _ hx178_4)).trans hx178_4; replace hx178_5 := (HB.out.cell (World.block_lt_of_cell? w _ hx178_5)).trans hx178_5; replace hx178_6 := (HB.out.cell (World.block_lt_of_cell? w _ hx178_6)).trans hx178_6; replace hx178_7 := (HB.out.cell (World.block_lt_of_cell? w _ hx178_7)).trans hx178_7; replace hx178_8 := (HB.out.cell (World.block_lt_of_cell? w _ hx178_8)).trans hx178_8; replace p178 := eq_true p178; replace q178 := eq_true q178)))
              go_ret
              exact ⟨by first | rfl | (simp [errW_none, errW_some] <;> rfl) | (simp [*, errW_none, errW_some] <;> rfl), by repeat (first | (with_reducible first | exact HB.out | apply below_alloc | apply pw_below_drewN | apply below_drew1 | refine below_set ?_ GE175.out) | exact HB.out)⟩
            · rw [if_neg c9] at H
              exact absurd H (by simp)
          · rw [if_neg c8] at H
            exact absurd H (by simp)
        · rw [if_neg c7] at H
          have c7b0 : decide (0 < ((rd_L9 l0_12 a1).length : Int)) = false := decide_eq_false c7
          have c7b1 : decide (0 < (rd_L9 l0_12 a1).length) = false := decide_eq_false (by omega)
          clear c7
          obtain rfl := Option.some.inj H
          go_enter Try.func31, Try.ntmps31
          go_wp2_with (first | ((with_reducible refine gate_dst (N := 3) rfl ?_); (try (refine gate_guard (by rfl) ?_; dsimp only)); refine box_event ?hg (N := 3) ?hd (cs := #[a0_0.v, a0_1.v, a0_2.v, .slice A0_3 l0_3.length c0_3, a0_4.v, a0_5.v, a0_6.v, a0_7.v, a0_8.v, a0_9.v, a0_10.v, .slice A0_11 l0_11.length c0_11, .slice A0_12 l0_12.length c0_12, .slice A0_13 l0_13.length c0_13, .slice A0_14 l0_14.length c0_14]) (t := 63) ?hr ?_; (case hd => rfl); (case hg => rfl); (case hr => first | (go_simp; done) | (go_simp; rfl)); intro gb175 hg w12 hbox hb; have n0_ := Aside0.mk (below_step (by repeat (first | (with_reducible first | exact HB.out | apply below_alloc | apply pw_below_drewN | apply below_drew1) | exact HB.out)) hb); have n1_ := Aside0.mk (hbox); have n2_ := Aside0.mk ((by rw [hg]; exact (below_size (by repeat (first | (with_reducible first | exact HB.out | apply below_alloc | apply pw_below_drewN | apply below_drew1) | exact HB.out))) : w.heap.size ≤ gb175)); have n3_ := Aside0.mk ((by rw [hg]; exact (below_size (by repeat (first | (with_reducible first | exact HB.out | apply below_alloc | apply pw_below_drewN | apply below_drew1) | exact HB.out))) : w.heap.size ≤ gb175)); clear HB; have HB := n0_; have BK175 := n1_; have GW175 := n2_; have GE175 := n3_; clear n0_ n1_ n2_ n3_; clear hb hbox hg; have hcz13_0 : w12.cell? ⟨gb175, 0, none⟩ = some (a0_0.v) := (blk_cell BK175.out 0).trans rfl; have hcz13_1 : w12.cell? ⟨gb175, 1, none⟩ = some (a0_1.v) := (blk_cell BK175.out 1).trans rfl; have hcz13_2 : w12.cell? ⟨gb175, 2, none⟩ = some (a0_2.v) := (blk_cell BK175.out 2).trans rfl; have hcz13_3 : w12.cell? ⟨gb175, 3, none⟩ = some (.slice A0_3 l0_3.length c0_3) := (blk_cell BK175.out 3).trans rfl; have hcz13_4 : w12.cell? ⟨gb175, 4, none⟩ = some (a0_4.v) := (blk_cell BK175.out 4).trans rfl; have hcz13_5 : w12.cell? ⟨gb175, 5, none⟩ = some (a0_5.v) := (blk_cell BK175.out 5).trans rfl; have hcz13_6 : w12.cell? ⟨gb175, 6, none⟩ = some (a0_6.v) := (blk_cell BK175.out 6).trans rfl; have hcz13_7 : w12.cell? ⟨gb175, 7, none⟩ = some (a0_7.v) := (blk_cell BK175.out 7).trans rfl; have hcz13_8 : w12.cell? ⟨gb175, 8, none⟩ = some (a0_8.v) := (blk_cell BK175.out 8).trans rfl; have hcz13_9 : w12.cell? ⟨gb175, 9, none⟩ = some (a0_9.v) := (blk_cell BK175.out 9).trans rfl; have hcz13_10 : w12.cell? ⟨gb175, 10, none⟩ = some (a0_10.v) := (blk_cell BK175.out 10).trans rfl; have hcz13_11 : w12.cell? ⟨gb175, 11, none⟩ = some (.slice A0_11 l0_11.length c0_11) := (blk_cell BK175.out 11).trans rfl; have hcz13_12 : w12.cell? ⟨gb175, 12, none⟩ = some (.slice A0_12 l0_12.length c0_12) := (blk_cell BK175.out 12).trans rfl; have hcz13_13 : w12.cell? ⟨gb175, 13, none⟩ = some (.slice A0_13 l0_13.length c0_13) := (blk_cell BK175.out 13).trans rfl; have hcz13_14 : w12.cell? ⟨gb175, 14, none⟩ = some (.slice A0_14 l0_14.length c0_14) := (blk_cell BK175.out 14).trans rfl; have hfz13_0 := blk_frozen BK175.out 0; have hfz13_1 := blk_frozen BK175.out 1; have hfz13_2 := blk_frozen BK175.out 2; have hfz13_3 := blk_frozen BK175.out 3; have hfz13_4 := blk_frozen BK175.out 4; have hfz13_5 := blk_frozen BK175.out 5; have hfz13_6 := blk_frozen BK175.out 6; have hfz13_7 := blk_frozen BK175.out 7; have hfz13_8 := blk_frozen BK175.out 8; have hfz13_9 := blk_frozen BK175.out 9; have hfz13_10 := blk_frozen BK175.out 10; have hfz13_11 := blk_frozen BK175.out 11; have hfz13_12 := blk_frozen BK175.out 12; have hfz13_13 := blk_frozen BK175.out 13; have hfz13_14 := blk_frozen BK175.out 14; have p176 : 0 ≤ (a1 : Int) := of_decide_eq_true (by first | (with_reducible assumption) | assumption); have q176 : a1 < (l0_12.length : Int) := of_decide_eq_true (by first | (with_reducible assumption) | assumption); obtain ⟨ad176, A176_0, c176_0, e176, hx176_0, hl176_0, hi176_0⟩ := at_L9 HR0_12.out a1 p176 q176; cases e176; replace hx176_0 := (HB.out.cell (World.block_lt_of_cell? w _ hx176_0)).trans hx176_0; have HR176_0 := Aside0.mk hi176_0; have HC176_0 := Aside0.mk hl176_0; clear hi176_0 hl176_0; replace p176 := eq_true p176; replace q176 := eq_true q176))
          repeat (go_quiet (first | ((with_reducible refine gate_dst (N := 3) rfl ?_); (try (refine gate_guard (by rfl) ?_; dsimp only)); refine box_event ?hg (N := 3) ?hd (cs := #[a0_0.v, a0_1.v, a0_2.v, .slice A0_3 l0_3.length c0_3, a0_4.v, a0_5.v, a0_6.v, a0_7.v, a0_8.v, a0_9.v, a0_10.v, .slice A0_11 l0_11.length c0_11, .slice A0_12 l0_12.length c0_12, .slice A0_13 l0_13.length c0_13, .slice A0_14 l0_14.length c0_14]) (t := 63) ?hr ?_; (case hd => rfl); (case hg => rfl); (case hr => first | (go_simp; done) | (go_simp; rfl)); intro gb175 hg w12 hbox hb; have n0_ := Aside0.mk (below_step (by repeat (first | (with_reducible first | exact HB.out | apply below_alloc | apply pw_below_drewN | apply below_drew1) | exact HB.out)) hb); have n1_ := Aside0.mk (hbox); have n2_ := Aside0.mk ((by rw [hg]; exact (below_size (by repeat (first | (with_reducible first | exact HB.out | apply below_alloc | apply pw_below_drewN | apply below_drew1) | exact HB.out))) : w.heap.size ≤ gb175)); have n3_ := Aside0.mk ((by rw [hg]; exact (below_size (by repeat (first | (with_reducible first | exact HB.out | apply below_alloc | apply pw_below_drewN | apply below_drew1) | exact HB.out))) : w.heap.size ≤ gb175)); clear HB; have HB := n0_; have BK175 := n1_; have GW175 := n2_; have GE175 := n3_; clear n0_ n1_ n2_ n3_; clear hb hbox hg; have hcz13_0 : w12.cell? ⟨gb175, 0, none⟩ = some (a0_0.v) := (blk_cell BK175.out 0).trans rfl; have hcz13_1 : w12.cell? ⟨gb175, 1, none⟩ = some (a0_1.v) := (blk_cell BK175.out 1).trans rfl; have hcz13_2 : w12.cell? ⟨gb175, 2, none⟩ = some (a0_2.v) := (blk_cell BK175.out 2).trans rfl; have hcz13_3 : w12.cell? ⟨gb175, 3, none⟩ = some (.slice A0_3 l0_3.length c0_3) := (blk_cell BK175.out 3).trans rfl; have hcz13_4 : w12.cell? ⟨gb175, 4, none⟩ = some (a0_4.v) := (blk_cell BK175.out 4).trans rfl; have hcz13_5 : w12.cell? ⟨gb175, 5, none⟩ = some (a0_5.v) := (blk_cell BK175.out 5).trans rfl; have hcz13_6 : w12.cell? ⟨gb175, 6, none⟩ = some (a0_6.v) := (blk_cell BK175.out 6).trans rfl; have hcz13_7 : w12.cell? ⟨gb175, 7, none⟩ = some (a0_7.v) := (blk_cell BK175.out 7).trans rfl; have hcz13_8 : w12.cell? ⟨gb175, 8, none⟩ = some (a0_8.v) := (blk_cell BK175.out 8).trans rfl; have hcz13_9 : w12.cell? ⟨gb175, 9, none⟩ = some (a0_9.v) := (blk_cell BK175.out 9).trans rfl; have hcz13_10 : w12.cell? ⟨gb175, 10, none⟩ = some (a0_10.v) := (blk_cell BK175.out 10).trans rfl; have hcz13_11 : w12.cell? ⟨gb175, 11, none⟩ = some (.slice A0_11 l0_11.length c0_11) := (blk_cell BK175.out 11).trans rfl; have hcz13_12 : w12.cell? ⟨gb175, 12, none⟩ = some (.slice A0_12 l0_12.length c0_12) := (blk_cell BK175.out 12).trans rfl; have hcz13_13 : w12.cell? ⟨gb175, 13, none⟩ = some (.slice A0_13 l0_13.length c0_13) := (blk_cell BK175.out 13).trans rfl; have hcz13_14 : w12.cell? ⟨gb175, 14, none⟩ = some (.slice A0_14 l0_14.length c0_14) := (blk_cell BK175.out 14).trans rfl; have hfz13_0 := blk_frozen BK175.out 0; have hfz13_1 := blk_frozen BK175.out 1; have hfz13_2 := blk_frozen BK175.out 2; have hfz13_3 := blk_frozen BK175.out 3; have hfz13_4 := blk_frozen BK175.out 4; have hfz13_5 := blk_frozen BK175.out 5; have hfz13_6 := blk_frozen BK175.out 6; have hfz13_7 := blk_frozen BK175.out 7; have hfz13_8 := blk_frozen BK175.out 8; have hfz13_9 := blk_frozen BK175.out 9; have hfz13_10 := blk_frozen BK175.out 10; have hfz13_11 := blk_frozen BK175.out 11; have hfz13_12 := blk_frozen BK175.out 12; have hfz13_13 := blk_frozen BK175.out 13; have hfz13_14 := blk_frozen BK175.out 14; have p176 : 0 ≤ (a1 : Int) := of_decide_eq_true (by first | (with_reducible assumption) | assumption); have q176 : a1 < (l0_12.length : Int) := of_decide_eq_true (by first | (with_reducible assumption) | assumption); obtain ⟨ad176, A176_0, c176_0, e176, hx176_0, hl176_0, hi176_0⟩ := at_L9 HR0_12.out a1 p176 q176; cases e176; replace hx176_0 := (HB.out.cell (World.block_lt_of_cell? w _ hx176_0)).trans hx176_0; have HR176_0 := Aside0.mk hi176_0; have HC176_0 := Aside0.mk hl176_0; clear hi176_0 hl176_0; replace p176 := eq_true p176; replace q176 := eq_true q176)); try go_wp2_with (first | ((with_reducible refine gate_dst (N := 3) rfl ?_); (try (refine gate_guard (by rfl) ?_; dsimp only)); refine box_event ?hg (N := 3) ?hd (cs := #[a0_0.v, a0_1.v, a0_2.v, .slice A0_3 l0_3.length c0_3, a0_4.v, a0_5.v, a0_6.v, a0_7.v, a0_8.v, a0_9.v, a0_10.v, .slice A0_11 l0_11.length c0_11, .slice A0_12 l0_12.length c0_12, .slice A0_13 l0_13.length c0_13, .slice A0_14 l0_14.length c0_14]) (t := 63) ?hr ?_; (case hd => rfl); (case hg => rfl); (case hr => first | (go_simp; done) | (go_simp; rfl)); intro gb175 hg w12 hbox hb; have n0_ := Aside0.mk (below_step (by repeat (first | (with_reducible first | exact HB.out | apply below_alloc | apply pw_below_drewN | apply below_drew1) | exact HB.out)) hb); have n1_ := Aside0.mk (hbox); have n2_ := Aside0.mk ((by rw [hg]; exact (below_size (by repeat (first | (with_reducible first | exact HB.out | apply below_alloc | apply pw_below_drewN | apply below_drew1) | exact HB.out))) : w.heap.size ≤ gb175)); have n3_ := Aside0.mk ((by rw [hg]; exact (below_size (by repeat (first | (with_reducible first | exact HB.out | apply below_alloc | apply pw_below_drewN | apply below_drew1) | exact HB.out))) : w.heap.size ≤ gb175)); clear HB; have HB := n0_; have BK175 := n1_; have GW175 := n2_; have GE175 := n3_; clear n0_ n1_ n2_ n3_; clear hb hbox hg; have hcz13_0 : w12.cell? ⟨gb175, 0, none⟩ = some (a0_0.v) := (blk_cell BK175.out 0).trans rfl; have hcz13_1 : w12.cell? ⟨gb175, 1, none⟩ = some (a0_1.v) := (blk_cell BK175.out 1).trans rfl; have hcz13_2 : w12.cell? ⟨gb175, 2, none⟩ = some (a0_2.v) := (blk_cell BK175.out 2).trans rfl; have hcz13_3 : w12.cell? ⟨gb175, 3, none⟩ = some (.slice A0_3 l0_3.length c0_3) := (blk_cell BK175.out 3).trans rfl; have hcz13_4 : w12.cell? ⟨gb175, 4, none⟩ = some (a0_4.v) := (blk_cell BK175.out 4).trans rfl; have hcz13_5 : w12.cell? ⟨gb175, 5, none⟩ = some (a0_5.v) := (blk_cell BK175.out 5).trans rfl; have hcz13_6 : w12.cell? ⟨gb175, 6, none⟩ = some (a0_6.v) := (blk_cell BK175.out 6).trans rfl; have hcz13_7 : w12.cell? ⟨gb175, 7, none⟩ = some (a0_7.v) := (blk_cell BK175.out 7).trans rfl; have hcz13_8 : w12.cell? ⟨gb175, 8, none⟩ = some (a0_8.v) := (blk_cell BK175.out 8).trans rfl; have hcz13_9 : w12.cell? ⟨gb175, 9, none⟩ = some (a0_9.v) := (blk_cell BK175.out 9).trans rfl; have hcz13_10 : w12.cell? ⟨gb175, 10, none⟩ = some (a0_10.v) := (blk_cell BK175.out 10).trans rfl; have hcz13_11 : w12.cell? ⟨gb175, 11, none⟩ = some (.slice A0_11 l0_11.length c0_11) := (blk_cell BK175.out 11).trans rfl; have hcz13_12 : w12.cell? ⟨gb175, 12, none⟩ = some (.slice A0_12 l0_12.length c0_12) := (blk_cell BK175.out 12).trans rfl; have hcz13_13 : w12.cell? ⟨gb175, 13, none⟩ = some (.slice A0_13 l0_13.length c0_13) := (blk_cell BK175.out 13).trans rfl; have hcz13_14 : w12.cell? ⟨gb175, 14, none⟩ = some (.slice A0_14 l0_14.length c0_14) := (blk_cell BK175.out 14).trans rfl; have hfz13_0 := blk_frozen BK175.out 0; have hfz13_1 := blk_frozen BK175.out 1; have hfz13_2 := blk_frozen BK175.out 2; have hfz13_3 := blk_frozen BK175.out 3; have hfz13_4 := blk_frozen BK175.out 4; have hfz13_5 := blk_frozen BK175.out 5; have hfz13_6 := blk_frozen BK175.out 6; have hfz13_7 := blk_frozen BK175.out 7; have hfz13_8 := blk_frozen BK175.out 8; have hfz13_9 := blk_frozen BK175.out 9; have hfz13_10 := blk_frozen BK175.out 10; have hfz13_11 := blk_frozen BK175.out 11; have hfz13_12 := blk_frozen BK175.out 12; have hfz13_13 := blk_frozen BK175.out 13; have hfz13_14 := blk_frozen BK175.out 14; have p176 : 0 ≤ (a1 : Int) := of_decide_eq_true (by first | (with_reducible assumption) | assumption); have q176 : a1 < (l0_12.length : Int) := of_decide_eq_true (by first | (with_reducible assumption) | assumption); obtain ⟨ad176, A176_0, c176_0, e176, hx176_0, hl176_0, hi176_0⟩ := at_L9 HR0_12.out a1 p176 q176; cases e176; replace hx176_0 := (HB.out.cell (World.block_lt_of_cell? w _ hx176_0)).trans hx176_0; have HR176_0 := Aside0.mk hi176_0; have HC176_0 := Aside0.mk hl176_0; clear hi176_0 hl176_0; replace p176 := eq_true p176; replace q176 := eq_true q176)))
          go_ret
          exact ⟨by first | rfl | (simp [errW_none, errW_some] <;> rfl) | (simp [*, errW_none, errW_some] <;> rfl), by repeat (first | (with_reducible first | exact HB.out | apply below_alloc | apply pw_below_drewN | apply below_drew1 | refine below_set ?_ GE175.out) | exact HB.out)⟩
      · rw [if_neg c6] at H
        exact absurd H (by simp)
    · rw [if_neg c5] at H
      exact absurd H (by simp)
  · rw [if_neg c4] at H
    have c4b0 : decide (a1 < a2) = false := decide_eq_false c4
    clear c4
    obtain rfl := Option.some.inj H
    go_enter Try.func31, Try.ntmps31
    go_wp2_with (first | ((with_reducible refine gate_dst (N := 3) rfl ?_); (try (refine gate_guard (by rfl) ?_; dsimp only)); refine box_event ?hg (N := 3) ?hd (cs := #[a0_0.v, a0_1.v, a0_2.v, .slice A0_3 l0_3.length c0_3, a0_4.v, a0_5.v, a0_6.v, a0_7.v, a0_8.v, a0_9.v, a0_10.v, .slice A0_11 l0_11.length c0_11, .slice A0_12 l0_12.length c0_12, .slice A0_13 l0_13.length c0_13, .slice A0_14 l0_14.length c0_14]) (t := 63) ?hr ?_; (case hd => rfl); (case hg => rfl); (case hr => first | (go_simp; done) | (go_simp; rfl)); intro gb175 hg w14 hbox hb; have n0_ := Aside0.mk (below_step (by repeat (first | (with_reducible first | exact HB.out | apply below_alloc | apply pw_below_drewN | apply below_drew1) | exact HB.out)) hb); have n1_ := Aside0.mk (hbox); have n2_ := Aside0.mk ((by rw [hg]; exact (below_size (by repeat (first | (with_reducible first | exact HB.out | apply below_alloc | apply pw_below_drewN | apply below_drew1) | exact HB.out))) : w.heap.size ≤ gb175)); have n3_ := Aside0.mk ((by rw [hg]; exact (below_size (by repeat (first | (with_reducible first | exact HB.out | apply below_alloc | apply pw_below_drewN | apply below_drew1) | exact HB.out))) : w.heap.size ≤ gb175)); clear HB; have HB := n0_; have BK175 := n1_; have GW175 := n2_; have GE175 := n3_; clear n0_ n1_ n2_ n3_; clear hb hbox hg))
    repeat (go_quiet (first | ((with_reducible refine gate_dst (N := 3) rfl ?_); (try (refine gate_guard (by rfl) ?_; dsimp only)); refine box_event ?hg (N := 3) ?hd (cs := #[a0_0.v, a0_1.v, a0_2.v, .slice A0_3 l0_3.length c0_3, a0_4.v, a0_5.v, a0_6.v, a0_7.v, a0_8.v, a0_9.v, a0_10.v, .slice A0_11 l0_11.length c0_11, .slice A0_12 l0_12.length c0_12, .slice A0_13 l0_13.length c0_13, .slice A0_14 l0_14.length c0_14]) (t := 63) ?hr ?_; (case hd => rfl); (case hg => rfl); (case hr => first | (go_simp; done) | (go_simp; rfl)); intro gb175 hg w14 hbox hb; have n0_ := Aside0.mk (below_step (by repeat (first | (with_reducible first | exact HB.out | apply below_alloc | apply pw_below_drewN | apply below_drew1) | exact HB.out)) hb); have n1_ := Aside0.mk (hbox); have n2_ := Aside0.mk ((by rw [hg]; exact (below_size (by repeat (first | (with_reducible first | exact HB.out | apply below_alloc | apply pw_below_drewN | apply below_drew1) | exact HB.out))) : w.heap.size ≤ gb175)); have n3_ := Aside0.mk ((by rw [hg]; exact (below_size (by repeat (first | (with_reducible first | exact HB.out | apply below_alloc | apply pw_below_drewN | apply below_drew1) | exact HB.out))) : w.heap.size ≤ gb175)); clear HB; have HB := n0_; have BK175 := n1_; have GW175 := n2_; have GE175 := n3_; clear n0_ n1_ n2_ n3_; clear hb hbox hg)); try go_wp2_with (first | ((with_reducible refine gate_dst (N := 3) rfl ?_); (try (refine gate_guard (by rfl) ?_; dsimp only)); refine box_event ?hg (N := 3) ?hd (cs := #[a0_0.v, a0_1.v, a0_2.v, .slice A0_3 l0_3.length c0_3, a0_4.v, a0_5.v, a0_6.v, a0_7.v, a0_8.v, a0_9.v, a0_10.v, .slice A0_11 l0_11.length c0_11, .slice A0_12 l0_12.length c0_12, .slice A0_13 l0_13.length c0_13, .slice A0_14 l0_14.length c0_14]) (t := 63) ?hr ?_; (case hd => rfl); (case hg => rfl); (case hr => first | (go_simp; done) | (go_simp; rfl)); intro gb175 hg w14 hbox hb; have n0_ := Aside0.mk (below_step (by repeat (first | (with_reducible first | exact HB.out | apply below_alloc | apply pw_below_drewN | apply below_drew1) | exact HB.out)) hb); have n1_ := Aside0.mk (hbox); have n2_ := Aside0.mk ((by rw [hg]; exact (below_size (by repeat (first | (with_reducible first | exact HB.out | apply below_alloc | apply pw_below_drewN | apply below_drew1) | exact HB.out))) : w.heap.size ≤ gb175)); have n3_ := Aside0.mk ((by rw [hg]; exact (below_size (by repeat (first | (with_reducible first | exact HB.out | apply below_alloc | apply pw_below_drewN | apply below_drew1) | exact HB.out))) : w.heap.size ≤ gb175)); clear HB; have HB := n0_; have BK175 := n1_; have GW175 := n2_; have GE175 := n3_; clear n0_ n1_ n2_ n3_; clear hb hbox hg)))
    go_ret
    exact ⟨by first | rfl | (simp [errW_none, errW_some] <;> rfl) | (simp [*, errW_none, errW_some] <;> rfl), by repeat (first | (with_reducible first | exact HB.out | apply below_alloc | apply pw_below_drewN | apply below_drew1 | refine below_set ?_ GE175.out) | exact HB.out)⟩

-- NOT PRINTED: function 13 (call_Short)

/-! ### bourneref38_Same: function 15 -/
def bourneref38_Same.l0 : Nat → List (S60) → List (S60) → Int → Option (Bool)
  | 0, _, _, _ => none
  | k + 1, x0, x1, x5 => if x5 < (x0.length : Int) then (if 0 ≤ x5 then (if x5 < (x1.length : Int) then (if (!(((rd_T60 x0 x5).f0) == ((rd_T60 x1 x5).f0)) || (!(((rd_T60 x0 x5).f1) == ((rd_T60 x1 x5).f1)))) = true then (some false) else (bourneref38_Same.l0 k x0 x1 (wrap64 (x5 + 1)))) else (none)) else (none)) else (some true)
def bourneref38_Same.f (k : Nat) (l0 : List (S60)) (l1 : List (S60)) : Option (Bool) := if (l0.length : Int) = (l1.length : Int) then (bourneref38_Same.l0 k l0 l1 0) else (some false)
theorem bourneref38_Same.mono_l : ∀ k, (∀ y0 y1 y2, LeO (bourneref38_Same.l0 k y0 y1 y2) (bourneref38_Same.l0 (k + 1) y0 y1 y2))
  | 0 => fun _ _ _ r h => by simp [bourneref38_Same.l0] at h
  | k + 1 => by
    have ih0 := bourneref38_Same.mono_l k
    · intro y0 y1 y2
      unfold bourneref38_Same.l0
      repeat' first
      | (with_reducible exact ih0 _ _ _)
      | (with_reducible exact LeO.refl _)
      | (with_reducible exact LeO.none _)
      | (with_reducible refine LeO.ite ?_ ?_)
      | (with_reducible refine LeO.bind ?_ (fun _ => ?_))
      | exact ih0 _ _ _
      | exact LeO.none _
      | refine LeO.ite ?_ ?_
      | refine LeO.bind ?_ (fun _ => ?_)
theorem bourneref38_Same.mono : ∀ a0 a1 k, LeO (bourneref38_Same.f k a0 a1) (bourneref38_Same.f (k + 1) a0 a1) := by
  intro a0 a1 k
  have ih0 := bourneref38_Same.mono_l k
  unfold bourneref38_Same.f
  repeat' first
      | (with_reducible exact ih0 _ _ _)
      | (with_reducible exact LeO.refl _)
      | (with_reducible exact LeO.none _)
      | (with_reducible refine LeO.ite ?_ ?_)
      | (with_reducible refine LeO.bind ?_ (fun _ => ?_))
      | exact ih0 _ _ _
      | exact LeO.none _
      | refine LeO.ite ?_ ?_
      | refine LeO.bind ?_ (fun _ => ?_)
set_option maxHeartbeats 8000000 in
set_option maxRecDepth 100000 in
theorem bourneref38_Same.calls (k : Nat) (A0 : Option Addr) (c0 : Nat) (l0 : List (S60)) (A1 : Option Addr) (c1 : Nat) (l1 : List (S60)) (r : Bool) (w : World) (hr0 : Kd.C k60 w A0 l0.length l0) (hc0 : l0.length ≤ c0) (hr1 : Kd.C k60 w A1 l1.length l1) (hc1 : l1.length ≤ c1) (h : bourneref38_Same.f k l0 l1 = some r) :
    Calls Try.prog 15 #[.slice A0 l0.length c0, .slice A1 l1.length c1] w fun e w' => e = .returned (.bool r) ∧ Drawn0 w w' := by
  have hu60 := Try.underlying60
  have HR0 := Aside0.mk hr0
  have HC0 := Aside0.mk hc0
  clear hr0 hc0
  have HR1 := Aside0.mk hr1
  have HC1 := Aside0.mk hc1
  clear hr1 hc1
  have H : (if (l0.length : Int) = (l1.length : Int) then (bourneref38_Same.l0 k l0 l1 0) else (some false)) = some r := h
  clear h
  by_cases c3 : (l0.length : Int) = (l1.length : Int)
  · rw [if_pos c3] at H
    have c3b0 : ((l0.length : Int) == (l1.length : Int)) = true := beq_iff_eq.mpr c3
    have c3b1 : ((l0.length : Int) != (l1.length : Int)) = false := bne_eq_false_iff_eq.mpr c3
    have c3b2 : (l0.length == l1.length) = true := by first | simpa using c3 | (simp at c3 ⊢; omega)
    clear c3
    have H' := Aside0.mk H
    clear H
    go_enter Try.func15, Try.ntmps15
    go_wp2
    repeat (go_quiet (fail); try go_wp2)
    go_loopg [5] k (fun kq v5 w' => ∃ (x5_1 : Int), v5 = .int .i64 x5_1 ∧ Aside0 (bourneref38_Same.l0 kq l0 l1 x5_1 = some r) ∧ Aside0 (kq ≤ k) ∧ Drawn0 w w')
    case atStart => exact ⟨(0), (by first | rfl | (simp; done) | (simp [*]; done)), H', ⟨Nat.le_refl _⟩, by repeat (first | exact Drawn0.refl _ | apply Drawn0.step)⟩
    case round =>
      clear H'
      try clear c1
      try clear p2
      try clear c3
      try clear c3b0
      try clear c3b1
      try clear c3b2
      obtain ⟨x5_1, rfl, HA, HK1, ⟨m1, rfl⟩⟩ := hrel
      cases gk with
      | zero => exact absurd HA.out (by simp [bourneref38_Same.l0])
      | succ k1 =>
        have H := HA.out
        clear HA
        simp only [bourneref38_Same.l0] at H
        by_cases c4 : x5_1 < (l0.length : Int)
        · rw [if_pos c4] at H
          have c4b0 : decide (x5_1 < (l0.length : Int)) = true := decide_eq_true c4
          clear c4
          by_cases c5 : 0 ≤ x5_1
          · rw [if_pos c5] at H
            have c5b0 : decide (0 ≤ x5_1) = true := decide_eq_true c5
            clear c5
            by_cases c6 : x5_1 < (l1.length : Int)
            · rw [if_pos c6] at H
              have c6b0 : decide (x5_1 < (l1.length : Int)) = true := decide_eq_true c6
              clear c6
              by_cases c7 : (!(((rd_T60 l0 x5_1).f0) == ((rd_T60 l1 x5_1).f0)) || (!(((rd_T60 l0 x5_1).f1) == ((rd_T60 l1 x5_1).f1)))) = true
              · rw [if_pos c7] at H
                have c7b0 : (!(((rd_T60 l0 x5_1).f0) == ((rd_T60 l1 x5_1).f0)) || (!(((rd_T60 l0 x5_1).f1) == ((rd_T60 l1 x5_1).f1)))) = true := c7
                clear c7
                obtain rfl := Option.some.inj H
                have p180 : 0 ≤ (x5_1 : Int) := of_decide_eq_true (by first | (with_reducible assumption) | assumption)
                have q180 : x5_1 < (l0.length : Int) := of_decide_eq_true (by first | (with_reducible assumption) | assumption)
                obtain ⟨ad180, e180, hx180_0, hx180_1⟩ := at_T60 HR0.out x5_1 p180 q180
                cases e180
                replace p180 := eq_true p180
                replace q180 := eq_true q180
                have p181 : 0 ≤ (x5_1 : Int) := of_decide_eq_true (by first | (with_reducible assumption) | assumption)
                have q181 : x5_1 < (l1.length : Int) := of_decide_eq_true (by first | (with_reducible assumption) | assumption)
                obtain ⟨ad181, e181, hx181_0, hx181_1⟩ := at_T60 HR1.out x5_1 p181 q181
                cases e181
                replace p181 := eq_true p181
                replace q181 := eq_true q181
                go_wp2
                repeat (go_quiet (fail); try go_wp2)
                go_ret
                exact ⟨by first | rfl | (simp; done) | (simp [*]; done), by repeat (first | exact Drawn0.refl _ | apply Drawn0.step)⟩
              · rw [if_neg c7] at H
                have c7b0 : (!(((rd_T60 l0 x5_1).f0) == ((rd_T60 l1 x5_1).f0)) || (!(((rd_T60 l0 x5_1).f1) == ((rd_T60 l1 x5_1).f1)))) = false := by simpa using c7
                clear c7
                have H' := Aside0.mk H
                clear H
                have p180 : 0 ≤ (x5_1 : Int) := of_decide_eq_true (by first | (with_reducible assumption) | assumption)
                have q180 : x5_1 < (l0.length : Int) := of_decide_eq_true (by first | (with_reducible assumption) | assumption)
                obtain ⟨ad180, e180, hx180_0, hx180_1⟩ := at_T60 HR0.out x5_1 p180 q180
                cases e180
                replace p180 := eq_true p180
                replace q180 := eq_true q180
                have p181 : 0 ≤ (x5_1 : Int) := of_decide_eq_true (by first | (with_reducible assumption) | assumption)
                have q181 : x5_1 < (l1.length : Int) := of_decide_eq_true (by first | (with_reducible assumption) | assumption)
                obtain ⟨ad181, e181, hx181_0, hx181_1⟩ := at_T60 HR1.out x5_1 p181 q181
                cases e181
                replace p181 := eq_true p181
                replace q181 := eq_true q181
                go_wp2
                repeat (go_quiet (fail); try go_wp2)
                go_roundg k1
                case measure => have := HK1.out; omega
                case rel => exact ⟨(wrap64 (x5_1 + 1)), (by first | rfl | (simp; done) | (simp [*]; done)), H', ⟨by have := HK1.out; omega⟩, by repeat (first | exact Drawn0.refl _ | apply Drawn0.step)⟩
            · rw [if_neg c6] at H
              exact absurd H (by simp)
          · rw [if_neg c5] at H
            exact absurd H (by simp)
        · rw [if_neg c4] at H
          have c4b0 : decide (x5_1 < (l0.length : Int)) = false := decide_eq_false c4
          clear c4
          obtain rfl := Option.some.inj H
          go_wp2
          repeat (go_quiet (fail); try go_wp2)
          go_ret
          exact ⟨by first | rfl | (simp; done) | (simp [*]; done), by repeat (first | exact Drawn0.refl _ | apply Drawn0.step)⟩
  · rw [if_neg c3] at H
    have c3b0 : ((l0.length : Int) == (l1.length : Int)) = false := beq_eq_false_iff_ne.mpr c3
    have c3b1 : ((l0.length : Int) != (l1.length : Int)) = true := bne_iff_ne.mpr c3
    have c3b2 : (l0.length == l1.length) = false := by first | simpa using c3 | (simp at c3 ⊢; omega)
    obtain rfl := Option.some.inj H
    go_enter Try.func15, Try.ntmps15
    go_wp2
    repeat (go_quiet (fail); try go_wp2)
    go_ret
    exact ⟨by first | rfl | (simp; done) | (simp [*]; done), by repeat (first | exact Drawn0.refl _ | apply Drawn0.step)⟩

/-! ### call_day_later: function 34 -/
def call_day_later.l0 : Nat → List Int → Int → V1 → V1 → V1 → List (S79) → V1 → V1 → V1 → V1 → V1 → V1 → V1 → List (S39) → List (List Int) → List Int → List Int → Option (List Int)
  | 0, _, _, _, _, _, _, _, _, _, _, _, _, _, _, _, _, _ => none
  | k + 1, x5, x6, x183000, x183001, x183002, x183003, x183004, x183005, x183006, x183007, x183008, x183009, x183010, x183011, x183012, x183013, x183014 => if x6 < (x183011.length : Int) then (if 0 ≤ x6 then (if x6 < (x183013.length : Int) then (if (rd x183013 x6) > 0 then (if x5.length < 17592186044416 then (call_day_later.l0 k (x5 ++ [x6]) (wrap64 (x6 + 1)) x183000 x183001 x183002 x183003 x183004 x183005 x183006 x183007 x183008 x183009 x183010 x183011 x183012 x183013 x183014) else (none)) else (call_day_later.l0 k x5 (wrap64 (x6 + 1)) x183000 x183001 x183002 x183003 x183004 x183005 x183006 x183007 x183008 x183009 x183010 x183011 x183012 x183013 x183014)) else (none)) else (none)) else (some x5)
def call_day_later.f (k : Nat) (a0_0 : V1) (a0_1 : V1) (a0_2 : V1) (l0_3 : List (S79)) (a0_4 : V1) (a0_5 : V1) (a0_6 : V1) (a0_7 : V1) (a0_8 : V1) (a0_9 : V1) (a0_10 : V1) (l0_11 : List (S39)) (l0_12 : List (List Int)) (l0_13 : List Int) (l0_14 : List Int) (a1 : Int) : Option (List Int) := call_day_later.l0 k ([] : List Int) (wrap64 (a1 + 1)) a0_0 a0_1 a0_2 l0_3 a0_4 a0_5 a0_6 a0_7 a0_8 a0_9 a0_10 l0_11 l0_12 l0_13 l0_14
theorem call_day_later.mono_l : ∀ k, (∀ y0 y1 y2 y3 y4 y5 y6 y7 y8 y9 y10 y11 y12 y13 y14 y15 y16, LeO (call_day_later.l0 k y0 y1 y2 y3 y4 y5 y6 y7 y8 y9 y10 y11 y12 y13 y14 y15 y16) (call_day_later.l0 (k + 1) y0 y1 y2 y3 y4 y5 y6 y7 y8 y9 y10 y11 y12 y13 y14 y15 y16))
  | 0 => fun _ _ _ _ _ _ _ _ _ _ _ _ _ _ _ _ _ r h => by simp [call_day_later.l0] at h
  | k + 1 => by
    have ih0 := call_day_later.mono_l k
    · intro y0 y1 y2 y3 y4 y5 y6 y7 y8 y9 y10 y11 y12 y13 y14 y15 y16
      unfold call_day_later.l0
      repeat' first
      | (with_reducible exact ih0 _ _ _ _ _ _ _ _ _ _ _ _ _ _ _ _ _)
      | (with_reducible exact LeO.refl _)
      | (with_reducible exact LeO.none _)
      | (with_reducible refine LeO.ite ?_ ?_)
      | (with_reducible refine LeO.bind ?_ (fun _ => ?_))
      | exact ih0 _ _ _ _ _ _ _ _ _ _ _ _ _ _ _ _ _
      | exact LeO.none _
      | refine LeO.ite ?_ ?_
      | refine LeO.bind ?_ (fun _ => ?_)
theorem call_day_later.mono : ∀ a0 a1 a2 a3 a4 a5 a6 a7 a8 a9 a10 a11 a12 a13 a14 a15 k, LeO (call_day_later.f k a0 a1 a2 a3 a4 a5 a6 a7 a8 a9 a10 a11 a12 a13 a14 a15) (call_day_later.f (k + 1) a0 a1 a2 a3 a4 a5 a6 a7 a8 a9 a10 a11 a12 a13 a14 a15) := by
  intro a0 a1 a2 a3 a4 a5 a6 a7 a8 a9 a10 a11 a12 a13 a14 a15 k
  have ih0 := call_day_later.mono_l k
  unfold call_day_later.f
  repeat' first
      | (with_reducible exact ih0 _ _ _ _ _ _ _ _ _ _ _ _ _ _ _ _ _)
      | (with_reducible exact LeO.refl _)
      | (with_reducible exact LeO.none _)
      | (with_reducible refine LeO.ite ?_ ?_)
      | (with_reducible refine LeO.bind ?_ (fun _ => ?_))
      | exact ih0 _ _ _ _ _ _ _ _ _ _ _ _ _ _ _ _ _
      | exact LeO.none _
      | refine LeO.ite ?_ ?_
      | refine LeO.bind ?_ (fun _ => ?_)
set_option maxHeartbeats 8000000 in
set_option maxRecDepth 100000 in
theorem call_day_later.calls (k : Nat) (a0_0 : V1) (a0_1 : V1) (a0_2 : V1) (A0_3 : Option Addr) (c0_3 : Nat) (l0_3 : List (S79)) (a0_4 : V1) (a0_5 : V1) (a0_6 : V1) (a0_7 : V1) (a0_8 : V1) (a0_9 : V1) (a0_10 : V1) (A0_11 : Option Addr) (c0_11 : Nat) (l0_11 : List (S39)) (A0_12 : Option Addr) (c0_12 : Nat) (l0_12 : List (List Int)) (A0_13 : Option Addr) (c0_13 : Nat) (l0_13 : List Int) (A0_14 : Option Addr) (c0_14 : Nat) (l0_14 : List Int) (a1 : Int) (r : List Int) (w : World) (hr0_3 : Kd.C k79 w A0_3 l0_3.length l0_3) (hc0_3 : l0_3.length ≤ c0_3) (hr0_11 : Kd.C k39 w A0_11 l0_11.length l0_11) (hc0_11 : l0_11.length ≤ c0_11) (hr0_12 : Kd.C (Kd.slice 3 (Kd.int .i64)) w A0_12 l0_12.length l0_12) (hc0_12 : l0_12.length ≤ c0_12) (hr0_13 : Kd.C (Kd.int .i64) w A0_13 l0_13.length l0_13) (hc0_13 : l0_13.length ≤ c0_13) (hr0_14 : Kd.C (Kd.int .i64) w A0_14 l0_14.length l0_14) (hc0_14 : l0_14.length ≤ c0_14) (h : call_day_later.f k a0_0 a0_1 a0_2 l0_3 a0_4 a0_5 a0_6 a0_7 a0_8 a0_9 a0_10 l0_11 l0_12 l0_13 l0_14 a1 = some r) :
    Calls Try.prog 34 #[.agg #[a0_0.v, a0_1.v, a0_2.v, .slice A0_3 l0_3.length c0_3, a0_4.v, a0_5.v, a0_6.v, a0_7.v, a0_8.v, a0_9.v, a0_10.v, .slice A0_11 l0_11.length c0_11, .slice A0_12 l0_12.length c0_12, .slice A0_13 l0_13.length c0_13, .slice A0_14 l0_14.length c0_14], .int .i64 a1] w fun e w' => ∃ v0_ : Value, e = .returned (v0_) ∧ Kd.R (Kd.int .i64) 3 w' w.heap.size (fun _ => True) v0_ r ∧ Below w.heap.size w w' := by
  have hu63 := Try.underlying63
  have HR0_3 := Aside0.mk hr0_3
  have HC0_3 := Aside0.mk hc0_3
  clear hr0_3 hc0_3
  have HR0_11 := Aside0.mk hr0_11
  have HC0_11 := Aside0.mk hc0_11
  clear hr0_11 hc0_11
  have HR0_12 := Aside0.mk hr0_12
  have HC0_12 := Aside0.mk hc0_12
  clear hr0_12 hc0_12
  have HR0_13 := Aside0.mk hr0_13
  have HC0_13 := Aside0.mk hc0_13
  clear hr0_13 hc0_13
  have HR0_14 := Aside0.mk hr0_14
  have HC0_14 := Aside0.mk hc0_14
  clear hr0_14 hc0_14
  have HB := Aside0.mk (Below.refl w.heap.size w)
  have H : (call_day_later.l0 k ([] : List Int) (wrap64 (a1 + 1)) a0_0 a0_1 a0_2 l0_3 a0_4 a0_5 a0_6 a0_7 a0_8 a0_9 a0_10 l0_11 l0_12 l0_13 l0_14) = some r := h
  clear h
  have H' := Aside0.mk H
  clear H
  go_enter Try.func34, Try.ntmps34
  go_wp2_with (first | ((with_reducible refine gate_dst (N := 2) rfl ?_); refine box_event ?hg (N := 2) ?hd (cs := #[a0_0.v, a0_1.v, a0_2.v, .slice A0_3 l0_3.length c0_3, a0_4.v, a0_5.v, a0_6.v, a0_7.v, a0_8.v, a0_9.v, a0_10.v, .slice A0_11 l0_11.length c0_11, .slice A0_12 l0_12.length c0_12, .slice A0_13 l0_13.length c0_13, .slice A0_14 l0_14.length c0_14]) (t := 63) ?hr ?_; (case hd => rfl); (case hg => rfl); (case hr => first | (go_simp; done) | (go_simp; rfl)); intro gb182 hg w3 hbox hb; have n0_ := Aside0.mk (below_step (by repeat (first | (with_reducible first | exact HB.out | apply below_alloc | apply pw_below_drewN | apply below_drew1) | exact HB.out)) hb); have n1_ := Aside0.mk (hbox); have n2_ := Aside0.mk ((by rw [hg]; exact (below_size (by repeat (first | (with_reducible first | exact HB.out | apply below_alloc | apply pw_below_drewN | apply below_drew1) | exact HB.out))) : w.heap.size ≤ gb182)); have n3_ := Aside0.mk ((by rw [hg]; exact (below_size (by repeat (first | (with_reducible first | exact HB.out | apply below_alloc | apply pw_below_drewN | apply below_drew1) | exact HB.out))) : w.heap.size ≤ gb182)); clear HB; have HB := n0_; have BK182 := n1_; have GW182 := n2_; have GE182 := n3_; clear n0_ n1_ n2_ n3_; clear hb hbox hg))
  go_loopg [5, 6] k (fun kq v5 v6 w' => ∃ (x5_1 : List Int) (x6_1 : Int), v6 = .int .i64 x6_1 ∧ Aside0 (call_day_later.l0 kq x5_1 x6_1 a0_0 a0_1 a0_2 l0_3 a0_4 a0_5 a0_6 a0_7 a0_8 a0_9 a0_10 l0_11 l0_12 l0_13 l0_14 = some r) ∧ Aside0 (kq ≤ k) ∧ Aside0 (Kd.R (Kd.int .i64) 3 w' w.heap.size (fun _ => True) v5 x5_1) ∧ Aside0 (w'.heap[gb182]? = some (.cells #[a0_0.v, a0_1.v, a0_2.v, (.slice A0_3 l0_3.length c0_3), a0_4.v, a0_5.v, a0_6.v, a0_7.v, a0_8.v, a0_9.v, a0_10.v, (.slice A0_11 l0_11.length c0_11), (.slice A0_12 l0_12.length c0_12), (.slice A0_13 l0_13.length c0_13), (.slice A0_14 l0_14.length c0_14)] 63 (0, 0))) ∧ Aside0 (Below w.heap.size w w'))
  case atStart => exact ⟨(([] : List Int)), (wrap64 (a1 + 1)), (by first | rfl | (simp; done) | (simp [*]; done)), H', ⟨Nat.le_refl _⟩, ⟨by first | exact Kd.R_nil _ _ _ _ _ | exact Kd.N_nil _ _ _ _ _ | exact Kd.V_nil _ _ _ _ _ | exact Kd.Q_nil _ _ _ _ _ | exact Kd.S_nil _ _ _ _ _⟩, ⟨by (with_reducible repeat (first | refine blk_drewN ?_ _ | refine blk_drew ?_ | refine blk_alloc ?_ _)); exact BK182.out⟩, ⟨by repeat (first | (with_reducible first | exact HB.out | apply below_alloc | apply pw_below_drewN | apply below_drew1 | refine below_set ?_ GE182.out) | exact HB.out)⟩⟩
  case round =>
    clear H'
    try clear p2
    try clear c3
    obtain ⟨x5_1, x6_1, rfl, HA, HK1, HO_5, BK182, HB⟩ := hrel
    cases gk with
    | zero => exact absurd HA.out (by simp [call_day_later.l0])
    | succ k1 =>
      have H := HA.out
      clear HA
      simp only [call_day_later.l0] at H
      by_cases c4 : x6_1 < (l0_11.length : Int)
      · rw [if_pos c4] at H
        have c4b0 : decide (x6_1 < (l0_11.length : Int)) = true := decide_eq_true c4
        clear c4
        by_cases c5 : 0 ≤ x6_1
        · rw [if_pos c5] at H
          have c5b0 : decide (0 ≤ x6_1) = true := decide_eq_true c5
          clear c5
          by_cases c6 : x6_1 < (l0_13.length : Int)
          · rw [if_pos c6] at H
            have c6b0 : decide (x6_1 < (l0_13.length : Int)) = true := decide_eq_true c6
            clear c6
            by_cases c7 : (rd l0_13 x6_1) > 0
            · rw [if_pos c7] at H
              have c7b0 : decide (0 < (rd l0_13 x6_1)) = true := decide_eq_true c7
              clear c7
              by_cases c8 : x5_1.length < 17592186044416
              · rw [if_pos c8] at H
                have LMc8 := Aside0.mk c8
                clear c8
                obtain ⟨y184, hy184⟩ : ∃ y_ : List Int, y_ = (x5_1 ++ [x6_1]) := ⟨_, rfl⟩
                replace H : (call_day_later.l0 k1 y184 (wrap64 (x6_1 + 1)) a0_0 a0_1 a0_2 l0_3 a0_4 a0_5 a0_6 a0_7 a0_8 a0_9 a0_10 l0_11 l0_12 l0_13 l0_14) = some r := by first | (rw [hy184]; with_reducible exact H) | (have H2_ := (Option.bind_some _ _).symm.trans H; rw [hy184]; with_reducible exact H2_) | (have H2_ := (Option.bind_some _ _).symm.trans H; with_reducible exact H2_) | with_reducible exact H | (rw [hy184]; exact H) | exact H
                have Ny184 := Aside0.mk hy184
                clear hy184
                have H' := Aside0.mk H
                clear H
                have hcz9_0 : wr.cell? ⟨gb182, 0, none⟩ = some (a0_0.v) := (blk_cell BK182.out 0).trans rfl
                have hcz9_1 : wr.cell? ⟨gb182, 1, none⟩ = some (a0_1.v) := (blk_cell BK182.out 1).trans rfl
                have hcz9_2 : wr.cell? ⟨gb182, 2, none⟩ = some (a0_2.v) := (blk_cell BK182.out 2).trans rfl
                have hcz9_3 : wr.cell? ⟨gb182, 3, none⟩ = some (.slice A0_3 l0_3.length c0_3) := (blk_cell BK182.out 3).trans rfl
                have hcz9_4 : wr.cell? ⟨gb182, 4, none⟩ = some (a0_4.v) := (blk_cell BK182.out 4).trans rfl
                have hcz9_5 : wr.cell? ⟨gb182, 5, none⟩ = some (a0_5.v) := (blk_cell BK182.out 5).trans rfl
                have hcz9_6 : wr.cell? ⟨gb182, 6, none⟩ = some (a0_6.v) := (blk_cell BK182.out 6).trans rfl
                have hcz9_7 : wr.cell? ⟨gb182, 7, none⟩ = some (a0_7.v) := (blk_cell BK182.out 7).trans rfl
                have hcz9_8 : wr.cell? ⟨gb182, 8, none⟩ = some (a0_8.v) := (blk_cell BK182.out 8).trans rfl
                have hcz9_9 : wr.cell? ⟨gb182, 9, none⟩ = some (a0_9.v) := (blk_cell BK182.out 9).trans rfl
                have hcz9_10 : wr.cell? ⟨gb182, 10, none⟩ = some (a0_10.v) := (blk_cell BK182.out 10).trans rfl
                have hcz9_11 : wr.cell? ⟨gb182, 11, none⟩ = some (.slice A0_11 l0_11.length c0_11) := (blk_cell BK182.out 11).trans rfl
                have hcz9_12 : wr.cell? ⟨gb182, 12, none⟩ = some (.slice A0_12 l0_12.length c0_12) := (blk_cell BK182.out 12).trans rfl
                have hcz9_13 : wr.cell? ⟨gb182, 13, none⟩ = some (.slice A0_13 l0_13.length c0_13) := (blk_cell BK182.out 13).trans rfl
                have hcz9_14 : wr.cell? ⟨gb182, 14, none⟩ = some (.slice A0_14 l0_14.length c0_14) := (blk_cell BK182.out 14).trans rfl
                have hfz9_0 := blk_frozen BK182.out 0
                have hfz9_1 := blk_frozen BK182.out 1
                have hfz9_2 := blk_frozen BK182.out 2
                have hfz9_3 := blk_frozen BK182.out 3
                have hfz9_4 := blk_frozen BK182.out 4
                have hfz9_5 := blk_frozen BK182.out 5
                have hfz9_6 := blk_frozen BK182.out 6
                have hfz9_7 := blk_frozen BK182.out 7
                have hfz9_8 := blk_frozen BK182.out 8
                have hfz9_9 := blk_frozen BK182.out 9
                have hfz9_10 := blk_frozen BK182.out 10
                have hfz9_11 := blk_frozen BK182.out 11
                have hfz9_12 := blk_frozen BK182.out 12
                have hfz9_13 := blk_frozen BK182.out 13
                have hfz9_14 := blk_frozen BK182.out 14
                have p183 : 0 ≤ (x6_1 : Int) := of_decide_eq_true (by first | (with_reducible assumption) | assumption)
                have q183 : x6_1 < (l0_13.length : Int) := of_decide_eq_true (by first | (with_reducible assumption) | assumption)
                obtain ⟨ad183, e183, hx183_0⟩ := Kd.at_int HR0_13.out x6_1 p183 q183
                cases e183
                replace hx183_0 := (HB.out.cell (World.block_lt_of_cell? w _ hx183_0)).trans hx183_0
                replace p183 := eq_true p183
                replace q183 := eq_true q183
                go_wp2_with (first | ((with_reducible refine gate_builtin (b := .append) (xs := #[.tmp 22, .tmp 24]) rfl ?_); at_builtin; refine Kd.R_append (Kd.int .i64) (w0 := w) w.heap.size rfl (.tmp 22) (.tmp 24) 29 3 (.int .i64 0) 8 rfl Try.underlying29 info3 rfl (by decide) (by omega) u5 x5_1 x6_1 [.int .i64 x6_1] (fun _ => True) (fun _ => False) rfl rfl ?aP (fun _ hk => hk.elim) ?aF ?aO ?aB ?aS ?aL ?_; (case aP => exact rfl); (case aB => exact (by repeat (first | (with_reducible first | exact HB.out | apply below_alloc | apply pw_below_drewN | apply below_drew1 | refine below_set ?_ GE182.out) | exact HB.out))); (case aF => exact (fun _ _ => trivial)); (case aO => exact (by (with_reducible repeat (first | apply Kd.R_alloc | apply Kd.R_drewN | apply Kd.R_drew)); exact HO_5.out)); (case aS => exact (below_size (by repeat (first | (with_reducible first | exact HB.out | apply below_alloc | apply pw_below_drewN | apply below_drew1 | refine below_set ?_ GE182.out) | exact HB.out)))); (case aL => have := LMc8.out; omega); intro v185 w10 ho hb hg hat; rw [← Ny184.out] at ho; have n0_ := Aside0.mk (blk_grown (g := gb182) (o := .cells #[a0_0.v, a0_1.v, a0_2.v, .slice A0_3 l0_3.length c0_3, a0_4.v, a0_5.v, a0_6.v, a0_7.v, a0_8.v, a0_9.v, a0_10.v, .slice A0_11 l0_11.length c0_11, .slice A0_12 l0_12.length c0_12, .slice (some ad183) l0_13.length c0_13, .slice A0_14 l0_14.length c0_14] 63 (0, 0)) (by (with_reducible repeat (first | refine blk_drewN ?_ _ | refine blk_drew ?_ | refine blk_alloc ?_ _)); exact BK182.out) hg (Kd.R_ne HO_5.out BK182.out (by decide))); have n1_ := Aside0.mk (hb); have n2_ := Aside0.mk (ho); clear BK182; clear HB; clear HO_5; have BK182 := n0_; have HB := n1_; have HO186 := n2_; clear n0_ n1_ n2_; clear ho hb hg hat))
                go_roundg k1
                case measure => have := HK1.out; omega
                case rel => exact ⟨(y184), (wrap64 (x6_1 + 1)), (by first | rfl | (simp; done) | (simp [*]; done)), H', ⟨by have := HK1.out; omega⟩, ⟨by (with_reducible repeat (first | apply Kd.R_alloc | apply Kd.R_drewN | apply Kd.R_drew)); exact HO186.out⟩, ⟨by (with_reducible repeat (first | refine blk_drewN ?_ _ | refine blk_drew ?_ | refine blk_alloc ?_ _)); exact BK182.out⟩, ⟨by repeat (first | (with_reducible first | exact HB.out | apply below_alloc | apply pw_below_drewN | apply below_drew1 | refine below_set ?_ GE182.out) | exact HB.out)⟩⟩
              · rw [if_neg c8] at H
                exact absurd H (by simp)
            · rw [if_neg c7] at H
              have c7b0 : decide (0 < (rd l0_13 x6_1)) = false := decide_eq_false c7
              clear c7
              have H' := Aside0.mk H
              clear H
              have hcz11_0 : wr.cell? ⟨gb182, 0, none⟩ = some (a0_0.v) := (blk_cell BK182.out 0).trans rfl
              have hcz11_1 : wr.cell? ⟨gb182, 1, none⟩ = some (a0_1.v) := (blk_cell BK182.out 1).trans rfl
              have hcz11_2 : wr.cell? ⟨gb182, 2, none⟩ = some (a0_2.v) := (blk_cell BK182.out 2).trans rfl
              have hcz11_3 : wr.cell? ⟨gb182, 3, none⟩ = some (.slice A0_3 l0_3.length c0_3) := (blk_cell BK182.out 3).trans rfl
              have hcz11_4 : wr.cell? ⟨gb182, 4, none⟩ = some (a0_4.v) := (blk_cell BK182.out 4).trans rfl
              have hcz11_5 : wr.cell? ⟨gb182, 5, none⟩ = some (a0_5.v) := (blk_cell BK182.out 5).trans rfl
              have hcz11_6 : wr.cell? ⟨gb182, 6, none⟩ = some (a0_6.v) := (blk_cell BK182.out 6).trans rfl
              have hcz11_7 : wr.cell? ⟨gb182, 7, none⟩ = some (a0_7.v) := (blk_cell BK182.out 7).trans rfl
              have hcz11_8 : wr.cell? ⟨gb182, 8, none⟩ = some (a0_8.v) := (blk_cell BK182.out 8).trans rfl
              have hcz11_9 : wr.cell? ⟨gb182, 9, none⟩ = some (a0_9.v) := (blk_cell BK182.out 9).trans rfl
              have hcz11_10 : wr.cell? ⟨gb182, 10, none⟩ = some (a0_10.v) := (blk_cell BK182.out 10).trans rfl
              have hcz11_11 : wr.cell? ⟨gb182, 11, none⟩ = some (.slice A0_11 l0_11.length c0_11) := (blk_cell BK182.out 11).trans rfl
              have hcz11_12 : wr.cell? ⟨gb182, 12, none⟩ = some (.slice A0_12 l0_12.length c0_12) := (blk_cell BK182.out 12).trans rfl
              have hcz11_13 : wr.cell? ⟨gb182, 13, none⟩ = some (.slice A0_13 l0_13.length c0_13) := (blk_cell BK182.out 13).trans rfl
              have hcz11_14 : wr.cell? ⟨gb182, 14, none⟩ = some (.slice A0_14 l0_14.length c0_14) := (blk_cell BK182.out 14).trans rfl
              have hfz11_0 := blk_frozen BK182.out 0
              have hfz11_1 := blk_frozen BK182.out 1
              have hfz11_2 := blk_frozen BK182.out 2
              have hfz11_3 := blk_frozen BK182.out 3
              have hfz11_4 := blk_frozen BK182.out 4
              have hfz11_5 := blk_frozen BK182.out 5
              have hfz11_6 := blk_frozen BK182.out 6
              have hfz11_7 := blk_frozen BK182.out 7
              have hfz11_8 := blk_frozen BK182.out 8
              have hfz11_9 := blk_frozen BK182.out 9
              have hfz11_10 := blk_frozen BK182.out 10
              have hfz11_11 := blk_frozen BK182.out 11
              have hfz11_12 := blk_frozen BK182.out 12
              have hfz11_13 := blk_frozen BK182.out 13
              have hfz11_14 := blk_frozen BK182.out 14
              have p183 : 0 ≤ (x6_1 : Int) := of_decide_eq_true (by first | (with_reducible assumption) | assumption)
              have q183 : x6_1 < (l0_13.length : Int) := of_decide_eq_true (by first | (with_reducible assumption) | assumption)
              obtain ⟨ad183, e183, hx183_0⟩ := Kd.at_int HR0_13.out x6_1 p183 q183
              cases e183
              replace hx183_0 := (HB.out.cell (World.block_lt_of_cell? w _ hx183_0)).trans hx183_0
              replace p183 := eq_true p183
              replace q183 := eq_true q183
              go_wp2
              go_roundg k1
              case measure => have := HK1.out; omega
              case rel => exact ⟨(x5_1), (wrap64 (x6_1 + 1)), (by first | rfl | (simp; done) | (simp [*]; done)), H', ⟨by have := HK1.out; omega⟩, ⟨by (with_reducible repeat (first | apply Kd.R_alloc | apply Kd.R_drewN | apply Kd.R_drew)); exact HO_5.out⟩, ⟨by (with_reducible repeat (first | refine blk_drewN ?_ _ | refine blk_drew ?_ | refine blk_alloc ?_ _)); exact BK182.out⟩, ⟨by repeat (first | (with_reducible first | exact HB.out | apply below_alloc | apply pw_below_drewN | apply below_drew1 | refine below_set ?_ GE182.out) | exact HB.out)⟩⟩
          · rw [if_neg c6] at H
            exact absurd H (by simp)
        · rw [if_neg c5] at H
          exact absurd H (by simp)
      · rw [if_neg c4] at H
        have c4b0 : decide (x6_1 < (l0_11.length : Int)) = false := decide_eq_false c4
        clear c4
        obtain rfl := Option.some.inj H
        have hcz12_0 : wr.cell? ⟨gb182, 0, none⟩ = some (a0_0.v) := (blk_cell BK182.out 0).trans rfl
        have hcz12_1 : wr.cell? ⟨gb182, 1, none⟩ = some (a0_1.v) := (blk_cell BK182.out 1).trans rfl
        have hcz12_2 : wr.cell? ⟨gb182, 2, none⟩ = some (a0_2.v) := (blk_cell BK182.out 2).trans rfl
        have hcz12_3 : wr.cell? ⟨gb182, 3, none⟩ = some (.slice A0_3 l0_3.length c0_3) := (blk_cell BK182.out 3).trans rfl
        have hcz12_4 : wr.cell? ⟨gb182, 4, none⟩ = some (a0_4.v) := (blk_cell BK182.out 4).trans rfl
        have hcz12_5 : wr.cell? ⟨gb182, 5, none⟩ = some (a0_5.v) := (blk_cell BK182.out 5).trans rfl
        have hcz12_6 : wr.cell? ⟨gb182, 6, none⟩ = some (a0_6.v) := (blk_cell BK182.out 6).trans rfl
        have hcz12_7 : wr.cell? ⟨gb182, 7, none⟩ = some (a0_7.v) := (blk_cell BK182.out 7).trans rfl
        have hcz12_8 : wr.cell? ⟨gb182, 8, none⟩ = some (a0_8.v) := (blk_cell BK182.out 8).trans rfl
        have hcz12_9 : wr.cell? ⟨gb182, 9, none⟩ = some (a0_9.v) := (blk_cell BK182.out 9).trans rfl
        have hcz12_10 : wr.cell? ⟨gb182, 10, none⟩ = some (a0_10.v) := (blk_cell BK182.out 10).trans rfl
        have hcz12_11 : wr.cell? ⟨gb182, 11, none⟩ = some (.slice A0_11 l0_11.length c0_11) := (blk_cell BK182.out 11).trans rfl
        have hcz12_12 : wr.cell? ⟨gb182, 12, none⟩ = some (.slice A0_12 l0_12.length c0_12) := (blk_cell BK182.out 12).trans rfl
        have hcz12_13 : wr.cell? ⟨gb182, 13, none⟩ = some (.slice A0_13 l0_13.length c0_13) := (blk_cell BK182.out 13).trans rfl
        have hcz12_14 : wr.cell? ⟨gb182, 14, none⟩ = some (.slice A0_14 l0_14.length c0_14) := (blk_cell BK182.out 14).trans rfl
        have hfz12_0 := blk_frozen BK182.out 0
        have hfz12_1 := blk_frozen BK182.out 1
        have hfz12_2 := blk_frozen BK182.out 2
        have hfz12_3 := blk_frozen BK182.out 3
        have hfz12_4 := blk_frozen BK182.out 4
        have hfz12_5 := blk_frozen BK182.out 5
        have hfz12_6 := blk_frozen BK182.out 6
        have hfz12_7 := blk_frozen BK182.out 7
        have hfz12_8 := blk_frozen BK182.out 8
        have hfz12_9 := blk_frozen BK182.out 9
        have hfz12_10 := blk_frozen BK182.out 10
        have hfz12_11 := blk_frozen BK182.out 11
        have hfz12_12 := blk_frozen BK182.out 12
        have hfz12_13 := blk_frozen BK182.out 13
        have hfz12_14 := blk_frozen BK182.out 14
        go_wp2
        go_ret
        exact ⟨_, by first | rfl | (simp [errW_none, errW_some] <;> rfl) | (simp [*, errW_none, errW_some] <;> rfl), by (with_reducible repeat (first | apply Kd.R_alloc | apply Kd.R_drewN | apply Kd.R_drew)); exact HO_5.out, by repeat (first | (with_reducible first | exact HB.out | apply below_alloc | apply pw_below_drewN | apply below_drew1 | refine below_set ?_ GE182.out) | exact HB.out)⟩

-- NOT PRINTED: function 45 (slices_IndexFunc_int_int)

-- NOT PRINTED: function 33 (call_day_stop)

-- NOT PRINTED: function 16 (call_Excuses)

-- NOT PRINTED: function 18 (call_Stop)

-- NOT PRINTED: function 37 (slices_ContainsFunc_int_int)

/-! ### api_Excuse_49: function 49 -/
def api_Excuse_49.l0 : Nat → List (S60) → Int → Int → Int → Int → Option (Int)
  | 0, _, _, _, _, _ => none
  | k + 1, x0, x7, x8, x194000, x194001 => if x8 < x7 then (if 0 ≤ x8 then (if x8 < (x0.length : Int) then (if (x194000 == ((rd_T60 x0 x8).f0) && (x194001 == ((rd_T60 x0 x8).f1))) = true then (some x8) else (api_Excuse_49.l0 k x0 x7 (wrap64 (x8 + 1)) x194000 x194001)) else (none)) else (none)) else (some (-1))
def api_Excuse_49.f (k : Nat) (l0 : List (S60)) (a1_0 : Int) (a1_1 : Int) : Option (Int) := api_Excuse_49.l0 k l0 (l0.length : Int) 0 a1_0 a1_1
theorem api_Excuse_49.mono_l : ∀ k, (∀ y0 y1 y2 y3 y4, LeO (api_Excuse_49.l0 k y0 y1 y2 y3 y4) (api_Excuse_49.l0 (k + 1) y0 y1 y2 y3 y4))
  | 0 => fun _ _ _ _ _ r h => by simp [api_Excuse_49.l0] at h
  | k + 1 => by
    have ih0 := api_Excuse_49.mono_l k
    · intro y0 y1 y2 y3 y4
      unfold api_Excuse_49.l0
      repeat' first
      | (with_reducible exact ih0 _ _ _ _ _)
      | (with_reducible exact LeO.refl _)
      | (with_reducible exact LeO.none _)
      | (with_reducible refine LeO.ite ?_ ?_)
      | (with_reducible refine LeO.bind ?_ (fun _ => ?_))
      | exact ih0 _ _ _ _ _
      | exact LeO.none _
      | refine LeO.ite ?_ ?_
      | refine LeO.bind ?_ (fun _ => ?_)
theorem api_Excuse_49.mono : ∀ a0 a1 a2 k, LeO (api_Excuse_49.f k a0 a1 a2) (api_Excuse_49.f (k + 1) a0 a1 a2) := by
  intro a0 a1 a2 k
  have ih0 := api_Excuse_49.mono_l k
  unfold api_Excuse_49.f
  repeat' first
      | (with_reducible exact ih0 _ _ _ _ _)
      | (with_reducible exact LeO.refl _)
      | (with_reducible exact LeO.none _)
      | (with_reducible refine LeO.ite ?_ ?_)
      | (with_reducible refine LeO.bind ?_ (fun _ => ?_))
      | exact ih0 _ _ _ _ _
      | exact LeO.none _
      | refine LeO.ite ?_ ?_
      | refine LeO.bind ?_ (fun _ => ?_)
set_option maxHeartbeats 8000000 in
set_option maxRecDepth 100000 in
theorem api_Excuse_49.calls (k : Nat) (A0 : Option Addr) (c0 : Nat) (l0 : List (S60)) (a1_0 : Int) (a1_1 : Int) (r : Int) (w : World) (hr0 : Kd.C k60 w A0 l0.length l0) (hc0 : l0.length ≤ c0) (h : api_Excuse_49.f k l0 a1_0 a1_1 = some r) :
    Calls Try.prog 49 #[.slice A0 l0.length c0, .agg #[.int .i64 a1_0, .int .i64 a1_1]] w fun e w' => e = .returned (.int .i64 r) ∧ Below w.heap.size w w' := by
  have hu60 := Try.underlying60
  have HR0 := Aside0.mk hr0
  have HC0 := Aside0.mk hc0
  clear hr0 hc0
  have HB := Aside0.mk (Below.refl w.heap.size w)
  have H : (api_Excuse_49.l0 k l0 (l0.length : Int) 0 a1_0 a1_1) = some r := h
  clear h
  have H' := Aside0.mk H
  clear H
  go_enter Try.func49, Try.ntmps49
  go_wp2_with (first | ((with_reducible refine gate_dst (N := 3) rfl ?_); refine box_event ?hg (N := 3) ?hd (cs := #[.int .i64 a1_0, .int .i64 a1_1]) (t := 60) ?hr ?_; (case hd => rfl); (case hg => rfl); (case hr => first | (go_simp; done) | (go_simp; rfl)); intro gb193 hg w3 hbox hb; have n0_ := Aside0.mk (below_step (by repeat (first | (with_reducible first | exact HB.out | apply below_alloc | apply pw_below_drewN | apply below_drew1) | exact HB.out)) hb); have n1_ := Aside0.mk (hbox); have n2_ := Aside0.mk ((by rw [hg]; exact (below_size (by repeat (first | (with_reducible first | exact HB.out | apply below_alloc | apply pw_below_drewN | apply below_drew1) | exact HB.out))) : w.heap.size ≤ gb193)); have n3_ := Aside0.mk ((by rw [hg]; exact (below_size (by repeat (first | (with_reducible first | exact HB.out | apply below_alloc | apply pw_below_drewN | apply below_drew1) | exact HB.out))) : w.heap.size ≤ gb193)); clear HB; have HB := n0_; have BK193 := n1_; have GW193 := n2_; have GE193 := n3_; clear n0_ n1_ n2_ n3_; clear hb hbox hg))
  repeat (go_quiet (first | ((with_reducible refine gate_dst (N := 3) rfl ?_); refine box_event ?hg (N := 3) ?hd (cs := #[.int .i64 a1_0, .int .i64 a1_1]) (t := 60) ?hr ?_; (case hd => rfl); (case hg => rfl); (case hr => first | (go_simp; done) | (go_simp; rfl)); intro gb193 hg w3 hbox hb; have n0_ := Aside0.mk (below_step (by repeat (first | (with_reducible first | exact HB.out | apply below_alloc | apply pw_below_drewN | apply below_drew1) | exact HB.out)) hb); have n1_ := Aside0.mk (hbox); have n2_ := Aside0.mk ((by rw [hg]; exact (below_size (by repeat (first | (with_reducible first | exact HB.out | apply below_alloc | apply pw_below_drewN | apply below_drew1) | exact HB.out))) : w.heap.size ≤ gb193)); have n3_ := Aside0.mk ((by rw [hg]; exact (below_size (by repeat (first | (with_reducible first | exact HB.out | apply below_alloc | apply pw_below_drewN | apply below_drew1) | exact HB.out))) : w.heap.size ≤ gb193)); clear HB; have HB := n0_; have BK193 := n1_; have GW193 := n2_; have GE193 := n3_; clear n0_ n1_ n2_ n3_; clear hb hbox hg)); try go_wp2_with (first | ((with_reducible refine gate_dst (N := 3) rfl ?_); refine box_event ?hg (N := 3) ?hd (cs := #[.int .i64 a1_0, .int .i64 a1_1]) (t := 60) ?hr ?_; (case hd => rfl); (case hg => rfl); (case hr => first | (go_simp; done) | (go_simp; rfl)); intro gb193 hg w3 hbox hb; have n0_ := Aside0.mk (below_step (by repeat (first | (with_reducible first | exact HB.out | apply below_alloc | apply pw_below_drewN | apply below_drew1) | exact HB.out)) hb); have n1_ := Aside0.mk (hbox); have n2_ := Aside0.mk ((by rw [hg]; exact (below_size (by repeat (first | (with_reducible first | exact HB.out | apply below_alloc | apply pw_below_drewN | apply below_drew1) | exact HB.out))) : w.heap.size ≤ gb193)); have n3_ := Aside0.mk ((by rw [hg]; exact (below_size (by repeat (first | (with_reducible first | exact HB.out | apply below_alloc | apply pw_below_drewN | apply below_drew1) | exact HB.out))) : w.heap.size ≤ gb193)); clear HB; have HB := n0_; have BK193 := n1_; have GW193 := n2_; have GE193 := n3_; clear n0_ n1_ n2_ n3_; clear hb hbox hg)))
  go_loopg [8] k (fun kq v8 w' => ∃ (x8_1 : Int), v8 = .int .i64 x8_1 ∧ Aside0 (api_Excuse_49.l0 kq l0 (l0.length : Int) x8_1 a1_0 a1_1 = some r) ∧ Aside0 (kq ≤ k) ∧ Aside0 (w'.heap[gb193]? = some (.cells #[.int .i64 a1_0, .int .i64 a1_1] 60 (0, 0))) ∧ Aside0 (Below w.heap.size w w'))
  case atStart => exact ⟨(0), (by first | rfl | (simp; done) | (simp [*]; done)), H', ⟨Nat.le_refl _⟩, ⟨by (with_reducible repeat (first | refine blk_drewN ?_ _ | refine blk_drew ?_ | refine blk_alloc ?_ _)); exact BK193.out⟩, ⟨by repeat (first | (with_reducible first | exact HB.out | apply below_alloc | apply pw_below_drewN | apply below_drew1 | refine below_set ?_ GE193.out) | exact HB.out)⟩⟩
  case round =>
    clear H'
    try clear p2
    obtain ⟨x8_1, rfl, HA, HK1, BK193, HB⟩ := hrel
    cases gk with
    | zero => exact absurd HA.out (by simp [api_Excuse_49.l0])
    | succ k1 =>
      have H := HA.out
      clear HA
      simp only [api_Excuse_49.l0] at H
      by_cases c4 : x8_1 < (l0.length : Int)
      · rw [if_pos c4] at H
        have c4b0 : decide (x8_1 < (l0.length : Int)) = true := decide_eq_true c4
        clear c4
        by_cases c5 : 0 ≤ x8_1
        · rw [if_pos c5] at H
          have c5b0 : decide (0 ≤ x8_1) = true := decide_eq_true c5
          clear c5
          by_cases c6 : x8_1 < (l0.length : Int)
          · rw [if_pos c6] at H
            have c6b0 : decide (x8_1 < (l0.length : Int)) = true := decide_eq_true c6
            clear c6
            by_cases c7 : (a1_0 == ((rd_T60 l0 x8_1).f0) && (a1_1 == ((rd_T60 l0 x8_1).f1))) = true
            · rw [if_pos c7] at H
              have c7b0 : (a1_0 == ((rd_T60 l0 x8_1).f0) && (a1_1 == ((rd_T60 l0 x8_1).f1))) = true := c7
              (try (have c7b1 : decide (a1_0 = ((rd_T60 l0 x8_1).f0) && (a1_1 == ((rd_T60 l0 x8_1).f1))) = true := by simpa using c7))
              (try (have c7b2 : (a1_0 == ((rd_T60 l0 x8_1).f0) && (a1_1 == ((rd_T60 l0 x8_1).f1))) = true := by simpa using c7))
              clear c7
              obtain rfl := Option.some.inj H
              have hcz8_0 : wr.cell? ⟨gb193, 0, none⟩ = some (.int .i64 a1_0) := (blk_cell BK193.out 0).trans rfl
              have hcz8_1 : wr.cell? ⟨gb193, 1, none⟩ = some (.int .i64 a1_1) := (blk_cell BK193.out 1).trans rfl
              have hfz8_0 := blk_frozen BK193.out 0
              have hfz8_1 := blk_frozen BK193.out 1
              have p194 : 0 ≤ (x8_1 : Int) := of_decide_eq_true (by first | (with_reducible assumption) | assumption)
              have q194 : x8_1 < (l0.length : Int) := of_decide_eq_true (by first | (with_reducible assumption) | assumption)
              obtain ⟨ad194, e194, hx194_0, hx194_1⟩ := at_T60 HR0.out x8_1 p194 q194
              cases e194
              replace hx194_0 := (HB.out.cell (World.block_lt_of_cell? w _ hx194_0)).trans hx194_0
              replace hx194_1 := (HB.out.cell (World.block_lt_of_cell? w _ hx194_1)).trans hx194_1
              replace p194 := eq_true p194
              replace q194 := eq_true q194
              go_wp2
              repeat (go_quiet (fail); try go_wp2)
              go_ret
              exact ⟨by first | rfl | (simp [errW_none, errW_some] <;> rfl) | (simp [*, errW_none, errW_some] <;> rfl), by repeat (first | (with_reducible first | exact HB.out | apply below_alloc | apply pw_below_drewN | apply below_drew1 | refine below_set ?_ GE193.out) | exact HB.out)⟩
            · rw [if_neg c7] at H
              have c7b0 : (a1_0 == ((rd_T60 l0 x8_1).f0) && (a1_1 == ((rd_T60 l0 x8_1).f1))) = false := by simpa using c7
              (try (have c7b1 : decide (a1_0 = ((rd_T60 l0 x8_1).f0) && (a1_1 == ((rd_T60 l0 x8_1).f1))) = false := by simpa using c7))
              (try (have c7b2 : (a1_0 == ((rd_T60 l0 x8_1).f0) && (a1_1 == ((rd_T60 l0 x8_1).f1))) = false := by simpa using c7))
              (try (have c7b3 : ¬ (a1_0 = ((rd_T60 l0 x8_1).f0) && (a1_1 == ((rd_T60 l0 x8_1).f1))) := by simpa using c7))
              clear c7
              have H' := Aside0.mk H
              clear H
              have hcz9_0 : wr.cell? ⟨gb193, 0, none⟩ = some (.int .i64 a1_0) := (blk_cell BK193.out 0).trans rfl
              have hcz9_1 : wr.cell? ⟨gb193, 1, none⟩ = some (.int .i64 a1_1) := (blk_cell BK193.out 1).trans rfl
              have hfz9_0 := blk_frozen BK193.out 0
              have hfz9_1 := blk_frozen BK193.out 1
              have p194 : 0 ≤ (x8_1 : Int) := of_decide_eq_true (by first | (with_reducible assumption) | assumption)
              have q194 : x8_1 < (l0.length : Int) := of_decide_eq_true (by first | (with_reducible assumption) | assumption)
              obtain ⟨ad194, e194, hx194_0, hx194_1⟩ := at_T60 HR0.out x8_1 p194 q194
              cases e194
              replace hx194_0 := (HB.out.cell (World.block_lt_of_cell? w _ hx194_0)).trans hx194_0
              replace hx194_1 := (HB.out.cell (World.block_lt_of_cell? w _ hx194_1)).trans hx194_1
              replace p194 := eq_true p194
              replace q194 := eq_true q194
              go_wp2
              repeat (go_quiet (fail); try go_wp2)
              go_roundg k1
              case measure => have := HK1.out; omega
              case rel => exact ⟨(wrap64 (x8_1 + 1)), (by first | rfl | (simp; done) | (simp [*]; done)), H', ⟨by have := HK1.out; omega⟩, ⟨by (with_reducible repeat (first | refine blk_drewN ?_ _ | refine blk_drew ?_ | refine blk_alloc ?_ _)); exact BK193.out⟩, ⟨by repeat (first | (with_reducible first | exact HB.out | apply below_alloc | apply pw_below_drewN | apply below_drew1 | refine below_set ?_ GE193.out) | exact HB.out)⟩⟩
          · rw [if_neg c6] at H
            exact absurd H (by simp)
        · rw [if_neg c5] at H
          exact absurd H (by simp)
      · rw [if_neg c4] at H
        have c4b0 : decide (x8_1 < (l0.length : Int)) = false := decide_eq_false c4
        clear c4
        obtain rfl := Option.some.inj H
        go_wp2
        repeat (go_quiet (fail); try go_wp2)
        go_ret
        exact ⟨by first | rfl | (simp [errW_none, errW_some] <;> rfl) | (simp [*, errW_none, errW_some] <;> rfl), by repeat (first | (with_reducible first | exact HB.out | apply below_alloc | apply pw_below_drewN | apply below_drew1 | refine below_set ?_ GE193.out) | exact HB.out)⟩

/-! ### api_Excuse_39: function 39 -/
def api_Excuse_39.f (k : Nat) (l0 : List (S60)) (a1_0 : Int) (a1_1 : Int) : Option (Bool) := (api_Excuse_49.f k l0 a1_0 a1_1).bind fun t196 => (some (decide (t196 ≥ 0)))
theorem api_Excuse_39.mono : ∀ a0 a1 a2 k, LeO (api_Excuse_39.f k a0 a1 a2) (api_Excuse_39.f (k + 1) a0 a1 a2) := by
  intro a0 a1 a2 k
  unfold api_Excuse_39.f
  repeat' first
      | (with_reducible exact api_Excuse_49.mono _ _ _ _)
      | (with_reducible exact LeO.refl _)
      | (with_reducible exact LeO.none _)
      | (with_reducible refine LeO.ite ?_ ?_)
      | (with_reducible refine LeO.bind ?_ (fun _ => ?_))
      | exact api_Excuse_49.mono _ _ _ _
      | exact LeO.none _
      | refine LeO.ite ?_ ?_
      | refine LeO.bind ?_ (fun _ => ?_)
set_option maxHeartbeats 8000000 in
set_option maxRecDepth 100000 in
theorem api_Excuse_39.calls (k : Nat) (A0 : Option Addr) (c0 : Nat) (l0 : List (S60)) (a1_0 : Int) (a1_1 : Int) (r : Bool) (w : World) (hr0 : Kd.C k60 w A0 l0.length l0) (hc0 : l0.length ≤ c0) (h : api_Excuse_39.f k l0 a1_0 a1_1 = some r) :
    Calls Try.prog 39 #[.slice A0 l0.length c0, .agg #[.int .i64 a1_0, .int .i64 a1_1]] w fun e w' => e = .returned (.bool r) ∧ Below w.heap.size w w' := by
  have hu60 := Try.underlying60
  have HR0 := Aside0.mk hr0
  have HC0 := Aside0.mk hc0
  clear hr0 hc0
  have HB := Aside0.mk (Below.refl w.heap.size w)
  have H : ((api_Excuse_49.f k l0 a1_0 a1_1).bind fun t196 => (some (decide (t196 ≥ 0)))) = some r := h
  clear h
  replace H := Option.bind_eq_some_iff.mp H
  obtain ⟨t196, A30, H⟩ := H
  replace H : (some (decide (t196 ≥ 0))) = some r := H
  have A3 := Aside0.mk A30
  clear A30
  obtain rfl := Option.some.inj H
  go_enter Try.func39, Try.ntmps39
  go_wp2_with (first | ((with_reducible refine gate_dst (N := 3) rfl ?_); refine box_event ?hg (N := 3) ?hd (cs := #[.int .i64 a1_0, .int .i64 a1_1]) (t := 60) ?hr ?_; (case hd => rfl); (case hg => rfl); (case hr => first | (go_simp; done) | (go_simp; rfl)); intro gb195 hg w4 hbox hb; have n0_ := Aside0.mk (below_step (by repeat (first | (with_reducible first | exact HB.out | apply below_alloc | apply pw_below_drewN | apply below_drew1) | exact HB.out)) hb); have n1_ := Aside0.mk (hbox); have n2_ := Aside0.mk ((by rw [hg]; exact (below_size (by repeat (first | (with_reducible first | exact HB.out | apply below_alloc | apply pw_below_drewN | apply below_drew1) | exact HB.out))) : w.heap.size ≤ gb195)); have n3_ := Aside0.mk ((by rw [hg]; exact (below_size (by repeat (first | (with_reducible first | exact HB.out | apply below_alloc | apply pw_below_drewN | apply below_drew1) | exact HB.out))) : w.heap.size ≤ gb195)); clear HB; have HB := n0_; have BK195 := n1_; have GW195 := n2_; have GE195 := n3_; clear n0_ n1_ n2_ n3_; clear hb hbox hg; have hcz5_0 : w4.cell? ⟨gb195, 0, none⟩ = some (.int .i64 a1_0) := (blk_cell BK195.out 0).trans rfl; have hcz5_1 : w4.cell? ⟨gb195, 1, none⟩ = some (.int .i64 a1_1) := (blk_cell BK195.out 1).trans rfl; have hfz5_0 := blk_frozen BK195.out 0; have hfz5_1 := blk_frozen BK195.out 1) | ((with_reducible refine gate_callee (f := 49) rfl ?_); refine goesL_ (some 7) rfl rfl Try.func49 (by kernel_rfl) rfl #[.slice A0 l0.length c0, .agg #[.int .i64 a1_0, .int .i64 a1_1]] rfl (by (try simp only [List.map_toArray, List.map_cons, List.map_nil]); first | done | rfl | (simp only [List.length_drop, List.length_take]; rfl)) ?_; (with_reducible refine (api_Excuse_49.calls k _ _ l0 a1_0 a1_1 t196 _ ?side1 ?side2 A3.out).mono ?_); (case side1 => repeat (first | exact (Kd.C_below HR0.out HB.out) | (with_reducible refine Kd.C_alloc ?_ _) | (with_reducible refine Kd.C_drewN ?_ _) | (with_reducible refine Kd.C_drew ?_))); (case side2 => exact HC0.out); rintro e w6 ⟨rfl, hb⟩; refine ⟨_, rfl, ?_⟩; have n0_ := Aside0.mk (blk_below (g := gb195) (o := .cells #[.int .i64 a1_0, .int .i64 a1_1] 60 (0, 0)) (by (with_reducible repeat (first | refine blk_drewN ?_ _ | refine blk_drew ?_ | refine blk_alloc ?_ _)); exact BK195.out) hb); have n1_ := Aside0.mk (below_step (by repeat (first | (with_reducible first | exact HB.out | apply below_alloc | apply pw_below_drewN | apply below_drew1 | refine below_set ?_ GE195.out) | exact HB.out)) hb); clear BK195; clear HB; have BK195 := n0_; have HB := n1_; clear n0_ n1_; (try clear hb); (try clear hb2); (try clear hk); (try clear hi)))
  go_ret
  exact ⟨by first | rfl | (simp [errW_none, errW_some] <;> rfl) | (simp [*, errW_none, errW_some] <;> rfl), by repeat (first | (with_reducible first | exact HB.out | apply below_alloc | apply pw_below_drewN | apply below_drew1 | refine below_set ?_ GE195.out) | exact HB.out)⟩

-- NOT PRINTED: function 20 (call_Check)

/-! ### bournelaw38_fork: function 27 -/
def bournelaw38_fork.f  : Option (V1 × V1 × V1 × (List (S79)) × V1 × V1 × V1 × V1 × V1 × V1 × V1) := some ((V1.mk (.string ⟨#[]⟩) rfl), (V1.mk (.slice none 0 0) rfl), (V1.mk (.int .i64 0) rfl), (([(⟨(V1.mk (.string ⟨#[]⟩) rfl), (V1.mk (.int .i64 0) rfl), (V1.mk (.int .i64 0) rfl), (V1.mk (.int .i64 0) rfl), (V1.mk (.slice none 0 0) rfl), (V1.mk (.slice none 0 0) rfl), (V1.mk (.int .i64 0) rfl), (V1.mk (.int .i64 0) rfl), 2, 0, (V1.mk (.int .i64 0) rfl), (V1.mk (.slice none 0 0) rfl)⟩ : S79), (⟨(V1.mk (.string ⟨#[]⟩) rfl), (V1.mk (.int .i64 0) rfl), (V1.mk (.int .i64 0) rfl), (V1.mk (.int .i64 0) rfl), (V1.mk (.slice none 0 0) rfl), (V1.mk (.slice none 0 0) rfl), (V1.mk (.int .i64 0) rfl), (V1.mk (.int .i64 0) rfl), 2, 0, (V1.mk (.int .i64 0) rfl), (V1.mk (.slice none 0 0) rfl)⟩ : S79), (⟨(V1.mk (.string ⟨#[]⟩) rfl), (V1.mk (.int .i64 0) rfl), (V1.mk (.int .i64 0) rfl), (V1.mk (.int .i64 0) rfl), (V1.mk (.slice none 0 0) rfl), (V1.mk (.slice none 0 0) rfl), (V1.mk (.int .i64 0) rfl), (V1.mk (.int .i64 0) rfl), (-1), 0, (V1.mk (.int .i64 0) rfl), (V1.mk (.slice none 0 0) rfl)⟩ : S79), (⟨(V1.mk (.string ⟨#[]⟩) rfl), (V1.mk (.int .i64 0) rfl), (V1.mk (.int .i64 0) rfl), (V1.mk (.int .i64 0) rfl), (V1.mk (.slice none 0 0) rfl), (V1.mk (.slice none 0 0) rfl), (V1.mk (.int .i64 0) rfl), (V1.mk (.int .i64 0) rfl), (-1), 0, (V1.mk (.int .i64 0) rfl), (V1.mk (.slice none 0 0) rfl)⟩ : S79)] : List (S79))), (V1.mk (.slice none 0 0) rfl), (V1.mk (.slice none 0 0) rfl), (V1.mk (.slice none 0 0) rfl), (V1.mk (.slice none 0 0) rfl), (V1.mk (.slice none 0 0) rfl), (V1.mk (.slice none 0 0) rfl), (V1.mk (.int .i64 0) rfl))
set_option maxHeartbeats 8000000 in
set_option maxRecDepth 100000 in
theorem bournelaw38_fork.calls  (r1 : V1) (r2 : V1) (r3 : V1) (r4 : List (S79)) (r5 : V1) (r6 : V1) (r7 : V1) (r8 : V1) (r9 : V1) (r10 : V1) (r11 : V1) (w : World) (h : bournelaw38_fork.f  = some (r1, r2, r3, r4, r5, r6, r7, r8, r9, r10, r11)) :
    Calls Try.prog 27 #[] w fun e w' => ∃ v3_ : Value, e = .returned (.agg #[r1.v, r2.v, r3.v, v3_, r5.v, r6.v, r7.v, r8.v, r9.v, r10.v, r11.v]) ∧ Kd.R k79 79 w' w.heap.size (fun _ => True) v3_ r4 ∧ Below w.heap.size w w' := by
  have hu31 := Try.underlying31
  have hu79 := Try.underlying79
  have HB := Aside0.mk (Below.refl w.heap.size w)
  have H : (some ((V1.mk (.string ⟨#[]⟩) rfl), (V1.mk (.slice none 0 0) rfl), (V1.mk (.int .i64 0) rfl), (([(⟨(V1.mk (.string ⟨#[]⟩) rfl), (V1.mk (.int .i64 0) rfl), (V1.mk (.int .i64 0) rfl), (V1.mk (.int .i64 0) rfl), (V1.mk (.slice none 0 0) rfl), (V1.mk (.slice none 0 0) rfl), (V1.mk (.int .i64 0) rfl), (V1.mk (.int .i64 0) rfl), 2, 0, (V1.mk (.int .i64 0) rfl), (V1.mk (.slice none 0 0) rfl)⟩ : S79), (⟨(V1.mk (.string ⟨#[]⟩) rfl), (V1.mk (.int .i64 0) rfl), (V1.mk (.int .i64 0) rfl), (V1.mk (.int .i64 0) rfl), (V1.mk (.slice none 0 0) rfl), (V1.mk (.slice none 0 0) rfl), (V1.mk (.int .i64 0) rfl), (V1.mk (.int .i64 0) rfl), 2, 0, (V1.mk (.int .i64 0) rfl), (V1.mk (.slice none 0 0) rfl)⟩ : S79), (⟨(V1.mk (.string ⟨#[]⟩) rfl), (V1.mk (.int .i64 0) rfl), (V1.mk (.int .i64 0) rfl), (V1.mk (.int .i64 0) rfl), (V1.mk (.slice none 0 0) rfl), (V1.mk (.slice none 0 0) rfl), (V1.mk (.int .i64 0) rfl), (V1.mk (.int .i64 0) rfl), (-1), 0, (V1.mk (.int .i64 0) rfl), (V1.mk (.slice none 0 0) rfl)⟩ : S79), (⟨(V1.mk (.string ⟨#[]⟩) rfl), (V1.mk (.int .i64 0) rfl), (V1.mk (.int .i64 0) rfl), (V1.mk (.int .i64 0) rfl), (V1.mk (.slice none 0 0) rfl), (V1.mk (.slice none 0 0) rfl), (V1.mk (.int .i64 0) rfl), (V1.mk (.int .i64 0) rfl), (-1), 0, (V1.mk (.int .i64 0) rfl), (V1.mk (.slice none 0 0) rfl)⟩ : S79)] : List (S79))), (V1.mk (.slice none 0 0) rfl), (V1.mk (.slice none 0 0) rfl), (V1.mk (.slice none 0 0) rfl), (V1.mk (.slice none 0 0) rfl), (V1.mk (.slice none 0 0) rfl), (V1.mk (.slice none 0 0) rfl), (V1.mk (.int .i64 0) rfl))) = some (r1, r2, r3, r4, r5, r6, r7, r8, r9, r10, r11) := h
  clear h
  obtain ⟨y199, hy199⟩ : ∃ y_ : List (S79), y_ = (([(⟨(V1.mk (.string ⟨#[]⟩) rfl), (V1.mk (.int .i64 0) rfl), (V1.mk (.int .i64 0) rfl), (V1.mk (.int .i64 0) rfl), (V1.mk (.slice none 0 0) rfl), (V1.mk (.slice none 0 0) rfl), (V1.mk (.int .i64 0) rfl), (V1.mk (.int .i64 0) rfl), 2, 0, (V1.mk (.int .i64 0) rfl), (V1.mk (.slice none 0 0) rfl)⟩ : S79), (⟨(V1.mk (.string ⟨#[]⟩) rfl), (V1.mk (.int .i64 0) rfl), (V1.mk (.int .i64 0) rfl), (V1.mk (.int .i64 0) rfl), (V1.mk (.slice none 0 0) rfl), (V1.mk (.slice none 0 0) rfl), (V1.mk (.int .i64 0) rfl), (V1.mk (.int .i64 0) rfl), 2, 0, (V1.mk (.int .i64 0) rfl), (V1.mk (.slice none 0 0) rfl)⟩ : S79), (⟨(V1.mk (.string ⟨#[]⟩) rfl), (V1.mk (.int .i64 0) rfl), (V1.mk (.int .i64 0) rfl), (V1.mk (.int .i64 0) rfl), (V1.mk (.slice none 0 0) rfl), (V1.mk (.slice none 0 0) rfl), (V1.mk (.int .i64 0) rfl), (V1.mk (.int .i64 0) rfl), (-1), 0, (V1.mk (.int .i64 0) rfl), (V1.mk (.slice none 0 0) rfl)⟩ : S79), (⟨(V1.mk (.string ⟨#[]⟩) rfl), (V1.mk (.int .i64 0) rfl), (V1.mk (.int .i64 0) rfl), (V1.mk (.int .i64 0) rfl), (V1.mk (.slice none 0 0) rfl), (V1.mk (.slice none 0 0) rfl), (V1.mk (.int .i64 0) rfl), (V1.mk (.int .i64 0) rfl), (-1), 0, (V1.mk (.int .i64 0) rfl), (V1.mk (.slice none 0 0) rfl)⟩ : S79)] : List (S79))) := ⟨_, rfl⟩
  replace H : (some ((V1.mk (.string ⟨#[]⟩) rfl), (V1.mk (.slice none 0 0) rfl), (V1.mk (.int .i64 0) rfl), y199, (V1.mk (.slice none 0 0) rfl), (V1.mk (.slice none 0 0) rfl), (V1.mk (.slice none 0 0) rfl), (V1.mk (.slice none 0 0) rfl), (V1.mk (.slice none 0 0) rfl), (V1.mk (.slice none 0 0) rfl), (V1.mk (.int .i64 0) rfl))) = some (r1, r2, r3, r4, r5, r6, r7, r8, r9, r10, r11) := by first | (rw [hy199]; with_reducible exact H) | (have H2_ := (Option.bind_some _ _).symm.trans H; rw [hy199]; with_reducible exact H2_) | (have H2_ := (Option.bind_some _ _).symm.trans H; with_reducible exact H2_) | with_reducible exact H | (rw [hy199]; exact H) | exact H
  have Ny199 := Aside0.mk hy199
  clear hy199
  simp only [Option.some.injEq, Prod.mk.injEq] at H
  obtain ⟨rfl, rfl, rfl, rfl, rfl, rfl, rfl, rfl, rfl, rfl, rfl⟩ := H
  go_enter Try.func27, Try.ntmps27
  go_wp2_with (first | ((with_reducible refine gate_dst (N := 0) rfl ?_); refine box_event ?hg (N := 0) ?hd (cs := #[.string ⟨#[]⟩, .slice none 0 0, .int .i64 0, .slice none 0 0, .slice none 0 0, .slice none 0 0, .slice none 0 0, .slice none 0 0, .slice none 0 0, .slice none 0 0, .int .i64 0]) (t := 31) ?hr ?_; (case hd => rfl); (case hg => rfl); (case hr => first | (go_simp; done) | (go_simp; rfl)); intro gb198 hg w1 hbox hb; have n0_ := Aside0.mk (below_step (by repeat (first | (with_reducible first | exact HB.out | apply below_alloc | apply pw_below_drewN | apply below_drew1) | exact HB.out)) hb); have n1_ := Aside0.mk (hbox); have n2_ := Aside0.mk ((by rw [hg]; exact (below_size (by repeat (first | (with_reducible first | exact HB.out | apply below_alloc | apply pw_below_drewN | apply below_drew1) | exact HB.out))) : w.heap.size ≤ gb198)); have n3_ := Aside0.mk ((by rw [hg]; exact (below_size (by repeat (first | (with_reducible first | exact HB.out | apply below_alloc | apply pw_below_drewN | apply below_drew1) | exact HB.out))) : w.heap.size ≤ gb198)); clear HB; have HB := n0_; have BK198 := n1_; have GW198 := n2_; have GE198 := n3_; clear n0_ n1_ n2_ n3_; clear hb hbox hg) | ((with_reducible refine gate_dst (N := 5) rfl ?_); refine Kd.R_lit k79 _ 79 ?hg (N := 5) ?hd (xs := ([(⟨(V1.mk (.string ⟨#[]⟩) rfl), (V1.mk (.int .i64 0) rfl), (V1.mk (.int .i64 0) rfl), (V1.mk (.int .i64 0) rfl), (V1.mk (.slice none 0 0) rfl), (V1.mk (.slice none 0 0) rfl), (V1.mk (.int .i64 0) rfl), (V1.mk (.int .i64 0) rfl), 2, 0, (V1.mk (.int .i64 0) rfl), (V1.mk (.slice none 0 0) rfl)⟩ : S79), (⟨(V1.mk (.string ⟨#[]⟩) rfl), (V1.mk (.int .i64 0) rfl), (V1.mk (.int .i64 0) rfl), (V1.mk (.int .i64 0) rfl), (V1.mk (.slice none 0 0) rfl), (V1.mk (.slice none 0 0) rfl), (V1.mk (.int .i64 0) rfl), (V1.mk (.int .i64 0) rfl), 2, 0, (V1.mk (.int .i64 0) rfl), (V1.mk (.slice none 0 0) rfl)⟩ : S79), (⟨(V1.mk (.string ⟨#[]⟩) rfl), (V1.mk (.int .i64 0) rfl), (V1.mk (.int .i64 0) rfl), (V1.mk (.int .i64 0) rfl), (V1.mk (.slice none 0 0) rfl), (V1.mk (.slice none 0 0) rfl), (V1.mk (.int .i64 0) rfl), (V1.mk (.int .i64 0) rfl), (-1), 0, (V1.mk (.int .i64 0) rfl), (V1.mk (.slice none 0 0) rfl)⟩ : S79), (⟨(V1.mk (.string ⟨#[]⟩) rfl), (V1.mk (.int .i64 0) rfl), (V1.mk (.int .i64 0) rfl), (V1.mk (.int .i64 0) rfl), (V1.mk (.slice none 0 0) rfl), (V1.mk (.slice none 0 0) rfl), (V1.mk (.int .i64 0) rfl), (V1.mk (.int .i64 0) rfl), (-1), 0, (V1.mk (.int .i64 0) rfl), (V1.mk (.slice none 0 0) rfl)⟩ : S79)] : List (S79))) (inner := [.string ⟨#[]⟩, .int .i64 0, .int .i64 0, .int .i64 0, .slice none 0 0, .slice none 0 0, .int .i64 0, .int .i64 0, .int .i64 2, .int .i64 0, .int .i64 0, .slice none 0 0, .string ⟨#[]⟩, .int .i64 0, .int .i64 0, .int .i64 0, .slice none 0 0, .slice none 0 0, .int .i64 0, .int .i64 0, .int .i64 2, .int .i64 0, .int .i64 0, .slice none 0 0, .string ⟨#[]⟩, .int .i64 0, .int .i64 0, .int .i64 0, .slice none 0 0, .slice none 0 0, .int .i64 0, .int .i64 0, .int .i64 (-1), .int .i64 0, .int .i64 0, .slice none 0 0, .string ⟨#[]⟩, .int .i64 0, .int .i64 0, .int .i64 0, .slice none 0 0, .slice none 0 0, .int .i64 0, .int .i64 0, .int .i64 (-1), .int .i64 0, .int .i64 0, .slice none 0 0]) (ok := fun _ => True) (okp := fun _ => True) ?hr ?hp (fun _ hk => hk) trivial (Below.refl _ _) (Nat.le_refl _) (by simp) ?_; (case hd => rfl); (case hg => rfl); (case hr => first | (go_simp; done) | (go_simp; rfl)); (case hp => exact (Reps.front (show Kd.M k79 _ _ _ (⟨(V1.mk (.string ⟨#[]⟩) rfl), (V1.mk (.int .i64 0) rfl), (V1.mk (.int .i64 0) rfl), (V1.mk (.int .i64 0) rfl), (V1.mk (.slice none 0 0) rfl), (V1.mk (.slice none 0 0) rfl), (V1.mk (.int .i64 0) rfl), (V1.mk (.int .i64 0) rfl), 2, 0, (V1.mk (.int .i64 0) rfl), (V1.mk (.slice none 0 0) rfl)⟩ : S79) [.string ⟨#[]⟩, .int .i64 0, .int .i64 0, .int .i64 0, .slice none 0 0, .slice none 0 0, .int .i64 0, .int .i64 0, .int .i64 2, .int .i64 0, .int .i64 0, .slice none 0 0] from (k79_mkM _ _ _ (⟨(V1.mk (.string ⟨#[]⟩) rfl), (V1.mk (.int .i64 0) rfl), (V1.mk (.int .i64 0) rfl), (V1.mk (.int .i64 0) rfl), (V1.mk (.slice none 0 0) rfl), (V1.mk (.slice none 0 0) rfl), (V1.mk (.int .i64 0) rfl), (V1.mk (.int .i64 0) rfl), 2, 0, (V1.mk (.int .i64 0) rfl), (V1.mk (.slice none 0 0) rfl)⟩ : S79) )) rfl (Reps.front (show Kd.M k79 _ _ _ (⟨(V1.mk (.string ⟨#[]⟩) rfl), (V1.mk (.int .i64 0) rfl), (V1.mk (.int .i64 0) rfl), (V1.mk (.int .i64 0) rfl), (V1.mk (.slice none 0 0) rfl), (V1.mk (.slice none 0 0) rfl), (V1.mk (.int .i64 0) rfl), (V1.mk (.int .i64 0) rfl), 2, 0, (V1.mk (.int .i64 0) rfl), (V1.mk (.slice none 0 0) rfl)⟩ : S79) [.string ⟨#[]⟩, .int .i64 0, .int .i64 0, .int .i64 0, .slice none 0 0, .slice none 0 0, .int .i64 0, .int .i64 0, .int .i64 2, .int .i64 0, .int .i64 0, .slice none 0 0] from (k79_mkM _ _ _ (⟨(V1.mk (.string ⟨#[]⟩) rfl), (V1.mk (.int .i64 0) rfl), (V1.mk (.int .i64 0) rfl), (V1.mk (.int .i64 0) rfl), (V1.mk (.slice none 0 0) rfl), (V1.mk (.slice none 0 0) rfl), (V1.mk (.int .i64 0) rfl), (V1.mk (.int .i64 0) rfl), 2, 0, (V1.mk (.int .i64 0) rfl), (V1.mk (.slice none 0 0) rfl)⟩ : S79) )) rfl (Reps.front (show Kd.M k79 _ _ _ (⟨(V1.mk (.string ⟨#[]⟩) rfl), (V1.mk (.int .i64 0) rfl), (V1.mk (.int .i64 0) rfl), (V1.mk (.int .i64 0) rfl), (V1.mk (.slice none 0 0) rfl), (V1.mk (.slice none 0 0) rfl), (V1.mk (.int .i64 0) rfl), (V1.mk (.int .i64 0) rfl), (-1), 0, (V1.mk (.int .i64 0) rfl), (V1.mk (.slice none 0 0) rfl)⟩ : S79) [.string ⟨#[]⟩, .int .i64 0, .int .i64 0, .int .i64 0, .slice none 0 0, .slice none 0 0, .int .i64 0, .int .i64 0, .int .i64 (-1), .int .i64 0, .int .i64 0, .slice none 0 0] from (k79_mkM _ _ _ (⟨(V1.mk (.string ⟨#[]⟩) rfl), (V1.mk (.int .i64 0) rfl), (V1.mk (.int .i64 0) rfl), (V1.mk (.int .i64 0) rfl), (V1.mk (.slice none 0 0) rfl), (V1.mk (.slice none 0 0) rfl), (V1.mk (.int .i64 0) rfl), (V1.mk (.int .i64 0) rfl), (-1), 0, (V1.mk (.int .i64 0) rfl), (V1.mk (.slice none 0 0) rfl)⟩ : S79) )) rfl (Reps.front (show Kd.M k79 _ _ _ (⟨(V1.mk (.string ⟨#[]⟩) rfl), (V1.mk (.int .i64 0) rfl), (V1.mk (.int .i64 0) rfl), (V1.mk (.int .i64 0) rfl), (V1.mk (.slice none 0 0) rfl), (V1.mk (.slice none 0 0) rfl), (V1.mk (.int .i64 0) rfl), (V1.mk (.int .i64 0) rfl), (-1), 0, (V1.mk (.int .i64 0) rfl), (V1.mk (.slice none 0 0) rfl)⟩ : S79) [.string ⟨#[]⟩, .int .i64 0, .int .i64 0, .int .i64 0, .slice none 0 0, .slice none 0 0, .int .i64 0, .int .i64 0, .int .i64 (-1), .int .i64 0, .int .i64 0, .slice none 0 0] from (k79_mkM _ _ _ (⟨(V1.mk (.string ⟨#[]⟩) rfl), (V1.mk (.int .i64 0) rfl), (V1.mk (.int .i64 0) rfl), (V1.mk (.int .i64 0) rfl), (V1.mk (.slice none 0 0) rfl), (V1.mk (.slice none 0 0) rfl), (V1.mk (.int .i64 0) rfl), (V1.mk (.int .i64 0) rfl), (-1), 0, (V1.mk (.int .i64 0) rfl), (V1.mk (.slice none 0 0) rfl)⟩ : S79) )) rfl (Reps.none _ _) rfl) rfl) rfl) rfl)); intro v200 w2 ho3 hb hg_ hnew_; clear hg_ hnew_; (first | rw [← Ny199.out] at ho3 | (simp only [Int.reduceToNat] at ho3; rw [← Ny199.out] at ho3)); have n0_ := Aside0.mk (Kd.R_lower ho3 (below_size (by repeat (first | (with_reducible first | exact HB.out | apply below_alloc | apply pw_below_drewN | apply below_drew1 | refine below_set ?_ GE198.out) | exact HB.out)))); have n1_ := Aside0.mk (blk_below (g := gb198) (o := .cells #[.string ⟨#[]⟩, .slice none 0 0, .int .i64 0, .slice none 0 0, .slice none 0 0, .slice none 0 0, .slice none 0 0, .slice none 0 0, .slice none 0 0, .slice none 0 0, .int .i64 0] 31 (0, 0)) (by (with_reducible repeat (first | refine blk_drewN ?_ _ | refine blk_drew ?_ | refine blk_alloc ?_ _)); exact BK198.out) hb); have n2_ := Aside0.mk (below_step (by repeat (first | (with_reducible first | exact HB.out | apply below_alloc | apply pw_below_drewN | apply below_drew1 | refine below_set ?_ GE198.out) | exact HB.out)) hb); clear BK198; clear HB; have HO201 := n0_; have BK198 := n1_; have HB := n2_; clear n0_ n1_ n2_; clear hb ho3; obtain ⟨Ao4, co4, eo4⟩ := Kd.R_slice HO201.out; subst eo4; have hcz5_0 : w2.cell? ⟨gb198, 0, none⟩ = some (.string ⟨#[]⟩) := (blk_cell BK198.out 0).trans rfl; have hcz5_1 : w2.cell? ⟨gb198, 1, none⟩ = some (.slice none 0 0) := (blk_cell BK198.out 1).trans rfl; have hcz5_2 : w2.cell? ⟨gb198, 2, none⟩ = some (.int .i64 0) := (blk_cell BK198.out 2).trans rfl; have hcz5_3 : w2.cell? ⟨gb198, 3, none⟩ = some (.slice none 0 0) := (blk_cell BK198.out 3).trans rfl; have hcz5_4 : w2.cell? ⟨gb198, 4, none⟩ = some (.slice none 0 0) := (blk_cell BK198.out 4).trans rfl; have hcz5_5 : w2.cell? ⟨gb198, 5, none⟩ = some (.slice none 0 0) := (blk_cell BK198.out 5).trans rfl; have hcz5_6 : w2.cell? ⟨gb198, 6, none⟩ = some (.slice none 0 0) := (blk_cell BK198.out 6).trans rfl; have hcz5_7 : w2.cell? ⟨gb198, 7, none⟩ = some (.slice none 0 0) := (blk_cell BK198.out 7).trans rfl; have hcz5_8 : w2.cell? ⟨gb198, 8, none⟩ = some (.slice none 0 0) := (blk_cell BK198.out 8).trans rfl; have hcz5_9 : w2.cell? ⟨gb198, 9, none⟩ = some (.slice none 0 0) := (blk_cell BK198.out 9).trans rfl; have hcz5_10 : w2.cell? ⟨gb198, 10, none⟩ = some (.int .i64 0) := (blk_cell BK198.out 10).trans rfl; have hfz5_0 := blk_frozen BK198.out 0; have hfz5_1 := blk_frozen BK198.out 1; have hfz5_2 := blk_frozen BK198.out 2; have hfz5_3 := blk_frozen BK198.out 3; have hfz5_4 := blk_frozen BK198.out 4; have hfz5_5 := blk_frozen BK198.out 5; have hfz5_6 := blk_frozen BK198.out 6; have hfz5_7 := blk_frozen BK198.out 7; have hfz5_8 := blk_frozen BK198.out 8; have hfz5_9 := blk_frozen BK198.out 9; have hfz5_10 := blk_frozen BK198.out 10))
  refine bodyPost_ret (results_cell_row rfl _ _ gb198 31 #[.string ⟨#[]⟩, .slice none 0 0, .int .i64 0, .slice Ao4 y199.length co4, .slice none 0 0, .slice none 0 0, .slice none 0 0, .slice none 0 0, .slice none 0 0, .slice none 0 0, .int .i64 0] (0, 0) _ rfl (by (with_reducible repeat (first | refine blk_drewN ?_ _ | refine blk_drew ?_ | refine blk_alloc ?_ _)); refine blk_put (cs := #[.string ⟨#[]⟩, .slice none 0 0, .int .i64 0, .slice Ao4 y199.length co4, .slice none 0 0, .slice none 0 0, .slice none 0 0, .slice none 0 0, .slice none 0 0, .slice none 0 0, .int .i64 0]) ?_ 10 _ rfl; (with_reducible repeat (first | refine blk_drewN ?_ _ | refine blk_drew ?_ | refine blk_alloc ?_ _)); refine blk_put (cs := #[.string ⟨#[]⟩, .slice none 0 0, .int .i64 0, .slice Ao4 y199.length co4, .slice none 0 0, .slice none 0 0, .slice none 0 0, .slice none 0 0, .slice none 0 0, .slice none 0 0, .int .i64 0]) ?_ 9 _ rfl; (with_reducible repeat (first | refine blk_drewN ?_ _ | refine blk_drew ?_ | refine blk_alloc ?_ _)); refine blk_put (cs := #[.string ⟨#[]⟩, .slice none 0 0, .int .i64 0, .slice Ao4 y199.length co4, .slice none 0 0, .slice none 0 0, .slice none 0 0, .slice none 0 0, .slice none 0 0, .slice none 0 0, .int .i64 0]) ?_ 8 _ rfl; (with_reducible repeat (first | refine blk_drewN ?_ _ | refine blk_drew ?_ | refine blk_alloc ?_ _)); refine blk_put (cs := #[.string ⟨#[]⟩, .slice none 0 0, .int .i64 0, .slice Ao4 y199.length co4, .slice none 0 0, .slice none 0 0, .slice none 0 0, .slice none 0 0, .slice none 0 0, .slice none 0 0, .int .i64 0]) ?_ 7 _ rfl; (with_reducible repeat (first | refine blk_drewN ?_ _ | refine blk_drew ?_ | refine blk_alloc ?_ _)); refine blk_put (cs := #[.string ⟨#[]⟩, .slice none 0 0, .int .i64 0, .slice Ao4 y199.length co4, .slice none 0 0, .slice none 0 0, .slice none 0 0, .slice none 0 0, .slice none 0 0, .slice none 0 0, .int .i64 0]) ?_ 6 _ rfl; (with_reducible repeat (first | refine blk_drewN ?_ _ | refine blk_drew ?_ | refine blk_alloc ?_ _)); refine blk_put (cs := #[.string ⟨#[]⟩, .slice none 0 0, .int .i64 0, .slice Ao4 y199.length co4, .slice none 0 0, .slice none 0 0, .slice none 0 0, .slice none 0 0, .slice none 0 0, .slice none 0 0, .int .i64 0]) ?_ 5 _ rfl; (with_reducible repeat (first | refine blk_drewN ?_ _ | refine blk_drew ?_ | refine blk_alloc ?_ _)); refine blk_put (cs := #[.string ⟨#[]⟩, .slice none 0 0, .int .i64 0, .slice Ao4 y199.length co4, .slice none 0 0, .slice none 0 0, .slice none 0 0, .slice none 0 0, .slice none 0 0, .slice none 0 0, .int .i64 0]) ?_ 4 _ rfl; (with_reducible repeat (first | refine blk_drewN ?_ _ | refine blk_drew ?_ | refine blk_alloc ?_ _)); refine blk_put (cs := #[.string ⟨#[]⟩, .slice none 0 0, .int .i64 0, .slice none 0 0, .slice none 0 0, .slice none 0 0, .slice none 0 0, .slice none 0 0, .slice none 0 0, .slice none 0 0, .int .i64 0]) ?_ 3 _ rfl; (with_reducible repeat (first | refine blk_drewN ?_ _ | refine blk_drew ?_ | refine blk_alloc ?_ _)); refine blk_put (cs := #[.string ⟨#[]⟩, .slice none 0 0, .int .i64 0, .slice none 0 0, .slice none 0 0, .slice none 0 0, .slice none 0 0, .slice none 0 0, .slice none 0 0, .slice none 0 0, .int .i64 0]) ?_ 2 _ rfl; (with_reducible repeat (first | refine blk_drewN ?_ _ | refine blk_drew ?_ | refine blk_alloc ?_ _)); refine blk_put (cs := #[.string ⟨#[]⟩, .slice none 0 0, .int .i64 0, .slice none 0 0, .slice none 0 0, .slice none 0 0, .slice none 0 0, .slice none 0 0, .slice none 0 0, .slice none 0 0, .int .i64 0]) ?_ 1 _ rfl; (with_reducible repeat (first | refine blk_drewN ?_ _ | refine blk_drew ?_ | refine blk_alloc ?_ _)); refine blk_put (cs := #[.string ⟨#[]⟩, .slice none 0 0, .int .i64 0, .slice none 0 0, .slice none 0 0, .slice none 0 0, .slice none 0 0, .slice none 0 0, .slice none 0 0, .slice none 0 0, .int .i64 0]) ?_ 0 _ rfl; (with_reducible repeat (first | refine blk_drewN ?_ _ | refine blk_drew ?_ | refine blk_alloc ?_ _)); exact BK198.out) Try.underlying31 rfl (by kernel_rfl)) rfl ?_
  exact ⟨_, by first | rfl | (simp [errW_none, errW_some] <;> rfl) | (simp [*, errW_none, errW_some] <;> rfl), by (with_reducible repeat (first | apply Kd.R_alloc | apply Kd.R_drewN | apply Kd.R_drew)); exact Kd.R_mono (Kd.R_far (p := ⟨gb198, 10, none⟩) (Kd.R_far (p := ⟨gb198, 9, none⟩) (Kd.R_far (p := ⟨gb198, 8, none⟩) (Kd.R_far (p := ⟨gb198, 7, none⟩) (Kd.R_far (p := ⟨gb198, 6, none⟩) (Kd.R_far (p := ⟨gb198, 5, none⟩) (Kd.R_far (p := ⟨gb198, 4, none⟩) (Kd.R_far (p := ⟨gb198, 3, none⟩) (Kd.R_far (p := ⟨gb198, 2, none⟩) (Kd.R_far (p := ⟨gb198, 1, none⟩) (Kd.R_far (p := ⟨gb198, 0, none⟩) (Kd.R_types HO201.out BK198.out (by decide)) (fun _ hk => hk.2) (.string ⟨#[]⟩)) (fun _ hk => hk.2) (.slice none 0 0)) (fun _ hk => hk.2) (.int .i64 0)) (fun _ hk => hk.2) (.slice Ao4 y199.length co4)) (fun _ hk => hk.2) (.slice none 0 0)) (fun _ hk => hk.2) (.slice none 0 0)) (fun _ hk => hk.2) (.slice none 0 0)) (fun _ hk => hk.2) (.slice none 0 0)) (fun _ hk => hk.2) (.slice none 0 0)) (fun _ hk => hk.2) (.slice none 0 0)) (fun _ hk => hk.2) (.int .i64 0)) (fun _ hk => trivial), by repeat (first | (with_reducible first | exact HB.out | apply below_alloc | apply pw_below_drewN | apply below_drew1 | refine below_set ?_ GE198.out) | exact HB.out)⟩

-- NOT PRINTED: function 8 (bournelaw38_small)

/-! ### bournelaw38_few: function 9 -/
def bournelaw38_few.f (a0_0 : V1) (a0_1 : V1) (a0_2 : V1) (l0_3 : List (S79)) (a0_4 : V1) (a0_5 : V1) (a0_6 : V1) (a0_7 : V1) (a0_8 : V1) (a0_9 : V1) (a0_10 : V1) (l1 : List (S39)) (l2 : List (S53)) : Option (Bool) := if (l0_3.length : Int) ≤ 16 then (if (l1.length : Int) ≤ 14 then (some (decide ((l2.length : Int) ≤ 20))) else (some false)) else (some false)
set_option maxHeartbeats 8000000 in
set_option maxRecDepth 100000 in
theorem bournelaw38_few.calls (a0_0 : V1) (a0_1 : V1) (a0_2 : V1) (A0_3 : Option Addr) (c0_3 : Nat) (l0_3 : List (S79)) (a0_4 : V1) (a0_5 : V1) (a0_6 : V1) (a0_7 : V1) (a0_8 : V1) (a0_9 : V1) (a0_10 : V1) (A1 : Option Addr) (c1 : Nat) (l1 : List (S39)) (A2 : Option Addr) (c2 : Nat) (l2 : List (S53)) (r : Bool) (w : World) (hr0_3 : Kd.C k79 w A0_3 l0_3.length l0_3) (hc0_3 : l0_3.length ≤ c0_3) (hr1 : Kd.C k39 w A1 l1.length l1) (hc1 : l1.length ≤ c1) (hr2 : Kd.C k53 w A2 l2.length l2) (hc2 : l2.length ≤ c2) (h : bournelaw38_few.f a0_0 a0_1 a0_2 l0_3 a0_4 a0_5 a0_6 a0_7 a0_8 a0_9 a0_10 l1 l2 = some r) :
    Calls Try.prog 9 #[.agg #[a0_0.v, a0_1.v, a0_2.v, .slice A0_3 l0_3.length c0_3, a0_4.v, a0_5.v, a0_6.v, a0_7.v, a0_8.v, a0_9.v, a0_10.v], .slice A1 l1.length c1, .slice A2 l2.length c2] w fun e w' => e = .returned (.bool r) ∧ Below w.heap.size w w' := by
  have hu31 := Try.underlying31
  have HR0_3 := Aside0.mk hr0_3
  have HC0_3 := Aside0.mk hc0_3
  clear hr0_3 hc0_3
  have HR1 := Aside0.mk hr1
  have HC1 := Aside0.mk hc1
  clear hr1 hc1
  have HR2 := Aside0.mk hr2
  have HC2 := Aside0.mk hc2
  clear hr2 hc2
  have HB := Aside0.mk (Below.refl w.heap.size w)
  have H : (if (l0_3.length : Int) ≤ 16 then (if (l1.length : Int) ≤ 14 then (some (decide ((l2.length : Int) ≤ 20))) else (some false)) else (some false)) = some r := h
  clear h
  by_cases c4 : (l0_3.length : Int) ≤ 16
  · rw [if_pos c4] at H
    have c4b0 : decide ((l0_3.length : Int) ≤ 16) = true := decide_eq_true c4
    have c4b1 : decide (l0_3.length ≤ 16) = true := decide_eq_true (by omega)
    clear c4
    by_cases c5 : (l1.length : Int) ≤ 14
    · rw [if_pos c5] at H
      have c5b0 : decide ((l1.length : Int) ≤ 14) = true := decide_eq_true c5
      have c5b1 : decide (l1.length ≤ 14) = true := decide_eq_true (by omega)
      clear c5
      obtain rfl := Option.some.inj H
      go_enter Try.func9, Try.ntmps9
      go_wp2_with (first | ((with_reducible refine gate_dst (N := 3) rfl ?_); (try (refine gate_guard (by rfl) ?_; dsimp only)); refine box_event ?hg (N := 3) ?hd (cs := #[a0_0.v, a0_1.v, a0_2.v, .slice A0_3 l0_3.length c0_3, a0_4.v, a0_5.v, a0_6.v, a0_7.v, a0_8.v, a0_9.v, a0_10.v]) (t := 31) ?hr ?_; (case hd => rfl); (case hg => rfl); (case hr => first | (go_simp; done) | (go_simp; rfl)); intro gb228 hg w6 hbox hb; have n0_ := Aside0.mk (below_step (by repeat (first | (with_reducible first | exact HB.out | apply below_alloc | apply pw_below_drewN | apply below_drew1) | exact HB.out)) hb); have n1_ := Aside0.mk (hbox); have n2_ := Aside0.mk ((by rw [hg]; exact (below_size (by repeat (first | (with_reducible first | exact HB.out | apply below_alloc | apply pw_below_drewN | apply below_drew1) | exact HB.out))) : w.heap.size ≤ gb228)); have n3_ := Aside0.mk ((by rw [hg]; exact (below_size (by repeat (first | (with_reducible first | exact HB.out | apply below_alloc | apply pw_below_drewN | apply below_drew1) | exact HB.out))) : w.heap.size ≤ gb228)); clear HB; have HB := n0_; have BK228 := n1_; have GW228 := n2_; have GE228 := n3_; clear n0_ n1_ n2_ n3_; clear hb hbox hg; have hcz7_0 : w6.cell? ⟨gb228, 0, none⟩ = some (a0_0.v) := (blk_cell BK228.out 0).trans rfl; have hcz7_1 : w6.cell? ⟨gb228, 1, none⟩ = some (a0_1.v) := (blk_cell BK228.out 1).trans rfl; have hcz7_2 : w6.cell? ⟨gb228, 2, none⟩ = some (a0_2.v) := (blk_cell BK228.out 2).trans rfl; have hcz7_3 : w6.cell? ⟨gb228, 3, none⟩ = some (.slice A0_3 l0_3.length c0_3) := (blk_cell BK228.out 3).trans rfl; have hcz7_4 : w6.cell? ⟨gb228, 4, none⟩ = some (a0_4.v) := (blk_cell BK228.out 4).trans rfl; have hcz7_5 : w6.cell? ⟨gb228, 5, none⟩ = some (a0_5.v) := (blk_cell BK228.out 5).trans rfl; have hcz7_6 : w6.cell? ⟨gb228, 6, none⟩ = some (a0_6.v) := (blk_cell BK228.out 6).trans rfl; have hcz7_7 : w6.cell? ⟨gb228, 7, none⟩ = some (a0_7.v) := (blk_cell BK228.out 7).trans rfl; have hcz7_8 : w6.cell? ⟨gb228, 8, none⟩ = some (a0_8.v) := (blk_cell BK228.out 8).trans rfl; have hcz7_9 : w6.cell? ⟨gb228, 9, none⟩ = some (a0_9.v) := (blk_cell BK228.out 9).trans rfl; have hcz7_10 : w6.cell? ⟨gb228, 10, none⟩ = some (a0_10.v) := (blk_cell BK228.out 10).trans rfl; have hfz7_0 := blk_frozen BK228.out 0; have hfz7_1 := blk_frozen BK228.out 1; have hfz7_2 := blk_frozen BK228.out 2; have hfz7_3 := blk_frozen BK228.out 3; have hfz7_4 := blk_frozen BK228.out 4; have hfz7_5 := blk_frozen BK228.out 5; have hfz7_6 := blk_frozen BK228.out 6; have hfz7_7 := blk_frozen BK228.out 7; have hfz7_8 := blk_frozen BK228.out 8; have hfz7_9 := blk_frozen BK228.out 9; have hfz7_10 := blk_frozen BK228.out 10))
      go_ret
      exact ⟨by first | rfl | (simp [errW_none, errW_some] <;> rfl) | (simp [*, errW_none, errW_some] <;> rfl), by repeat (first | (with_reducible first | exact HB.out | apply below_alloc | apply pw_below_drewN | apply below_drew1 | refine below_set ?_ GE228.out) | exact HB.out)⟩
    · rw [if_neg c5] at H
      have c5b0 : decide ((l1.length : Int) ≤ 14) = false := decide_eq_false c5
      have c5b1 : decide (l1.length ≤ 14) = false := decide_eq_false (by omega)
      clear c5
      obtain rfl := Option.some.inj H
      go_enter Try.func9, Try.ntmps9
      go_wp2_with (first | ((with_reducible refine gate_dst (N := 3) rfl ?_); (try (refine gate_guard (by rfl) ?_; dsimp only)); refine box_event ?hg (N := 3) ?hd (cs := #[a0_0.v, a0_1.v, a0_2.v, .slice A0_3 l0_3.length c0_3, a0_4.v, a0_5.v, a0_6.v, a0_7.v, a0_8.v, a0_9.v, a0_10.v]) (t := 31) ?hr ?_; (case hd => rfl); (case hg => rfl); (case hr => first | (go_simp; done) | (go_simp; rfl)); intro gb228 hg w8 hbox hb; have n0_ := Aside0.mk (below_step (by repeat (first | (with_reducible first | exact HB.out | apply below_alloc | apply pw_below_drewN | apply below_drew1) | exact HB.out)) hb); have n1_ := Aside0.mk (hbox); have n2_ := Aside0.mk ((by rw [hg]; exact (below_size (by repeat (first | (with_reducible first | exact HB.out | apply below_alloc | apply pw_below_drewN | apply below_drew1) | exact HB.out))) : w.heap.size ≤ gb228)); have n3_ := Aside0.mk ((by rw [hg]; exact (below_size (by repeat (first | (with_reducible first | exact HB.out | apply below_alloc | apply pw_below_drewN | apply below_drew1) | exact HB.out))) : w.heap.size ≤ gb228)); clear HB; have HB := n0_; have BK228 := n1_; have GW228 := n2_; have GE228 := n3_; clear n0_ n1_ n2_ n3_; clear hb hbox hg; have hcz9_0 : w8.cell? ⟨gb228, 0, none⟩ = some (a0_0.v) := (blk_cell BK228.out 0).trans rfl; have hcz9_1 : w8.cell? ⟨gb228, 1, none⟩ = some (a0_1.v) := (blk_cell BK228.out 1).trans rfl; have hcz9_2 : w8.cell? ⟨gb228, 2, none⟩ = some (a0_2.v) := (blk_cell BK228.out 2).trans rfl; have hcz9_3 : w8.cell? ⟨gb228, 3, none⟩ = some (.slice A0_3 l0_3.length c0_3) := (blk_cell BK228.out 3).trans rfl; have hcz9_4 : w8.cell? ⟨gb228, 4, none⟩ = some (a0_4.v) := (blk_cell BK228.out 4).trans rfl; have hcz9_5 : w8.cell? ⟨gb228, 5, none⟩ = some (a0_5.v) := (blk_cell BK228.out 5).trans rfl; have hcz9_6 : w8.cell? ⟨gb228, 6, none⟩ = some (a0_6.v) := (blk_cell BK228.out 6).trans rfl; have hcz9_7 : w8.cell? ⟨gb228, 7, none⟩ = some (a0_7.v) := (blk_cell BK228.out 7).trans rfl; have hcz9_8 : w8.cell? ⟨gb228, 8, none⟩ = some (a0_8.v) := (blk_cell BK228.out 8).trans rfl; have hcz9_9 : w8.cell? ⟨gb228, 9, none⟩ = some (a0_9.v) := (blk_cell BK228.out 9).trans rfl; have hcz9_10 : w8.cell? ⟨gb228, 10, none⟩ = some (a0_10.v) := (blk_cell BK228.out 10).trans rfl; have hfz9_0 := blk_frozen BK228.out 0; have hfz9_1 := blk_frozen BK228.out 1; have hfz9_2 := blk_frozen BK228.out 2; have hfz9_3 := blk_frozen BK228.out 3; have hfz9_4 := blk_frozen BK228.out 4; have hfz9_5 := blk_frozen BK228.out 5; have hfz9_6 := blk_frozen BK228.out 6; have hfz9_7 := blk_frozen BK228.out 7; have hfz9_8 := blk_frozen BK228.out 8; have hfz9_9 := blk_frozen BK228.out 9; have hfz9_10 := blk_frozen BK228.out 10))
      go_ret
      exact ⟨by first | rfl | (simp [errW_none, errW_some] <;> rfl) | (simp [*, errW_none, errW_some] <;> rfl), by repeat (first | (with_reducible first | exact HB.out | apply below_alloc | apply pw_below_drewN | apply below_drew1 | refine below_set ?_ GE228.out) | exact HB.out)⟩
  · rw [if_neg c4] at H
    have c4b0 : decide ((l0_3.length : Int) ≤ 16) = false := decide_eq_false c4
    have c4b1 : decide (l0_3.length ≤ 16) = false := decide_eq_false (by omega)
    clear c4
    obtain rfl := Option.some.inj H
    go_enter Try.func9, Try.ntmps9
    go_wp2_with (first | ((with_reducible refine gate_dst (N := 3) rfl ?_); (try (refine gate_guard (by rfl) ?_; dsimp only)); refine box_event ?hg (N := 3) ?hd (cs := #[a0_0.v, a0_1.v, a0_2.v, .slice A0_3 l0_3.length c0_3, a0_4.v, a0_5.v, a0_6.v, a0_7.v, a0_8.v, a0_9.v, a0_10.v]) (t := 31) ?hr ?_; (case hd => rfl); (case hg => rfl); (case hr => first | (go_simp; done) | (go_simp; rfl)); intro gb228 hg w10 hbox hb; have n0_ := Aside0.mk (below_step (by repeat (first | (with_reducible first | exact HB.out | apply below_alloc | apply pw_below_drewN | apply below_drew1) | exact HB.out)) hb); have n1_ := Aside0.mk (hbox); have n2_ := Aside0.mk ((by rw [hg]; exact (below_size (by repeat (first | (with_reducible first | exact HB.out | apply below_alloc | apply pw_below_drewN | apply below_drew1) | exact HB.out))) : w.heap.size ≤ gb228)); have n3_ := Aside0.mk ((by rw [hg]; exact (below_size (by repeat (first | (with_reducible first | exact HB.out | apply below_alloc | apply pw_below_drewN | apply below_drew1) | exact HB.out))) : w.heap.size ≤ gb228)); clear HB; have HB := n0_; have BK228 := n1_; have GW228 := n2_; have GE228 := n3_; clear n0_ n1_ n2_ n3_; clear hb hbox hg; have hcz11_0 : w10.cell? ⟨gb228, 0, none⟩ = some (a0_0.v) := (blk_cell BK228.out 0).trans rfl; have hcz11_1 : w10.cell? ⟨gb228, 1, none⟩ = some (a0_1.v) := (blk_cell BK228.out 1).trans rfl; have hcz11_2 : w10.cell? ⟨gb228, 2, none⟩ = some (a0_2.v) := (blk_cell BK228.out 2).trans rfl; have hcz11_3 : w10.cell? ⟨gb228, 3, none⟩ = some (.slice A0_3 l0_3.length c0_3) := (blk_cell BK228.out 3).trans rfl; have hcz11_4 : w10.cell? ⟨gb228, 4, none⟩ = some (a0_4.v) := (blk_cell BK228.out 4).trans rfl; have hcz11_5 : w10.cell? ⟨gb228, 5, none⟩ = some (a0_5.v) := (blk_cell BK228.out 5).trans rfl; have hcz11_6 : w10.cell? ⟨gb228, 6, none⟩ = some (a0_6.v) := (blk_cell BK228.out 6).trans rfl; have hcz11_7 : w10.cell? ⟨gb228, 7, none⟩ = some (a0_7.v) := (blk_cell BK228.out 7).trans rfl; have hcz11_8 : w10.cell? ⟨gb228, 8, none⟩ = some (a0_8.v) := (blk_cell BK228.out 8).trans rfl; have hcz11_9 : w10.cell? ⟨gb228, 9, none⟩ = some (a0_9.v) := (blk_cell BK228.out 9).trans rfl; have hcz11_10 : w10.cell? ⟨gb228, 10, none⟩ = some (a0_10.v) := (blk_cell BK228.out 10).trans rfl; have hfz11_0 := blk_frozen BK228.out 0; have hfz11_1 := blk_frozen BK228.out 1; have hfz11_2 := blk_frozen BK228.out 2; have hfz11_3 := blk_frozen BK228.out 3; have hfz11_4 := blk_frozen BK228.out 4; have hfz11_5 := blk_frozen BK228.out 5; have hfz11_6 := blk_frozen BK228.out 6; have hfz11_7 := blk_frozen BK228.out 7; have hfz11_8 := blk_frozen BK228.out 8; have hfz11_9 := blk_frozen BK228.out 9; have hfz11_10 := blk_frozen BK228.out 10))
    go_ret
    exact ⟨by first | rfl | (simp [errW_none, errW_some] <;> rfl) | (simp [*, errW_none, errW_some] <;> rfl), by repeat (first | (with_reducible first | exact HB.out | apply below_alloc | apply pw_below_drewN | apply below_drew1 | refine below_set ?_ GE228.out) | exact HB.out)⟩

/-! ### bourneref37_Has: function 26 -/
def bourneref37_Has.l0 : Nat → List Int → Int → Int → Option (Bool)
  | 0, _, _, _ => none
  | k + 1, x0, x1, x5 => if x5 < (x0.length : Int) then (if 0 ≤ x5 then (if (rd x0 x5) = x1 then (some true) else (bourneref37_Has.l0 k x0 x1 (wrap64 (x5 + 1)))) else (none)) else (some false)
def bourneref37_Has.f (k : Nat) (l0 : List Int) (a1 : Int) : Option (Bool) := bourneref37_Has.l0 k l0 a1 0
theorem bourneref37_Has.mono_l : ∀ k, (∀ y0 y1 y2, LeO (bourneref37_Has.l0 k y0 y1 y2) (bourneref37_Has.l0 (k + 1) y0 y1 y2))
  | 0 => fun _ _ _ r h => by simp [bourneref37_Has.l0] at h
  | k + 1 => by
    have ih0 := bourneref37_Has.mono_l k
    · intro y0 y1 y2
      unfold bourneref37_Has.l0
      repeat' first
      | (with_reducible exact ih0 _ _ _)
      | (with_reducible exact LeO.refl _)
      | (with_reducible exact LeO.none _)
      | (with_reducible refine LeO.ite ?_ ?_)
      | (with_reducible refine LeO.bind ?_ (fun _ => ?_))
      | exact ih0 _ _ _
      | exact LeO.none _
      | refine LeO.ite ?_ ?_
      | refine LeO.bind ?_ (fun _ => ?_)
theorem bourneref37_Has.mono : ∀ a0 a1 k, LeO (bourneref37_Has.f k a0 a1) (bourneref37_Has.f (k + 1) a0 a1) := by
  intro a0 a1 k
  have ih0 := bourneref37_Has.mono_l k
  unfold bourneref37_Has.f
  repeat' first
      | (with_reducible exact ih0 _ _ _)
      | (with_reducible exact LeO.refl _)
      | (with_reducible exact LeO.none _)
      | (with_reducible refine LeO.ite ?_ ?_)
      | (with_reducible refine LeO.bind ?_ (fun _ => ?_))
      | exact ih0 _ _ _
      | exact LeO.none _
      | refine LeO.ite ?_ ?_
      | refine LeO.bind ?_ (fun _ => ?_)
set_option maxHeartbeats 8000000 in
set_option maxRecDepth 100000 in
theorem bourneref37_Has.calls (k : Nat) (A0 : Option Addr) (c0 : Nat) (l0 : List Int) (a1 : Int) (r : Bool) (w : World) (hr0 : Kd.C (Kd.int .i64) w A0 l0.length l0) (hc0 : l0.length ≤ c0) (h : bourneref37_Has.f k l0 a1 = some r) :
    Calls Try.prog 26 #[.slice A0 l0.length c0, .int .i64 a1] w fun e w' => e = .returned (.bool r) ∧ Drawn0 w w' := by
  have HR0 := Aside0.mk hr0
  have HC0 := Aside0.mk hc0
  clear hr0 hc0
  have H : (bourneref37_Has.l0 k l0 a1 0) = some r := h
  clear h
  have H' := Aside0.mk H
  clear H
  go_enter Try.func26, Try.ntmps26
  go_wp2
  go_loopg [5] k (fun kq v5 w' => ∃ (x5_1 : Int), v5 = .int .i64 x5_1 ∧ Aside0 (bourneref37_Has.l0 kq l0 a1 x5_1 = some r) ∧ Aside0 (kq ≤ k) ∧ Drawn0 w w')
  case atStart => exact ⟨(0), (by first | rfl | (simp; done) | (simp [*]; done)), H', ⟨Nat.le_refl _⟩, by repeat (first | exact Drawn0.refl _ | apply Drawn0.step)⟩
  case round =>
    clear H'
    try clear c2
    try clear p2
    obtain ⟨x5_1, rfl, HA, HK1, ⟨m1, rfl⟩⟩ := hrel
    cases gk with
    | zero => exact absurd HA.out (by simp [bourneref37_Has.l0])
    | succ k1 =>
      have H := HA.out
      clear HA
      simp only [bourneref37_Has.l0] at H
      by_cases c3 : x5_1 < (l0.length : Int)
      · rw [if_pos c3] at H
        have c3b0 : decide (x5_1 < (l0.length : Int)) = true := decide_eq_true c3
        clear c3
        by_cases c4 : 0 ≤ x5_1
        · rw [if_pos c4] at H
          have c4b0 : decide (0 ≤ x5_1) = true := decide_eq_true c4
          clear c4
          by_cases c5 : (rd l0 x5_1) = a1
          · rw [if_pos c5] at H
            have c5b0 : ((rd l0 x5_1) == a1) = true := beq_iff_eq.mpr c5
            have c5b1 : ((rd l0 x5_1) != a1) = false := bne_eq_false_iff_eq.mpr c5
            clear c5
            obtain rfl := Option.some.inj H
            have p229 : 0 ≤ (x5_1 : Int) := of_decide_eq_true (by first | (with_reducible assumption) | assumption)
            have q229 : x5_1 < (l0.length : Int) := of_decide_eq_true (by first | (with_reducible assumption) | assumption)
            obtain ⟨ad229, e229, hx229_0⟩ := Kd.at_int HR0.out x5_1 p229 q229
            cases e229
            replace p229 := eq_true p229
            replace q229 := eq_true q229
            go_wp2
            go_ret
            exact ⟨by first | rfl | (simp; done) | (simp [*]; done), by repeat (first | exact Drawn0.refl _ | apply Drawn0.step)⟩
          · rw [if_neg c5] at H
            have c5b0 : ((rd l0 x5_1) == a1) = false := beq_eq_false_iff_ne.mpr c5
            have c5b1 : ((rd l0 x5_1) != a1) = true := bne_iff_ne.mpr c5
            have H' := Aside0.mk H
            clear H
            have p229 : 0 ≤ (x5_1 : Int) := of_decide_eq_true (by first | (with_reducible assumption) | assumption)
            have q229 : x5_1 < (l0.length : Int) := of_decide_eq_true (by first | (with_reducible assumption) | assumption)
            obtain ⟨ad229, e229, hx229_0⟩ := Kd.at_int HR0.out x5_1 p229 q229
            cases e229
            replace p229 := eq_true p229
            replace q229 := eq_true q229
            go_wp2
            go_roundg k1
            case measure => have := HK1.out; omega
            case rel => exact ⟨(wrap64 (x5_1 + 1)), (by first | rfl | (simp; done) | (simp [*]; done)), H', ⟨by have := HK1.out; omega⟩, by repeat (first | exact Drawn0.refl _ | apply Drawn0.step)⟩
        · rw [if_neg c4] at H
          exact absurd H (by simp)
      · rw [if_neg c3] at H
        have c3b0 : decide (x5_1 < (l0.length : Int)) = false := decide_eq_false c3
        clear c3
        obtain rfl := Option.some.inj H
        go_wp2
        go_ret
        exact ⟨by first | rfl | (simp; done) | (simp [*]; done), by repeat (first | exact Drawn0.refl _ | apply Drawn0.step)⟩

end Go.Proofs.Ytddhaagfieldfaa.PCallTells
