import Derived.Test.YtddhaagfieldfaaHs3
namespace Go.Proofs.Ytddhaagfieldfaa.Hb
set_option linter.unusedVariables false
set_option linter.unusedSimpArgs false
open Go.RowKit Go.Proofs.YtddhaagfieldfaaW.PrintWords Go.Proofs.YtddhaagfieldfaaW.PrintLast Go.Proofs.YtddhaagfieldfaaW.PrintMore Go.Proofs.Ytddhaagfieldfaa.PCallTells Go.Proofs.Ytddhaagfieldfaa.Hw Go.Proofs.Ytddhaagfieldfaa.Q
attribute [local go_sem] run_store_v1 max2_int min2_int max_two min_two max_three min_three max_four min_four

/-- What the law CallStops says, of the day's lists. -/
structure StopsOK (pl : List S79) (ro : List S39) (su : List Int) : Prop where
  len : (dayF pl ro su).1.length = ro.length
  llen : (dayF pl ro su).2.length = pl.length
  at_ : ∀ i : Nat, i < ro.length → ¬ (reach pl (rd_T39 ro i).f3).length = 0 → ¬ (rd_T53 (dayF pl ro su).1 i).f1 ≥ (rd_T39 ro i).f4 →
    stopAll pl ro su (dayF pl ro su).1 i ∈ reach pl (rd_T39 ro i).f3 ∧ rd (dayF pl ro su).2 (stopAll pl ro su (dayF pl ro su).1 i) = 0 ∧
    ∀ k : Nat, i < k → k < ro.length → (rd_T53 (dayF pl ro su).1 k).f1 > 0 → futileF pl (stopAll pl ro su (dayF pl ro su).1 i) (rd_T39 ro k).f3 = true
set_option maxRecDepth 100000 in
set_option maxHeartbeats 8000000 in
theorem CallStops_walk (b : BV) (A1 : Option Addr) (c1 : Nat) (ro : List S39) (A2 : Option Addr) (c2 : Nat) (su : List Int) (w : World) (hb : b.In w) (hr1 : Kd.C k39 w A1 ro.length ro) (hc1 : ro.length ≤ c1) (hr2 : Kd.C (Kd.int .i64) w A2 su.length su) (hc2 : su.length ≤ c2)
    (hok : fewF b.pl ro [] = true → modestF su = true → StopsOK b.pl ro su) :
    Calls Try.prog 5 #[b.val, .slice A1 ro.length c1, .slice A2 su.length c2] w fun e w' => e = .returned (.bool true) ∧ Below w.heap.size w w' := by
  have HB := Aside0.mk hb
  have HRO := Aside0.mk hr1
  have HSU := Aside0.mk hr2
  have HOK := Aside0.mk hok
  clear hb hr1 hr2 hok
  go_enter Try.func5, Try.ntmps5
  go_upto_region 4 with (first
    | ((with_reducible refine gate_dst (N := 3) rfl ?_); refine ev_box rfl rfl b.cs 31 (by go_simp; done) ?_; intro gb w1 BK hgb hb1)
    | (go_at_call 8; refine (small_calls _).mono ?_; rintro e w2 ⟨rfl, hb2⟩)
    | ((with_reducible refine gate_dst (N := 18) rfl ?_); refine wpList_load_row rfl 31 _ rfl gb rfl 31 b.cs (0, 0) _ (blk_below BK hb2) Try.underlying31 rfl (by kernel_rfl) ?_)
    | (go_at_call 9; refine (Few_calls b A1 c1 ro none 0 [] _ (HB.out.below (below_step hb1 hb2)) (Kd.C_below HRO.out (below_step hb1 hb2)) hc1 (Kd.C_nil' _ _) (Nat.le_refl _)).mono ?_; rintro e w3 ⟨rfl, hb3⟩)
    | (go_at_call 22; refine (modest_calls A2 c2 su _ (Kd.C_below HSU.out (below_step hb1 (below_step hb2 hb3)))).mono ?_; rintro e w4 ⟨rfl, hb4⟩))
  try simp only [Act.put, List.setIfInBounds_toArray, List.set_cons_zero, List.set_cons_succ]
  have h04 := below_step hb1 (below_step hb2 (below_step hb3 hb4))
  have HGB4 := Aside0.mk (blk_below BK (below_step hb2 (below_step hb3 hb4)))
  have H04 := Aside0.mk h04
  clear hb1 hb2 hb3 hb4 h04 BK hgb
  cases hf : fewF b.pl ro [] with
  | false =>
    go_wp2
    go_ret
    exact ⟨rfl, H04.out⟩
  | true =>
    cases hm : modestF su with
    | false =>
      go_wp2
      go_ret
      exact ⟨rfl, H04.out⟩
    | true =>
      have OK := Aside0.mk (HOK.out hf hm)
      have hf' : b.pl.length ≤ 16 ∧ ro.length ≤ 14 := by
        unfold fewF at hf; simp only [Bool.and_eq_true, decide_eq_true_eq] at hf; exact ⟨hf.1, hf.2.1⟩
      obtain ⟨hpl, hro⟩ := hf'
      have hpl : b.pl.length ≤ 1000 := by omega
      have hro' : ro.length ≤ 1000 := by omega
      have d7 : (((dayF b.pl ro su).1.length : Int) != (ro.length : Int)) = false := by rw [OK.out.len]; simp
      clear hf hm
      go_wp2_with (first
        | ((with_reducible refine gate_dst (N := 31) rfl ?_); refine wpList_load_row rfl 31 _ rfl gb rfl 31 b.cs (0, 0) _ HGB4.out Try.underlying31 rfl (by kernel_rfl) ?_)
        | (go_at_call 23; refine (Day_calls b A1 c1 ro A2 c2 su _ (HB.out.below H04.out) hpl (Kd.C_below HRO.out H04.out) hc1 (Kd.C_below HSU.out H04.out) hc2 hro').mono ?_; rintro e w2 ⟨v0, v1, rfl, hR6, hR7, hb6⟩; obtain ⟨A6, c6, rfl⟩ := Kd.R_slice hR6; obtain ⟨A7, c7, rfl⟩ := Kd.R_slice hR7))
      have HG := Aside0.mk (Kd.R_reads' hR6).2.2
      have hc6 := (Kd.R_reads' hR6).2.1
      have HLE := Aside0.mk (Kd.R_reads' hR7).2.2
      have HGB := Aside0.mk (blk_below HGB4.out hb6)
      have HW := Aside0.mk (below_step H04.out hb6)
      have HB := Aside0.mk (HB.out.below HW.out)
      have HRO := Aside0.mk (Kd.C_below HRO.out HW.out)
      have HSU := Aside0.mk (Kd.C_below HSU.out HW.out)
      clear hR6 hR7 hb6 HGB4 H04 HOK
      obtain ⟨gs, hgs⟩ : ∃ gs, (dayF b.pl ro su).1 = gs := ⟨_, rfl⟩
      obtain ⟨ls, hls⟩ : ∃ ls, (dayF b.pl ro su).2 = ls := ⟨_, rfl⟩
      have OK2 := OK.out
      rw [hgs] at HG hc6 d7
      rw [hls] at HLE
      have HGS := Aside0.mk hgs
      have HLS := Aside0.mk hls
      have hgl := Aside0.mk (hgs ▸ OK.out.len)
      have hll := Aside0.mk (hls ▸ OK.out.llen)
      have hat := Aside0.mk OK.out.at_
      rw [hgs, hls] at hat ⊢
      clear OK OK2 hgs hls
      go_loopw [12] (fun v12 W => ∃ i : Nat, v12 = .int .i64 i ∧ Aside0 (i ≤ ro.length ∧ Below w2.heap.size w2 W)) (fun v12 _ => ro.length - (intOf v12).toNat)
      case atStart => exact ⟨0, rfl, ⟨Nat.zero_le _, Below.refl _ _⟩⟩
      case round =>
        obtain ⟨i, rfl, hI⟩ := hrel
        by_cases hlt : i < ro.length
        · have hi0 : (0 : Int) ≤ (i : Int) := Int.natCast_nonneg _
          have hi1 : (i : Int) < (ro.length : Int) := by omega
          have hi2 : (i : Int) < (gs.length : Int) := by rw [hgl.out]; exact hi1
          have hB := hI.out.2
          obtain ⟨ad, e1, _, _, _, hx3, hx4, _⟩ := at_T39 HRO.out i hi0 hi1
          subst e1
          obtain ⟨ad6, e6, _, hg1⟩ := at_T53 HG.out i hi0 hi2
          subst e6
          rw [Int.toNat_natCast] at hx3 hx4 hg1
          have hx3 := Aside0.mk hx3
          have hx4 := Aside0.mk hx4
          have hg1 := Aside0.mk hg1
          go_wp2
          refine start_ (n := 8) (S := fun w' => Below w2.heap.size w2 w') (ds := []) #[false, false, false, false, false, false, false, false] (by kernel_rfl) rfl rfl (below_step hB (Below.refl _ _).drew) (fun hHeld => ?_)
          have hHb := Aside0.mk hHeld
          generalize wr.drew = w3 at hHeld hHb ⊢
          refine take_ (i := 0) (N := some 48) (v := .agg (b.cs)) (a' := ?_) #[true, false, false, false, false, false, false, false] rfl rfl (by kernel_rfl) (fun _ _ _ h => h) (Or.inl ⟨by rfl, fun w' hw' => load_row_run rfl rfl (blk_below HGB.out hw') _ Try.underlying31 rfl (by kernel_rfl)⟩) hHeld ?_ ?_
          rotate_left
          · simp only [Act.put, List.setIfInBounds_toArray, List.set_cons_zero, List.set_cons_succ]; rfl
          refine pure_ (i := 1) (N := some 49) (v := ?_) (a' := ?_) #[true, true, false, false, false, false, false, false] rfl rfl (by kernel_rfl) (fun _ _ _ h => h) (Or.inl ⟨by rfl, ?_⟩) ?_ ?_
          rotate_left
          · intro w'; go_simp; with_reducible rfl
          rotate_left
          · simp only [Act.put, List.setIfInBounds_toArray, List.set_cons_zero, List.set_cons_succ, i64_w, i32_w]; rfl
          refine pure_ (i := 2) (N := some 50) (v := ?_) (a' := ?_) #[true, true, true, false, false, false, false, false] rfl rfl (by kernel_rfl) (fun _ _ _ h => h) (Or.inl ⟨by rfl, ?_⟩) ?_ ?_
          rotate_left
          · intro w'; go_simp; with_reducible rfl
          rotate_left
          · simp only [Act.put, List.setIfInBounds_toArray, List.set_cons_zero, List.set_cons_succ, i64_w, i32_w]; rfl
          refine pure_ (i := 3) (N := some 51) (v := ?_) (a' := ?_) #[true, true, true, true, false, false, false, false] rfl rfl (by kernel_rfl) (fun _ _ _ h => h) (Or.inl ⟨by rfl, ?_⟩) ?_ ?_
          rotate_left
          · intro w'; go_simp; with_reducible rfl
          rotate_left
          · simp only [Act.put, List.setIfInBounds_toArray, List.set_cons_zero, List.set_cons_succ, i64_w, i32_w]; rfl
          refine pure_ (i := 4) (N := some 52) (v := ?_) (a' := ?_) #[true, true, true, true, true, false, false, false] rfl rfl (by kernel_rfl) (fun _ _ _ h => h) (Or.inl ⟨by rfl, ?_⟩) ?_ ?_
          rotate_left
          · intro w'; go_simp; with_reducible rfl
          rotate_left
          · simp only [Act.put, List.setIfInBounds_toArray, List.set_cons_zero, List.set_cons_succ, i64_w, i32_w]; rfl
          refine take_ (i := 5) (N := some 53) (v := ?_) (a' := ?_) #[true, true, true, true, true, true, false, false] rfl rfl (by kernel_rfl) (fun _ _ _ h => h) (Or.inl ⟨by rfl, ?_⟩) hHeld ?_ ?_
          rotate_left
          · intro w' hw'; have z := pw_cell_below hw' hx3.out; go_simp; with_reducible rfl
          rotate_left
          · simp only [Act.put, List.setIfInBounds_toArray, List.set_cons_zero, List.set_cons_succ, i64_w, i32_w]; rfl
          refine one_ (i := 6) (N := some 54) #[true, true, true, true, true, true, true, false] rfl rfl (by kernel_rfl) (by decide) (fun K hK => ?_)
          refine goes_ Try.func25 (by kernel_rfl) rfl #[b.val, .int .i64 (rd_T39 ro i).f3] (by rfl) rfl rfl (by simp only [List.map_toArray, List.map_cons, List.map_nil]; rfl) ?_
          refine (Reach_calls b (rd_T39 ro i).f3 _ (HB.out.below hHeld) hpl).mono ?_; rintro e w4 ⟨v4, rfl, hR4, hb⟩; obtain ⟨A4, c4, rfl⟩ := Kd.R_slice hR4
          refine ⟨_, rfl, ?_⟩
          refine hK.out _ _ (below_step hHeld hb) (fun hHeld => ?_)
          clear hK K
          refine norm_ (a' := ?_) ?_ ?_
          rotate_left
          · show Act.put _ (some 54) _ = _; simp only [Act.put, List.setIfInBounds_toArray, List.set_cons_zero, List.set_cons_succ]; rfl
          refine pure_ (i := 7) (N := some 13) (v := ?_) (a' := ?_) #[true, true, true, true, true, true, true, true] rfl rfl (by kernel_rfl) (fun _ _ _ h => h) (Or.inl ⟨by rfl, ?_⟩) ?_ ?_
          rotate_left
          · intro w'; go_simp; with_reducible rfl
          rotate_left
          · simp only [Act.put, List.setIfInBounds_toArray, List.set_cons_zero, List.set_cons_succ, i64_w, i32_w]; rfl
          refine done_ (by kernel_rfl) ?_
          have H4 := Aside0.mk hHeld
          have HR4 := Aside0.mk (Kd.R_reads' hR4).2.2
          have hc4 := (Kd.R_reads' hR4).2.1
          have hl4 : (reach b.pl (rd_T39 ro i).f3).length ≤ 1000 := Nat.le_trans (nodup_short _ _ (reach_nodup b.pl _) (reach_in b.pl _)) hpl
          have y4 := pw_cell_below H4.out hx4.out
          have y1 := pw_cell_below H4.out hg1.out
          clear hR4 hHeld hb hHb hB
          go_wp2
          cases z : (((reach b.pl (rd_T39 ro i).f3).length : Int) == 0) with
          | true =>
            go_quiet (fail)
            go_wp2
            go_roundw
            case rel => exact ⟨i + 1, by go_num, ⟨by omega, below_step H4.out (pw_below_drewN (Below.refl _ _) _)⟩⟩
            case measure => simp [intOf]; omega
          | false =>
            cases ge : decide ((rd_T53 gs i).f1 ≥ (rd_T39 ro i).f4) with
            | true =>
              go_quiet (fail)
              go_wp2
              go_roundw
              case rel => exact ⟨i + 1, by go_num, ⟨by omega, below_step H4.out (pw_below_drewN (Below.refl _ _) _)⟩⟩
              case measure => simp [intOf]; omega
            | false =>
              obtain ⟨hs1, hs2, hs3⟩ := hat.out i hlt (by simpa using z) (by simpa using ge)
              obtain ⟨stop, hst⟩ : ∃ stop, stopAll b.pl ro su gs i = stop := ⟨_, rfl⟩
              rw [hst] at hs1 hs2 hs3
              have HST := Aside0.mk hst
              obtain ⟨hp0, hp1⟩ := reach_in b.pl _ stop hs1
              have hp2 : stop < (ls.length : Int) := by rw [hll.out]; exact hp1
              obtain ⟨ad7, e7, hl7⟩ := Kd.at_int HLE.out stop hp0 hp2
              subst e7
              rw [hs2] at hl7
              have HL7 := Aside0.mk hl7
              have HS1 := Aside0.mk (decide_eq_true hs1)
              have HS3 := Aside0.mk hs3
              clear hst hs1 hs2 hs3 hl7 hp1
              go_quiet (fail)
              go_upto_region 16 with (first
                | ((with_reducible refine gate_dst (N := 71) rfl ?_); refine wpList_load_row rfl 31 _ rfl gb rfl 31 b.cs (0, 0) _ (blk_below HGB.out (below_step H4.out (pw_below_drewN (Below.refl _ _) _))) Try.underlying31 rfl (by kernel_rfl) ?_)
                | (go_at_call 18; refine (Stop_calls b (some ad) c1 ro A2 c2 su (some ad6) c6 gs i _ ⟨HB.out.below (below_step H4.out (pw_below_drewN (Below.refl _ _) _)), hpl, Kd.C_below HRO.out (below_step H4.out (pw_below_drewN (Below.refl _ _) _)), hc1, Kd.C_below HSU.out (below_step H4.out (pw_below_drewN (Below.refl _ _) _)), hc2, Kd.C_below HG.out (below_step H4.out (pw_below_drewN (Below.refl _ _) _)), hc6, hro'⟩).mono ?_; rw [HST.out]; rintro e w5 ⟨rfl, hb5⟩)
                | (go_at_call 26; refine (Has_calls A4 c4 (reach b.pl (rd_T39 ro i).f3) stop _ (Kd.C_below HR4.out (below_step (pw_below_drewN (Below.refl _ _) _) hb5)) hc4 (by omega)).mono ?_; rw [HS1.out]; rintro e w6 ⟨rfl, hb6⟩))
              have H6 := Aside0.mk (below_step H4.out (below_step (pw_below_drewN (Below.refl _ _) _) (below_step hb5 hb6)))
              have y7 := pw_cell_below H6.out HL7.out
              clear hb5 hb6 y4 y1
              try simp only [Act.put, List.setIfInBounds_toArray, List.set_cons_zero, List.set_cons_succ]
              go_wp2
              go_loopw [16] (fun v16 W => ∃ k : Nat, v16 = .int .i64 k ∧ Aside0 (i < k ∧ k ≤ ro.length ∧ Below w2.heap.size w2 W)) (fun v16 _ => ro.length - (intOf v16).toNat)
              case atStart => exact ⟨i + 1, by go_num, ⟨by omega, by omega, H6.out⟩⟩
              case round =>
                clear H6 y7 H4 HR4
                obtain ⟨k, rfl, hJ0⟩ := hrel
                have hJ := Aside0.mk (show i < k ∧ k ≤ ro.length ∧ True from ⟨hJ0.out.1, hJ0.out.2.1, trivial⟩)
                by_cases hk : k < ro.length
                · have hk0 : (0 : Int) ≤ (k : Int) := Int.natCast_nonneg _
                  have hk1 : (k : Int) < (ro.length : Int) := by omega
                  have hk2 : (k : Int) < (gs.length : Int) := by rw [hgl.out]; exact hk1
                  obtain ⟨ad6', e6, _, hq1⟩ := at_T53 HG.out k hk0 hk2
                  injection e6 with e6
                  subst e6
                  rw [Int.toNat_natCast] at hq1
                  have hq1 := Aside0.mk hq1
                  have hqw := pw_cell_below hJ0.out.2.2 hq1.out
                  cases gt : decide ((rd_T53 gs k).f1 > 0) with
                  | false =>
                    go_wp2
                    go_quiet (fail)
                    go_wp2
                    go_roundw
                    case rel => exact ⟨k + 1, by go_num, ⟨by have := hJ.out.1; omega, by omega, below_step hJ0.out.2.2 (pw_below_drewN (Below.refl _ _) _)⟩⟩
                    case measure => simp [intOf]; omega
                  | true =>
                    have hfut := Aside0.mk (HS3.out k hJ.out.1 hk (of_decide_eq_true gt))
                    have hJ := hJ0
                    clear hqw
                    go_wp2
                    refine start_ (n := 16) (S := fun w' => Below w2.heap.size w2 w') (ds := []) #[false, false, false, false, false, false, false, false, false, false, false, false, false, false, false, false] (by kernel_rfl) rfl rfl (below_step hJ0.out.2.2 (Below.refl _ _).drew) (fun hHeld => ?_)
                    generalize wr.drew = w7 at hHeld ⊢
                    refine pure_ (i := 0) (N := some 97) (v := ?_) (a' := ?_) #[true, false, false, false, false, false, false, false, false, false, false, false, false, false, false, false] rfl rfl (by kernel_rfl) (fun _ _ _ h => h) (Or.inl ⟨by rfl, ?_⟩) ?_ ?_
                    rotate_left
                    · intro w'; go_simp; with_reducible rfl
                    rotate_left
                    · simp only [Act.put, List.setIfInBounds_toArray, List.set_cons_zero, List.set_cons_succ, i64_w, i32_w]; rfl
                    refine pure_ (i := 1) (N := some 98) (v := ?_) (a' := ?_) #[true, true, false, false, false, false, false, false, false, false, false, false, false, false, false, false] rfl rfl (by kernel_rfl) (fun _ _ _ h => h) (Or.inl ⟨by rfl, ?_⟩) ?_ ?_
                    rotate_left
                    · intro w'; go_simp; with_reducible rfl
                    rotate_left
                    · simp only [Act.put, List.setIfInBounds_toArray, List.set_cons_zero, List.set_cons_succ, i64_w, i32_w]; rfl
                    refine pure_ (i := 2) (N := some 99) (v := ?_) (a' := ?_) #[true, true, true, false, false, false, false, false, false, false, false, false, false, false, false, false] rfl rfl (by kernel_rfl) (fun _ _ _ h => h) (Or.inl ⟨by rfl, ?_⟩) ?_ ?_
                    rotate_left
                    · intro w'; go_simp; with_reducible rfl
                    rotate_left
                    · simp only [Act.put, List.setIfInBounds_toArray, List.set_cons_zero, List.set_cons_succ, i64_w, i32_w]; rfl
                    refine pure_ (i := 3) (N := some 100) (v := ?_) (a' := ?_) #[true, true, true, true, false, false, false, false, false, false, false, false, false, false, false, false] rfl rfl (by kernel_rfl) (fun _ _ _ h => h) (Or.inl ⟨by rfl, ?_⟩) ?_ ?_
                    rotate_left
                    · intro w'; go_simp; with_reducible rfl
                    rotate_left
                    · simp only [Act.put, List.setIfInBounds_toArray, List.set_cons_zero, List.set_cons_succ, i64_w, i32_w]; rfl
                    refine take_ (i := 4) (N := some 101) (v := ?_) (a' := ?_) #[true, true, true, true, true, false, false, false, false, false, false, false, false, false, false, false] rfl rfl (by kernel_rfl) (fun _ _ _ h => h) (Or.inl ⟨by rfl, ?_⟩) hHeld ?_ ?_
                    rotate_left
                    · intro w' hw'; have z := pw_cell_below hw' hq1.out; go_simp; with_reducible rfl
                    rotate_left
                    · simp only [Act.put, List.setIfInBounds_toArray, List.set_cons_zero, List.set_cons_succ, i64_w, i32_w]; rfl
                    refine pure_ (i := 5) (N := some 102) (v := ?_) (a' := ?_) #[true, true, true, true, true, true, false, false, false, false, false, false, false, false, false, false] rfl rfl (by kernel_rfl) (fun _ _ _ h => h) (Or.inl ⟨by rfl, ?_⟩) ?_ ?_
                    rotate_left
                    · intro w'; go_simp; with_reducible rfl
                    rotate_left
                    · simp only [Act.put, List.setIfInBounds_toArray, List.set_cons_zero, List.set_cons_succ, i64_w, i32_w]; rfl
                    refine pure_ (i := 6) (N := some 103) (v := ?_) (a' := ?_) #[true, true, true, true, true, true, true, false, false, false, false, false, false, false, false, false] rfl rfl (by kernel_rfl) (fun _ _ _ h => h) (Or.inl ⟨by rfl, ?_⟩) ?_ ?_
                    rotate_left
                    · intro w'; go_simp; with_reducible rfl
                    rotate_left
                    · simp only [Act.put, List.setIfInBounds_toArray, List.set_cons_zero, List.set_cons_succ, i64_w, i32_w]; rfl
                    refine take_ (i := 7) (N := some 104) (v := .agg (b.cs)) (a' := ?_) #[true, true, true, true, true, true, true, true, false, false, false, false, false, false, false, false] rfl rfl (by kernel_rfl) (fun _ _ _ h => h) (Or.inl ⟨by rfl, fun w' hw' => load_row_run rfl rfl (blk_below HGB.out hw') _ Try.underlying31 rfl (by kernel_rfl)⟩) hHeld ?_ ?_
                    rotate_left
                    · simp only [Act.put, List.setIfInBounds_toArray, List.set_cons_zero, List.set_cons_succ]; rfl
                    refine pure_ (i := 8) (N := some 105) (v := ?_) (a' := ?_) #[true, true, true, true, true, true, true, true, true, false, false, false, false, false, false, false] rfl rfl (by kernel_rfl) (fun _ _ _ h => h) (Or.inl ⟨by rfl, ?_⟩) ?_ ?_
                    rotate_left
                    · intro w'; go_simp; with_reducible rfl
                    rotate_left
                    · simp only [Act.put, List.setIfInBounds_toArray, List.set_cons_zero, List.set_cons_succ, i64_w, i32_w]; rfl
                    refine pure_ (i := 9) (N := some 106) (v := ?_) (a' := ?_) #[true, true, true, true, true, true, true, true, true, true, false, false, false, false, false, false] rfl rfl (by kernel_rfl) (fun _ _ _ h => h) (Or.inl ⟨by rfl, ?_⟩) ?_ ?_
                    rotate_left
                    · intro w'; go_simp; with_reducible rfl
                    rotate_left
                    · simp only [Act.put, List.setIfInBounds_toArray, List.set_cons_zero, List.set_cons_succ, i64_w, i32_w]; rfl
                    refine pure_ (i := 10) (N := some 107) (v := ?_) (a' := ?_) #[true, true, true, true, true, true, true, true, true, true, true, false, false, false, false, false] rfl rfl (by kernel_rfl) (fun _ _ _ h => h) (Or.inl ⟨by rfl, ?_⟩) ?_ ?_
                    rotate_left
                    · intro w'; go_simp; with_reducible rfl
                    rotate_left
                    · simp only [Act.put, List.setIfInBounds_toArray, List.set_cons_zero, List.set_cons_succ, i64_w, i32_w]; rfl
                    refine pure_ (i := 11) (N := some 108) (v := ?_) (a' := ?_) #[true, true, true, true, true, true, true, true, true, true, true, true, false, false, false, false] rfl rfl (by kernel_rfl) (fun _ _ _ h => h) (Or.inl ⟨by rfl, ?_⟩) ?_ ?_
                    rotate_left
                    · intro w'; go_simp; with_reducible rfl
                    rotate_left
                    · simp only [Act.put, List.setIfInBounds_toArray, List.set_cons_zero, List.set_cons_succ, i64_w, i32_w]; rfl
                    refine take_ (i := 12) (N := some 109) (v := .agg ((r39 (rd_T39 ro k)).toArray)) (a' := ?_) #[true, true, true, true, true, true, true, true, true, true, true, true, true, false, false, false] rfl rfl (by kernel_rfl) (fun _ _ _ h => h) (Or.inl ⟨by rfl, fun w' hw' => load_at_run rfl rfl (r39_of (Kd.C_below HRO.out hw') k hk) _ Try.underlying39 rfl (by kernel_rfl)⟩) hHeld ?_ ?_
                    rotate_left
                    · simp only [Act.put, List.setIfInBounds_toArray, List.set_cons_zero, List.set_cons_succ]; rfl
                    refine one_ (i := 13) (N := some 110) #[true, true, true, true, true, true, true, true, true, true, true, true, true, true, false, false] rfl rfl (by kernel_rfl) (by decide) (fun K hK => ?_)
                    refine goes_ Try.func10 (by kernel_rfl) rfl #[b.val, .int .i64 stop, .agg (r39 (rd_T39 ro k)).toArray] (by rfl) rfl rfl (by simp only [List.map_toArray, List.map_cons, List.map_nil]; rfl) ?_
                    refine (hfut.out ▸ Futile_calls b stop (rd_T39 ro k) _ (HB.out.below hHeld) hpl).mono ?_; rintro e w8 ⟨rfl, hb⟩
                    refine ⟨_, rfl, ?_⟩
                    refine hK.out _ _ (below_step hHeld hb) (fun hHeld => ?_)
                    clear hK K
                    refine norm_ (a' := ?_) ?_ ?_
                    rotate_left
                    · show Act.put _ (some 110) _ = _; simp only [Act.put, List.setIfInBounds_toArray, List.set_cons_zero, List.set_cons_succ]; rfl
                    clear hb
                    refine pure_ (i := 14) (N := some 111) (v := ?_) (a' := ?_) #[true, true, true, true, true, true, true, true, true, true, true, true, true, true, true, false] rfl rfl (by kernel_rfl) (fun _ _ _ h => h) (Or.inl ⟨by rfl, ?_⟩) ?_ ?_
                    rotate_left
                    · intro w'; go_simp; with_reducible rfl
                    rotate_left
                    · simp only [Act.put, List.setIfInBounds_toArray, List.set_cons_zero, List.set_cons_succ, i64_w, i32_w]; rfl
                    refine pure_ (i := 15) (N := some 112) (v := ?_) (a' := ?_) #[true, true, true, true, true, true, true, true, true, true, true, true, true, true, true, true] rfl rfl (by kernel_rfl) (fun _ _ _ h => h) (Or.inl ⟨by rfl, ?_⟩) ?_ ?_
                    rotate_left
                    · intro w'; go_simp; with_reducible rfl
                    rotate_left
                    · simp only [Act.put, List.setIfInBounds_toArray, List.set_cons_zero, List.set_cons_succ, i64_w, i32_w]; rfl
                    refine done_ (by kernel_rfl) ?_
                    go_wp2
                    go_roundw
                    case rel => exact ⟨k + 1, by go_num, ⟨by have := hJ.out.1; omega, by omega, hHeld⟩⟩
                    case measure => simp [intOf]; omega
                · have hk1 : ¬ (k : Int) < (ro.length : Int) := by omega
                  go_wp2
                  go_roundw
                  case rel => exact ⟨i + 1, by go_num, ⟨by omega, hJ0.out.2.2⟩⟩
                  case measure => simp [intOf]; omega
        · have hlt' : ¬ (i : Int) < (ro.length : Int) := by omega
          go_wp2
          go_ret
          exact ⟨rfl, below_step HW.out hI.out.2⟩
end Go.Proofs.Ytddhaagfieldfaa.Hb
