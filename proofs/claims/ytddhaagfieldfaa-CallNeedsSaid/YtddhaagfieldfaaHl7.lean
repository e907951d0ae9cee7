import Derived.Test.YtddhaagfieldfaaHp4
namespace Go.Proofs.Ytddhaagfieldfaa.Hb
set_option linter.unusedVariables false
set_option linter.unusedSimpArgs false
open Go.RowKit Go.Proofs.YtddhaagfieldfaaW.PrintWords Go.Proofs.YtddhaagfieldfaaW.PrintLast Go.Proofs.YtddhaagfieldfaaW.PrintMore Go.Proofs.Ytddhaagfieldfaa.PCallTells Go.Proofs.Ytddhaagfieldfaa.Hw Go.Proofs.Ytddhaagfieldfaa.Q
attribute [local go_sem] run_store_v1 max2_int min2_int max_two min_two max_three min_three max_four min_four

theorem C60_plain' {w : World} {A : Option Addr} {n : Nat} {xs : List S60} (h : Kd.C k60 w A n xs) : ReadsRow (fun (x : S60) cs => cs = [.int .i64 x.f0, .int .i64 x.f1]) k60.sz w A n xs :=
  ⟨h.1, h.2.1, fun hp => by
    obtain ⟨ad, e, hc⟩ := h.2.2 hp
    exact ⟨ad, e, fun j p hj => by obtain ⟨c, h1, h2, h3⟩ := hc j p hj; exact ⟨c, h1, k60_open h2, h3⟩⟩⟩
theorem info_at : ∃ i, Try.prog.info? 60 = some i ∧ i.size = 2 := by
  have h := info60
  cases e : Try.prog.info? 60 with
  | none => rw [e] at h; cases h
  | some i => rw [e] at h; exact ⟨i, rfl, congrArg (fun x => x.2.1) (Option.some.inj h)⟩
/-- The begin of a row of excuses. -/
theorem head_rows (A : Option Addr) (c : Nat) (xs : List S60) (m : Nat) (hm : m ≤ xs.length) (hc : xs.length ≤ c) :
    (∀ W : World, (Instr.slice 34 (.slice A xs.length c) none (some (.int .i64 (m : Int))) none).run Try.prog W = .ok (.slice A m c) W) ∧ ∀ w, Kd.C k60 w A xs.length xs → Kd.C k60 w A m (xs.take m) := by
  refine ⟨fun W => ?_, fun w h => ?_⟩
  · obtain ⟨i, hi, hi2⟩ := info_at
    have h := cut_to (P := Try.prog) 34 60 .i64 Try.underlying34 hi A xs.length c (m : Int) (Int.natCast_nonneg _) (by omega) hc W
    rwa [Int.toNat_natCast] at h
  · have h2 := Kd.C_take h hm
    rwa [show (xs.take m).length = m by rw [List.length_take]; omega] at h2
/-- The end of a row of excuses. -/
theorem tail_rows (A : Option Addr) (c : Nat) (xs : List S60) (m : Nat) (hm : m < xs.length) (hc : xs.length ≤ c) :
    ∀ w, Kd.C k60 w A xs.length xs → Kd.C k60 w (if c = m + 1 then A else A.map (fun x => x.add ((m + 1) * 2))) (xs.length - (m + 1)) (xs.drop (m + 1)) := by
  intro w h
  have h2 := Kd.C_drop (c := c) h (show m + 1 ≤ xs.length by omega) hc
  rwa [List.length_drop] at h2
set_option maxRecDepth 100000 in
set_option maxHeartbeats 8000000 in
theorem CallNeeds_walk (b : BV) (A1 : Option Addr) (c1 : Nat) (ro : List S39) (A2 : Option Addr) (c2 : Nat) (su : List Int) (A3 : Option Addr) (c3 : Nat) (mo : List S60) (vi : Int) (w : World) (hb : b.In w) (hr1 : Kd.C k39 w A1 ro.length ro) (hc1 : ro.length ≤ c1) (hr2 : Kd.C (Kd.int .i64) w A2 su.length su) (hc2 : su.length ≤ c2)
    (hr3 : Kd.C k60 w A3 mo.length mo) (hc3 : mo.length ≤ c3) (hsz : mo.length * 16 ≤ 140737488351232) :
    Calls Try.prog 7 #[b.val, .slice A1 ro.length c1, .slice A2 su.length c2, .slice A3 mo.length c3, .int .i64 vi] w fun e w' => e = .returned (.bool true) ∧ Below w.heap.size w w' := by
  have HB := Aside0.mk hb
  have HRO := Aside0.mk hr1
  have HSU := Aside0.mk hr2
  have HMO0 := Aside0.mk hr3
  clear hb hr1 hr2 hr3
  go_enter Try.func7, Try.ntmps7
  go_upto_region 4 with (first
    | ((with_reducible refine gate_dst (N := 5) rfl ?_); refine ev_box rfl rfl b.cs 31 (by go_simp; done) ?_; intro gb w1 BK hgb hb1)
    | (go_at_call 8; refine (small_calls _).mono ?_; rintro e w2 ⟨rfl, hb2⟩)
    | ((with_reducible refine gate_dst (N := 21) rfl ?_); refine wpList_load_row rfl 31 _ rfl gb rfl 31 b.cs (0, 0) _ (blk_below BK hb2) Try.underlying31 rfl (by kernel_rfl) ?_)
    | (go_at_call 9; refine (Few_calls b A1 c1 ro none 0 [] _ (HB.out.below (below_step hb1 hb2)) (Kd.C_below HRO.out (below_step hb1 hb2)) hc1 (Kd.C_nil' _ _) (Nat.le_refl _)).mono ?_; rintro e w3 ⟨rfl, hb3⟩)
    | (go_at_call 22; refine (modest_calls A2 c2 su _ (Kd.C_below HSU.out (below_step hb1 (below_step hb2 hb3)))).mono ?_; rintro e w4 ⟨rfl, hb4⟩))
  try simp only [Act.put, List.setIfInBounds_toArray, List.set_cons_zero, List.set_cons_succ]
  have h04 := below_step hb1 (below_step hb2 (below_step hb3 hb4))
  have HGB4 := Aside0.mk (blk_below BK (below_step hb2 (below_step hb3 hb4)))
  have H04 := Aside0.mk h04
  clear hb1 hb2 hb3 hb4 h04 BK hgb
  cases hf : fewF b.pl ro [] with
  | false =>
    go_wp2
    go_ret
    exact ⟨rfl, H04.out⟩
  | true =>
    cases hm : modestF su with
    | false =>
      go_wp2
      go_ret
      exact ⟨rfl, H04.out⟩
    | true =>
      have hf' : b.pl.length ≤ 16 ∧ ro.length ≤ 14 := by
        unfold fewF at hf; simp only [Bool.and_eq_true, decide_eq_true_eq] at hf; exact ⟨hf.1, hf.2.1⟩
      obtain ⟨hpl6, hro⟩ := hf'
      have hpl : b.pl.length ≤ 1000 := by omega
      have hro' : ro.length ≤ 1000 := by omega
      have HM := Aside0.mk hm
      clear hf hm
      go_wp2
      go_loopw [14] (fun v14 W => ∃ k : Nat, v14 = .int .i64 k ∧ Aside0 (k ≤ ro.length ∧ Diff ro k ∧ Below w4.heap.size w4 W)) (fun v14 _ => ro.length - (intOf v14).toNat)
      case atStart => exact ⟨0, rfl, ⟨Nat.zero_le _, fun _ _ _ h => by omega, Below.refl _ _⟩⟩
      case round =>
        obtain ⟨k, rfl, hI⟩ := hrel
        by_cases hlt : k < ro.length
        · have hk0 : (0 : Int) ≤ (k : Int) := Int.natCast_nonneg _
          have hk1 : (k : Int) < (ro.length : Int) := by omega
          go_wp2
          go_loopw [15] (fun v15 W => ∃ j : Nat, v15 = .int .i64 j ∧ Aside0 (j ≤ k ∧ (∀ p : Nat, p < j → (rd_T39 ro p).f0 ≠ (rd_T39 ro k).f0) ∧ Below w4.heap.size w4 W)) (fun v15 _ => k - (intOf v15).toNat)
          case atStart => exact ⟨0, rfl, ⟨Nat.zero_le _, fun _ h => by omega, hI.out.2.2⟩⟩
          case round =>
            obtain ⟨j, rfl, hJ⟩ := hrel
            by_cases hjk : j < k
            · have hj0 : (0 : Int) ≤ (j : Int) := Int.natCast_nonneg _
              have hj1 : (j : Int) < (ro.length : Int) := by omega
              have hj2 : (j : Int) < (k : Int) := by omega
              have hBW := Aside0.mk (below_step H04.out hJ.out.2.2)
              obtain ⟨ad, e1, p0, _⟩ := at_T39 (Kd.C_below HRO.out hBW.out) j hj0 hj1
              obtain ⟨ad2, e2, q0, _⟩ := at_T39 (Kd.C_below HRO.out hBW.out) k hk0 hk1
              rw [e1] at e2
              injection e2 with e2
              subst e2
              rw [Int.toNat_natCast] at p0 q0
              have hA1 := e1
              subst hA1
              clear e1
              cases hq : ((rd_T39 ro j).f0 == (rd_T39 ro k).f0) with
              | true =>
                go_wp2
                go_quiet (fail)
                go_wp2
                go_ret
                exact ⟨rfl, below_step hBW.out (pw_below_drewN (Below.refl _ _) _)⟩
              | false =>
                go_wp2
                go_quiet (fail)
                go_wp2
                go_roundw
                case rel =>
                  refine ⟨j + 1, by go_num, ⟨by omega, fun p hp => ?_, below_step hJ.out.2.2 (pw_below_drewN (Below.refl _ _) _)⟩⟩
                  by_cases e : p = j
                  · subst e; exact fun h => by rw [h] at hq; simp at hq
                  · exact hJ.out.2.1 p (by omega)
                case measure => simp [intOf]; omega
            · have hj2 : ¬ (j : Int) < (k : Int) := by omega
              go_wp2
              go_roundw
              case rel =>
                refine ⟨k + 1, by go_num, ⟨by omega, fun p q hpq hq => ?_, hJ.out.2.2⟩⟩
                by_cases e : q = k
                · subst e; exact hJ.out.2.1 p (by have := hJ.out.1; omega)
                · exact hI.out.2.1 p q hpq (by omega)
              case measure => simp [intOf]; omega
        · have hk1 : ¬ (k : Int) < (ro.length : Int) := by omega
          obtain rfl : k = ro.length := by have := hI.out.1; omega
          have HD := Aside0.mk hI.out.2.1
          have HWr := Aside0.mk (below_step H04.out hI.out.2.2)
          have HGBr := Aside0.mk (blk_below HGB4.out hI.out.2.2)
          clear hI
          go_upto_region 16 with (first
            | ((with_reducible refine gate_dst (N := 57) rfl ?_); refine wpList_load_row rfl 31 _ rfl gb rfl 31 b.cs (0, 0) _ HGBr.out Try.underlying31 rfl (by kernel_rfl) ?_)
            | (go_at_call 23; refine (Day_calls b A1 c1 ro A2 c2 su _ (HB.out.below HWr.out) hpl (Kd.C_below HRO.out HWr.out) hc1 (Kd.C_below HSU.out HWr.out) hc2 hro').mono ?_; rintro e w2 ⟨v0, v1, rfl, hR6, hR7, hb6⟩; obtain ⟨A6, c6, rfl⟩ := Kd.R_slice hR6; obtain ⟨A7, c7, rfl⟩ := Kd.R_slice hR7)
            | ((with_reducible refine gate_dst (N := 63) rfl ?_); refine wpList_load_row rfl 31 _ rfl gb rfl 31 b.cs (0, 0) _ (blk_below HGBr.out hb6) Try.underlying31 rfl (by kernel_rfl) ?_)
            | (go_at_call 16; refine (Excuses_calls b A1 c1 ro A2 c2 su A6 c6 (dayF b.pl ro su).1 _ ⟨HB.out.below (below_step HWr.out hb6), hpl, Kd.C_below HRO.out (below_step HWr.out hb6), hc1, Kd.C_below HSU.out (below_step HWr.out hb6), hc2, (Kd.R_reads' hR6).2.2, (Kd.R_reads' hR6).2.1, hro'⟩).mono ?_; rintro e w5 ⟨v8, rfl, hR8, hb8⟩; obtain ⟨A8, c8, rfl⟩ := Kd.R_slice hR8))
          try simp only [Act.put, List.setIfInBounds_toArray, List.set_cons_zero, List.set_cons_succ]
          have HW := Aside0.mk (below_step HWr.out (below_step hb6 hb8))
          have HGB := Aside0.mk (blk_below HGBr.out (below_step hb6 hb8))
          have hc6 := (Kd.R_reads' hR6).2.1
          have HAG := Aside0.mk (show Args b A1 c1 ro A2 c2 su A6 c6 (dayF b.pl ro su).1 w5 from ⟨HB.out.below HW.out, hpl, Kd.C_below HRO.out HW.out, hc1, Kd.C_below HSU.out HW.out, hc2, Kd.C_below (Kd.R_reads' hR6).2.2 hb8, hc6, hro'⟩)
          have HMO := Aside0.mk (Kd.C_below HMO0.out HW.out)
          have HX := Aside0.mk (Kd.R_reads' hR8).2.2
          have hc8 := (Kd.R_reads' hR8).2.1
          have hxl : (excTo b.pl ro su (dayF b.pl ro su).1 ro.length).length ≤ 14 * 14 := Nat.le_trans (excTo_length ..) (Nat.mul_le_mul hro hro)
          have HALL := Aside0.mk (show checkF b.pl ro su (dayF b.pl ro su).1 ([] ++ mo ++ excTo b.pl ro su (dayF b.pl ro su).1 ro.length) = true from check_all b.pl ro su hpl6 HM.out ([] ++ mo))
          have HNEED := Aside0.mk (fun m h => needs b.pl ro su hpl6 HM.out HD.out m h)
          clear hR6 hR7 hb6 hR8 hb8 HGBr HWr HM HD HGB4 H04 hk1
          obtain ⟨xs, hxs⟩ : ∃ xs, excTo b.pl ro su (dayF b.pl ro su).1 ro.length = xs := ⟨_, rfl⟩
          rw [hxs] at HX hc8 hxl HALL HNEED ⊢
          clear hxs
          obtain ⟨gs, hgs⟩ : ∃ gs, (dayF b.pl ro su).1 = gs := ⟨_, rfl⟩
          rw [hgs] at hc6 HAG HALL HNEED ⊢
          clear hgs
          go_wp2
          refine start_ (n := 11) (S := fun w' => Below w5.heap.size w5 w') (ds := []) #[false, false, false, false, false, false, false, false, false, false, false] (by kernel_rfl) rfl rfl (Below.refl _ _).drew (fun hHeld => ?_)
          generalize w5.drew = w6 at hHeld ⊢
          refine take_ (i := 0) (N := some 68) (v := .agg (b.cs)) (a' := ?_) #[true, false, false, false, false, false, false, false, false, false, false] rfl rfl (by kernel_rfl) (fun _ _ _ h => h) (Or.inl ⟨by rfl, fun w' hw' => load_row_run rfl rfl (blk_below HGB.out hw') _ Try.underlying31 rfl (by kernel_rfl)⟩) hHeld ?_ ?_
          rotate_left
          · simp only [Act.put, List.setIfInBounds_toArray, List.set_cons_zero, List.set_cons_succ]; rfl
          refine pure_ (i := 1) (N := some 69) (v := ?_) (a' := ?_) #[true, true, false, false, false, false, false, false, false, false, false] rfl rfl (by kernel_rfl) (fun _ _ _ h => h) (Or.inl ⟨by rfl, ?_⟩) ?_ ?_
          rotate_left
          · intro w'; go_simp; with_reducible rfl
          rotate_left
          · simp only [Act.put, List.setIfInBounds_toArray, List.set_cons_zero, List.set_cons_succ, i64_w, i32_w]; rfl
          refine pure_ (i := 2) (N := some 70) (v := ?_) (a' := ?_) #[true, true, true, false, false, false, false, false, false, false, false] rfl rfl (by kernel_rfl) (fun _ _ _ h => h) (Or.inl ⟨by rfl, ?_⟩) ?_ ?_
          rotate_left
          · intro w'; go_simp; with_reducible rfl
          rotate_left
          · simp only [Act.put, List.setIfInBounds_toArray, List.set_cons_zero, List.set_cons_succ, i64_w, i32_w]; rfl
          refine pure_ (i := 3) (N := some 71) (v := ?_) (a' := ?_) #[true, true, true, true, false, false, false, false, false, false, false] rfl rfl (by kernel_rfl) (fun _ _ _ h => h) (Or.inl ⟨by rfl, ?_⟩) ?_ ?_
          rotate_left
          · intro w'; go_simp; with_reducible rfl
          rotate_left
          · simp only [Act.put, List.setIfInBounds_toArray, List.set_cons_zero, List.set_cons_succ, i64_w, i32_w]; rfl
          refine pure_ (i := 5) (N := some 73) (v := ?_) (a' := ?_) #[true, true, true, true, false, true, false, false, false, false, false] rfl rfl (by kernel_rfl) (fun _ _ _ h => h) (Or.inl ⟨by rfl, ?_⟩) ?_ ?_
          rotate_left
          · intro w'; go_simp; with_reducible rfl
          rotate_left
          · simp only [Act.put, List.setIfInBounds_toArray, List.set_cons_zero, List.set_cons_succ, i64_w, i32_w]; rfl
          refine pure_ (i := 7) (N := some 75) (v := ?_) (a' := ?_) #[true, true, true, true, false, true, false, true, false, false, false] rfl rfl (by kernel_rfl) (fun _ _ _ h => h) (Or.inl ⟨by rfl, ?_⟩) ?_ ?_
          rotate_left
          · intro w'; go_simp; with_reducible rfl
          rotate_left
          · simp only [Act.put, List.setIfInBounds_toArray, List.set_cons_zero, List.set_cons_succ, i64_w, i32_w]; rfl
          refine one_ (i := 4) (N := some 72) #[true, true, true, true, true, true, false, true, false, false, false] rfl rfl (by kernel_rfl) (by decide) (fun K hK => ?_)
          refine Kd.R_lit_step k60 (w0 := w5) w5.heap.size 60 (by rfl) rfl (xs := []) (inner := []) (okp := fun _ => False) (ok := fun _ => True) (by go_simp; done) (Reps.none _ _) (fun _ h => h.elim) trivial hHeld (below_size hHeld) (by decide) ?_
          intro v1 w7 hR1 hB1 _ _
          have HR1 := Aside0.mk hR1
          clear hR1
          refine hK.out _ _ hB1 (fun hHeld => ?_)
          clear hK K hB1
          refine norm_ (a' := ?_) ?_ ?_
          rotate_left
          · show Act.put _ (some 72) _ = _; simp only [Act.put, List.setIfInBounds_toArray, List.set_cons_zero, List.set_cons_succ]; rfl
          refine one_ (i := 6) (N := some 74) #[true, true, true, true, true, true, true, true, false, false, false] rfl rfl (by kernel_rfl) (by decide) (fun K hK => ?_)
          refine Kd.R_append_rows_step k60 (w0 := w5) w5.heap.size (by rfl) (.tmp 72) (.tmp 73) 34 60 (.agg #[(.int .i64 0), (.int .i64 0)]) 16 rfl Try.underlying34 info60 rfl (by decide) (by omega) v1 ([]) (mo) A3 mo.length c3 (fun _ => True) (fun _ => False) rfl rfl HR1.out (C60_plain' (Kd.C_below HMO.out hHeld)) (fun x cs h => by subst h; exact k60_mkM _ _ _ x) (fun _ hk => hk.elim) (fun _ _ => trivial) hHeld (below_size hHeld) (by simp; omega) ?_
          intro v2 w8 hR3 hB3 _ _
          have HR2 := Aside0.mk hR3
          clear hR3
          refine hK.out _ _ hB3 (fun hHeld => ?_)
          clear hK K hB3
          refine norm_ (a' := ?_) ?_ ?_
          rotate_left
          · show Act.put _ (some 74) _ = _; simp only [Act.put, List.setIfInBounds_toArray, List.set_cons_zero, List.set_cons_succ]; rfl
          refine one_ (i := 8) (N := some 76) #[true, true, true, true, true, true, true, true, true, false, false] rfl rfl (by kernel_rfl) (by decide) (fun K hK => ?_)
          refine Kd.R_append_rows_step k60 (w0 := w5) w5.heap.size (by rfl) (.tmp 74) (.tmp 75) 34 60 (.agg #[(.int .i64 0), (.int .i64 0)]) 16 rfl Try.underlying34 info60 rfl (by decide) (by omega) v2 ([] ++ mo) (xs) A8 xs.length c8 (fun _ => True) (fun _ => False) rfl rfl HR2.out (C60_plain' (Kd.C_below HX.out hHeld)) (fun x cs h => by subst h; exact k60_mkM _ _ _ x) (fun _ hk => hk.elim) (fun _ _ => trivial) hHeld (below_size hHeld) (by simp; omega) ?_
          intro v3 w9 hR3 hB3 _ _
          obtain ⟨A9, c9, rfl⟩ := Kd.R_slice hR3
          have HR3 := Aside0.mk hR3
          clear hR3
          refine hK.out _ _ hB3 (fun hHeld => ?_)
          clear hK K hB3
          refine norm_ (a' := ?_) ?_ ?_
          rotate_left
          · show Act.put _ (some 76) _ = _; simp only [Act.put, List.setIfInBounds_toArray, List.set_cons_zero, List.set_cons_succ]; rfl
          refine one_ (i := 9) (N := some 77) #[true, true, true, true, true, true, true, true, true, true, false] rfl rfl (by kernel_rfl) (by decide) (fun K hK => ?_)
          refine goes_ Try.func20 (by kernel_rfl) rfl #[b.val, .slice A1 ro.length c1, .slice A2 su.length c2, .slice A6 gs.length c6, .slice A9 ([] ++ mo ++ xs).length c9] (by rfl) rfl rfl (by simp only [List.map_toArray, List.map_cons, List.map_nil]; rfl) ?_
          refine (HALL.out ▸ Check_calls b A1 c1 ro A2 c2 su A6 c6 gs A9 c9 ([] ++ mo ++ xs) _ (HAG.out.below hHeld) (Kd.R_reads' HR3.out).2.2 (Kd.R_reads' HR3.out).2.1 (by simp; omega)).mono ?_; rintro e w10 ⟨rfl, hb⟩
          refine ⟨_, rfl, ?_⟩
          refine hK.out _ _ (below_step hHeld hb) (fun hHeld => ?_)
          clear hK K
          refine norm_ (a' := ?_) ?_ ?_
          rotate_left
          · show Act.put _ (some 77) _ = _; simp only [Act.put, List.setIfInBounds_toArray, List.set_cons_zero, List.set_cons_succ]; rfl
          clear hb HR1 HR2 HR3
          refine pure_ (i := 10) (N := some 78) (v := ?_) (a' := ?_) #[true, true, true, true, true, true, true, true, true, true, true] rfl rfl (by kernel_rfl) (fun _ _ _ h => h) (Or.inl ⟨by rfl, ?_⟩) ?_ ?_
          rotate_left
          · intro w'; go_simp; with_reducible rfl
          rotate_left
          · simp only [Act.put, List.setIfInBounds_toArray, List.set_cons_zero, List.set_cons_succ, i64_w, i32_w]; rfl
          refine done_ (by kernel_rfl) ?_
          have HW10 := Aside0.mk (below_step HW.out hHeld)
          have HGB10 := Aside0.mk (blk_below HGB.out hHeld)
          have HAG10 := Aside0.mk (HAG.out.below hHeld)
          have HX10 := Aside0.mk (Kd.C_below HX.out hHeld)
          clear hHeld HALL HX HGB HAG HMO
          cases a1 : decide (vi < 0) with
          | true =>
            go_wp2
            go_ret
            exact ⟨rfl, HW10.out⟩
          | false =>
            cases a2 : decide ((xs.length : Int) ≤ vi) with
            | true =>
              go_wp2
              go_ret
              exact ⟨rfl, HW10.out⟩
            | false =>
              obtain ⟨m, rfl⟩ := Int.eq_ofNat_of_zero_le (show 0 ≤ vi by simpa using a1)
              have hml : m < xs.length := by have := of_decide_eq_false a2; omega
              go_wp2
              have HNO := Aside0.mk (show checkF b.pl ro su gs ([] ++ xs.take m ++ xs.drop (m + 1)) = false from HNEED.out m hml)
              obtain ⟨ht1, ht2⟩ := head_rows A8 c8 xs m (by omega) hc8
              have ht4 := tail_rows A8 c8 xs m hml hc8
              have HT1 := Aside0.mk ht2
              have HT2 := Aside0.mk ht4
              have hw1 := Aside0.mk (show wrap64 ((m : Int) + 1) = (m : Int) + 1 by unfold wrap64; omega)
              have hm0 : (0 : Int) ≤ (m : Int) := Int.natCast_nonneg _
              have hm1 : (0 : Int) ≤ (m : Int) + 1 := by omega
              have hm2 : (m : Int) + 1 ≤ (xs.length : Int) := by omega
              have hm3 : (m : Int) ≤ (c8 : Int) := by omega
              clear ht1 ht2 ht4
              refine start_ (n := 11) (S := fun w' => Below w10.heap.size w10 w') (ds := []) #[false, false, false, false, false, false, false, false, false, false, false] (by kernel_rfl) rfl rfl (Below.refl _ _).drew (fun hHeld => ?_)
              generalize w10.drew = w11 at hHeld ⊢
              refine pure_ (i := 1) (N := some 89) (v := ?_) (a' := ?_) #[false, true, false, false, false, false, false, false, false, false, false] rfl rfl (by kernel_rfl) (fun _ _ _ h => h) (Or.inl ⟨by rfl, ?_⟩) ?_ ?_
              rotate_left
              · intro w'; go_simp; with_reducible rfl
              rotate_left
              · simp only [Act.put, List.setIfInBounds_toArray, List.set_cons_zero, List.set_cons_succ, i64_w, i32_w]; rfl
              refine pure_ (i := 2) (N := some 90) (v := ?_) (a' := ?_) #[false, true, true, false, false, false, false, false, false, false, false] rfl rfl (by kernel_rfl) (fun _ _ _ h => h) (Or.inl ⟨by rfl, ?_⟩) ?_ ?_
              rotate_left
              · intro w'; go_simp; with_reducible rfl
              rotate_left
              · simp only [Act.put, List.setIfInBounds_toArray, List.set_cons_zero, List.set_cons_succ, i64_w, i32_w]; rfl
              refine pure_ (i := 3) (N := some 91) (v := ?_) (a' := ?_) #[false, true, true, true, false, false, false, false, false, false, false] rfl rfl (by kernel_rfl) (fun _ _ _ h => h) (Or.inl ⟨by rfl, ?_⟩) ?_ ?_
              rotate_left
              · intro w'; go_simp; with_reducible rfl
              rotate_left
              · simp only [Act.put, List.setIfInBounds_toArray, List.set_cons_zero, List.set_cons_succ, i64_w, i32_w]; rfl
              refine pure_ (i := 5) (N := some 93) (v := ?_) (a' := ?_) #[false, true, true, true, false, true, false, false, false, false, false] rfl rfl (by kernel_rfl) (fun _ _ _ h => h) (Or.inl ⟨by rfl, ?_⟩) ?_ ?_
              rotate_left
              · intro w'; go_simp; with_reducible rfl
              rotate_left
              · simp only [Act.put, List.setIfInBounds_toArray, List.set_cons_zero, List.set_cons_succ, i64_w, i32_w]; rfl
              refine pure_ (i := 6) (N := some 94) (v := ?_) (a' := ?_) #[false, true, true, true, false, true, true, false, false, false, false] rfl rfl (by kernel_rfl) (fun _ _ _ h => h) (Or.inl ⟨by rfl, ?_⟩) ?_ ?_
              rotate_left
              · intro w'; go_simp; with_reducible rfl
              rotate_left
              · simp only [Act.put, List.setIfInBounds_toArray, List.set_cons_zero, List.set_cons_succ, i64_w, i32_w]; rfl
              refine pure_ (i := 7) (N := some 95) (v := .int .i64 ((m : Int) + 1)) (a' := ?_) #[false, true, true, true, false, true, true, true, false, false, false] rfl rfl (by kernel_rfl) (fun _ _ _ h => h) (Or.inl ⟨by rfl, ?_⟩) ?_ ?_
              · intro w'; go_simp; simp only [i64_w, hw1.out]
              rotate_left
              · simp only [Act.put, List.setIfInBounds_toArray, List.set_cons_zero, List.set_cons_succ, i64_w, i32_w]; rfl
              refine pure_ (i := 8) (N := some 96) (v := ?_) (a' := ?_) #[false, true, true, true, false, true, true, true, true, false, false] rfl rfl (by kernel_rfl) (fun _ _ _ h => h) (Or.inl ⟨by rfl, ?_⟩) ?_ ?_
              rotate_left
              · intro w'; go_simp; with_reducible rfl
              rotate_left
              · simp only [Act.put, List.setIfInBounds_toArray, List.set_cons_zero, List.set_cons_succ, i64_w, i32_w]; rfl
              refine one_ (i := 0) (N := some 88) #[true, true, true, true, false, true, true, true, true, false, false] rfl rfl (by kernel_rfl) (by decide) (fun K hK => ?_)
              refine Kd.R_lit_step k60 (w0 := w10) w10.heap.size 60 (by rfl) rfl (xs := []) (inner := []) (okp := fun _ => False) (ok := fun _ => True) (by go_simp; done) (Reps.none _ _) (fun _ h => h.elim) trivial hHeld (below_size hHeld) (by decide) ?_
              intro v1 w7 hR1 hB1 _ _
              have HR1 := Aside0.mk hR1
              clear hR1
              refine hK.out _ _ hB1 (fun hHeld => ?_)
              clear hK K hB1
              refine norm_ (a' := ?_) ?_ ?_
              rotate_left
              · show Act.put _ (some 88) _ = _; simp only [Act.put, List.setIfInBounds_toArray, List.set_cons_zero, List.set_cons_succ]; rfl
              refine one_ (i := 4) (N := some 92) #[true, true, true, true, true, true, true, true, true, false, false] rfl rfl (by kernel_rfl) (by decide) (fun K hK => ?_)
              refine Kd.R_append_rows_step k60 (w0 := w10) w10.heap.size (by rfl) (.tmp 88) (.tmp 91) 34 60 (.agg #[(.int .i64 0), (.int .i64 0)]) 16 rfl Try.underlying34 info60 rfl (by decide) (by omega) v1 ([]) (xs.take m) A8 m c8 (fun _ => True) (fun _ => False) rfl rfl HR1.out (C60_plain' (HT1.out _ (Kd.C_below HX10.out hHeld))) (fun x cs h => by subst h; exact k60_mkM _ _ _ x) (fun _ hk => hk.elim) (fun _ _ => trivial) hHeld (below_size hHeld) (by simp; omega) ?_
              intro v4 w12 hR3 hB3 _ _
              have HR4 := Aside0.mk hR3
              clear hR3
              refine hK.out _ _ hB3 (fun hHeld => ?_)
              clear hK K hB3
              refine norm_ (a' := ?_) ?_ ?_
              rotate_left
              · show Act.put _ (some 92) _ = _; simp only [Act.put, List.setIfInBounds_toArray, List.set_cons_zero, List.set_cons_succ]; rfl
              refine one_ (i := 9) (N := some 97) #[true, true, true, true, true, true, true, true, true, true, false] rfl rfl (by kernel_rfl) (by decide) (fun K hK => ?_)
              refine Kd.R_append_rows_step k60 (w0 := w10) w10.heap.size (by rfl) (.tmp 92) (.tmp 96) 34 60 (.agg #[(.int .i64 0), (.int .i64 0)]) 16 rfl Try.underlying34 info60 rfl (by decide) (by omega) v4 ([] ++ xs.take m) (xs.drop (m + 1)) (if c8 = m + 1 then A8 else A8.map (fun x => x.add ((m + 1) * 2))) (xs.length - (m + 1)) (c8 - (m + 1)) (fun _ => True) (fun _ => False) rfl rfl HR4.out (C60_plain' (HT2.out _ (Kd.C_below HX10.out hHeld))) (fun x cs h => by subst h; exact k60_mkM _ _ _ x) (fun _ hk => hk.elim) (fun _ _ => trivial) hHeld (below_size hHeld) (by simp; omega) ?_
              intro v5 w13 hR3 hB3 _ _
              obtain ⟨A14, c14, rfl⟩ := Kd.R_slice hR3
              obtain ⟨Y, hY⟩ : ∃ Y, [] ++ xs.take m ++ xs.drop (m + 1) = Y := ⟨_, rfl⟩
              have hYl : Y.length ≤ 9223372036854775806 := by rw [← hY]; simp; omega
              have KN := Aside0.mk (show checkF b.pl ro su gs Y = false from hY ▸ HNO.out)
              rw [hY] at hR3 ⊢
              clear hY
              have HR5 := Aside0.mk hR3
              clear hR3
              refine hK.out _ _ hB3 (fun hHeld => ?_)
              clear hK K hB3
              refine norm_ (a' := ?_) ?_ ?_
              rotate_left
              · show Act.put _ (some 97) _ = _; simp only [Act.put, List.setIfInBounds_toArray, List.set_cons_zero, List.set_cons_succ]; rfl
              refine pure_ (i := 10) (N := some 19) (v := ?_) (a' := ?_) #[true, true, true, true, true, true, true, true, true, true, true] rfl rfl (by kernel_rfl) (fun _ _ _ h => h) (Or.inl ⟨by rfl, ?_⟩) ?_ ?_
              rotate_left
              · intro w'; go_simp; with_reducible rfl
              rotate_left
              · simp only [Act.put, List.setIfInBounds_toArray, List.set_cons_zero, List.set_cons_succ, i64_w, i32_w]; rfl
              refine done_ (by kernel_rfl) ?_
              have HX14 := Aside0.mk (Kd.R_reads' HR5.out).2.2
              have hc14 := (Kd.R_reads' HR5.out).2.1
              have H13 := Aside0.mk hHeld
              clear hHeld HR1 HR4 HR5 HT1 HT2
              go_wp2_with (first
                | ((with_reducible refine gate_dst (N := 100) rfl ?_); (try (refine gate_guard (by rfl) ?_; dsimp only)); refine wpList_load_row rfl 31 _ rfl gb rfl 31 b.cs (0, 0) _ (blk_below HGB10.out H13.out) Try.underlying31 rfl (by kernel_rfl) ?_)
                | (go_at_call 20; refine (Check_calls b A1 c1 ro A2 c2 su A6 c6 gs A14 c14 Y _ (HAG10.out.below H13.out) HX14.out hc14 hYl).mono ?_; rw [KN.out]; rintro e w15 ⟨rfl, hb15⟩))
              all_goals (go_ret; exact ⟨rfl, below_step HW10.out (below_step H13.out hb15)⟩)

end Go.Proofs.Ytddhaagfieldfaa.Hb
