import Derived.Test.YtddhaagfieldfaaHp3
namespace Go.Proofs.Ytddhaagfieldfaa.Hb
set_option linter.unusedVariables false
set_option linter.unusedSimpArgs false
open Go.RowKit Go.Proofs.YtddhaagfieldfaaW.PrintWords Go.Proofs.YtddhaagfieldfaaW.PrintLast Go.Proofs.YtddhaagfieldfaaW.PrintMore Go.Proofs.Ytddhaagfieldfaa.PCallTells Go.Proofs.Ytddhaagfieldfaa.Hw Go.Proofs.Ytddhaagfieldfaa.Q
attribute [local go_sem] run_store_v1 max2_int min2_int max_two min_two max_three min_three max_four min_four

theorem C60_plain {w : World} {A : Option Addr} {n : Nat} {xs : List S60} (h : Kd.C k60 w A n xs) : ReadsRow (fun (x : S60) cs => cs = [.int .i64 x.f0, .int .i64 x.f1]) k60.sz w A n xs :=
  ⟨h.1, h.2.1, fun hp => by
    obtain ⟨ad, e, hc⟩ := h.2.2 hp
    exact ⟨ad, e, fun j p hj => by obtain ⟨c, h1, h2, h3⟩ := hc j p hj; exact ⟨c, h1, k60_open h2, h3⟩⟩⟩
set_option maxRecDepth 100000 in
set_option maxHeartbeats 8000000 in
theorem CallOnly_walk (b : BV) (A1 : Option Addr) (c1 : Nat) (ro : List S39) (A2 : Option Addr) (c2 : Nat) (su : List Int) (A3 : Option Addr) (c3 : Nat) (gr : List S53) (A4 : Option Addr) (c4 : Nat) (ex : List S60) (w : World) (hb : b.In w) (hr1 : Kd.C k39 w A1 ro.length ro) (hc1 : ro.length ≤ c1) (hr2 : Kd.C (Kd.int .i64) w A2 su.length su) (hc2 : su.length ≤ c2)
    (hr3 : Kd.C k53 w A3 gr.length gr) (hc3 : gr.length ≤ c3) (hr4 : Kd.C k60 w A4 ex.length ex) (hc4 : ex.length ≤ c4) (hsz : ex.length * 16 ≤ 140737488351232) :
    Calls Try.prog 4 #[b.val, .slice A1 ro.length c1, .slice A2 su.length c2, .slice A3 gr.length c3, .slice A4 ex.length c4] w fun e w' => e = .returned (.bool true) ∧ Below w.heap.size w w' := by
  have HB := Aside0.mk hb
  have HRO := Aside0.mk hr1
  have HSU := Aside0.mk hr2
  have HGR := Aside0.mk hr3
  have HEX0 := Aside0.mk hr4
  clear hb hr1 hr2 hr3 hr4
  go_enter Try.func4, Try.ntmps4
  go_upto_region 4 with (first
    | ((with_reducible refine gate_dst (N := 5) rfl ?_); refine ev_box rfl rfl b.cs 31 (by go_simp; done) ?_; intro gb w1 BK hgb hb1)
    | (go_at_call 8; refine (small_calls _).mono ?_; rintro e w2 ⟨rfl, hb2⟩)
    | ((with_reducible refine gate_dst (N := 18) rfl ?_); refine wpList_load_row rfl 31 _ rfl gb rfl 31 b.cs (0, 0) _ (blk_below BK hb2) Try.underlying31 rfl (by kernel_rfl) ?_)
    | (go_at_call 9; refine (Few_calls b A1 c1 ro A3 c3 gr _ (HB.out.below (below_step hb1 hb2)) (Kd.C_below HRO.out (below_step hb1 hb2)) hc1 (Kd.C_below HGR.out (below_step hb1 hb2)) hc3).mono ?_; rintro e w3 ⟨rfl, hb3⟩)
    | (go_at_call 22; refine (modest_calls A2 c2 su _ (Kd.C_below HSU.out (below_step hb1 (below_step hb2 hb3)))).mono ?_; rintro e w4 ⟨rfl, hb4⟩))
  try simp only [Act.put, List.setIfInBounds_toArray, List.set_cons_zero, List.set_cons_succ]
  have h04 := below_step hb1 (below_step hb2 (below_step hb3 hb4))
  have HGB4 := Aside0.mk (blk_below BK (below_step hb2 (below_step hb3 hb4)))
  have H04 := Aside0.mk h04
  clear hb1 hb2 hb3 hb4 h04 BK hgb
  cases hf : fewF b.pl ro gr with
  | false =>
    go_wp2
    go_ret
    exact ⟨rfl, H04.out⟩
  | true =>
    cases hm : modestF su with
    | false =>
      go_wp2
      go_ret
      exact ⟨rfl, H04.out⟩
    | true =>
      have hf' : b.pl.length ≤ 16 ∧ ro.length ≤ 14 := by
        unfold fewF at hf; simp only [Bool.and_eq_true, decide_eq_true_eq] at hf; exact ⟨hf.1, hf.2.1⟩
      obtain ⟨hpl6, hro⟩ := hf'
      have hpl : b.pl.length ≤ 1000 := by omega
      have hro' : ro.length ≤ 1000 := by omega
      have HALL := Aside0.mk (show checkF b.pl ro su (dayF b.pl ro su).1 (excTo b.pl ro su (dayF b.pl ro su).1 ro.length) = true from check_all b.pl ro su hpl6 hm [])
      have HON := Aside0.mk (fun x h => only_eq b.pl ro su gr x hpl6 hro hm h)
      clear hf hm
      go_wp2_with (first
        | ((with_reducible refine gate_dst (N := 32) rfl ?_); refine wpList_load_row rfl 31 _ rfl gb rfl 31 b.cs (0, 0) _ HGB4.out Try.underlying31 rfl (by kernel_rfl) ?_)
        | (go_at_call 23; refine (Day_calls b A1 c1 ro A2 c2 su _ (HB.out.below H04.out) hpl (Kd.C_below HRO.out H04.out) hc1 (Kd.C_below HSU.out H04.out) hc2 hro').mono ?_; rintro e w2 ⟨v0, v1, rfl, hR6, hR7, hb6⟩; obtain ⟨A6, c6, rfl⟩ := Kd.R_slice hR6; obtain ⟨A7, c7, rfl⟩ := Kd.R_slice hR7))
      have HW := Aside0.mk (below_step H04.out hb6)
      have HGB := Aside0.mk (blk_below HGB4.out hb6)
      have HAG := Aside0.mk (show Args b A1 c1 ro A2 c2 su A6 c6 (dayF b.pl ro su).1 w2 from ⟨HB.out.below HW.out, hpl, Kd.C_below HRO.out HW.out, hc1, Kd.C_below HSU.out HW.out, hc2, (Kd.R_reads' hR6).2.2, (Kd.R_reads' hR6).2.1, hro'⟩)
      have HA := Aside0.mk (show Args b A1 c1 ro A2 c2 su A3 c3 gr w2 from ⟨HB.out.below HW.out, hpl, Kd.C_below HRO.out HW.out, hc1, Kd.C_below HSU.out HW.out, hc2, Kd.C_below HGR.out HW.out, hc3, hro'⟩)
      clear hR6 hR7 hb6 HGB4 H04
      obtain ⟨gs, hgs⟩ : ∃ gs, (dayF b.pl ro su).1 = gs := ⟨_, rfl⟩
      rw [hgs] at HALL HON HAG ⊢
      clear hgs
      refine start_ (n := 11) (S := fun w' => Below w2.heap.size w2 w') (ds := []) #[false, false, false, false, false, false, false, false, false, false, false] (by kernel_rfl) rfl rfl (Below.refl _ _).drew (fun hHeld => ?_)
      generalize w2.drew = w3 at hHeld ⊢
      refine take_ (i := 0) (N := some 38) (v := .agg (b.cs)) (a' := ?_) #[true, false, false, false, false, false, false, false, false, false, false] rfl rfl (by kernel_rfl) (fun _ _ _ h => h) (Or.inl ⟨by rfl, fun w' hw' => load_row_run rfl rfl (blk_below HGB.out hw') _ Try.underlying31 rfl (by kernel_rfl)⟩) hHeld ?_ ?_
      rotate_left
      · simp only [Act.put, List.setIfInBounds_toArray, List.set_cons_zero, List.set_cons_succ]; rfl
      refine pure_ (i := 1) (N := some 39) (v := ?_) (a' := ?_) #[true, true, false, false, false, false, false, false, false, false, false] rfl rfl (by kernel_rfl) (fun _ _ _ h => h) (Or.inl ⟨by rfl, ?_⟩) ?_ ?_
      rotate_left
      · intro w'; go_simp; with_reducible rfl
      rotate_left
      · simp only [Act.put, List.setIfInBounds_toArray, List.set_cons_zero, List.set_cons_succ, i64_w, i32_w]; rfl
      refine pure_ (i := 2) (N := some 40) (v := ?_) (a' := ?_) #[true, true, true, false, false, false, false, false, false, false, false] rfl rfl (by kernel_rfl) (fun _ _ _ h => h) (Or.inl ⟨by rfl, ?_⟩) ?_ ?_
      rotate_left
      · intro w'; go_simp; with_reducible rfl
      rotate_left
      · simp only [Act.put, List.setIfInBounds_toArray, List.set_cons_zero, List.set_cons_succ, i64_w, i32_w]; rfl
      refine pure_ (i := 3) (N := some 41) (v := ?_) (a' := ?_) #[true, true, true, true, false, false, false, false, false, false, false] rfl rfl (by kernel_rfl) (fun _ _ _ h => h) (Or.inl ⟨by rfl, ?_⟩) ?_ ?_
      rotate_left
      · intro w'; go_simp; with_reducible rfl
      rotate_left
      · simp only [Act.put, List.setIfInBounds_toArray, List.set_cons_zero, List.set_cons_succ, i64_w, i32_w]; rfl
      refine take_ (i := 4) (N := some 42) (v := .agg (b.cs)) (a' := ?_) #[true, true, true, true, true, false, false, false, false, false, false] rfl rfl (by kernel_rfl) (fun _ _ _ h => h) (Or.inl ⟨by rfl, fun w' hw' => load_row_run rfl rfl (blk_below HGB.out hw') _ Try.underlying31 rfl (by kernel_rfl)⟩) hHeld ?_ ?_
      rotate_left
      · simp only [Act.put, List.setIfInBounds_toArray, List.set_cons_zero, List.set_cons_succ]; rfl
      refine pure_ (i := 5) (N := some 43) (v := ?_) (a' := ?_) #[true, true, true, true, true, true, false, false, false, false, false] rfl rfl (by kernel_rfl) (fun _ _ _ h => h) (Or.inl ⟨by rfl, ?_⟩) ?_ ?_
      rotate_left
      · intro w'; go_simp; with_reducible rfl
      rotate_left
      · simp only [Act.put, List.setIfInBounds_toArray, List.set_cons_zero, List.set_cons_succ, i64_w, i32_w]; rfl
      refine pure_ (i := 6) (N := some 44) (v := ?_) (a' := ?_) #[true, true, true, true, true, true, true, false, false, false, false] rfl rfl (by kernel_rfl) (fun _ _ _ h => h) (Or.inl ⟨by rfl, ?_⟩) ?_ ?_
      rotate_left
      · intro w'; go_simp; with_reducible rfl
      rotate_left
      · simp only [Act.put, List.setIfInBounds_toArray, List.set_cons_zero, List.set_cons_succ, i64_w, i32_w]; rfl
      refine pure_ (i := 7) (N := some 45) (v := ?_) (a' := ?_) #[true, true, true, true, true, true, true, true, false, false, false] rfl rfl (by kernel_rfl) (fun _ _ _ h => h) (Or.inl ⟨by rfl, ?_⟩) ?_ ?_
      rotate_left
      · intro w'; go_simp; with_reducible rfl
      rotate_left
      · simp only [Act.put, List.setIfInBounds_toArray, List.set_cons_zero, List.set_cons_succ, i64_w, i32_w]; rfl
      refine one_ (i := 8) (N := some 46) #[true, true, true, true, true, true, true, true, true, false, false] rfl rfl (by kernel_rfl) (by decide) (fun K hK => ?_)
      refine goes_ Try.func16 (by kernel_rfl) rfl #[b.val, .slice A1 ro.length c1, .slice A2 su.length c2, .slice A6 gs.length c6] (by rfl) rfl rfl (by simp only [List.map_toArray, List.map_cons, List.map_nil]; rfl) ?_
      refine (Excuses_calls b A1 c1 ro A2 c2 su A6 c6 gs _ (HAG.out.below hHeld)).mono ?_; rintro e w4 ⟨v4, rfl, hR4, hb⟩; obtain ⟨A4', c4', rfl⟩ := Kd.R_slice hR4
      refine ⟨_, rfl, ?_⟩
      refine hK.out _ _ (below_step hHeld hb) (fun hHeld => ?_)
      clear hK K
      refine norm_ (a' := ?_) ?_ ?_
      rotate_left
      · show Act.put _ (some 46) _ = _; simp only [Act.put, List.setIfInBounds_toArray, List.set_cons_zero, List.set_cons_succ]; rfl
      have HX4 := Aside0.mk (Kd.R_reads' hR4).2.2
      have hcx4 := (Kd.R_reads' hR4).2.1
      clear hb hR4
      refine one_ (i := 9) (N := some 47) #[true, true, true, true, true, true, true, true, true, true, false] rfl rfl (by kernel_rfl) (by decide) (fun K hK => ?_)
      refine goes_ Try.func20 (by kernel_rfl) rfl #[b.val, .slice A1 ro.length c1, .slice A2 su.length c2, .slice A6 gs.length c6, .slice A4' (excTo b.pl ro su gs ro.length).length c4'] (by rfl) rfl rfl (by simp only [List.map_toArray, List.map_cons, List.map_nil]; rfl) ?_
      refine (HALL.out ▸ Check_calls b A1 c1 ro A2 c2 su A6 c6 gs A4' c4' _ _ (HAG.out.below hHeld) HX4.out hcx4 (Nat.le_trans (excTo_length ..) (Nat.le_trans (Nat.mul_le_mul hro' hro') (by decide)))).mono ?_; rintro e w5 ⟨rfl, hb⟩
      refine ⟨_, rfl, ?_⟩
      refine hK.out _ _ (below_step hHeld hb) (fun hHeld => ?_)
      clear hK K
      refine norm_ (a' := ?_) ?_ ?_
      rotate_left
      · show Act.put _ (some 47) _ = _; simp only [Act.put, List.setIfInBounds_toArray, List.set_cons_zero, List.set_cons_succ]; rfl
      clear hb
      refine pure_ (i := 10) (N := some 48) (v := ?_) (a' := ?_) #[true, true, true, true, true, true, true, true, true, true, true] rfl rfl (by kernel_rfl) (fun _ _ _ h => h) (Or.inl ⟨by rfl, ?_⟩) ?_ ?_
      rotate_left
      · intro w'; go_simp; with_reducible rfl
      rotate_left
      · simp only [Act.put, List.setIfInBounds_toArray, List.set_cons_zero, List.set_cons_succ, i64_w, i32_w]; rfl
      refine done_ (by kernel_rfl) ?_
      go_wp2
      have HW5 := Aside0.mk (below_step HW.out hHeld)
      have HGB5 := Aside0.mk (blk_below HGB.out hHeld)
      have HA5 := Aside0.mk (HA.out.below hHeld)
      have HAG5 := Aside0.mk (HAG.out.below hHeld)
      have HEX := Aside0.mk (Kd.C_below HEX0.out HW5.out)
      clear hHeld HX4 hcx4 HALL
      refine start_ (n := 10) (S := fun w' => Below w5.heap.size w5 w') (ds := []) #[false, false, false, false, false, false, false, false, false, false] (by kernel_rfl) rfl rfl (Below.refl _ _).drew (fun hHeld => ?_)
      generalize w5.drew = w6 at hHeld ⊢
      refine pure_ (i := 1) (N := some 50) (v := ?_) (a' := ?_) #[false, true, false, false, false, false, false, false, false, false] rfl rfl (by kernel_rfl) (fun _ _ _ h => h) (Or.inl ⟨by rfl, ?_⟩) ?_ ?_
      rotate_left
      · intro w'; go_simp; with_reducible rfl
      rotate_left
      · simp only [Act.put, List.setIfInBounds_toArray, List.set_cons_zero, List.set_cons_succ, i64_w, i32_w]; rfl
      refine take_ (i := 3) (N := some 52) (v := .agg (b.cs)) (a' := ?_) #[false, true, false, true, false, false, false, false, false, false] rfl rfl (by kernel_rfl) (fun _ _ _ h => h) (Or.inl ⟨by rfl, fun w' hw' => load_row_run rfl rfl (blk_below HGB5.out hw') _ Try.underlying31 rfl (by kernel_rfl)⟩) hHeld ?_ ?_
      rotate_left
      · simp only [Act.put, List.setIfInBounds_toArray, List.set_cons_zero, List.set_cons_succ]; rfl
      refine pure_ (i := 4) (N := some 53) (v := ?_) (a' := ?_) #[false, true, false, true, true, false, false, false, false, false] rfl rfl (by kernel_rfl) (fun _ _ _ h => h) (Or.inl ⟨by rfl, ?_⟩) ?_ ?_
      rotate_left
      · intro w'; go_simp; with_reducible rfl
      rotate_left
      · simp only [Act.put, List.setIfInBounds_toArray, List.set_cons_zero, List.set_cons_succ, i64_w, i32_w]; rfl
      refine pure_ (i := 5) (N := some 54) (v := ?_) (a' := ?_) #[false, true, false, true, true, true, false, false, false, false] rfl rfl (by kernel_rfl) (fun _ _ _ h => h) (Or.inl ⟨by rfl, ?_⟩) ?_ ?_
      rotate_left
      · intro w'; go_simp; with_reducible rfl
      rotate_left
      · simp only [Act.put, List.setIfInBounds_toArray, List.set_cons_zero, List.set_cons_succ, i64_w, i32_w]; rfl
      refine pure_ (i := 6) (N := some 55) (v := ?_) (a' := ?_) #[false, true, false, true, true, true, true, false, false, false] rfl rfl (by kernel_rfl) (fun _ _ _ h => h) (Or.inl ⟨by rfl, ?_⟩) ?_ ?_
      rotate_left
      · intro w'; go_simp; with_reducible rfl
      rotate_left
      · simp only [Act.put, List.setIfInBounds_toArray, List.set_cons_zero, List.set_cons_succ, i64_w, i32_w]; rfl
      refine one_ (i := 0) (N := some 49) #[true, true, false, true, true, true, true, false, false, false] rfl rfl (by kernel_rfl) (by decide) (fun K hK => ?_)
      refine Kd.R_lit_step k60 (w0 := w5) w5.heap.size 60 (by rfl) rfl (xs := []) (inner := []) (okp := fun _ => False) (ok := fun _ => True) (by go_simp; done) (Reps.none _ _) (fun _ h => h.elim) trivial hHeld (below_size hHeld) (by decide) ?_
      intro v1 w7 hR1 hB1 _ _
      have HR1 := Aside0.mk hR1
      clear hR1
      refine hK.out _ _ hB1 (fun hHeld => ?_)
      clear hK K hB1
      refine norm_ (a' := ?_) ?_ ?_
      rotate_left
      · show Act.put _ (some 49) _ = _; simp only [Act.put, List.setIfInBounds_toArray, List.set_cons_zero, List.set_cons_succ]; rfl
      refine one_ (i := 2) (N := some 51) #[true, true, true, true, true, true, true, false, false, false] rfl rfl (by kernel_rfl) (by decide) (fun K hK => ?_)
      refine Kd.R_append_rows_step k60 (w0 := w5) w5.heap.size (by rfl) (.tmp 49) (.tmp 50) 34 60 (.agg #[(.int .i64 0), (.int .i64 0)]) 16 rfl Try.underlying34 info60 rfl (by decide) (by omega) v1 [] ex A4 ex.length c4 (fun _ => True) (fun _ => False) rfl rfl HR1.out (C60_plain (Kd.C_below HEX.out hHeld)) (fun x cs h => by subst h; exact k60_mkM _ _ _ x) (fun _ hk => hk.elim) (fun _ _ => trivial) hHeld (below_size hHeld) (by simp; omega) ?_
      intro v2 w8 hR2 hB2 _ _
      have HR2 := Aside0.mk hR2
      clear hR2
      refine hK.out _ _ hB2 (fun hHeld => ?_)
      clear hK K hB2
      refine norm_ (a' := ?_) ?_ ?_
      rotate_left
      · show Act.put _ (some 51) _ = _; simp only [Act.put, List.setIfInBounds_toArray, List.set_cons_zero, List.set_cons_succ]; rfl
      refine one_ (i := 7) (N := some 56) #[true, true, true, true, true, true, true, true, false, false] rfl rfl (by kernel_rfl) (by decide) (fun K hK => ?_)
      refine goes_ Try.func16 (by kernel_rfl) rfl #[b.val, .slice A1 ro.length c1, .slice A2 su.length c2, .slice A3 gr.length c3] (by rfl) rfl rfl (by simp only [List.map_toArray, List.map_cons, List.map_nil]; rfl) ?_
      refine (Excuses_calls b A1 c1 ro A2 c2 su A3 c3 gr _ (HA5.out.below hHeld)).mono ?_; rintro e w9 ⟨v9, rfl, hR9, hb⟩; obtain ⟨A9, c9, rfl⟩ := Kd.R_slice hR9
      refine ⟨_, rfl, ?_⟩
      refine hK.out _ _ (below_step hHeld hb) (fun hHeld => ?_)
      clear hK K
      refine norm_ (a' := ?_) ?_ ?_
      rotate_left
      · show Act.put _ (some 56) _ = _; simp only [Act.put, List.setIfInBounds_toArray, List.set_cons_zero, List.set_cons_succ]; rfl
      have HX9 := Aside0.mk (Kd.R_reads' hR9).2.2
      have HR3 := Aside0.mk (Kd.R_below HR2.out hb)
      clear hb hR9
      refine one_ (i := 8) (N := some 57) #[true, true, true, true, true, true, true, true, true, false] rfl rfl (by kernel_rfl) (by decide) (fun K hK => ?_)
      refine Kd.R_append_rows_step k60 (w0 := w5) w5.heap.size (by rfl) (.tmp 51) (.tmp 56) 34 60 (.agg #[(.int .i64 0), (.int .i64 0)]) 16 rfl Try.underlying34 info60 rfl (by decide) (by omega) v2 ([] ++ ex) (excTo b.pl ro su gr ro.length) A9 (excTo b.pl ro su gr ro.length).length c9 (fun _ => True) (fun _ => False) rfl rfl HR3.out (C60_plain HX9.out) (fun x cs h => by subst h; exact k60_mkM _ _ _ x) (fun _ hk => hk.elim) (fun _ _ => trivial) hHeld (below_size hHeld) (by have := excTo_length b.pl ro su gr ro.length; have h2 : ro.length * ro.length ≤ 14 * 14 := Nat.mul_le_mul hro hro; simp; omega) ?_
      intro v3 w10 hR3 hB3 _ _
      obtain ⟨A10, c10, rfl⟩ := Kd.R_slice hR3
      have HR4 := Aside0.mk hR3
      clear hR3
      refine hK.out _ _ hB3 (fun hHeld => ?_)
      clear hK K hB3
      refine norm_ (a' := ?_) ?_ ?_
      rotate_left
      · show Act.put _ (some 57) _ = _; simp only [Act.put, List.setIfInBounds_toArray, List.set_cons_zero, List.set_cons_succ]; rfl
      refine pure_ (i := 9) (N := some 16) (v := ?_) (a' := ?_) #[true, true, true, true, true, true, true, true, true, true] rfl rfl (by kernel_rfl) (fun _ _ _ h => h) (Or.inl ⟨by rfl, ?_⟩) ?_ ?_
      rotate_left
      · intro w'; go_simp; with_reducible rfl
      rotate_left
      · simp only [Act.put, List.setIfInBounds_toArray, List.set_cons_zero, List.set_cons_succ, i64_w, i32_w]; rfl
      refine done_ (by kernel_rfl) ?_
      have HX10 := Aside0.mk (Kd.R_reads' HR4.out).2.2
      have hcx := (Kd.R_reads' HR4.out).2.1
      have hlx := (Kd.R_reads' HR4.out).1
      rw [List.nil_append] at HX10 hcx hlx ⊢
      obtain ⟨X, hX⟩ : ∃ X, ex ++ excTo b.pl ro su gr ro.length = X := ⟨_, rfl⟩
      rw [hX] at HX10 hcx
      have hXlen : ex.length + (excTo b.pl ro su gr ro.length).length = X.length := by rw [← hX, List.length_append]
      try rw [hX]
      try simp only [List.length_append]
      rw [hXlen]
      have hXl : X.length ≤ 9223372036854775806 := by
        rw [← hX, List.length_append]
        have := excTo_length b.pl ro su gr ro.length
        have h2 : ro.length * ro.length ≤ 14 * 14 := Nat.mul_le_mul hro hro
        omega
      clear hX hXlen hlx HR1 HR2 HR3 HR4 HX9
      have H10 := Aside0.mk hHeld
      clear hHeld
      cases k1 : checkF b.pl ro su gr X with
      | true =>
        have hE := HON.out X k1
        subst hE
        have K1 := Aside0.mk k1
        clear k1
        go_wp2_with (first
          | ((with_reducible refine gate_dst (N := 58) rfl ?_); refine wpList_load_row rfl 31 _ rfl gb rfl 31 b.cs (0, 0) _ (blk_below HGB5.out H10.out) Try.underlying31 rfl (by kernel_rfl) ?_)
          | (go_at_call 20; refine (Check_calls b A1 c1 ro A2 c2 su A3 c3 gr A10 c10 X _ (HA5.out.below H10.out) HX10.out hcx hXl).mono ?_; rw [K1.out]; rintro e w11 ⟨rfl, hb11⟩)
          | (go_at_call 24; refine (Same37_calls A3 c3 A6 c6 gr _ (Kd.C_below HA5.out.r3 (below_step H10.out hb11)) (Kd.C_below HAG5.out.r3 (below_step H10.out hb11))).mono ?_; rintro e w12 ⟨rfl, hb12⟩))
        go_ret
        exact ⟨rfl, below_step HW5.out (below_step H10.out (below_step hb11 hb12))⟩
      | false =>
        have K1 := Aside0.mk k1
        clear k1
        cases k2 : checkF b.pl ro su gr ex with
        | true =>
          have hE := HON.out ex k2
          subst hE
          have K2 := Aside0.mk k2
          clear k2
          go_wp2_with (first
            | ((with_reducible refine gate_dst (N := 58) rfl ?_); refine wpList_load_row rfl 31 _ rfl gb rfl 31 b.cs (0, 0) _ (blk_below HGB5.out H10.out) Try.underlying31 rfl (by kernel_rfl) ?_)
            | (have hz := hb11; clear hz; go_at_call 20; refine (Check_calls b A1 c1 ro A2 c2 su A3 c3 gr A4 c4 ex _ (HA5.out.below (below_step H10.out hb11)) (Kd.C_below HEX.out (below_step H10.out hb11)) hc4 (by omega)).mono ?_; rw [K2.out]; rintro e w13 ⟨rfl, hb13⟩)
            | (go_at_call 20; refine (Check_calls b A1 c1 ro A2 c2 su A3 c3 gr A10 c10 X _ (HA5.out.below H10.out) HX10.out hcx hXl).mono ?_; rw [K1.out]; rintro e w11 ⟨rfl, hb11⟩)
            | ((with_reducible refine gate_dst (N := 65) rfl ?_); (try (refine gate_guard (by rfl) ?_; dsimp only)); refine wpList_load_row rfl 31 _ rfl gb rfl 31 b.cs (0, 0) _ (blk_below HGB5.out (below_step H10.out hb11)) Try.underlying31 rfl (by kernel_rfl) ?_)
            | (go_at_call 24; refine (Same37_calls A3 c3 A6 c6 gr _ (Kd.C_below HA5.out.r3 (below_step H10.out (below_step hb11 hb13))) (Kd.C_below HAG5.out.r3 (below_step H10.out (below_step hb11 hb13)))).mono ?_; rintro e w12 ⟨rfl, hb12⟩))
          go_ret
          exact ⟨rfl, below_step HW5.out (below_step H10.out (below_step hb11 (below_step hb13 hb12)))⟩
        | false =>
          have K2 := Aside0.mk k2
          clear k2
          go_wp2_with (first
            | ((with_reducible refine gate_dst (N := 58) rfl ?_); refine wpList_load_row rfl 31 _ rfl gb rfl 31 b.cs (0, 0) _ (blk_below HGB5.out H10.out) Try.underlying31 rfl (by kernel_rfl) ?_)
            | (have hz := hb11; clear hz; go_at_call 20; refine (Check_calls b A1 c1 ro A2 c2 su A3 c3 gr A4 c4 ex _ (HA5.out.below (below_step H10.out hb11)) (Kd.C_below HEX.out (below_step H10.out hb11)) hc4 (by omega)).mono ?_; rw [K2.out]; rintro e w13 ⟨rfl, hb13⟩)
            | (go_at_call 20; refine (Check_calls b A1 c1 ro A2 c2 su A3 c3 gr A10 c10 X _ (HA5.out.below H10.out) HX10.out hcx hXl).mono ?_; rw [K1.out]; rintro e w11 ⟨rfl, hb11⟩)
            | ((with_reducible refine gate_dst (N := 65) rfl ?_); (try (refine gate_guard (by rfl) ?_; dsimp only)); refine wpList_load_row rfl 31 _ rfl gb rfl 31 b.cs (0, 0) _ (blk_below HGB5.out (below_step H10.out hb11)) Try.underlying31 rfl (by kernel_rfl) ?_))
          go_ret
          exact ⟨rfl, below_step HW5.out (below_step H10.out (below_step hb11 hb13))⟩
end Go.Proofs.Ytddhaagfieldfaa.Hb
