import Derived.Test.YtddhaagfieldfaaHc1
namespace Go.Proofs.Ytddhaagfieldfaa.Hb
set_option linter.unusedVariables false
set_option linter.unusedSimpArgs false
open Go.RowKit Go.Proofs.YtddhaagfieldfaaW.PrintWords Go.Proofs.YtddhaagfieldfaaW.PrintLast Go.Proofs.YtddhaagfieldfaaW.PrintMore Go.Proofs.Ytddhaagfieldfaa.PCallTells Go.Proofs.Ytddhaagfieldfaa.Hw Go.Proofs.Ytddhaagfieldfaa.Q
attribute [local go_sem] run_store_v1 max2_int min2_int max_two min_two max_three min_three max_four min_four

def excAt (ro : List S39) (i : Nat) (l : List Int) : List S60 := l.map fun k => ⟨(rd_T39 ro i).f0, (rd_T39 ro k).f0⟩
def excIs (pl : List S79) (ro : List S39) (su : List Int) (gr : List S53) (i : Nat) : Bool := shortP pl ro gr i && !decide (stopP pl ro su gr i < 0)
def excTo (pl : List S79) (ro : List S39) (su : List Int) (gr : List S53) (n : Nat) : List S60 := (List.range n).flatMap fun i => if excIs pl ro su gr i = true then excAt ro i (laterP ro gr i) else []
theorem excTo_succ (pl : List S79) (ro : List S39) (su : List Int) (gr : List S53) (i : Nat) : excTo pl ro su gr (i + 1) = excTo pl ro su gr i ++ if excIs pl ro su gr i = true then excAt ro i (laterP ro gr i) else [] := by
  unfold excTo
  rw [List.range_succ, List.flatMap_append]; simp
theorem excTo_length (pl : List S79) (ro : List S39) (su : List Int) (gr : List S53) (i : Nat) : (excTo pl ro su gr i).length ≤ i * ro.length := by
  induction i with
  | zero => simp [excTo]
  | succ i ih =>
    rw [excTo_succ, List.length_append, Nat.succ_mul]
    have h : (if excIs pl ro su gr i = true then excAt ro i (laterP ro gr i) else []).length ≤ ro.length := by
      split
      · unfold excAt laterP; rw [List.length_map]; exact laterF_length ..
      · simp
    omega
theorem excAt_succ (ro : List S39) (i : Nat) (l : List Int) (j : Nat) (h : j < l.length) : excAt ro i (l.take (j + 1)) = excAt ro i (l.take j) ++ [⟨(rd_T39 ro i).f0, (rd_T39 ro l[j]).f0⟩] := by
  unfold excAt
  rw [List.take_succ_eq_append_getElem h, List.map_append]; rfl
theorem keep2 {w W : World} {a1 a2 : Addr} {v1 v2 : Value} (hb : Below w.heap.size w W) (h : w.cell? a1 = some v1 ∧ w.cell? a2 = some v2) : W.cell? a1 = some v1 ∧ W.cell? a2 = some v2 :=
  ⟨(hb.cell (World.block_lt_of_cell? w _ h.1)).trans h.1, (hb.cell (World.block_lt_of_cell? w _ h.2)).trans h.2⟩
set_option maxRecDepth 100000 in
set_option maxHeartbeats 4000000 in
theorem Excuses_calls (b : BV) (A1 : Option Addr) (c1 : Nat) (ro : List S39) (A2 : Option Addr) (c2 : Nat) (su : List Int) (A3 : Option Addr) (c3 : Nat) (gr : List S53) (w : World) (h : Args b A1 c1 ro A2 c2 su A3 c3 gr w) :
    Calls Try.prog 16 #[b.val, .slice A1 ro.length c1, .slice A2 su.length c2, .slice A3 gr.length c3] w fun e w' => ∃ v, e = .returned v ∧ Kd.R k60 60 w' w.heap.size (fun _ => True) v (excTo b.pl ro su gr ro.length) ∧ Below w.heap.size w w' := by
  have H := Aside0.mk h
  clear h
  go_enter Try.func16, Try.ntmps16
  go_upto_region 2 with (first
    | ((with_reducible refine gate_dst (N := 4) rfl ?_); refine ev_box rfl rfl b.cs 31 (by go_simp; done) ?_; intro gb w1 BK hgb hb1)
    | ((with_reducible refine gate_dst (N := 15) rfl ?_); refine wpList_load_row rfl 31 _ rfl gb rfl 31 b.cs (0, 0) _ BK Try.underlying31 rfl (by kernel_rfl) ?_)
    | (go_at_call 30; refine (of_calls' b A1 c1 ro A2 c2 su A3 c3 gr _ (H.out.below hb1)).mono ?_; rintro e w2 ⟨A4, c4, A5, c5, A6, c6, rfl, hd, hb2⟩)
    | ((with_reducible refine gate_dst (N := 9) rfl ?_); refine ev_box rfl rfl zero63 63 (by go_simp; rfl) ?_; intro g7 w3 BK7 hg7 hb3)
    | (refine ev_store rfl 63 _ _ rfl rfl g7 rfl (DV.cs ⟨b, A1, c1, ro, A4, c4, reTo b.pl ro ro.length, A5, c5, gotTo ro.length gr ro.length, A6, c6, leftTo b.pl ro gr (left0 b.pl su) ro.length⟩) rfl 63 _ BK7 (by kernel_rfl) rfl (dcs_one b rfl rfl rfl rfl) ?_; intro wl BKl hbl hkl))
  simp only [Act.put, List.setIfInBounds_toArray, List.set_cons_succ, List.set_cons_zero]
  obtain ⟨d, hde⟩ : ∃ d : DV, d = ⟨b, A1, c1, ro, A4, c4, reTo b.pl ro ro.length, A5, c5, gotTo ro.length gr ro.length, A6, c6, leftTo b.pl ro gr (left0 b.pl su) ro.length⟩ := ⟨_, rfl⟩
  have h2l : Below w2.heap.size w2 wl := below_weaken hb3 (Nat.le_refl _) (hbl _ hg7)
  have hbw : Below w.heap.size w wl := below_step (below_step hb1 hb2) h2l
  rw [← hde] at BKl hd
  have HBl := Aside0.mk BKl
  have HDl := Aside0.mk (hd.below h2l)
  have HW := Aside0.mk hbw
  have HA := Aside0.mk (H.out.below hbw)
  have E := Aside0.mk (isDay_mk hde)
  have hro : ro.length ≤ 1000 := HA.out.hro
  clear BK BK7 BKl hb1 hb2 hb3 hbl hkl hg7 hgb hd h2l hbw hde
  go_wp2
  go_loopw [10, 22] (fun v10 v22 W => ∃ i : Nat, v22 = .int .i64 i ∧ Aside0 (i ≤ ro.length ∧ Below wl.heap.size wl W ∧ Kd.R k60 60 W wl.heap.size (fun _ => True) v10 (excTo b.pl ro su gr i))) (fun _ v22 _ => ro.length - (intOf v22).toNat)
  case atStart => exact ⟨0, rfl, ⟨Nat.zero_le _, Below.refl _ _, Kd.R_nil _ _ _ _ _⟩⟩
  case round =>
    obtain ⟨i, rfl, hI⟩ := hrel
    by_cases hlt : i < ro.length
    · have hi0 : (0 : Int) ≤ (i : Int) := Int.natCast_nonneg _
      have hi1 : (i : Int) < (ro.length : Int) := by omega
      obtain ⟨ad, e1, hx0⟩ := r39_at (Kd.C_below HA.out.r1 hI.out.2.1) i hi0 hi1
      subst e1
      rw [Int.toNat_natCast] at hx0
      have hx := Aside0.mk hx0
      clear hx0
      go_upto_region 6 with (first
        | ((with_reducible refine gate_dst (N := 26) rfl ?_); refine ev_load rfl 39 _ rfl (ad.add (i * 9)) rfl (r39 (rd_T39 ro i)) hx.out _ Try.underlying39 rfl (by kernel_rfl) ?_)
        | ((with_reducible refine gate_dst (N := 12) rfl ?_); refine ev_box rfl rfl #[.int .i64 0, .int .i64 0, .int .i64 0, .int .i64 0, .int .i64 0, .int .i64 0, .int .i64 0, .int .i64 0, .int .i64 0] 39 (by go_simp; done) ?_; intro g10 w4 BK4 hg4 hb4)
        | (refine ev_store rfl 39 _ _ rfl rfl g10 rfl (r39 (rd_T39 ro i)).toArray rfl 39 _ BK4 (by kernel_rfl) rfl (by simp [r39, Value.oneCell']) ?_; intro w5 BK5 hb5 hk5))
      try simp only [Act.put, List.setIfInBounds_toArray, List.set_cons_succ, List.set_cons_zero]
      have hr5 : Below wr.heap.size wr w5 := below_weaken hb4 (Nat.le_refl _) (hb5 _ hg4)
      have HB5 := Aside0.mk (below_step hI.out.2.1 hr5)
      have HR5 := Aside0.mk (Kd.R_below hI.out.2.2 hr5)
      have HG := Aside0.mk BK5
      have hle0 := excTo_length b.pl ro su gr i
      have hle : (excTo b.pl ro su gr i).length ≤ 1000000 := Nat.le_trans hle0 (Nat.le_trans (Nat.mul_le_mul (show i ≤ 1000 by omega) hro) (by decide))
      clear BK4 BK5 hb4 hb5 hk5 hr5 hx hg4 hle0
      have HS := Aside0.mk (excTo_succ b.pl ro su gr i)
      cases hsi : shortP b.pl ro gr i with
      | false =>
        have HSF := Aside0.mk ((E.out.sh i).symm.trans hsi)
        have HX := Aside0.mk (show excIs b.pl ro su gr i = false by unfold excIs; rw [hsi]; rfl)
        go_wp2_with (first
          | ((with_reducible refine gate_dst (N := 27) rfl ?_); refine wpList_load_row rfl 63 _ rfl g7 rfl 63 d.cs (0, 0) _ (blk_below HBl.out HB5.out) Try.underlying63 rfl (by kernel_rfl) ?_)
          | (go_at_call 31; refine (short_calls d i gr.length _ (HDl.out.below HB5.out) (by rw [E.out.ro_]; exact hlt) E.out.l2 E.out.l3).mono ?_; rw [HSF.out]; rintro e w6 ⟨rfl, hb6⟩))
        go_roundw
        case rel =>
          refine ⟨i + 1, by go_num, ⟨by omega, below_step HB5.out hb6, ?_⟩⟩
          rw [HS.out, if_neg (by rw [HX.out]; decide), List.append_nil]; exact Kd.R_below HR5.out hb6
        case measure => simp [intOf]; omega
      | true =>
        have HSF := Aside0.mk ((E.out.sh i).symm.trans hsi)
        cases hst : decide (stopP b.pl ro su gr i < 0) with
        | true =>
          have HX := Aside0.mk (show excIs b.pl ro su gr i = false by unfold excIs; rw [hsi, hst]; rfl)
          have hst' : decide (stopF d i < 0) = true := by rw [E.out.st]; exact hst
          go_wp2_with (first
            | ((with_reducible refine gate_dst (N := 27) rfl ?_); refine wpList_load_row rfl 63 _ rfl g7 rfl 63 d.cs (0, 0) _ (blk_below HBl.out HB5.out) Try.underlying63 rfl (by kernel_rfl) ?_)
            | (go_at_call 31; refine (short_calls d i gr.length _ (HDl.out.below HB5.out) (by rw [E.out.ro_]; exact hlt) E.out.l2 E.out.l3).mono ?_; rw [HSF.out]; rintro e w6 ⟨rfl, hb6⟩)
            | ((with_reducible refine gate_dst (N := 34) rfl ?_); (try (refine gate_guard (by rfl) ?_; dsimp only)); refine wpList_load_row rfl 63 _ rfl g7 rfl 63 d.cs (0, 0) _ (blk_below HBl.out (below_step HB5.out hb6)) Try.underlying63 rfl (by kernel_rfl) ?_)
            | (go_at_call 33; refine (stop_calls d i _ (HDl.out.below (below_step HB5.out hb6)) (by rw [E.out.ro_]; exact hlt) E.out.l2 E.out.l3 (by rw [E.out.ro_]; exact hro) (E.out.sh2 HA.out.hs) E.out.qs).mono ?_; rintro e w7 ⟨rfl, hb7⟩))
          go_roundw
          case rel =>
            refine ⟨i + 1, by go_num, ⟨by omega, below_step (below_step HB5.out hb6) hb7, ?_⟩⟩
            rw [HS.out, if_neg (by rw [HX.out]; decide), List.append_nil]; exact Kd.R_below (Kd.R_below HR5.out hb6) hb7
          case measure => simp [intOf]; omega
        | false =>
          have HX := Aside0.mk (show excIs b.pl ro su gr i = true by unfold excIs; rw [hsi, hst]; rfl)
          have hst' : decide (stopF d i < 0) = false := by rw [E.out.st]; exact hst
          go_wp2_with (first
            | ((with_reducible refine gate_dst (N := 27) rfl ?_); refine wpList_load_row rfl 63 _ rfl g7 rfl 63 d.cs (0, 0) _ (blk_below HBl.out HB5.out) Try.underlying63 rfl (by kernel_rfl) ?_)
            | (go_at_call 31; refine (short_calls d i gr.length _ (HDl.out.below HB5.out) (by rw [E.out.ro_]; exact hlt) E.out.l2 E.out.l3).mono ?_; rw [HSF.out]; rintro e w6 ⟨rfl, hb6⟩)
            | ((with_reducible refine gate_dst (N := 34) rfl ?_); (try (refine gate_guard (by rfl) ?_; dsimp only)); refine wpList_load_row rfl 63 _ rfl g7 rfl 63 d.cs (0, 0) _ (blk_below HBl.out (below_step HB5.out hb6)) Try.underlying63 rfl (by kernel_rfl) ?_)
            | (go_at_call 33; refine (stop_calls d i _ (HDl.out.below (below_step HB5.out hb6)) (by rw [E.out.ro_]; exact hlt) E.out.l2 E.out.l3 (by rw [E.out.ro_]; exact hro) (E.out.sh2 HA.out.hs) E.out.qs).mono ?_; rintro e w7 ⟨rfl, hb7⟩)
            | ((with_reducible refine gate_dst (N := 39) rfl ?_); refine wpList_load_row rfl 63 _ rfl g7 rfl 63 d.cs (0, 0) _ (blk_below HBl.out (below_step (below_step HB5.out hb6) hb7)) Try.underlying63 rfl (by kernel_rfl) ?_)
            | (go_at_call 34; refine (later_calls d i _ (HDl.out.below (below_step (below_step HB5.out hb6) hb7)) (by rw [E.out.ro_]; exact hlt) E.out.l3 (by rw [E.out.ro_]; exact hro)).mono ?_; rintro e w8 ⟨v8, rfl, hR8, hb8⟩; obtain ⟨A8, c8, rfl⟩ := Kd.R_slice hR8))
          have h58 : Below w5.heap.size w5 w8 := below_step (below_step hb6 hb7) hb8
          have HB8 := Aside0.mk (below_step HB5.out h58)
          have HR8 := Aside0.mk (Kd.R_below HR5.out h58)
          have HG8 := Aside0.mk (blk_below HG.out h58)
          rw [E.out.la i] at hR8 ⊢
          obtain ⟨l8, hl8⟩ : ∃ l8, laterP ro gr i = l8 := ⟨_, rfl⟩
          rw [hl8] at hR8 ⊢
          have hlen8 : l8.length ≤ 1000 := by rw [← hl8]; exact Nat.le_trans (laterF_length ..) hro
          have hmem8 : ∀ x ∈ l8, 0 ≤ x ∧ x < (ro.length : Int) := fun x hx => by
            rw [← hl8] at hx
            obtain ⟨m, rfl, _, hm, _⟩ := (laterF_mem _ _ _ _).1 hx
            omega
          have HM := Aside0.mk hmem8
          have HL := Aside0.mk hl8
          have HC8 := Aside0.mk (Kd.R_lower hR8 (below_step HB5.out (below_step hb6 hb7)).size)
          clear hb6 hb7 hb8 h58 HB5 HR5 HG hR8 hmem8 hl8 HSF hst hst' hsi
          go_loopw [10, 43] (fun v10 v43 W => ∃ j : Nat, v43 = .int .i64 j ∧ Aside0 (j ≤ l8.length ∧ Below wl.heap.size wl W ∧ Kd.R k60 60 W wl.heap.size (fun _ => True) v10 (excTo b.pl ro su gr i ++ excAt ro i (l8.take j)) ∧ Kd.R (Kd.int .i64) 3 W wl.heap.size (fun _ => True) (.slice A8 l8.length c8) l8 ∧ W.heap[g10]? = some (.cells (r39 (rd_T39 ro i)).toArray 39 (0, 0)))) (fun _ v43 _ => l8.length - (intOf v43).toNat)
          case atStart => exact ⟨0, rfl, ⟨Nat.zero_le _, HB8.out, by simpa [excAt] using HR8.out, HC8.out, HG8.out⟩⟩
          case round =>
            obtain ⟨j, rfl, hJ⟩ := hrel
            have hj0 : (0 : Int) ≤ (j : Int) := Int.natCast_nonneg _
            by_cases hjl : j < l8.length
            · have hj1 : (j : Int) < (l8.length : Int) := by omega
              obtain ⟨ad5, e5, hx5⟩ := Kd.at_int (Kd.R_reads' hJ.out.2.2.2.1).2.2 j hj0 hj1
              subst e5
              rw [Int.toNat_natCast, rd_nat _ _ hjl] at hx5
              obtain ⟨hm0, hm1⟩ := HM.out _ (List.getElem_mem hjl)
              have hsucc := Aside0.mk (excAt_succ ro i l8 j hjl)
              have hlen : (excAt ro i (l8.take j)).length = j := by unfold excAt; rw [List.length_map, List.length_take]; omega
              generalize l8[j] = x at hx5 hm0 hm1 hsucc
              obtain ⟨ad6, e6, z1, _⟩ := at_T39 (Kd.C_below HA.out.r1 hJ.out.2.1) x hm0 hm1
              injection e6 with e6; subst e6
              have z0 : wr.cell? ⟨g10, 0, none⟩ = some (.int .i64 (rd_T39 ro i).f0) := (blk_cell hJ.out.2.2.2.2 0).trans rfl
              have hL1 := Aside0.mk hlen
              clear hlen
              go_wp2
              refine start_ (n := 12) (S := fun w' => w'.cell? ⟨g10, 0, none⟩ = some (.int .i64 (rd_T39 ro i).f0) ∧ w'.cell? (ad.add (x.toNat * 9)) = some (.int .i64 (rd_T39 ro x).f0)) (ds := [10]) #[false, false, false, false, false, false, false, false, false, false, false, false] (by kernel_rfl) rfl rfl ⟨z0, z1⟩ (fun hHeld => ?_)
              have hJ9 := Aside0.mk (show Below wl.heap.size wl wr.drew ∧ Kd.R k60 60 wr.drew wl.heap.size (fun _ => True) _ (excTo b.pl ro su gr i ++ excAt ro i (l8.take j)) ∧ Kd.R (Kd.int .i64) 3 wr.drew wl.heap.size (fun _ => True) (.slice (some ad5) l8.length c8) l8 ∧ wr.drew.heap[g10]? = some (.cells (r39 (rd_T39 ro i)).toArray 39 (0, 0)) from ⟨below_step hJ.out.2.1 (Below.refl _ _).drew, Kd.R_drew hJ.out.2.2.1, Kd.R_drew hJ.out.2.2.2.1, blk_drew hJ.out.2.2.2.2⟩)
              have hJ0 := Aside0.mk hJ.out.1
              generalize wr.drew = w9 at hJ9 hHeld ⊢
              clear hJ z0 z1 hx5
              refine pure_ (i := 0) (N := some 47) (v := ?_) (a' := ?_) #[true, false, false, false, false, false, false, false, false, false, false, false] rfl rfl (by kernel_rfl) (fun _ _ _ h => h) (Or.inl ⟨by rfl, ?_⟩) ?_ ?_
              rotate_left
              · intro w'; go_simp; with_reducible rfl
              rotate_left
              · simp only [Act.put, List.setIfInBounds_toArray, List.set_cons_zero, List.set_cons_succ, i64_w, i32_w]; rfl
              refine pure_ (i := 1) (N := some 48) (v := ?_) (a' := ?_) #[true, true, false, false, false, false, false, false, false, false, false, false] rfl rfl (by kernel_rfl) (fun _ _ _ h => h) (Or.inl ⟨by rfl, ?_⟩) ?_ ?_
              rotate_left
              · intro w'; go_simp; with_reducible rfl
              rotate_left
              · simp only [Act.put, List.setIfInBounds_toArray, List.set_cons_zero, List.set_cons_succ, i64_w, i32_w]; rfl
              refine take_ (i := 2) (N := some 49) (v := ?_) (a' := ?_) #[true, true, true, false, false, false, false, false, false, false, false, false] rfl rfl (by kernel_rfl) (fun _ _ _ h => h) (Or.inl ⟨by rfl, ?_⟩) hHeld ?_ ?_
              rotate_left
              · rintro w' ⟨s0, s1⟩; go_simp; with_reducible rfl
              rotate_left
              · simp only [Act.put, List.setIfInBounds_toArray, List.set_cons_zero, List.set_cons_succ, i64_w, i32_w]; rfl
              refine pure_ (i := 3) (N := some 50) (v := ?_) (a' := ?_) #[true, true, true, true, false, false, false, false, false, false, false, false] rfl rfl (by kernel_rfl) (fun _ _ _ h => h) (Or.inl ⟨by rfl, ?_⟩) ?_ ?_
              rotate_left
              · intro w'; go_simp; with_reducible rfl
              rotate_left
              · simp only [Act.put, List.setIfInBounds_toArray, List.set_cons_zero, List.set_cons_succ, i64_w, i32_w]; rfl
              refine pure_ (i := 4) (N := some 51) (v := ?_) (a' := ?_) #[true, true, true, true, true, false, false, false, false, false, false, false] rfl rfl (by kernel_rfl) (fun _ _ _ h => h) (Or.inl ⟨by rfl, ?_⟩) ?_ ?_
              rotate_left
              · intro w'; go_simp; with_reducible rfl
              rotate_left
              · simp only [Act.put, List.setIfInBounds_toArray, List.set_cons_zero, List.set_cons_succ, i64_w, i32_w]; rfl
              refine pure_ (i := 5) (N := some 52) (v := ?_) (a' := ?_) #[true, true, true, true, true, true, false, false, false, false, false, false] rfl rfl (by kernel_rfl) (fun _ _ _ h => h) (Or.inl ⟨by rfl, ?_⟩) ?_ ?_
              rotate_left
              · intro w'; go_simp; with_reducible rfl
              rotate_left
              · simp only [Act.put, List.setIfInBounds_toArray, List.set_cons_zero, List.set_cons_succ, i64_w, i32_w]; rfl
              refine pure_ (i := 6) (N := some 53) (v := ?_) (a' := ?_) #[true, true, true, true, true, true, true, false, false, false, false, false] rfl rfl (by kernel_rfl) (fun _ _ _ h => h) (Or.inl ⟨by rfl, ?_⟩) ?_ ?_
              rotate_left
              · intro w'; go_simp; with_reducible rfl
              rotate_left
              · simp only [Act.put, List.setIfInBounds_toArray, List.set_cons_zero, List.set_cons_succ, i64_w, i32_w]; rfl
              refine take_ (i := 7) (N := some 54) (v := ?_) (a' := ?_) #[true, true, true, true, true, true, true, true, false, false, false, false] rfl rfl (by kernel_rfl) (fun _ _ _ h => h) (Or.inl ⟨by rfl, ?_⟩) hHeld ?_ ?_
              rotate_left
              · rintro w' ⟨s0, s1⟩; go_simp; with_reducible rfl
              rotate_left
              · simp only [Act.put, List.setIfInBounds_toArray, List.set_cons_zero, List.set_cons_succ, i64_w, i32_w]; rfl
              refine pure_ (i := 8) (N := some 55) (v := ?_) (a' := ?_) #[true, true, true, true, true, true, true, true, true, false, false, false] rfl rfl (by kernel_rfl) (fun _ _ _ h => h) (Or.inl ⟨by rfl, ?_⟩) ?_ ?_
              rotate_left
              · intro w'; go_simp; with_reducible rfl
              rotate_left
              · simp only [Act.put, List.setIfInBounds_toArray, List.set_cons_zero, List.set_cons_succ, i64_w, i32_w]; rfl
              refine one_ (i := 9) (N := some 56) #[true, true, true, true, true, true, true, true, true, true, false, false] rfl rfl (by kernel_rfl) (by decide) (fun K hK => ?_)
              refine value_ (v := .slice (some ⟨w9.heap.size, 0, none⟩) 1 1) (w1 := w9.alloc (.cells #[.int .i64 (rd_T39 ro i).f0, .int .i64 (rd_T39 ro x).f0] 60)) (by rfl) rfl (by go_simp) ?_
              refine hK.out _ _ (keep2 (below_alloc (Below.refl _ _) _) hHeld) (fun hHeld => ?_)
              clear hK K
              refine norm_ (a' := ?_) ?_ ?_
              rotate_left
              · show Act.put _ (some 56) _ = _; simp only [Act.put, List.setIfInBounds_toArray, List.set_cons_succ, List.set_cons_zero]; rfl
              refine last_ (i := 10) (N := some 57) #[true, true, true, true, true, true, true, true, true, true, true, false] rfl rfl (by kernel_rfl) (by decide) (fun K hK => ?_)
              refine Kd.R_append_step k60 (w0 := wl) wl.heap.size (by rfl) (.tmp 47) (.tmp 56) 34 60 (.agg #[(.int .i64 0), (.int .i64 0)]) 16 rfl Try.underlying34 info60 rfl (by decide) (by omega) _ (excTo b.pl ro su gr i ++ excAt ro i (l8.take j)) (⟨(rd_T39 ro i).f0, (rd_T39 ro x).f0⟩ : S60) [.int .i64 (rd_T39 ro i).f0, .int .i64 (rd_T39 ro x).f0] (fun _ => True) (fun _ => False) rfl rfl ?aP (fun _ hk => hk.elim) (fun _ _ => trivial) hJ9.out.2.1 hJ9.out.1 (below_size hJ9.out.1) ?aL ?_
              case aP => exact k60_mkM _ _ _ _
              case aL => rw [List.length_append, hL1.out]; omega
              intro v11 w11 hR11 hB11 hg11 hat11
              have HR11 := Aside0.mk hR11
              have HI11 := Aside0.mk (Kd.R_over hJ9.out.2.2.1 hJ9.out.2.1 (by decide) hg11)
              have HG11 := Aside0.mk (blk_grown hJ9.out.2.2.2 hg11 (Kd.R_ne hJ9.out.2.1 hJ9.out.2.2.2 (by decide)))
              have HB11 := Aside0.mk hB11
              clear hR11 hB11 hg11 hat11
              refine hK.out _ _ ?_
              clear hK K
              refine norm_ (a' := ?_) ?_ ?_
              rotate_left
              · show Act.put _ (some 57) _ = _; simp only [Act.put, List.setIfInBounds_toArray, List.set_cons_succ, List.set_cons_zero]; rfl
              refine pure_ (i := 11) (N := some 10) (v := ?_) (a' := ?_) #[true, true, true, true, true, true, true, true, true, true, true, true] rfl rfl (by kernel_rfl) (fun _ _ _ h => h) (Or.inl ⟨by rfl, ?_⟩) ?_ ?_
              rotate_left
              · intro w'; go_simp; with_reducible rfl
              rotate_left
              · simp only [Act.put, List.setIfInBounds_toArray, List.set_cons_zero, List.set_cons_succ, i64_w, i32_w]; rfl
              refine done_ (by kernel_rfl) ?_
              go_wp2
              refine ⟨⟨j + 1, by go_num, ⟨by omega, HB11.out, ?_, HI11.out, HG11.out⟩⟩, by simp [intOf]; omega⟩
              rw [hsucc.out, ← List.append_assoc]; exact HR11.out
            · obtain rfl : j = l8.length := by have := hJ.out.1; omega
              go_wp2
              go_roundw
              case rel =>
                refine ⟨i + 1, by go_num, ⟨by omega, hJ.out.2.1, ?_⟩⟩
                rw [HS.out, if_pos HX.out, HL.out]
                have := hJ.out.2.2.1
                rw [List.take_length] at this
                exact this
              case measure => simp [intOf]; omega
    · obtain rfl : i = ro.length := by have := hI.out.1; omega
      go_wp2
      go_ret
      exact ⟨_, rfl, Kd.R_lower hI.out.2.2 HW.out.size, below_step HW.out hI.out.2.1⟩
end Go.Proofs.Ytddhaagfieldfaa.Hb
