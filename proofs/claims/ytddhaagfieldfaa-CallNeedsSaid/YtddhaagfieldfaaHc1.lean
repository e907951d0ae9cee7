import Derived.Test.YtddhaagfieldfaaHc0
namespace Go.Proofs.Ytddhaagfieldfaa.Hb
set_option linter.unusedVariables false
set_option linter.unusedSimpArgs false
open Go.RowKit Go.Proofs.YtddhaagfieldfaaW.PrintWords Go.Proofs.YtddhaagfieldfaaW.PrintLast Go.Proofs.YtddhaagfieldfaaW.PrintMore Go.Proofs.Ytddhaagfieldfaa.PCallTells Go.Proofs.Ytddhaagfieldfaa.Hw Go.Proofs.Ytddhaagfieldfaa.Q
attribute [local go_sem] run_store_v1 max2_int min2_int max_two min_two max_three min_three max_four min_four

/-- The Ids of the short rights among the first i. -/
def shortTo (pl : List S79) (ro : List S39) (gr : List S53) (i : Nat) : List Int := ((List.range i).filter fun j => shortP pl ro gr j).map fun j => (rd_T39 ro (j : Nat)).f0
theorem shortTo_succ (pl : List S79) (ro : List S39) (gr : List S53) (i : Nat) : shortTo pl ro gr (i + 1) = if shortP pl ro gr i = true then shortTo pl ro gr i ++ [(rd_T39 ro i).f0] else shortTo pl ro gr i := by
  unfold shortTo
  rw [List.range_succ, List.filter_append, List.map_append]
  cases h : shortP pl ro gr i <;> simp [h]
theorem shortTo_length (pl : List S79) (ro : List S39) (gr : List S53) (i : Nat) : (shortTo pl ro gr i).length ≤ i := by
  unfold shortTo
  rw [List.length_map]
  have := List.length_filter_le (fun j => shortP pl ro gr j) (List.range i)
  rw [List.length_range] at this
  exact this
set_option maxRecDepth 100000 in
set_option maxHeartbeats 2000000 in
theorem Short_calls (b : BV) (A1 : Option Addr) (c1 : Nat) (ro : List S39) (A3 : Option Addr) (c3 : Nat) (gr : List S53) (w : World) (h : Args b A1 c1 ro none 0 [] A3 c3 gr w) :
    Calls Try.prog 13 #[b.val, .slice A1 ro.length c1, .slice A3 gr.length c3] w fun e w' => ∃ v, e = .returned v ∧ Kd.R (Kd.int .i64) 3 w' w.heap.size (fun _ => True) v (shortTo b.pl ro gr ro.length) ∧ Below w.heap.size w w' := by
  have H := Aside0.mk h
  clear h
  go_enter Try.func13, Try.ntmps13
  go_upto_region 2 with (first
    | ((with_reducible refine gate_dst (N := 3) rfl ?_); refine ev_box rfl rfl b.cs 31 (by go_simp; done) ?_; intro gb w1 BK hgb hb1)
    | ((with_reducible refine gate_dst (N := 11) rfl ?_); refine wpList_load_row rfl 31 _ rfl gb rfl 31 b.cs (0, 0) _ BK Try.underlying31 rfl (by kernel_rfl) ?_)
    | (go_at_call 30; refine (of_calls' b A1 c1 ro none 0 [] A3 c3 gr _ (H.out.below hb1)).mono ?_; rintro e w2 ⟨A4, c4, A5, c5, A6, c6, rfl, hd, hb2⟩)
    | ((with_reducible refine gate_dst (N := 7) rfl ?_); refine ev_box rfl rfl zero63 63 (by go_simp; rfl) ?_; intro g7 w3 BK7 hg7 hb3)
    | (refine ev_store rfl 63 _ _ rfl rfl g7 rfl (DV.cs ⟨b, A1, c1, ro, A4, c4, reTo b.pl ro ro.length, A5, c5, gotTo ro.length gr ro.length, A6, c6, leftTo b.pl ro gr (left0 b.pl []) ro.length⟩) rfl 63 _ BK7 (by kernel_rfl) rfl (dcs_one b rfl rfl rfl rfl) ?_; intro wl BKl hbl hkl))
  simp only [Act.put, List.setIfInBounds_toArray, List.set_cons_succ, List.set_cons_zero]
  obtain ⟨d, hde⟩ : ∃ d : DV, d = ⟨b, A1, c1, ro, A4, c4, reTo b.pl ro ro.length, A5, c5, gotTo ro.length gr ro.length, A6, c6, leftTo b.pl ro gr (left0 b.pl []) ro.length⟩ := ⟨_, rfl⟩
  have h2l : Below w2.heap.size w2 wl := below_weaken hb3 (Nat.le_refl _) (hbl _ hg7)
  have hbw : Below w.heap.size w wl := below_step (below_step hb1 hb2) h2l
  rw [← hde] at BKl hd
  have HBl := Aside0.mk BKl
  have HDl := Aside0.mk (hd.below h2l)
  have HW := Aside0.mk hbw
  have HA := Aside0.mk (H.out.below hbw)
  have hsh : ∀ i : Nat, shortP b.pl ro gr i = shortF d i gr.length := fun i => by rw [hde]; rfl
  have hdr : d.ro = ro := by rw [hde]
  have hd2 : d.re.length = d.ro.length := by rw [hde]; exact reTo_length ..
  have hd3 : d.got.length = d.ro.length := by rw [hde]; exact gotTo_length ..
  have E := Aside0.mk (And.intro hsh (And.intro hdr (And.intro hd2 hd3)))
  clear BK BK7 BKl hb1 hb2 hb3 hbl hkl hg7 hgb hd h2l hbw hsh hdr hd2 hd3 hde
  have hro : ro.length ≤ 1000 := HA.out.hro
  go_wp2
  go_loopw [8, 17] (fun v8 v17 W => ∃ i : Nat, v17 = .int .i64 i ∧ Aside0 (i ≤ ro.length ∧ Below wl.heap.size wl W ∧ Kd.R (Kd.int .i64) 3 W wl.heap.size (fun _ => True) v8 (shortTo b.pl ro gr i))) (fun _ v17 _ => ro.length - (intOf v17).toNat)
  case atStart => exact ⟨0, rfl, ⟨Nat.zero_le _, Below.refl _ _, Kd.R_nil _ _ _ _ _⟩⟩
  case round =>
    obtain ⟨i, rfl, hI⟩ := hrel
    by_cases hlt : i < ro.length
    · have hi0 : (0 : Int) ≤ (i : Int) := Int.natCast_nonneg _
      have hi1 : (i : Int) < (ro.length : Int) := by omega
      obtain ⟨ad, e1, hx0⟩ := r39_at (Kd.C_below HA.out.r1 hI.out.2.1) i hi0 hi1
      subst e1
      rw [Int.toNat_natCast] at hx0
      have hx := Aside0.mk hx0
      clear hx0
      go_upto_region 6 with (first
        | ((with_reducible refine gate_dst (N := 21) rfl ?_); refine ev_load rfl 39 _ rfl (ad.add (i * 9)) rfl (r39 (rd_T39 ro i)) hx.out _ Try.underlying39 rfl (by kernel_rfl) ?_)
        | ((with_reducible refine gate_dst (N := 10) rfl ?_); refine ev_box rfl rfl #[.int .i64 0, .int .i64 0, .int .i64 0, .int .i64 0, .int .i64 0, .int .i64 0, .int .i64 0, .int .i64 0, .int .i64 0] 39 (by go_simp; done) ?_; intro g10 w4 BK4 hg4 hb4)
        | (refine ev_store rfl 39 _ _ rfl rfl g10 rfl (r39 (rd_T39 ro i)).toArray rfl 39 _ BK4 (by kernel_rfl) rfl (by simp [r39, Value.oneCell']) ?_; intro w5 BK5 hb5 hk5))
      try simp only [Act.put, List.setIfInBounds_toArray, List.set_cons_succ, List.set_cons_zero]
      have hr5 : Below wr.heap.size wr w5 := below_weaken hb4 (Nat.le_refl _) (hb5 _ hg4)
      have HB5 := Aside0.mk (below_step hI.out.2.1 hr5)
      have HR5 := Aside0.mk (Kd.R_below hI.out.2.2 hr5)
      have HG := Aside0.mk BK5
      have hle : (shortTo b.pl ro gr i).length ≤ 1000 := Nat.le_trans (shortTo_length ..) (by have := HA.out.hro; omega)
      clear BK4 BK5 hb4 hb5 hk5 hr5 hx hg4
      have HS := Aside0.mk (shortTo_succ b.pl ro gr i)
      cases hsi : shortP b.pl ro gr i with
      | true =>
        have hsF : shortF d i gr.length = true := by rw [← E.out.1]; exact hsi
        have HSF := Aside0.mk hsF
        clear hsF
        go_upto_region 7 with (first
          | ((with_reducible refine gate_dst (N := 22) rfl ?_); refine wpList_load_row rfl 63 _ rfl g7 rfl 63 d.cs (0, 0) _ (blk_below HBl.out HB5.out) Try.underlying63 rfl (by kernel_rfl) ?_)
          | (go_at_call 31; refine (short_calls d i gr.length _ (HDl.out.below HB5.out) (by rw [E.out.2.1]; exact hlt) E.out.2.2.1 E.out.2.2.2).mono ?_; rw [HSF.out]; rintro e w6 ⟨rfl, hb6⟩))
        have z0 : w6.cell? ⟨g10, 0, none⟩ = some (.int .i64 (rd_T39 ro i).f0) := (blk_cell (blk_below HG.out hb6) 0).trans rfl
        have HB6 := Aside0.mk (below_step HB5.out hb6)
        have HR6 := Aside0.mk (Kd.R_below HR5.out hb6)
        clear hb6 HB5 HR5 HG
        go_wp2_with ((with_reducible refine gate_builtin (b := .append) (xs := #[.tmp 27, .tmp 30]) rfl ?_); at_builtin; refine Kd.R_append (Kd.int .i64) (w0 := wl) wl.heap.size rfl (.tmp 27) (.tmp 30) 29 3 (.int .i64 0) 8 rfl Try.underlying29 info3 rfl (by decide) (by omega) _ (shortTo b.pl ro gr i) (rd_T39 ro i).f0 [.int .i64 (rd_T39 ro i).f0] (fun _ => True) (fun _ => False) rfl rfl ?aP (fun _ hk => hk.elim) (fun _ _ => trivial) HR6.out HB6.out HB6.out.size ?aL ?_; (case aP => exact rfl); (case aL => omega); intro v8' w7 hR7 hB7 hg7' hat7; have HR7 := Aside0.mk hR7; have HB7 := Aside0.mk hB7; clear hR7 hB7 hg7' hat7)
        go_roundw
        case rel =>
          refine ⟨i + 1, by go_num, ⟨by omega, HB7.out, ?_⟩⟩
          rw [HS.out, if_pos hsi]; exact HR7.out
        case measure => simp [intOf]; omega
      | false =>
        have hsF : shortF d i gr.length = false := by rw [← E.out.1]; exact hsi
        have HSF := Aside0.mk hsF
        clear hsF
        go_wp2_with (first
          | ((with_reducible refine gate_dst (N := 22) rfl ?_); refine wpList_load_row rfl 63 _ rfl g7 rfl 63 d.cs (0, 0) _ (blk_below HBl.out HB5.out) Try.underlying63 rfl (by kernel_rfl) ?_)
          | (go_at_call 31; refine (short_calls d i gr.length _ (HDl.out.below HB5.out) (by rw [E.out.2.1]; exact hlt) E.out.2.2.1 E.out.2.2.2).mono ?_; rw [HSF.out]; rintro e w6 ⟨rfl, hb6⟩))
        go_roundw
        case rel =>
          refine ⟨i + 1, by go_num, ⟨by omega, below_step HB5.out hb6, ?_⟩⟩
          rw [HS.out, if_neg (by rw [hsi]; decide)]; exact Kd.R_below HR5.out hb6
        case measure => simp [intOf]; omega
    · obtain rfl : i = ro.length := by have := hI.out.1; omega
      go_wp2
      go_ret
      exact ⟨_, rfl, Kd.R_lower hI.out.2.2 HW.out.size, below_step HW.out hI.out.2.1⟩
end Go.Proofs.Ytddhaagfieldfaa.Hb
