import Derived.Test.YtddhaagfieldfaaHp2
namespace Go.Proofs.Ytddhaagfieldfaa.Hb
set_option linter.unusedVariables false
set_option linter.unusedSimpArgs false
open Go.RowKit Go.Proofs.YtddhaagfieldfaaW.PrintWords Go.Proofs.YtddhaagfieldfaaW.PrintLast Go.Proofs.YtddhaagfieldfaaW.PrintMore Go.Proofs.Ytddhaagfieldfaa.PCallTells Go.Proofs.Ytddhaagfieldfaa.Hw Go.Proofs.Ytddhaagfieldfaa.Q
attribute [local go_sem] run_store_v1 max2_int min2_int max_two min_two max_three min_three max_four min_four

/-- The litres of one grant are set. -/
def setL (gs : List S53) (i : Nat) (y : Int) : List S53 := gs.set i ⟨(rd_T53 gs i).f0, y⟩
theorem setL_length (gs : List S53) (i : Nat) (y : Int) : (setL gs i y).length = gs.length := List.length_set ..
theorem setL_at (gs : List S53) (i j : Nat) (y : Int) (hi : i < gs.length) : rd_T53 (setL gs i y) j = if j = i then ⟨(rd_T53 gs i).f0, y⟩ else rd_T53 gs j := by
  unfold setL rd_T53
  rw [List.getD_eq_getElem?_getD, Int.toNat_natCast, List.getElem?_set, List.getD_eq_getElem?_getD, List.getD_eq_getElem?_getD, Int.toNat_natCast]
  by_cases e : j = i
  · subst e; rw [if_pos rfl, if_pos hi, if_pos rfl]; rfl
  · rw [if_neg (fun h => e h.symm), if_neg e]
theorem C53_cells {w : World} {g n : Nat} {gs : List S53} (h : Kd.C k53 w (some ⟨g, 0, none⟩) n gs) (j : Nat) (hj : j < n) : w.cell? ⟨g, j * 2, none⟩ = some (.int .i64 (rd_T53 gs j).f0) ∧ w.cell? ⟨g, j * 2 + 1, none⟩ = some (.int .i64 (rd_T53 gs j).f1) := by
  obtain ⟨ad, e, h0, h1⟩ := at_T53 h j (Int.natCast_nonneg _) (by omega)
  injection e with e
  subst e
  rw [Int.toNat_natCast] at h0 h1
  have e : (⟨g, 0, none⟩ : Addr).add (j * 2) = ⟨g, j * 2, none⟩ := by unfold Addr.add; split <;> simp_all
  rw [e] at h0 h1
  exact ⟨h0, h1⟩
theorem C53_put {w : World} {g n : Nat} {gs : List S53} {cs : Array Value} (h : Kd.C k53 w (some ⟨g, 0, none⟩) n gs) (hb : w.heap[g]? = some (.cells cs 53 (0, 0))) (i : Nat) (hi : i < n) (y : Int) :
    Kd.C k53 (w.setCell ⟨g, i * 2 + 1, none⟩ (.int .i64 y)) (some ⟨g, 0, none⟩) n (setL gs i y) := by
  obtain ⟨h1, h2, _⟩ := id h
  have hbs := blk_set hb (i * 2 + 1) (.int .i64 y)
  refine ⟨by rw [setL_length]; exact h1, h2, fun _ => ⟨_, rfl, fun j p hj => ⟨_, rfl, k53_mk _ p, fun m u hu => ?_⟩⟩⟩
  have hjn : j < n := by
    rcases Nat.lt_or_ge j (setL gs i y).length with h | h
    · rw [setL_length] at h; omega
    · rw [List.getElem?_eq_none h] at hj; cases hj
  have hp : p = rd_T53 (setL gs i y) j := by unfold rd_T53; rw [Int.toNat_natCast, List.getD_eq_getElem?_getD, hj]; rfl
  rw [setL_at gs i j y (by omega)] at hp
  obtain ⟨c0, c1⟩ := C53_cells h j hjn
  rw [blk_cell hb] at c0 c1
  have e : ∀ m : Nat, (⟨g, 0, none⟩ : Addr).add (j * 2 + m) = ⟨g, j * 2 + m, none⟩ := fun m => by unfold Addr.add; split <;> simp_all
  show (w.setCell ⟨g, i * 2 + 1, none⟩ (.int .i64 y)).cell? ((⟨g, 0, none⟩ : Addr).add (j * 2 + m)) = _
  rw [e m, blk_cell hbs, Array.getElem?_setIfInBounds]
  match m, hu with
  | 0, hu =>
    obtain rfl := Option.some.inj hu
    rw [if_neg (by omega), Nat.add_zero, c0, hp]
    split <;> simp_all
  | 1, hu =>
    obtain rfl := Option.some.inj hu
    by_cases ej : j = i
    · subst ej
      rw [if_pos rfl, hp, if_pos rfl]
      have : j * 2 + 1 < cs.size := by
        rcases Nat.lt_or_ge (j * 2 + 1) cs.size with h | h
        · exact h
        · rw [Array.getElem?_eq_none h] at c1; cases c1
      rw [if_pos this]
    · rw [if_neg (by omega), c1, hp, if_neg ej]
/-- What the law CallMoves says, of the day's lists. -/
def MovesOK (pl : List S79) (ro : List S39) (su : List Int) (f t : Nat) (le mo : Int) : Prop :=
  ∀ ex, checkF pl ro su (setL (setL (dayF pl ro su).1 f ((rd_T53 (dayF pl ro su).1 f).f1 - le)) t ((rd_T53 (dayF pl ro su).1 t).f1 + mo)) ex = false
theorem moves (pl : List S79) (ro : List S39) (su : List Int) (hf : fewF pl ro [] = true) (hm : modestF su = true) (f t : Nat) (hfl : f < ro.length) (htl : t < ro.length) (hne : f ≠ t) (le mo : Int) (hle : 1 ≤ le) : MovesOK pl ro su f t le mo := by
  intro ex
  have hpl : pl.length ≤ 16 ∧ ro.length ≤ 14 := by unfold fewF at hf; simp only [Bool.and_eq_true, decide_eq_true_eq] at hf; exact ⟨hf.1, hf.2.1⟩
  cases h : checkF pl ro su (setL (setL (dayF pl ro su).1 f ((rd_T53 (dayF pl ro su).1 f).f1 - le)) t ((rd_T53 (dayF pl ro su).1 t).f1 + mo)) ex with
  | false => rfl
  | true =>
    exfalso
    have hd := (day_at pl ro su).1
    obtain ⟨h1, h2⟩ := check_only pl ro su _ ex hpl.1 hpl.2 hm h
    have h3 := (h2 f hfl).2
    unfold litres at h3
    rw [if_pos (by omega), if_pos (by omega), setL_at _ _ _ _ (by rw [setL_length]; omega), if_neg hne, setL_at _ _ _ _ (by omega), if_pos rfl] at h3
    dsimp only at h3
    omega
set_option maxRecDepth 100000 in
set_option maxHeartbeats 8000000 in
theorem CallMoves_walk (b : BV) (A1 : Option Addr) (c1 : Nat) (ro : List S39) (A2 : Option Addr) (c2 : Nat) (su : List Int) (vf vt le mo : Int) (w : World) (hb : b.In w) (hr1 : Kd.C k39 w A1 ro.length ro) (hc1 : ro.length ≤ c1) (hr2 : Kd.C (Kd.int .i64) w A2 su.length su) (hc2 : su.length ≤ c2) :
    Calls Try.prog 6 #[b.val, .slice A1 ro.length c1, .slice A2 su.length c2, .int .i64 vf, .int .i64 vt, .int .i64 le, .int .i64 mo] w fun e w' => e = .returned (.bool true) ∧ Below w.heap.size w w' := by
  have HB := Aside0.mk hb
  have HRO := Aside0.mk hr1
  have HSU := Aside0.mk hr2
  clear hb hr1 hr2
  go_enter Try.func6, Try.ntmps6
  go_upto_region 4 with (first
    | ((with_reducible refine gate_dst (N := 7) rfl ?_); refine ev_box rfl rfl b.cs 31 (by go_simp; done) ?_; intro gb w1 BK hgb hb1)
    | (go_at_call 8; refine (small_calls _).mono ?_; rintro e w2 ⟨rfl, hb2⟩)
    | ((with_reducible refine gate_dst (N := 21) rfl ?_); refine wpList_load_row rfl 31 _ rfl gb rfl 31 b.cs (0, 0) _ (blk_below BK hb2) Try.underlying31 rfl (by kernel_rfl) ?_)
    | (go_at_call 9; refine (Few_calls b A1 c1 ro none 0 [] _ (HB.out.below (below_step hb1 hb2)) (Kd.C_below HRO.out (below_step hb1 hb2)) hc1 (Kd.C_nil' _ _) (Nat.le_refl _)).mono ?_; rintro e w3 ⟨rfl, hb3⟩)
    | (go_at_call 22; refine (modest_calls A2 c2 su _ (Kd.C_below HSU.out (below_step hb1 (below_step hb2 hb3)))).mono ?_; rintro e w4 ⟨rfl, hb4⟩))
  try simp only [Act.put, List.setIfInBounds_toArray, List.set_cons_zero, List.set_cons_succ]
  have h04 := below_step hb1 (below_step hb2 (below_step hb3 hb4))
  have HGB4 := Aside0.mk (blk_below BK (below_step hb2 (below_step hb3 hb4)))
  have H04 := Aside0.mk h04
  clear hb1 hb2 hb3 hb4 h04 BK hgb
  cases hf : fewF b.pl ro [] with
  | false =>
    go_wp2
    go_ret
    exact ⟨rfl, H04.out⟩
  | true =>
    cases hm : modestF su with
    | false =>
      go_wp2
      go_ret
      exact ⟨rfl, H04.out⟩
    | true =>
      cases a1 : decide (vf < 0) with
      | true =>
        go_wp2
        go_ret
        exact ⟨rfl, H04.out⟩
      | false =>
        cases a2 : decide ((ro.length : Int) ≤ vf) with
        | true =>
          go_wp2
          go_ret
          exact ⟨rfl, H04.out⟩
        | false =>
          cases a3 : decide (vt < 0) with
          | true =>
            go_wp2
            go_ret
            exact ⟨rfl, H04.out⟩
          | false =>
            cases a4 : decide ((ro.length : Int) ≤ vt) with
            | true =>
              go_wp2
              go_ret
              exact ⟨rfl, H04.out⟩
            | false =>
              cases a5 : (vf == vt) with
              | true =>
                go_wp2
                go_ret
                exact ⟨rfl, H04.out⟩
              | false =>
                have hf' : b.pl.length ≤ 16 ∧ ro.length ≤ 14 := by
                  unfold fewF at hf; simp only [Bool.and_eq_true, decide_eq_true_eq] at hf; exact ⟨hf.1, hf.2.1⟩
                obtain ⟨hpl, hro⟩ := hf'
                have hpl : b.pl.length ≤ 1000 := by omega
                have hro' : ro.length ≤ 1000 := by omega
                obtain ⟨f, rfl⟩ := Int.eq_ofNat_of_zero_le (show 0 ≤ vf by simpa using a1)
                obtain ⟨t, rfl⟩ := Int.eq_ofNat_of_zero_le (show 0 ≤ vt by simpa using a3)
                have hfl : f < ro.length := by have := of_decide_eq_false a2; omega
                have htl : t < ro.length := by have := of_decide_eq_false a4; omega
                have hft : f ≠ t := by
                  have : ¬ (f : Int) = (t : Int) := by simpa using a5
                  omega
                have MV := Aside0.mk (fun le mo h => moves b.pl ro su hf hm f t hfl htl hft le mo h)
                have hdl := (day_at b.pl ro su).1
                have d7 : (((dayF b.pl ro su).1.length : Int) != (ro.length : Int)) = false := by rw [hdl]; simp
                have HDL := Aside0.mk hdl
                clear hdl
                go_upto_region 9 with (first
                  | ((with_reducible refine gate_dst (N := 59) rfl ?_); refine wpList_load_row rfl 31 _ rfl gb rfl 31 b.cs (0, 0) _ HGB4.out Try.underlying31 rfl (by kernel_rfl) ?_)
                  | (go_at_call 23; refine (Day_calls b A1 c1 ro A2 c2 su _ (HB.out.below H04.out) hpl (Kd.C_below HRO.out H04.out) hc1 (Kd.C_below HSU.out H04.out) hc2 hro').mono ?_; rintro e w2 ⟨v0, v1, rfl, hR6, hR7, hb6⟩; obtain ⟨g6, c6, rfl, hg6, _, cells6, hcells6⟩ := Kd.R_form hR6 (by have := HDL.out; omega); obtain ⟨A7, c7, rfl⟩ := Kd.R_slice hR7))
                try simp only [Act.put, List.setIfInBounds_toArray, List.set_cons_zero, List.set_cons_succ]
                have HC := Aside0.mk (Kd.R_reads' hR6).2.2
                have hc6 := (Kd.R_reads' hR6).2.1
                have HCE := Aside0.mk hcells6
                have HGB := Aside0.mk (blk_below HGB4.out hb6)
                have HW := Aside0.mk (below_step H04.out hb6)
                have HLE := Aside0.mk (show w.heap.size ≤ g6 from Nat.le_trans H04.out.size hg6)
                clear hR6 hR7 hb6 HGB4 hg6 hcells6
                obtain ⟨gs, hgs⟩ : ∃ gs, (dayF b.pl ro su).1 = gs := ⟨_, rfl⟩
                have DB := Aside0.mk (show (rd_T53 (dayF b.pl ro su).1 f).f1 ≤ 1125899906842624 ∧ (rd_T53 (dayF b.pl ro su).1 t).f1 ≤ 1125899906842624 ∧ 0 ≤ (rd_T53 (dayF b.pl ro su).1 t).f1 by
                  have e1 := day_litres_bound b.pl ro su (by omega) hm f
                  have e2 := day_litres_bound b.pl ro su (by omega) hm t
                  unfold litres at e1 e2
                  rw [if_pos (by have := HDL.out; omega)] at e1 e2
                  exact ⟨e1.2, e2.2, e2.1⟩)
                have MV2 := MV.out
                simp only [MovesOK, hgs] at MV2
                have MV := Aside0.mk MV2
                clear MV2
                rw [hgs] at HC hc6 d7 HDL DB ⊢
                clear hgs
                have hfg : (f : Int) < (gs.length : Int) := by have := HDL.out; omega
                have htg : (t : Int) < (gs.length : Int) := by have := HDL.out; omega
                have hf0 : (0 : Int) ≤ (f : Int) := Int.natCast_nonneg _
                have ht0 : (0 : Int) ≤ (t : Int) := Int.natCast_nonneg _
                have y1 := (C53_cells HC.out f (by omega)).2
                have hgb6 : gb ≠ g6 := by
                  intro e; have h1 := HGB.out; have h2 := HCE.out; rw [e, h2] at h1; injection h1 with h1; injection h1 with _ h1; exact absurd h1 (by decide)
                have hgf : (rd_T53 gs f).f1 ≤ 1125899906842624 ∧ (rd_T53 gs t).f1 ≤ 1125899906842624 ∧ 0 ≤ (rd_T53 gs t).f1 := DB.out
                cases b1 : decide (le < 1) with
                | true =>
                  go_wp2
                  go_ret
                  exact ⟨rfl, HW.out⟩
                | false =>
                  cases b2 : decide (le > (rd_T53 gs f).f1) with
                  | true =>
                    go_wp2
                    go_ret
                    exact ⟨rfl, HW.out⟩
                  | false =>
                    cases b3 : decide (mo < 0) with
                    | true =>
                      go_wp2
                      go_ret
                      exact ⟨rfl, HW.out⟩
                    | false =>
                      cases b4 : decide (mo > 1125899906842624) with
                      | true =>
                        go_wp2
                        go_ret
                        exact ⟨rfl, HW.out⟩
                      | false =>
                        have hle1 : 1 ≤ le := by have := of_decide_eq_false b1; omega
                        have hle2 : le ≤ (rd_T53 gs f).f1 := by have := of_decide_eq_false b2; omega
                        have hmo1 : 0 ≤ mo := by have := of_decide_eq_false b3; omega
                        have hmo2 : mo ≤ 1125899906842624 := by have := of_decide_eq_false b4; omega
                        have q1 : -9223372036854775808 ≤ (rd_T53 gs f).f1 - le := by omega
                        have q2 : (rd_T53 gs f).f1 - le ≤ 9223372036854775807 := by omega
                        have q3 : -9223372036854775808 ≤ (rd_T53 gs t).f1 + mo := by omega
                        have q4 : (rd_T53 gs t).f1 + mo ≤ 9223372036854775807 := by omega
                        have z1 : w2.frozen? ⟨g6, f * 2 + 1, none⟩ = false := blk_frozen HCE.out (f * 2 + 1)
                        go_upto_region 12 with (fail)
                        have HC1 := Aside0.mk (C53_put HC.out HCE.out f (by omega) ((rd_T53 gs f).f1 - le))
                        have HE1 := Aside0.mk (blk_set HCE.out (f * 2 + 1) (.int .i64 ((rd_T53 gs f).f1 - le)))
                        have HG1 := Aside0.mk (blk_far HGB.out (p := ⟨g6, f * 2 + 1, none⟩) hgb6 (.int .i64 ((rd_T53 gs f).f1 - le)))
                        have HW1 := Aside0.mk (below_set (j := f * 2 + 1) (v := .int .i64 ((rd_T53 gs f).f1 - le)) HW.out HLE.out)
                        generalize w2.setCell ⟨g6, f * 2 + 1, none⟩ (.int .i64 ((rd_T53 gs f).f1 - le)) = ws1 at HC1 HE1 HG1 HW1 ⊢
                        clear y1 z1
                        have y2 := (C53_cells HC1.out t (by omega)).2
                        rw [setL_at _ _ _ _ (by omega), if_neg (fun e => hft e.symm)] at y2
                        have z2 : ws1.frozen? ⟨g6, t * 2 + 1, none⟩ = false := blk_frozen HE1.out (t * 2 + 1)
                        try simp only [Act.put, List.setIfInBounds_toArray, List.set_cons_zero, List.set_cons_succ]
                        go_upto_region 13 with (fail)
                        have HC2 := Aside0.mk (C53_put HC1.out HE1.out t (by omega) ((rd_T53 gs t).f1 + mo))
                        have HG2 := Aside0.mk (blk_far HG1.out (p := ⟨g6, t * 2 + 1, none⟩) hgb6 (.int .i64 ((rd_T53 gs t).f1 + mo)))
                        have HW2 := Aside0.mk (below_set (j := t * 2 + 1) (v := .int .i64 ((rd_T53 gs t).f1 + mo)) HW1.out HLE.out)
                        generalize ws1.setCell ⟨g6, t * 2 + 1, none⟩ (.int .i64 ((rd_T53 gs t).f1 + mo)) = ws2 at HC2 HG2 HW2 ⊢
                        try simp only [Act.put, List.setIfInBounds_toArray, List.set_cons_zero, List.set_cons_succ]
                        obtain ⟨gt, hgt⟩ : ∃ gt, setL (setL gs f ((rd_T53 gs f).f1 - le)) t ((rd_T53 gs t).f1 + mo) = gt := ⟨_, rfl⟩
                        have hgl : gs.length = gt.length := by rw [← hgt, setL_length, setL_length]
                        have HNO := Aside0.mk (fun ex => hgt ▸ MV.out le mo hle1 ex)
                        rw [hgt, hgl] at HC2
                        rw [hgl] at hc6 ⊢
                        have HA := Aside0.mk (show Args b A1 c1 ro A2 c2 su (some ⟨g6, 0, none⟩) c6 gt ws2 from ⟨HB.out.below HW2.out, hpl, Kd.C_below HRO.out HW2.out, hc1, Kd.C_below HSU.out HW2.out, hc2, HC2.out, hc6, hro'⟩)
                        clear y2 z2 HC1 HE1 HG1 HW1 HC HCE HGB HW hgl hgt q1 q2 q3 q4

                        refine start_ (n := 15) (S := fun w' => Below ws2.heap.size ws2 w') (ds := []) #[false, false, false, false, false, false, false, false, false, false, false, false, false, false, false] (by kernel_rfl) rfl rfl (Below.refl _ _).drew (fun hHeld => ?_)
                        generalize ws2.drew = w7 at hHeld ⊢
                        refine pure_ (i := 0) (N := some 112) (v := ?_) (a' := ?_) #[true, false, false, false, false, false, false, false, false, false, false, false, false, false, false] rfl rfl (by kernel_rfl) (fun _ _ _ h => h) (Or.inl ⟨by rfl, ?_⟩) ?_ ?_
                        rotate_left
                        · intro w'; go_simp; with_reducible rfl
                        rotate_left
                        · simp only [Act.put, List.setIfInBounds_toArray, List.set_cons_zero, List.set_cons_succ, i64_w, i32_w]; rfl
                        refine pure_ (i := 1) (N := some 113) (v := ?_) (a' := ?_) #[true, true, false, false, false, false, false, false, false, false, false, false, false, false, false] rfl rfl (by kernel_rfl) (fun _ _ _ h => h) (Or.inl ⟨by rfl, ?_⟩) ?_ ?_
                        rotate_left
                        · intro w'; go_simp; with_reducible rfl
                        rotate_left
                        · simp only [Act.put, List.setIfInBounds_toArray, List.set_cons_zero, List.set_cons_succ, i64_w, i32_w]; rfl
                        refine take_ (i := 2) (N := some 114) (v := .agg (b.cs)) (a' := ?_) #[true, true, true, false, false, false, false, false, false, false, false, false, false, false, false] rfl rfl (by kernel_rfl) (fun _ _ _ h => h) (Or.inl ⟨by rfl, fun w' hw' => load_row_run rfl rfl (blk_below HG2.out hw') _ Try.underlying31 rfl (by kernel_rfl)⟩) hHeld ?_ ?_
                        rotate_left
                        · simp only [Act.put, List.setIfInBounds_toArray, List.set_cons_zero, List.set_cons_succ]; rfl
                        refine pure_ (i := 3) (N := some 115) (v := ?_) (a' := ?_) #[true, true, true, true, false, false, false, false, false, false, false, false, false, false, false] rfl rfl (by kernel_rfl) (fun _ _ _ h => h) (Or.inl ⟨by rfl, ?_⟩) ?_ ?_
                        rotate_left
                        · intro w'; go_simp; with_reducible rfl
                        rotate_left
                        · simp only [Act.put, List.setIfInBounds_toArray, List.set_cons_zero, List.set_cons_succ, i64_w, i32_w]; rfl
                        refine pure_ (i := 4) (N := some 116) (v := ?_) (a' := ?_) #[true, true, true, true, true, false, false, false, false, false, false, false, false, false, false] rfl rfl (by kernel_rfl) (fun _ _ _ h => h) (Or.inl ⟨by rfl, ?_⟩) ?_ ?_
                        rotate_left
                        · intro w'; go_simp; with_reducible rfl
                        rotate_left
                        · simp only [Act.put, List.setIfInBounds_toArray, List.set_cons_zero, List.set_cons_succ, i64_w, i32_w]; rfl
                        refine pure_ (i := 5) (N := some 117) (v := ?_) (a' := ?_) #[true, true, true, true, true, true, false, false, false, false, false, false, false, false, false] rfl rfl (by kernel_rfl) (fun _ _ _ h => h) (Or.inl ⟨by rfl, ?_⟩) ?_ ?_
                        rotate_left
                        · intro w'; go_simp; with_reducible rfl
                        rotate_left
                        · simp only [Act.put, List.setIfInBounds_toArray, List.set_cons_zero, List.set_cons_succ, i64_w, i32_w]; rfl
                        refine take_ (i := 6) (N := some 118) (v := .agg (b.cs)) (a' := ?_) #[true, true, true, true, true, true, true, false, false, false, false, false, false, false, false] rfl rfl (by kernel_rfl) (fun _ _ _ h => h) (Or.inl ⟨by rfl, fun w' hw' => load_row_run rfl rfl (blk_below HG2.out hw') _ Try.underlying31 rfl (by kernel_rfl)⟩) hHeld ?_ ?_
                        rotate_left
                        · simp only [Act.put, List.setIfInBounds_toArray, List.set_cons_zero, List.set_cons_succ]; rfl
                        refine pure_ (i := 7) (N := some 119) (v := ?_) (a' := ?_) #[true, true, true, true, true, true, true, true, false, false, false, false, false, false, false] rfl rfl (by kernel_rfl) (fun _ _ _ h => h) (Or.inl ⟨by rfl, ?_⟩) ?_ ?_
                        rotate_left
                        · intro w'; go_simp; with_reducible rfl
                        rotate_left
                        · simp only [Act.put, List.setIfInBounds_toArray, List.set_cons_zero, List.set_cons_succ, i64_w, i32_w]; rfl
                        refine pure_ (i := 8) (N := some 120) (v := ?_) (a' := ?_) #[true, true, true, true, true, true, true, true, true, false, false, false, false, false, false] rfl rfl (by kernel_rfl) (fun _ _ _ h => h) (Or.inl ⟨by rfl, ?_⟩) ?_ ?_
                        rotate_left
                        · intro w'; go_simp; with_reducible rfl
                        rotate_left
                        · simp only [Act.put, List.setIfInBounds_toArray, List.set_cons_zero, List.set_cons_succ, i64_w, i32_w]; rfl
                        refine pure_ (i := 9) (N := some 121) (v := ?_) (a' := ?_) #[true, true, true, true, true, true, true, true, true, true, false, false, false, false, false] rfl rfl (by kernel_rfl) (fun _ _ _ h => h) (Or.inl ⟨by rfl, ?_⟩) ?_ ?_
                        rotate_left
                        · intro w'; go_simp; with_reducible rfl
                        rotate_left
                        · simp only [Act.put, List.setIfInBounds_toArray, List.set_cons_zero, List.set_cons_succ, i64_w, i32_w]; rfl
                        refine one_ (i := 10) (N := some 122) #[true, true, true, true, true, true, true, true, true, true, true, false, false, false, false] rfl rfl (by kernel_rfl) (by decide) (fun K hK => ?_)
                        refine goes_ Try.func16 (by kernel_rfl) rfl #[b.val, .slice A1 ro.length c1, .slice A2 su.length c2, .slice (some ⟨g6, 0, none⟩) gt.length c6] (by rfl) rfl rfl (by simp only [List.map_toArray, List.map_cons, List.map_nil]; rfl) ?_
                        refine (Excuses_calls b A1 c1 ro A2 c2 su (some ⟨g6, 0, none⟩) c6 gt _ (HA.out.below hHeld)).mono ?_; rintro e w8 ⟨v8, rfl, hR8, hb⟩; obtain ⟨A8, c8, rfl⟩ := Kd.R_slice hR8
                        refine ⟨_, rfl, ?_⟩
                        refine hK.out _ _ (below_step hHeld hb) (fun hHeld => ?_)
                        clear hK K
                        refine norm_ (a' := ?_) ?_ ?_
                        rotate_left
                        · show Act.put _ (some 122) _ = _; simp only [Act.put, List.setIfInBounds_toArray, List.set_cons_zero, List.set_cons_succ]; rfl
                        have HX := Aside0.mk (Kd.R_reads' hR8).2.2
                        have hc8 := (Kd.R_reads' hR8).2.1
                        clear hb hR8
                        refine one_ (i := 11) (N := some 123) #[true, true, true, true, true, true, true, true, true, true, true, true, false, false, false] rfl rfl (by kernel_rfl) (by decide) (fun K hK => ?_)
                        refine goes_ Try.func20 (by kernel_rfl) rfl #[b.val, .slice A1 ro.length c1, .slice A2 su.length c2, .slice (some ⟨g6, 0, none⟩) gt.length c6, .slice A8 (excTo b.pl ro su gt ro.length).length c8] (by rfl) rfl rfl (by simp only [List.map_toArray, List.map_cons, List.map_nil]; rfl) ?_
                        refine (HNO.out (excTo b.pl ro su gt ro.length) ▸ Check_calls b A1 c1 ro A2 c2 su (some ⟨g6, 0, none⟩) c6 gt A8 c8 (excTo b.pl ro su gt ro.length) _ (HA.out.below hHeld) HX.out hc8 (Nat.le_trans (excTo_length ..) (Nat.le_trans (Nat.mul_le_mul hro' hro') (by decide)))).mono ?_; rintro e w9 ⟨rfl, hb⟩
                        refine ⟨_, rfl, ?_⟩
                        refine hK.out _ _ (below_step hHeld hb) (fun hHeld => ?_)
                        clear hK K
                        refine norm_ (a' := ?_) ?_ ?_
                        rotate_left
                        · show Act.put _ (some 123) _ = _; simp only [Act.put, List.setIfInBounds_toArray, List.set_cons_zero, List.set_cons_succ]; rfl
                        clear hb
                        refine pure_ (i := 12) (N := some 124) (v := ?_) (a' := ?_) #[true, true, true, true, true, true, true, true, true, true, true, true, true, false, false] rfl rfl (by kernel_rfl) (fun _ _ _ h => h) (Or.inl ⟨by rfl, ?_⟩) ?_ ?_
                        rotate_left
                        · intro w'; go_simp; with_reducible rfl
                        rotate_left
                        · simp only [Act.put, List.setIfInBounds_toArray, List.set_cons_zero, List.set_cons_succ, i64_w, i32_w]; rfl
                        refine pure_ (i := 13) (N := some 125) (v := ?_) (a' := ?_) #[true, true, true, true, true, true, true, true, true, true, true, true, true, true, false] rfl rfl (by kernel_rfl) (fun _ _ _ h => h) (Or.inl ⟨by rfl, ?_⟩) ?_ ?_
                        rotate_left
                        · intro w'; go_simp; with_reducible rfl
                        rotate_left
                        · simp only [Act.put, List.setIfInBounds_toArray, List.set_cons_zero, List.set_cons_succ, i64_w, i32_w]; rfl
                        refine pure_ (i := 14) (N := some 14) (v := ?_) (a' := ?_) #[true, true, true, true, true, true, true, true, true, true, true, true, true, true, true] rfl rfl (by kernel_rfl) (fun _ _ _ h => h) (Or.inl ⟨by rfl, ?_⟩) ?_ ?_
                        rotate_left
                        · intro w'; go_simp; with_reducible rfl
                        rotate_left
                        · simp only [Act.put, List.setIfInBounds_toArray, List.set_cons_zero, List.set_cons_succ, i64_w, i32_w]; rfl
                        refine done_ (by kernel_rfl) ?_
                        go_wp2
                        go_ret
                        exact ⟨rfl, below_step HW2.out hHeld⟩
end Go.Proofs.Ytddhaagfieldfaa.Hb
