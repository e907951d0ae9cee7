import Derived.Test.YtcncjldggfbjdaaS9
namespace Go.Proofs.Ytcncjldggfbjdaa.G2
open Go.RowKit Go.Proofs.YtcncjldggfbjdaaW.PrintWords Go.Proofs.YtcncjldggfbjdaaW.PrintLast Go.Proofs.YtcncjldggfbjdaaW.PrintMore Go.Proofs.Ytcncjldggfbjdaa.G1 Go.Proofs.Ytcncjldggfbjdaa.O
set_option linter.unusedVariables false
set_option linter.unusedSimpArgs false

set_option maxRecDepth 100000 in
set_option maxHeartbeats 4000000 in
theorem symB {D B R n : Nat} {rs ys0 : List Int} {w0 : World} (c : Ctx D B R n rs w0) (a m b : Nat) (ham : a + 1 < m) (hmb : b = m + 1) (hbn : b ≤ n) (t : Two rs ys0 a m b) (hN : Num n ys0) (W : World) (h : Srt D n w0 W ys0) :
    Calls Try.prog 67 #[.slice (some ⟨D, 0, none⟩) n n, .int .i64 a, .int .i64 m, .int .i64 b, .func (.func 50) #[] #[.pointer (some ⟨B, 0, none⟩)]] W fun e w' => e = .returned (.tuple #[]) ∧ ∃ ys, Srt D n w0 w' ys ∧ Swaps a b ys0 ys ∧ Sorted rs ys a b := by
  have HT := Aside0.mk t
  have HN := Aside0.mk hN
  have HS := Aside0.mk h
  have HC := Aside0.mk c
  have hn := c.ln
  have d0 : ((m : Int) - (a : Int) == 1) = false := beq_eq_false_iff_ne.2 (by omega)
  have e1 : (b : Int) - (m : Int) = 1 := by omega
  have HM := Aside0.mk hmb
  have hma : a < m := by omega
  have hmn : m < n := by omega
  have hmb2 : m < b := by omega
  clear c t hN h hmb
  go_enter Try.func67, Try.ntmps67
  go_wp2
  go_loopw [14, 15] (fun v10 v11 W => ∃ (lo hi : Nat), v10 = .int .i64 lo ∧ v11 = .int .i64 hi ∧ Aside0 (Srt D n w0 W ys0 ∧ a ≤ lo ∧ lo ≤ hi ∧ hi ≤ m ∧ (lo = a ∨ lt rs (ys0.getD (lo - 1) 0) (ys0.getD m 0) = true) ∧ (hi = m ∨ lt rs (ys0.getD m 0) (ys0.getD hi 0) = true))) (fun v10 v11 _ => (intOf v11).toNat - (intOf v10).toNat)
  case atStart => exact ⟨a, m, rfl, rfl, ⟨HS.out, by omega, by omega, by omega, .inl rfl, .inl rfl⟩⟩
  case round =>
    clear HS
    obtain ⟨lo, hi, rfl, rfl, hk⟩ := hrel
    have HS1 := Aside0.mk hk.out.1
    have HI := Aside0.mk hk.out.2.2.2.2
    have h1 : a ≤ lo := hk.out.2.1
    have h2 : lo ≤ hi := hk.out.2.2.1
    have h3 : hi ≤ m := hk.out.2.2.2.1
    clear hk
    by_cases hlt : lo < hi
    · obtain ⟨s, hs⟩ : ∃ s, s = lo + hi := ⟨_, rfl⟩
      obtain ⟨p, hp⟩ : ∃ p, p = s / 2 := ⟨_, rfl⟩
      have p1 : lo ≤ p := by omega
      have p2 : p < hi := by omega
      obtain ⟨x, x1, x2⟩ := HN.out m (by omega)
      obtain ⟨y, y1, y2⟩ := HN.out p (by omega)
      have hxy : y < x := by
        have := HT.out.ix p m (by omega) (by omega) (by omega) (by omega)
        rw [x2, y2] at this; omega
      have HX := Aside0.mk x2
      have HY := Aside0.mk y2
      have hLT := cmp_lt (r := rs) (show (y : Int) < (x : Int) by omega)
      rw [Int.toNat_natCast, Int.toNat_natCast] at hLT
      have HCALL := Aside0.mk (fun (W : World) (hW : Srt D n w0 W ys0) => cmp_calls HC.out x y x1 y1 W hW)
      have HTOT := Aside0.mk (lt_total (r := rs) (show (y : Int) ≠ (x : Int) by omega))
      obtain ⟨cv, hcv⟩ : ∃ cv, cmpI (rs.getD y 0) (rs.getD x 0) = cv := ⟨_, rfl⟩
      rw [hcv] at hLT HCALL
      have q1 := HS1.out.cell p (by omega)
      have q2 := HS1.out.cell m (by omega)
      rw [x2] at q2
      rw [y2] at q1
      clear hcv x2 y2
      have HP := Aside0.mk hp
      have u0 : (0 : Int) ≤ (p : Int) := by omega
      have u1 : (p : Int) < (n : Int) := by omega
      have u2 : (0 : Int) ≤ (m : Int) := by omega
      have u3 : (m : Int) < (n : Int) := by omega
      have e2 : (lo : Int) + (hi : Int) = (s : Int) := by omega
      have e3 : (s : Int) / 2 = (p : Int) := by omega
      have b1 : s < 4611686018427387904 := by omega
      have HSS := Aside0.mk hs
      clear hp hs
      have b2 : p < 4611686018427387904 := by omega
      cases hl : lt rs (x : Int) (y : Int) with
      | false =>
        rw [hl] at hLT
        have HL := Aside0.mk hl
        clear hl
        go_wp2
        go_quiet ((go_at_call 50; exact Calls.quiet_of ((HCALL.out _ (HS1.out.drewN _)).mono fun _ _ ⟨he, q, hq⟩ => ⟨he, q, hq.symm⟩)))
        go_wp2
        go_roundw
        case rel =>
            refine ⟨p + 1, hi, by go_num, rfl, ⟨HS1.out.drewN _, by omega, by omega, h3, .inr ?_, HI.out.2⟩⟩
            rw [Nat.add_sub_cancel, HX.out, HY.out]
            rcases HTOT.out with h | h
            · exact h
            · rw [HL.out] at h; cases h
        case measure => simp [intOf] <;> omega
      | true =>
        rw [hl] at hLT
        have HL := Aside0.mk hl
        clear hl
        go_wp2
        go_quiet ((go_at_call 50; exact Calls.quiet_of ((HCALL.out _ (HS1.out.drewN _)).mono fun _ _ ⟨he, q, hq⟩ => ⟨he, q, hq.symm⟩)))
        go_wp2
        go_roundw
        case rel =>
            refine ⟨lo, p, rfl, by go_num, ⟨HS1.out.drewN _, h1, by omega, by omega, HI.out.1, .inr ?_⟩⟩
            rw [HX.out, HY.out]
            exact HL.out
        case measure => simp [intOf] <;> omega
    · obtain rfl : lo = hi := by omega
      go_wp2
      go_loopw [17] (fun v13 W => ∃ (k : Nat) (ys : List Int), v13 = .int .i64 k ∧ Aside0 (Srt D n w0 W ys ∧ Swaps a b ys0 ys ∧ Rot k m (m + 1) ys0 ys ∧ lo ≤ k ∧ k ≤ m)) (fun v13 _ => (intOf v13).toNat)
      case atStart => exact ⟨m, ys0, rfl, ⟨HS1.out, .refl _, .left _ _ _, by omega, by omega⟩⟩
      case round =>
        clear HS1
        obtain ⟨k, ys, rfl, hk⟩ := hrel
        have HS1 := Aside0.mk hk.out.1
        have HW := Aside0.mk hk.out.2.1
        have HR := Aside0.mk hk.out.2.2.1
        have k1_ : lo ≤ k := hk.out.2.2.2.1
        have k2_ : k ≤ m := hk.out.2.2.2.2
        clear hk
        by_cases hkz : lo < k
        · obtain ⟨k0, hk0⟩ : ∃ k0, k0 + 1 = k := ⟨k - 1, by omega⟩
          obtain ⟨x, hx⟩ : ∃ x, ys.getD k0 0 = x := ⟨_, rfl⟩
          obtain ⟨y, hy⟩ : ∃ y, ys.getD k 0 = y := ⟨_, rfl⟩
          have HX := Aside0.mk hx
          have HY := Aside0.mk hy
          clear hx hy
          have e3 : (k : Int) - 1 = (k0 : Int) := by omega
          have b3 : k0 < 4611686018427387904 := by omega
          have v0 : (0 : Int) ≤ (k : Int) := by omega
          have v1 : (k : Int) < (n : Int) := by omega
          have v2 : (0 : Int) ≤ (k0 : Int) := by omega
          have v3 : (k0 : Int) < (n : Int) := by omega
          have v4 : k0 < n := by omega
          have v5 : k < n := by omega
          have HK := Aside0.mk hk0
          clear hk0
          go_wp2
          have w3 := wrap_nat k0 b3
          refine start_ (n := 18) (S := fun w' => Srt D n w0 w' ys) (ds := [15, 17]) #[false, false, false, false, false, false, false, false, false, false, false, false, false, false, false, false, false, false] (by kernel_rfl) rfl rfl (HS1.out.drew) (fun hHeld => ?_)
          have HS3 := Aside0.mk hHeld
          generalize World.drew _ = w3 at hHeld HS3 ⊢
          refine pure_ (i := 0) (N := (some 113)) (v := ?_) (a' := ?_) #[true, false, false, false, false, false, false, false, false, false, false, false, false, false, false, false, false, false] rfl rfl (by kernel_rfl) (fun _ _ _ h => h) (Or.inl ⟨by rfl, ?_⟩) ?_ ?_
          rotate_left
          · intro w'; go_simp; with_reducible rfl
          rotate_left
          · simp only [Act.put, List.setIfInBounds_toArray, List.set_cons_zero, List.set_cons_succ, i64_w, i32_w]; rfl
          refine pure_ (i := 1) (N := (some 114)) (v := ?_) (a' := ?_) #[true, true, false, false, false, false, false, false, false, false, false, false, false, false, false, false, false, false] rfl rfl (by kernel_rfl) (fun _ _ _ h => h) (Or.inl ⟨by rfl, ?_⟩) ?_ ?_
          rotate_left
          · intro w'; go_simp; with_reducible rfl
          rotate_left
          · simp only [Act.put, List.setIfInBounds_toArray, List.set_cons_zero, List.set_cons_succ, i64_w, i32_w]; rfl
          refine pure_ (i := 2) (N := (some 115)) (v := ?_) (a' := ?_) #[true, true, true, false, false, false, false, false, false, false, false, false, false, false, false, false, false, false] rfl rfl (by kernel_rfl) (fun _ _ _ h => h) (Or.inl ⟨by rfl, ?_⟩) ?_ ?_
          rotate_left
          · intro w'; go_simp; with_reducible rfl
          rotate_left
          · simp only [Act.put, List.setIfInBounds_toArray, List.set_cons_zero, List.set_cons_succ, i64_w, i32_w]; rfl
          refine pure_ (i := 3) (N := (some 116)) (v := ?_) (a' := ?_) #[true, true, true, true, false, false, false, false, false, false, false, false, false, false, false, false, false, false] rfl rfl (by kernel_rfl) (fun _ _ _ h => h) (Or.inl ⟨by rfl, ?_⟩) ?_ ?_
          rotate_left
          · intro w'; go_simp; with_reducible rfl
          rotate_left
          · simp only [Act.put, List.setIfInBounds_toArray, List.set_cons_zero, List.set_cons_succ, i64_w, i32_w]; rfl
          refine pure_ (i := 4) (N := (some 117)) (v := ?_) (a' := ?_) #[true, true, true, true, true, false, false, false, false, false, false, false, false, false, false, false, false, false] rfl rfl (by kernel_rfl) (fun _ _ _ h => h) (Or.inl ⟨by rfl, ?_⟩) ?_ ?_
          rotate_left
          · intro w'; go_simp; with_reducible rfl
          rotate_left
          · simp only [Act.put, List.setIfInBounds_toArray, List.set_cons_zero, List.set_cons_succ, i64_w, i32_w]; rfl
          refine pure_ (i := 5) (N := (some 118)) (v := ?_) (a' := ?_) #[true, true, true, true, true, true, false, false, false, false, false, false, false, false, false, false, false, false] rfl rfl (by kernel_rfl) (fun _ _ _ h => h) (Or.inl ⟨by rfl, ?_⟩) ?_ ?_
          rotate_left
          · intro w'; go_simp; with_reducible rfl
          rotate_left
          · simp only [Act.put, List.setIfInBounds_toArray, List.set_cons_zero, List.set_cons_succ, i64_w, i32_w]; rfl
          refine pure_ (i := 6) (N := (some 119)) (v := ?_) (a' := ?_) #[true, true, true, true, true, true, true, false, false, false, false, false, false, false, false, false, false, false] rfl rfl (by kernel_rfl) (fun _ _ _ h => h) (Or.inl ⟨by rfl, ?_⟩) ?_ ?_
          rotate_left
          · intro w'; go_simp; with_reducible rfl
          rotate_left
          · simp only [Act.put, List.setIfInBounds_toArray, List.set_cons_zero, List.set_cons_succ, i64_w, i32_w]; rfl
          refine pure_ (i := 7) (N := (some 120)) (v := ?_) (a' := ?_) #[true, true, true, true, true, true, true, true, false, false, false, false, false, false, false, false, false, false] rfl rfl (by kernel_rfl) (fun _ _ _ h => h) (Or.inl ⟨by rfl, ?_⟩) ?_ ?_
          rotate_left
          · intro w'; go_simp; with_reducible rfl
          rotate_left
          · simp only [Act.put, List.setIfInBounds_toArray, List.set_cons_zero, List.set_cons_succ, i64_w, i32_w]; rfl
          refine pure_ (i := 8) (N := (some 121)) (v := ?_) (a' := ?_) #[true, true, true, true, true, true, true, true, true, false, false, false, false, false, false, false, false, false] rfl rfl (by kernel_rfl) (fun _ _ _ h => h) (Or.inl ⟨by rfl, ?_⟩) ?_ ?_
          rotate_left
          · intro w'; go_simp; with_reducible rfl
          rotate_left
          · simp only [Act.put, List.setIfInBounds_toArray, List.set_cons_zero, List.set_cons_succ, i64_w, i32_w]; rfl
          refine take_ (i := 9) (N := (some 122)) (v := ?_) (a' := ?_) #[true, true, true, true, true, true, true, true, true, true, false, false, false, false, false, false, false, false] rfl rfl (by kernel_rfl) (fun _ _ _ h => h) (Or.inl ⟨by rfl, ?_⟩) hHeld ?_ ?_
          rotate_left
          · intro w' hw'; have z := Srt.cell hw' k0 (by omega); rw [HX.out] at z; go_simp; with_reducible rfl
          rotate_left
          · simp only [Act.put, List.setIfInBounds_toArray, List.set_cons_zero, List.set_cons_succ, i64_w, i32_w]; rfl
          refine pure_ (i := 10) (N := (some 123)) (v := ?_) (a' := ?_) #[true, true, true, true, true, true, true, true, true, true, true, false, false, false, false, false, false, false] rfl rfl (by kernel_rfl) (fun _ _ _ h => h) (Or.inl ⟨by rfl, ?_⟩) ?_ ?_
          rotate_left
          · intro w'; go_simp; with_reducible rfl
          rotate_left
          · simp only [Act.put, List.setIfInBounds_toArray, List.set_cons_zero, List.set_cons_succ, i64_w, i32_w]; rfl
          refine pure_ (i := 11) (N := (some 124)) (v := ?_) (a' := ?_) #[true, true, true, true, true, true, true, true, true, true, true, true, false, false, false, false, false, false] rfl rfl (by kernel_rfl) (fun _ _ _ h => h) (Or.inl ⟨by rfl, ?_⟩) ?_ ?_
          rotate_left
          · intro w'; go_simp; with_reducible rfl
          rotate_left
          · simp only [Act.put, List.setIfInBounds_toArray, List.set_cons_zero, List.set_cons_succ, i64_w, i32_w]; rfl
          refine pure_ (i := 12) (N := (some 125)) (v := ?_) (a' := ?_) #[true, true, true, true, true, true, true, true, true, true, true, true, true, false, false, false, false, false] rfl rfl (by kernel_rfl) (fun _ _ _ h => h) (Or.inl ⟨by rfl, ?_⟩) ?_ ?_
          rotate_left
          · intro w'; go_simp; with_reducible rfl
          rotate_left
          · simp only [Act.put, List.setIfInBounds_toArray, List.set_cons_zero, List.set_cons_succ, i64_w, i32_w]; rfl
          refine take_ (i := 13) (N := (some 126)) (v := ?_) (a' := ?_) #[true, true, true, true, true, true, true, true, true, true, true, true, true, true, false, false, false, false] rfl rfl (by kernel_rfl) (fun _ _ _ h => h) (Or.inl ⟨by rfl, ?_⟩) hHeld ?_ ?_
          rotate_left
          · intro w' hw'; have z := Srt.cell hw' k (by omega); rw [HY.out] at z; go_simp; with_reducible rfl
          rotate_left
          · simp only [Act.put, List.setIfInBounds_toArray, List.set_cons_zero, List.set_cons_succ, i64_w, i32_w]; rfl
          refine pure_ (i := 14) (N := (some 127)) (v := ?_) (a' := ?_) #[true, true, true, true, true, true, true, true, true, true, true, true, true, true, true, false, false, false] rfl rfl (by kernel_rfl) (fun _ _ _ h => h) (Or.inl ⟨by rfl, ?_⟩) ?_ ?_
          rotate_left
          · intro w'; go_simp; with_reducible rfl
          rotate_left
          · simp only [Act.put, List.setIfInBounds_toArray, List.set_cons_zero, List.set_cons_succ, i64_w, i32_w]; rfl
          refine last_ (i := 15) (N := none) #[true, true, true, true, true, true, true, true, true, true, true, true, true, true, true, true, false, false] rfl rfl (by kernel_rfl) (by decide) (fun K hK => ?_)
          refine store_step (by rfl) (.tmp 127) (.tmp 122) rfl rfl k (by go_simp; done) x (by go_simp; done) HS3.out (by omega) (fun W4 HS4_ => hK.out _ _ ?_)
          have HS4 := Aside0.mk HS4_
          clear HS4_ hK K
          refine pure_ (i := 16) (N := (some 128)) (v := ?_) (a' := ?_) #[true, true, true, true, true, true, true, true, true, true, true, true, true, true, true, true, true, false] rfl rfl (by kernel_rfl) (fun _ _ _ h => h) (Or.inl ⟨by rfl, ?_⟩) ?_ ?_
          rotate_left
          · intro w'; go_simp; with_reducible rfl
          rotate_left
          · simp only [Act.put, List.setIfInBounds_toArray, List.set_cons_zero, List.set_cons_succ, i64_w, i32_w]; rfl
          refine last_ (i := 17) (N := none) #[true, true, true, true, true, true, true, true, true, true, true, true, true, true, true, true, true, true] rfl rfl (by kernel_rfl) (by decide) (fun K hK => ?_)
          refine store_step (by rfl) (.tmp 128) (.tmp 126) rfl rfl k0 (by go_simp; done) y (by go_simp; done) HS4.out (by omega) (fun W5 HS5_ => hK.out _ _ ?_)
          have HS5 := Aside0.mk HS5_
          clear HS5_ hK K
          refine done_ (by kernel_rfl) ?_
          go_wp2
          go_roundw
          case rel =>
              have hk0 := HK.out
              refine ⟨k0, swap ys k k0, rfl, ⟨?_, ?_, ?_, by omega, by omega⟩⟩
              · have e : swap ys k k0 = (ys.set k x).set k0 y := by unfold swap; rw [HX.out, HY.out]
                rw [e]; exact HS5.out
              · exact .step k k0 HW.out (by omega) (by omega) (by omega) (by omega) (by rw [HS1.out.ly]; omega) (by rw [HS1.out.ly]; omega)
              · subst hk0
                exact HR.out.down k2_ (by rw [HS1.out.ly]; omega)
          case measure => have hk0 := HK.out; simp [intOf] <;> omega
        · obtain rfl : lo = k := by omega
          go_wp2
          refine bodyPost_ret (results_none rfl _ _ _) rfl ?_
          refine ⟨rfl, ys, HS1.out, HW.out, ?_⟩
          have hmb := HM.out
          have hR := HR.out
          have HI2 := HI.out
          subst hmb
          have C := cut HT.out h1 k2_ (by omega) (Nat.le_refl _) (.inr (.inl rfl)) (HI2.2.imp id .inr) hR
          refine C.glue (by omega) (by omega) (.refl _) ?_ (.refl _) (C.right.none (.inr (by omega)) (by omega) (by omega))
          intro p q g1 g2 g3
          by_cases e : q = lo
          · subst e
            rw [hR p, if_neg (by omega), if_neg (by omega), hR q, if_pos (by omega)]
            have e2 : q + (m - q) = m := by omega
            rw [e2]
            rcases HI2.1 with h | h
            · omega
            · exact le_lt (HT.out.sl.le p (q - 1) g1 (by omega) (by omega)) h
          · exact C.left.sl p q g1 g2 (by omega)
end Go.Proofs.Ytcncjldggfbjdaa.G2
