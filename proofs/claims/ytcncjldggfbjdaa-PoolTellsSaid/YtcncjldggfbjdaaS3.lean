import Derived.Test.YtcncjldggfbjdaaS2
namespace Go.Proofs.Ytcncjldggfbjdaa.G2
open Go.RowKit Go.Proofs.YtcncjldggfbjdaaW.PrintWords Go.Proofs.YtcncjldggfbjdaaW.PrintLast Go.Proofs.YtcncjldggfbjdaaW.PrintMore Go.Proofs.Ytcncjldggfbjdaa.G1 Go.Proofs.Ytcncjldggfbjdaa.O
set_option linter.unusedVariables false
set_option linter.unusedSimpArgs false

theorem run_storeVar_put {P : Program} {w : World} (ty : TypeId) (g j : Nat) (v : Value) (t : TypeId) (old : Array Value) (hg : w.heap[g]? = some (.cells old t (0, 0))) (hj : j < old.size) (h1 : v.oneCell' = true) (hi : (P.info? ty).map (·.size) = some 1) :
    (storeVar ty ⟨g, j, none⟩ v).run P w = .ok () (w.setCell ⟨g, j, none⟩ v) := by
  have hc : v.cells = #[v] := by cases v <;> first | rfl | cases h1
  have hcell : w.cell? ⟨g, j, none⟩ = some old[j] := by rw [blk_cell hg]; simp [hj]
  have hst : (store ⟨g, j, none⟩ v).run P w = .ok () (w.setCell ⟨g, j, none⟩ v) := by
    rw [run_store P w _ v _ h1, hcell]; simp [blk_frozen hg]
  have hadd : (⟨g, j, none⟩ : Addr).add 0 = ⟨g, j, none⟩ := by unfold Addr.add; split <;> simp_all
  cases hq : P.info? ty with
  | none => simp [hq] at hi
  | some i =>
    have hs : i.size = 1 := by simpa [hq] using hi
    have hsz : (sizeOf ty).run P w = .ok 1 w := by simp [sizeOf, typeInfo, hq, hs]
    have hcs : (storeCells ⟨g, j, none⟩ [v]).run P w = .ok () (w.setCell ⟨g, j, none⟩ v) := by
      simp only [storeCells, Sem.run_bind, hadd, hst, Result.andThen_ok]; rfl
    simp [storeVar, hc, hsz, hcs]
/-- A number is stored into the row that is sorted. -/
theorem store_step {ops : Array Oper} {o : Oper} {a : Act} {Q : Exit → Act → World → Prop} {K : Act → World → Prop} {W w0 : World} {D n : Nat} {ys : List Int} (hw : Region.wanted o (yielded ops a.tmps) = true) (x y : Operand) (ho : o.op = .store 3 x y) (hN : o.dst = none)
    (i : Nat) (hx : a.eval x = .pointer (some ⟨D, i, none⟩)) (v : Int) (hy : a.eval y = .int .i64 v) (hS : Srt D n w0 W ys) (hi : i < n) (h : ∀ W', Srt D n w0 W' (ys.set i v) → K a W') :
    if Region.wanted o (yielded ops a.tmps) = true then Oper.wp Try.prog o a W K Q else K (a.put none undef) W := by
  rw [if_pos hw]
  unfold Oper.wp execOp
  simp only [ho, hx, hy, Instr.storeAt, Instr.sureAddr, Sem.run_bind, Sem.run_pure, Result.andThen_ok, run_storeVar_put (P := Try.prog) 3 D i (.int .i64 v) 3 _ hS.hD (by simp [hS.ly, hi]) rfl (by kernel_rfl)]
  show K (a.put o.dst _) _
  rw [hN]
  exact h _ (hS.set i v)
theorem getD_set (ys : List Int) (i k : Nat) (v : Int) (hi : i < ys.length) : (ys.set i v).getD k 0 = if k = i then v else ys.getD k 0 := by
  rw [List.getD_eq_getElem?_getD, List.getElem?_set, List.getD_eq_getElem?_getD]
  by_cases e : k = i
  · subst e; rw [if_pos rfl, if_pos hi, if_pos rfl]; rfl
  · rw [if_neg (fun h => e h.symm), if_neg e]
set_option maxRecDepth 100000 in
set_option maxHeartbeats 4000000 in
theorem insertion_calls {D B R n : Nat} {rs ys0 : List Int} {w0 : World} (c : Ctx D B R n rs w0) (a b : Nat) (hab : a ≤ b) (hbn : b ≤ n) (h0 : ∀ k, a ≤ k → k < b → ys0.getD k 0 = k) (W : World) (h : Srt D n w0 W ys0) :
    Calls Try.prog 66 #[.slice (some ⟨D, 0, none⟩) n n, .int .i64 a, .int .i64 b, .func (.func 50) #[] #[.pointer (some ⟨B, 0, none⟩)]] W fun e w' => e = .returned (.tuple #[]) ∧ ∃ ys, Srt D n w0 w' ys ∧ Swaps a b ys0 ys ∧ Sorted rs ys a b := by
  have HC := Aside0.mk c
  have H0 := Aside0.mk h0
  have HS := Aside0.mk h
  have hn := c.ln
  clear c h0 h
  go_enter Try.func66, Try.ntmps66
  go_wp2
  go_loopw [8] (fun v8 W => ∃ (i : Nat) (ys : List Int), v8 = .int .i64 i ∧ Aside0 (Srt D n w0 W ys ∧ Out rs a i ys0 ys ∧ a < i ∧ (i ≤ b ∨ i = a + 1) ∧ (i = a + 1 → ys = ys0))) (fun v8 _ => b - (intOf v8).toNat)
  case atStart => exact ⟨a + 1, ys0, by go_num, ⟨HS.out, Out.first _ _ _, by omega, by omega, fun _ => rfl⟩⟩
  case round =>
    obtain ⟨i, ys, rfl, hk⟩ := hrel
    have hai : a < i := hk.out.2.2.1
    have hib : i ≤ b ∨ i = a + 1 := hk.out.2.2.2.1
    by_cases hlt : i < b
    · have HI := Aside0.mk (hk.out.2.1.inn hai (fun k h1 h2 => H0.out k h1 (by omega)))
      have HS1 := Aside0.mk hk.out.1
      have HOUT := Aside0.mk hk.out.2.1
      clear hk
      go_wp2
      go_loopw [9] (fun v9 W => ∃ (j : Nat) (ys : List Int), v9 = .int .i64 j ∧ Aside0 (Srt D n w0 W ys ∧ Inn rs a i j ys0 ys ∧ a ≤ j ∧ j ≤ i)) (fun v9 _ => (intOf v9).toNat)
      case atStart => exact ⟨i, ys, rfl, ⟨HS1.out, HI.out, by omega, by omega⟩⟩
      case round =>
        clear HS1 HI HOUT ys
        obtain ⟨j, ys, rfl, hk⟩ := hrel
        have HS1 := Aside0.mk hk.out.1
        have HI := Aside0.mk hk.out.2.1
        have haj : a ≤ j := hk.out.2.2.1
        have hji : j ≤ i := hk.out.2.2.2
        clear hk
        by_cases hj : a < j
        · obtain ⟨j', rfl⟩ : ∃ j', j = j' + 1 := ⟨j - 1, by omega⟩
          obtain ⟨m, hm1, hm2, hm3⟩ := HI.out.sw.inside j' (by omega) (by omega)
          have hmi : m < i := by
            have h1 := HI.out.lo j' (by omega) (by omega) (by omega)
            rw [hm3, H0.out m hm1 (by omega)] at h1
            omega
          have HY := Aside0.mk (show ys.getD j' 0 = (m : Int) by rw [hm3, H0.out m hm1 (by omega)])
          have HX := Aside0.mk HI.out.at_
          have hLT := cmp_lt (r := rs) (show (m : Int) < (i : Int) by omega)
          rw [Int.toNat_natCast, Int.toNat_natCast] at hLT
          have HCALL := Aside0.mk (fun (W : World) (hW : Srt D n w0 W ys) => cmp_calls HC.out i m (by omega) (by omega) W hW)
          have hLT2 : lt rs (ys.getD (j' + 1) 0) (ys.getD (j' + 1 - 1) 0) = lt rs (i : Int) (m : Int) := by rw [HX.out, Nat.add_sub_cancel, HY.out]
          have HLT := Aside0.mk hLT2
          obtain ⟨cv, hcv⟩ : ∃ cv, cmpI (rs.getD m 0) (rs.getD i 0) = cv := ⟨_, rfl⟩
          rw [hcv] at hLT HCALL
          clear hcv hm3 hLT2
          have c1 := HS1.out.cell (j' + 1) (by omega)
          have c2 := HS1.out.cell j' (by omega)
          rw [HX.out] at c1
          rw [HY.out] at c2
          have d0 : decide ((a : Int) < ((j' + 1 : Nat) : Int)) = true := decide_eq_true (by omega)
          have d1 : decide (a < j' + 1) = true := decide_eq_true hj
          have d2 : decide ((a : Int) < (j' : Int) + 1) = true := decide_eq_true (by omega)
          cases hl : lt rs (i : Int) (m : Int) with
          | true =>
            rw [hl] at hLT
            rw [hl] at HLT
            clear hl
            go_wp2
            go_quiet ((go_at_call 50; exact Calls.quiet_of ((HCALL.out _ (HS1.out.drewN _)).mono fun _ _ ⟨he, q, hq⟩ => ⟨he, q, hq.symm⟩)))
            go_wp2
            have e0 : (0 : Int) ≤ (j' : Int) := by omega
            have e1 : (j' : Int) < (n : Int) := by omega
            have e2 : (0 : Int) ≤ (j' : Int) + 1 := by omega
            have e3 : (j' : Int) + 1 < (n : Int) := by omega
            have e4 : wrap64 (j' : Int) = (j' : Int) := by unfold wrap64; omega
            refine start_ (n := 18) (S := fun w' => Srt D n w0 w' ys) (ds := [15, 17]) #[false, false, false, false, false, false, false, false, false, false, false, false, false, false, false, false, false, false] (by kernel_rfl) rfl rfl ((HS1.out.drewN _).drew) (fun hHeld => ?_)
            have HS3 := Aside0.mk hHeld
            generalize World.drew _ = w3 at hHeld HS3 ⊢
            refine pure_ (i := 0) (N := (some 37)) (v := ?_) (a' := ?_) #[true, false, false, false, false, false, false, false, false, false, false, false, false, false, false, false, false, false] rfl rfl (by kernel_rfl) (fun _ _ _ h => h) (Or.inl ⟨by rfl, ?_⟩) ?_ ?_
            rotate_left
            · intro w'; go_simp; with_reducible rfl
            rotate_left
            · simp only [Act.put, List.setIfInBounds_toArray, List.set_cons_zero, List.set_cons_succ, i64_w, i32_w]; rfl
            refine pure_ (i := 1) (N := (some 38)) (v := ?_) (a' := ?_) #[true, true, false, false, false, false, false, false, false, false, false, false, false, false, false, false, false, false] rfl rfl (by kernel_rfl) (fun _ _ _ h => h) (Or.inl ⟨by rfl, ?_⟩) ?_ ?_
            rotate_left
            · intro w'; go_simp; with_reducible rfl
            rotate_left
            · simp only [Act.put, List.setIfInBounds_toArray, List.set_cons_zero, List.set_cons_succ, i64_w, i32_w]; rfl
            refine pure_ (i := 2) (N := (some 39)) (v := ?_) (a' := ?_) #[true, true, true, false, false, false, false, false, false, false, false, false, false, false, false, false, false, false] rfl rfl (by kernel_rfl) (fun _ _ _ h => h) (Or.inl ⟨by rfl, ?_⟩) ?_ ?_
            rotate_left
            · intro w'; go_simp; with_reducible rfl
            rotate_left
            · simp only [Act.put, List.setIfInBounds_toArray, List.set_cons_zero, List.set_cons_succ, i64_w, i32_w]; rfl
            refine pure_ (i := 3) (N := (some 40)) (v := ?_) (a' := ?_) #[true, true, true, true, false, false, false, false, false, false, false, false, false, false, false, false, false, false] rfl rfl (by kernel_rfl) (fun _ _ _ h => h) (Or.inl ⟨by rfl, ?_⟩) ?_ ?_
            rotate_left
            · intro w'; go_simp; with_reducible rfl
            rotate_left
            · simp only [Act.put, List.setIfInBounds_toArray, List.set_cons_zero, List.set_cons_succ, i64_w, i32_w]; rfl
            refine pure_ (i := 4) (N := (some 41)) (v := ?_) (a' := ?_) #[true, true, true, true, true, false, false, false, false, false, false, false, false, false, false, false, false, false] rfl rfl (by kernel_rfl) (fun _ _ _ h => h) (Or.inl ⟨by rfl, ?_⟩) ?_ ?_
            rotate_left
            · intro w'; go_simp; with_reducible rfl
            rotate_left
            · simp only [Act.put, List.setIfInBounds_toArray, List.set_cons_zero, List.set_cons_succ, i64_w, i32_w]; rfl
            refine pure_ (i := 5) (N := (some 42)) (v := ?_) (a' := ?_) #[true, true, true, true, true, true, false, false, false, false, false, false, false, false, false, false, false, false] rfl rfl (by kernel_rfl) (fun _ _ _ h => h) (Or.inl ⟨by rfl, ?_⟩) ?_ ?_
            rotate_left
            · intro w'; go_simp; with_reducible rfl
            rotate_left
            · simp only [Act.put, List.setIfInBounds_toArray, List.set_cons_zero, List.set_cons_succ, i64_w, i32_w]; rfl
            refine pure_ (i := 6) (N := (some 43)) (v := ?_) (a' := ?_) #[true, true, true, true, true, true, true, false, false, false, false, false, false, false, false, false, false, false] rfl rfl (by kernel_rfl) (fun _ _ _ h => h) (Or.inl ⟨by rfl, ?_⟩) ?_ ?_
            rotate_left
            · intro w'; go_simp; with_reducible rfl
            rotate_left
            · simp only [Act.put, List.setIfInBounds_toArray, List.set_cons_zero, List.set_cons_succ, i64_w, i32_w]; rfl
            refine pure_ (i := 7) (N := (some 44)) (v := ?_) (a' := ?_) #[true, true, true, true, true, true, true, true, false, false, false, false, false, false, false, false, false, false] rfl rfl (by kernel_rfl) (fun _ _ _ h => h) (Or.inl ⟨by rfl, ?_⟩) ?_ ?_
            rotate_left
            · intro w'; go_simp; with_reducible rfl
            rotate_left
            · simp only [Act.put, List.setIfInBounds_toArray, List.set_cons_zero, List.set_cons_succ, i64_w, i32_w]; rfl
            refine pure_ (i := 8) (N := (some 45)) (v := ?_) (a' := ?_) #[true, true, true, true, true, true, true, true, true, false, false, false, false, false, false, false, false, false] rfl rfl (by kernel_rfl) (fun _ _ _ h => h) (Or.inl ⟨by rfl, ?_⟩) ?_ ?_
            rotate_left
            · intro w'; go_simp; with_reducible rfl
            rotate_left
            · simp only [Act.put, List.setIfInBounds_toArray, List.set_cons_zero, List.set_cons_succ, i64_w, i32_w]; rfl
            refine take_ (i := 9) (N := (some 46)) (v := ?_) (a' := ?_) #[true, true, true, true, true, true, true, true, true, true, false, false, false, false, false, false, false, false] rfl rfl (by kernel_rfl) (fun _ _ _ h => h) (Or.inl ⟨by rfl, ?_⟩) hHeld ?_ ?_
            rotate_left
            · intro w' hw'; have z := Srt.cell hw' j' (by omega); rw [HY.out] at z; go_simp; with_reducible rfl
            rotate_left
            · simp only [Act.put, List.setIfInBounds_toArray, List.set_cons_zero, List.set_cons_succ, i64_w, i32_w]; rfl
            refine pure_ (i := 10) (N := (some 47)) (v := ?_) (a' := ?_) #[true, true, true, true, true, true, true, true, true, true, true, false, false, false, false, false, false, false] rfl rfl (by kernel_rfl) (fun _ _ _ h => h) (Or.inl ⟨by rfl, ?_⟩) ?_ ?_
            rotate_left
            · intro w'; go_simp; with_reducible rfl
            rotate_left
            · simp only [Act.put, List.setIfInBounds_toArray, List.set_cons_zero, List.set_cons_succ, i64_w, i32_w]; rfl
            refine pure_ (i := 11) (N := (some 48)) (v := ?_) (a' := ?_) #[true, true, true, true, true, true, true, true, true, true, true, true, false, false, false, false, false, false] rfl rfl (by kernel_rfl) (fun _ _ _ h => h) (Or.inl ⟨by rfl, ?_⟩) ?_ ?_
            rotate_left
            · intro w'; go_simp; with_reducible rfl
            rotate_left
            · simp only [Act.put, List.setIfInBounds_toArray, List.set_cons_zero, List.set_cons_succ, i64_w, i32_w]; rfl
            refine pure_ (i := 12) (N := (some 49)) (v := ?_) (a' := ?_) #[true, true, true, true, true, true, true, true, true, true, true, true, true, false, false, false, false, false] rfl rfl (by kernel_rfl) (fun _ _ _ h => h) (Or.inl ⟨by rfl, ?_⟩) ?_ ?_
            rotate_left
            · intro w'; go_simp; with_reducible rfl
            rotate_left
            · simp only [Act.put, List.setIfInBounds_toArray, List.set_cons_zero, List.set_cons_succ, i64_w, i32_w]; rfl
            refine take_ (i := 13) (N := (some 50)) (v := ?_) (a' := ?_) #[true, true, true, true, true, true, true, true, true, true, true, true, true, true, false, false, false, false] rfl rfl (by kernel_rfl) (fun _ _ _ h => h) (Or.inl ⟨by rfl, ?_⟩) hHeld ?_ ?_
            rotate_left
            · intro w' hw'; have z := Srt.cell hw' (j' + 1) (by omega); rw [HX.out] at z; go_simp; with_reducible rfl
            rotate_left
            · simp only [Act.put, List.setIfInBounds_toArray, List.set_cons_zero, List.set_cons_succ, i64_w, i32_w]; rfl
            refine pure_ (i := 14) (N := (some 51)) (v := ?_) (a' := ?_) #[true, true, true, true, true, true, true, true, true, true, true, true, true, true, true, false, false, false] rfl rfl (by kernel_rfl) (fun _ _ _ h => h) (Or.inl ⟨by rfl, ?_⟩) ?_ ?_
            rotate_left
            · intro w'; go_simp; with_reducible rfl
            rotate_left
            · simp only [Act.put, List.setIfInBounds_toArray, List.set_cons_zero, List.set_cons_succ, i64_w, i32_w]; rfl
            refine last_ (i := 15) (N := none) #[true, true, true, true, true, true, true, true, true, true, true, true, true, true, true, true, false, false] rfl rfl (by kernel_rfl) (by decide) (fun K hK => ?_)
            refine store_step (by rfl) (.tmp 51) (.tmp 46) rfl rfl (j' + 1) (by go_simp; done) (m : Int) (by go_simp; done) HS3.out (by omega) (fun W4 HS4_ => hK.out _ _ ?_)
            have HS4 := Aside0.mk HS4_
            clear HS4_ hK K
            refine pure_ (i := 16) (N := (some 52)) (v := ?_) (a' := ?_) #[true, true, true, true, true, true, true, true, true, true, true, true, true, true, true, true, true, false] rfl rfl (by kernel_rfl) (fun _ _ _ h => h) (Or.inl ⟨by rfl, ?_⟩) ?_ ?_
            rotate_left
            · intro w'; go_simp; with_reducible rfl
            rotate_left
            · simp only [Act.put, List.setIfInBounds_toArray, List.set_cons_zero, List.set_cons_succ, i64_w, i32_w]; rfl
            refine last_ (i := 17) (N := none) #[true, true, true, true, true, true, true, true, true, true, true, true, true, true, true, true, true, true] rfl rfl (by kernel_rfl) (by decide) (fun K hK => ?_)
            refine store_step (by rfl) (.tmp 52) (.tmp 50) rfl rfl j' (by go_simp; done) (i : Int) (by go_simp; done) HS4.out (by omega) (fun W5 HS5_ => hK.out _ _ ?_)
            have HS5 := Aside0.mk HS5_
            clear HS5_ hK K
            refine done_ (by kernel_rfl) ?_
            go_wp2
            go_roundw
            case rel =>
                refine ⟨j', swap ys (j' + 1) j', by go_num, ⟨?_, ?_, by omega, by omega⟩⟩
                · have e : swap ys (j' + 1) j' = (ys.set (j' + 1) (m : Int)).set j' (i : Int) := by unfold swap; rw [HX.out, HY.out]
                  rw [e]; exact HS5.out
                · have := HI.out.step (by omega) hji (by rw [HS1.out.ly]; omega) HLT.out
                  rwa [Nat.add_sub_cancel] at this
            case measure => simp [intOf] <;> omega
          | false =>
            rw [hl] at hLT
            rw [hl] at HLT
            clear hl
            go_wp2
            go_quiet ((go_at_call 50; exact Calls.quiet_of ((HCALL.out _ (HS1.out.drewN _)).mono fun _ _ ⟨he, q, hq⟩ => ⟨he, q, hq.symm⟩)))
            go_wp2
            go_roundw
            case rel => exact ⟨i + 1, ys, by go_num, ⟨HS1.out.drewN _, HI.out.out haj hji (.inr HLT.out), by omega, by omega, fun h => absurd h (by omega)⟩⟩
            case measure => simp [intOf] <;> omega
        · have d0 : decide ((a : Int) < (j : Int)) = false := decide_eq_false (by omega)
          have d1 : decide (a < j) = false := decide_eq_false (by omega)
          have hja : j = a := by omega
          have HJA := Aside0.mk hja
          clear hja
          go_wp2
          go_quiet (fail)
          go_wp2
          go_roundw
          case rel => exact ⟨i + 1, ys, by go_num, ⟨HS1.out.drewN _, HI.out.out haj hji (.inl HJA.out), by omega, by omega, fun h => absurd h (by omega)⟩⟩
          case measure => simp [intOf] <;> omega
    · have HF := Aside0.mk hk.out
      clear hk
      go_wp2
      go_end0
      refine ⟨rfl, ys, HF.out.1, ?_, fun p q h1 h2 h3 => HF.out.2.1.so p q h1 h2 (by omega)⟩
      rcases Nat.lt_or_ge a b with h1 | h1
      · obtain rfl : i = b := by omega
        exact HF.out.2.1.sw
      · rw [HF.out.2.2.2.2 (by omega)]
        exact .refl _
end Go.Proofs.Ytcncjldggfbjdaa.G2
