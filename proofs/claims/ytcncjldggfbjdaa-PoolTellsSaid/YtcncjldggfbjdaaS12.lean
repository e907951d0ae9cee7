import Derived.Test.YtcncjldggfbjdaaS10
import Derived.Test.YtcncjldggfbjdaaS11
import Derived.Deep.Cut
namespace Go.Proofs.Ytcncjldggfbjdaa.G2
open Go.RowKit Go.Proofs.YtcncjldggfbjdaaW.PrintWords Go.Proofs.YtcncjldggfbjdaaW.PrintLast Go.Proofs.YtcncjldggfbjdaaW.PrintMore Go.Proofs.Ytcncjldggfbjdaa.G1 Go.Proofs.Ytcncjldggfbjdaa.O
set_option linter.unusedVariables false
set_option linter.unusedSimpArgs false

/-- The sort of one call of symMerge. -/
def SymOk (D B n : Nat) (rs : List Int) (w0 : World) (a m b : Nat) (ys0 : List Int) (W : World) : Prop :=
    Calls Try.prog 67 #[.slice (some ⟨D, 0, none⟩) n n, .int .i64 a, .int .i64 m, .int .i64 b, .func (.func 50) #[] #[.pointer (some ⟨B, 0, none⟩)]] W fun e w' => e = .returned (.tuple #[]) ∧ ∃ ys, Srt D n w0 w' ys ∧ Swaps a b ys0 ys ∧ Sorted rs ys a b
/-- What holds of the bounds of the search. -/
structure Mid (a m b mid nn st0 r0 : Nat) : Prop where
  am : a < mid
  mb : mid < b
  hn : nn = mid + m
  h1 : a ≤ st0
  h2 : st0 ≤ r0
  h3 : r0 ≤ m
  h4 : m + r0 ≤ nn
  h5 : nn ≤ b + st0
  h6 : st0 = a ∨ nn = b + st0
  h7 : r0 = m ∨ nn = m + r0
theorem rot_none {lo m en : Nat} {ys : List Int} (h : ¬ (lo < m ∧ m < en)) (h1 : lo ≤ m) (h2 : m ≤ en) : Rot lo m en ys ys := by
  by_cases e : lo = m
  · subst e; exact .left _ _ _
  · obtain rfl : m = en := by omega
    exact .right _ _ _
theorem sym_cut {rs ys0 : List Int} {a m b mid nn s0 r0 lo : Nat} (t : Two rs ys0 a m b) (M : Mid a m b mid nn s0 r0) (h1 : s0 ≤ lo) (h3 : lo ≤ r0) (i1 : lo = s0 ∨ lt rs (ys0.getD (lo - 1) 0) (ys0.getD (nn - lo) 0) = true) (i2 : lo = r0 ∨ lt rs (ys0.getD (nn - 1 - lo) 0) (ys0.getD lo 0) = true) (zs : List Int) (h : Rot lo m (nn - lo) ys0 zs) : Cut rs zs a lo mid (nn - lo) b := by
  obtain ⟨m1, m2, m3, m4, m5, m6, m7, m8, m9, m10⟩ := M
  have e : mid = lo + (nn - lo - m) := by omega
  rw [e]
  refine cut t (by omega) (by omega) (by omega) (by omega) ?_ ?_ h
  · rcases i1 with i1 | i1
    · rcases m9 with m9 | m9
      · exact .inl (by omega)
      · exact .inr (.inl (by omega))
    · exact .inr (.inr i1)
  · rcases i2 with i2 | i2
    · rcases m10 with m10 | m10
      · exact .inl (by omega)
      · exact .inr (.inl (by omega))
    · rw [show nn - lo - 1 = nn - 1 - lo by omega]; exact .inr (.inr i2)
set_option maxRecDepth 100000 in
set_option maxHeartbeats 4000000 in
theorem symC {D B R n : Nat} {rs ys0 : List Int} {w0 : World} (c : Ctx D B R n rs w0) (a m b : Nat) (ham : a + 1 < m) (hmb : m + 1 < b) (hbn : b ≤ n) (t : Two rs ys0 a m b) (hN : Num n ys0) (W : World) (h : Srt D n w0 W ys0)
    (ih : ∀ (a' m' b' : Nat) (ys : List Int) (W : World), b' - a' < b - a → a' < m' → m' < b' → b' ≤ n → Two rs ys a' m' b' → Num n ys → Srt D n w0 W ys → SymOk D B n rs w0 a' m' b' ys W) : SymOk D B n rs w0 a m b ys0 W := by
  unfold SymOk
  have HT := Aside0.mk t
  have HN := Aside0.mk hN
  have HS := Aside0.mk h
  have HC := Aside0.mk c
  have IH := Aside0.mk ih
  have hn := c.ln
  have d0 : ((m : Int) - (a : Int) == 1) = false := beq_eq_false_iff_ne.2 (by omega)
  have d1 : ((b : Int) - (m : Int) == 1) = false := beq_eq_false_iff_ne.2 (by omega)
  have HAM := Aside0.mk (⟨ham, hmb⟩ : _ ∧ _)
  have hma : a < m := by omega
  have hmb2 : m < b := by omega
  obtain ⟨s, hs⟩ : ∃ s, s = a + b := ⟨_, rfl⟩
  obtain ⟨mid, hmid⟩ : ∃ mid, mid = s / 2 := ⟨_, rfl⟩
  obtain ⟨nn, hnn⟩ : ∃ nn, nn = mid + m := ⟨_, rfl⟩
  obtain ⟨pp, hpp⟩ : ∃ pp, pp + 1 = nn := ⟨nn - 1, by omega⟩
  have e0 : (a : Int) + (b : Int) = (s : Int) := by omega
  have e1 : (s : Int) / 2 = (mid : Int) := by omega
  have e2 : (mid : Int) + (m : Int) = (nn : Int) := by omega
  have e3 : (nn : Int) - 1 = (pp : Int) := by omega
  have b0 : s < 4611686018427387904 := by omega
  have b1 : mid < 4611686018427387904 := by omega
  have b2 : nn < 4611686018427387904 := by omega
  have b3 : pp < 4611686018427387904 := by omega
  have HPP := Aside0.mk hpp
  have HNN := Aside0.mk hnn
  have HE := Aside0.mk (⟨hs, hmid⟩ : _ ∧ _)
  clear c t hN h ih ham hmb
  by_cases hmm : mid < m
  · as_aux_lemma =>
      obtain ⟨st0, hst⟩ : ∃ st0, st0 + b = nn := ⟨nn - b, by omega⟩
      have e4 : (nn : Int) - (b : Int) = (st0 : Int) := by omega
      have b4 : st0 < 4611686018427387904 := by omega
      have HM : Mid a m b mid nn st0 mid := ⟨by omega, by omega, by omega, by omega, by omega, by omega, by omega, by omega, by omega, by omega⟩
      have HMM := Aside0.mk HM
      have hr0m : mid ≤ m := HM.h3
      have hs0r : st0 ≤ mid := HM.h2
      have hs0a : a ≤ st0 := HM.h1
      have hmb3 : mid < b := HM.mb
      have ham3 : a < mid := HM.am
      clear HM hs hmid hnn hpp
      have HST := Aside0.mk hst
      clear hst
      go_enter Try.func67, Try.ntmps67
      go_wp2
      go_loopw [20, 21] (fun v10 v11 W => ∃ (lo hi : Nat), v10 = .int .i64 lo ∧ v11 = .int .i64 hi ∧ Aside0 (Srt D n w0 W ys0 ∧ st0 ≤ lo ∧ lo ≤ hi ∧ hi ≤ mid ∧ (lo = st0 ∨ lt rs (ys0.getD (lo - 1) 0) (ys0.getD (nn - lo) 0) = true) ∧ (hi = mid ∨ lt rs (ys0.getD (nn - 1 - hi) 0) (ys0.getD hi 0) = true))) (fun v10 v11 _ => (intOf v11).toNat - (intOf v10).toNat)
      case atStart => exact ⟨st0, mid, rfl, rfl, ⟨HS.out, by omega, hs0r, by omega, .inl rfl, .inl rfl⟩⟩
      case round =>
        clear HS
        obtain ⟨lo, hi, rfl, rfl, hk⟩ := hrel
        have HS1 := Aside0.mk hk.out.1
        have HI := Aside0.mk hk.out.2.2.2.2
        have h1 : st0 ≤ lo := hk.out.2.1
        have h2 : lo ≤ hi := hk.out.2.2.1
        have h3 : hi ≤ mid := hk.out.2.2.2.1
        clear hk
        by_cases hlt : lo < hi
        · obtain ⟨s2, hs2⟩ : ∃ s2, s2 = lo + hi := ⟨_, rfl⟩
          obtain ⟨p, hp⟩ : ∃ p, p = s2 / 2 := ⟨_, rfl⟩
          have p1 : lo ≤ p := by omega
          have p2 : p < hi := by omega
          have hpq := HPP.out
          have hh4 := HMM.out.h4
          have hh5 := HMM.out.h5
          obtain ⟨q, hq⟩ : ∃ q, q + p = pp := ⟨pp - p, by omega⟩
          have g1 : m ≤ q := by omega
          have g2 : q < b := by omega
          obtain ⟨x, x1, x2⟩ := HN.out q (by omega)
          obtain ⟨y, y1, y2⟩ := HN.out p (by omega)
          have hxy : y < x := by
            have := HT.out.ix p q (by omega) (by omega) g1 g2
            rw [x2, y2] at this; omega
          have HX := Aside0.mk x2
          have HY := Aside0.mk y2
          have hLT := cmp_lt (r := rs) (show (y : Int) < (x : Int) by omega)
          rw [Int.toNat_natCast, Int.toNat_natCast] at hLT
          have HCALL := Aside0.mk (fun (W : World) (hW : Srt D n w0 W ys0) => cmp_calls HC.out x y x1 y1 W hW)
          have HTOT := Aside0.mk (lt_total (r := rs) (show (y : Int) ≠ (x : Int) by omega))
          obtain ⟨cv, hcv⟩ : ∃ cv, cmpI (rs.getD y 0) (rs.getD x 0) = cv := ⟨_, rfl⟩
          rw [hcv] at hLT HCALL
          have q1 := HS1.out.cell p (by omega)
          have q2 := HS1.out.cell q (by omega)
          rw [x2] at q2
          rw [y2] at q1
          have u0 : (0 : Int) ≤ (p : Int) := by omega
          have u1 : (p : Int) < (n : Int) := by omega
          have u2 : (0 : Int) ≤ (q : Int) := by omega
          have u3 : (q : Int) < (n : Int) := by omega
          have f2 : (lo : Int) + (hi : Int) = (s2 : Int) := by omega
          have f3 : (s2 : Int) / 2 = (p : Int) := by omega
          have f4 : (pp : Int) - (p : Int) = (q : Int) := by omega
          have c1 : s2 < 4611686018427387904 := by omega
          have c2 : p < 4611686018427387904 := by omega
          have c3 : q < 4611686018427387904 := by omega
          have HQ := Aside0.mk (⟨hs2, hp, hq, hpq, hh4, hh5⟩ : _ ∧ _ ∧ _ ∧ _ ∧ _ ∧ _)
          clear hcv x2 y2 hs2 hp hq hpq hh4 hh5
          cases hl : lt rs (x : Int) (y : Int) with
          | false =>
            as_aux_lemma =>
              rw [hl] at hLT
              have HL := Aside0.mk hl
              clear hl
              go_wp2
              go_quiet ((go_at_call 50; exact Calls.quiet_of ((HCALL.out _ (HS1.out.drewN _)).mono fun _ _ ⟨he, q, hq⟩ => ⟨he, q, hq.symm⟩)))
              go_wp2
              go_roundw
              case rel =>
                  obtain ⟨hs2, hp, hq, hpq, hh4, hh5⟩ := HQ.out
                  refine ⟨p + 1, hi, by go_num, rfl, ⟨HS1.out.drewN _, by omega, by omega, h3, .inr ?_, HI.out.2⟩⟩
                  rw [Nat.add_sub_cancel, show nn - (p + 1) = q by omega, HX.out, HY.out]
                  rcases HTOT.out with h | h
                  · exact h
                  · rw [HL.out] at h; cases h
              case measure => simp [intOf] <;> omega
          | true =>
            as_aux_lemma =>
              rw [hl] at hLT
              have HL := Aside0.mk hl
              clear hl
              go_wp2
              go_quiet ((go_at_call 50; exact Calls.quiet_of ((HCALL.out _ (HS1.out.drewN _)).mono fun _ _ ⟨he, q, hq⟩ => ⟨he, q, hq.symm⟩)))
              go_wp2
              go_roundw
              case rel =>
                  obtain ⟨hs2, hp, hq, hpq, hh4, hh5⟩ := HQ.out
                  refine ⟨lo, p, rfl, by go_num, ⟨HS1.out.drewN _, h1, by omega, by omega, HI.out.1, .inr ?_⟩⟩
                  rw [show nn - 1 - p = q by omega, HX.out, HY.out]
                  exact HL.out
              case measure => simp [intOf] <;> omega
        · obtain rfl : lo = hi := by omega
          have HC2 := Aside0.mk (sym_cut HT.out HMM.out h1 h3 HI.out.1 HI.out.2)
          obtain ⟨en, hen⟩ : ∃ en, en + lo = nn := ⟨nn - lo, by have := HMM.out.h4; omega⟩
          have g1 : m ≤ en := by have := HMM.out.h4; omega
          have g2 : en ≤ b := by have := HMM.out.h5; omega
          have HEN := Aside0.mk (show nn - lo = en by omega)
          have f4 : (nn : Int) - (lo : Int) = (en : Int) := by omega
          have c1 : en < 4611686018427387904 := by omega
          have g3 : mid ≤ en := by have := HMM.out.hn; omega
          clear hen
          go_upto_region 39 with (fail)
          (try simp only [Act.put, List.setIfInBounds_toArray, List.set_cons_zero, List.set_cons_succ])
          go_cut [185] (fun v wc => v = .bool (decide (lo < m) && decide (m < en)) ∧ Aside0 (Srt D n w0 wc ys0))
          case first =>
            as_aux_lemma =>
              by_cases hA : lo < m
              · by_cases hB : m < en
                · go_wp2
                  go_meet
                  case rel => exact ⟨by simp [hA, hB], ⟨HS1.out⟩⟩
                · go_wp2
                  go_meet
                  case rel => exact ⟨by simp [hA, hB], ⟨HS1.out⟩⟩
              · go_wp2
                go_meet
                case rel => exact ⟨by simp [hA], ⟨HS1.out⟩⟩
          case rest =>
            clear HS1
            obtain ⟨rfl, HS7⟩ := hcut
            by_cases h39 : lo < m ∧ m < en
            · as_aux_lemma =>
                obtain ⟨hA, hB⟩ := h39
                have hBB : (decide (lo < m) && decide (m < en)) = true := by simp [hA, hB]
                rw [hBB] at *
                clear hBB
                have HR1 := Aside0.mk (fun W (hW : Srt D n w0 W ys0) => rotate_calls (B := B) hn lo m en hA hB (by omega) W hW)
                go_upto_region 41 with (go_at_call 68; refine (HR1.out _ HS7.out).mono ?_; rintro e w2 ⟨rfl, ys1, a1, a2, a3⟩; have HS2 := Aside0.mk (⟨a1, a2, a3⟩ : _ ∧ _ ∧ _); clear a1 a2 a3)
                go_upto_region 41 with (fail)
                (try simp only [Act.put, List.setIfInBounds_toArray, List.set_cons_zero, List.set_cons_succ])
                go_cut [199] (fun v wc => v = .bool (decide (a < lo) && decide (lo < mid)) ∧ Aside0 (Srt D n w0 wc ys1))
                case first =>
                  as_aux_lemma =>
                    by_cases hA : a < lo
                    · by_cases hB : lo < mid
                      · go_wp2
                        go_meet
                        case rel => exact ⟨by simp [hA, hB], ⟨HS2.out.1⟩⟩
                      · go_wp2
                        go_meet
                        case rel => exact ⟨by simp [hA, hB], ⟨HS2.out.1⟩⟩
                    · go_wp2
                      go_meet
                      case rel => exact ⟨by simp [hA], ⟨HS2.out.1⟩⟩
                case rest =>
                  obtain ⟨rfl, HS6⟩ := hcut
                  have HCUT := Aside0.mk (show Cut rs ys1 a lo mid en b by have z := HC2.out ys1 (by rw [HEN.out]; exact HS2.out.2.2); rwa [HEN.out] at z)
                  have HN1 := Aside0.mk (HN.out.swaps HS2.out.2.1 (by omega) : Num n ys1)
                  by_cases h41 : a < lo ∧ lo < mid
                  · as_aux_lemma =>
                      obtain ⟨hA, hB⟩ := h41
                      have hBB : (decide (a < lo) && decide (lo < mid)) = true := by simp [hA, hB]
                      rw [hBB] at *
                      clear hBB
                      have HR2 := Aside0.mk (fun W (hW : Srt D n w0 W ys1) => IH.out a lo mid ys1 W (by omega) hA hB (by omega) HCUT.out.left HN1.out hW)
                      go_upto_region 43 with (go_at_call 67; refine Calls.mono (HR2.out _ HS6.out) ?_; rintro e w3 ⟨rfl, ys2, a1, a2, a3⟩; have HS3 := Aside0.mk (⟨a1, a2, a3⟩ : _ ∧ _ ∧ _); clear a1 a2 a3)
                      go_upto_region 43 with (fail)
                      (try simp only [Act.put, List.setIfInBounds_toArray, List.set_cons_zero, List.set_cons_succ])
                      go_cut [213] (fun v wc => v = .bool (decide (mid < en) && decide (en < b)) ∧ Aside0 (Srt D n w0 wc ys2))
                      case first =>
                        as_aux_lemma =>
                          have HTWO := Aside0.mk (HCUT.out.right.out (by omega) (by omega) HS3.out.2.1 (.inl (Nat.le_refl _)) : Two rs ys2 mid en b)
                          have HN2 := Aside0.mk (HN1.out.swaps HS3.out.2.1 (by omega) : Num n ys2)
                          by_cases hA : mid < en
                          · by_cases hB : en < b
                            · go_wp2
                              go_meet
                              case rel => exact ⟨by simp [hA, hB], ⟨HS3.out.1⟩⟩
                            · go_wp2
                              go_meet
                              case rel => exact ⟨by simp [hA, hB], ⟨HS3.out.1⟩⟩
                          · go_wp2
                            go_meet
                            case rel => exact ⟨by simp [hA], ⟨HS3.out.1⟩⟩
                      case rest =>
                        obtain ⟨rfl, HS4⟩ := hcut
                        have HTWO := Aside0.mk (HCUT.out.right.out (by omega) (by omega) HS3.out.2.1 (.inl (Nat.le_refl _)) : Two rs ys2 mid en b)
                        have HN2 := Aside0.mk (HN1.out.swaps HS3.out.2.1 (by omega) : Num n ys2)
                        by_cases h43 : mid < en ∧ en < b
                        · as_aux_lemma =>
                            obtain ⟨hA, hB⟩ := h43
                            have hBB : (decide (mid < en) && decide (en < b)) = true := by simp [hA, hB]
                            rw [hBB] at *
                            clear hBB
                            have HR3 := Aside0.mk (fun W (hW : Srt D n w0 W ys2) => IH.out mid en b ys2 W (by omega) hA hB (by omega) HTWO.out HN2.out hW)
                            go_wp2_with (go_at_call 67; refine Calls.mono (HR3.out _ HS4.out) ?_; rintro e w4 ⟨rfl, ys3, a1, a2, a3⟩; have HS5 := Aside0.mk (⟨a1, a2, a3⟩ : _ ∧ _ ∧ _); clear a1 a2 a3)
                            go_end0
                            refine ⟨rfl, ys3, HS5.out.1, ((HS2.out.2.1.mono (by omega) (by omega)).trans (HS3.out.2.1.mono (by omega) (by omega))).trans (HS5.out.2.1.mono (by omega) (by omega)), HCUT.out.glue (by omega) (by omega) HS3.out.2.1 HS3.out.2.2 HS5.out.2.1 HS5.out.2.2⟩
                        · as_aux_lemma =>
                            have hBB : (decide (mid < en) && decide (en < b)) = false := by simp only [Bool.and_eq_false_iff, decide_eq_false_iff_not]; omega
                            rw [hBB] at *
                            clear hBB
                            have HS5 := Aside0.mk (⟨HS4.out, .refl _, HTWO.out.none (by omega) (by omega) (by omega)⟩ : _ ∧ Swaps mid b ys2 ys2 ∧ Sorted rs ys2 mid b)
                            go_wp2
                            go_end0
                            refine ⟨rfl, ys2, HS5.out.1, ((HS2.out.2.1.mono (by omega) (by omega)).trans (HS3.out.2.1.mono (by omega) (by omega))).trans (HS5.out.2.1.mono (by omega) (by omega)), HCUT.out.glue (by omega) (by omega) HS3.out.2.1 HS3.out.2.2 HS5.out.2.1 HS5.out.2.2⟩
                  · as_aux_lemma =>
                      have hBB : (decide (a < lo) && decide (lo < mid)) = false := by simp only [Bool.and_eq_false_iff, decide_eq_false_iff_not]; omega
                      rw [hBB] at *
                      clear hBB
                      have HS3 := Aside0.mk (⟨HS6.out, .refl _, HCUT.out.left.none (by omega) (by omega) (by omega)⟩ : _ ∧ Swaps a mid ys1 ys1 ∧ Sorted rs ys1 a mid)
                      go_upto_region 43 with (fail)
                      (try simp only [Act.put, List.setIfInBounds_toArray, List.set_cons_zero, List.set_cons_succ])
                      go_cut [213] (fun v wc => v = .bool (decide (mid < en) && decide (en < b)) ∧ Aside0 (Srt D n w0 wc ys1))
                      case first =>
                        as_aux_lemma =>
                          have HTWO := Aside0.mk (HCUT.out.right.out (by omega) (by omega) HS3.out.2.1 (.inl (Nat.le_refl _)) : Two rs ys1 mid en b)
                          have HN2 := Aside0.mk (HN1.out.swaps HS3.out.2.1 (by omega) : Num n ys1)
                          by_cases hA : mid < en
                          · by_cases hB : en < b
                            · go_wp2
                              go_meet
                              case rel => exact ⟨by simp [hA, hB], ⟨HS3.out.1⟩⟩
                            · go_wp2
                              go_meet
                              case rel => exact ⟨by simp [hA, hB], ⟨HS3.out.1⟩⟩
                          · go_wp2
                            go_meet
                            case rel => exact ⟨by simp [hA], ⟨HS3.out.1⟩⟩
                      case rest =>
                        obtain ⟨rfl, HS4⟩ := hcut
                        have HTWO := Aside0.mk (HCUT.out.right.out (by omega) (by omega) HS3.out.2.1 (.inl (Nat.le_refl _)) : Two rs ys1 mid en b)
                        have HN2 := Aside0.mk (HN1.out.swaps HS3.out.2.1 (by omega) : Num n ys1)
                        by_cases h43 : mid < en ∧ en < b
                        · as_aux_lemma =>
                            obtain ⟨hA, hB⟩ := h43
                            have hBB : (decide (mid < en) && decide (en < b)) = true := by simp [hA, hB]
                            rw [hBB] at *
                            clear hBB
                            have HR3 := Aside0.mk (fun W (hW : Srt D n w0 W ys1) => IH.out mid en b ys1 W (by omega) hA hB (by omega) HTWO.out HN2.out hW)
                            go_wp2_with (go_at_call 67; refine Calls.mono (HR3.out _ HS4.out) ?_; rintro e w4 ⟨rfl, ys3, a1, a2, a3⟩; have HS5 := Aside0.mk (⟨a1, a2, a3⟩ : _ ∧ _ ∧ _); clear a1 a2 a3)
                            go_end0
                            refine ⟨rfl, ys3, HS5.out.1, ((HS2.out.2.1.mono (by omega) (by omega)).trans (HS3.out.2.1.mono (by omega) (by omega))).trans (HS5.out.2.1.mono (by omega) (by omega)), HCUT.out.glue (by omega) (by omega) HS3.out.2.1 HS3.out.2.2 HS5.out.2.1 HS5.out.2.2⟩
                        · as_aux_lemma =>
                            have hBB : (decide (mid < en) && decide (en < b)) = false := by simp only [Bool.and_eq_false_iff, decide_eq_false_iff_not]; omega
                            rw [hBB] at *
                            clear hBB
                            have HS5 := Aside0.mk (⟨HS4.out, .refl _, HTWO.out.none (by omega) (by omega) (by omega)⟩ : _ ∧ Swaps mid b ys1 ys1 ∧ Sorted rs ys1 mid b)
                            go_wp2
                            go_end0
                            refine ⟨rfl, ys1, HS5.out.1, ((HS2.out.2.1.mono (by omega) (by omega)).trans (HS3.out.2.1.mono (by omega) (by omega))).trans (HS5.out.2.1.mono (by omega) (by omega)), HCUT.out.glue (by omega) (by omega) HS3.out.2.1 HS3.out.2.2 HS5.out.2.1 HS5.out.2.2⟩
            · as_aux_lemma =>
                have hBB : (decide (lo < m) && decide (m < en)) = false := by simp only [Bool.and_eq_false_iff, decide_eq_false_iff_not]; omega
                rw [hBB] at *
                clear hBB
                have HS2 := Aside0.mk (⟨HS7.out, .refl _, rot_none h39 (by omega) g1⟩ : _ ∧ Swaps lo en ys0 ys0 ∧ Rot lo m en ys0 ys0)
                go_upto_region 41 with (fail)
                (try simp only [Act.put, List.setIfInBounds_toArray, List.set_cons_zero, List.set_cons_succ])
                go_cut [199] (fun v wc => v = .bool (decide (a < lo) && decide (lo < mid)) ∧ Aside0 (Srt D n w0 wc ys0))
                case first =>
                  as_aux_lemma =>
                    by_cases hA : a < lo
                    · by_cases hB : lo < mid
                      · go_wp2
                        go_meet
                        case rel => exact ⟨by simp [hA, hB], ⟨HS2.out.1⟩⟩
                      · go_wp2
                        go_meet
                        case rel => exact ⟨by simp [hA, hB], ⟨HS2.out.1⟩⟩
                    · go_wp2
                      go_meet
                      case rel => exact ⟨by simp [hA], ⟨HS2.out.1⟩⟩
                case rest =>
                  obtain ⟨rfl, HS6⟩ := hcut
                  have HCUT := Aside0.mk (show Cut rs ys0 a lo mid en b by have z := HC2.out ys0 (by rw [HEN.out]; exact HS2.out.2.2); rwa [HEN.out] at z)
                  have HN1 := Aside0.mk (HN.out.swaps HS2.out.2.1 (by omega) : Num n ys0)
                  by_cases h41 : a < lo ∧ lo < mid
                  · as_aux_lemma =>
                      obtain ⟨hA, hB⟩ := h41
                      have hBB : (decide (a < lo) && decide (lo < mid)) = true := by simp [hA, hB]
                      rw [hBB] at *
                      clear hBB
                      have HR2 := Aside0.mk (fun W (hW : Srt D n w0 W ys0) => IH.out a lo mid ys0 W (by omega) hA hB (by omega) HCUT.out.left HN1.out hW)
                      go_upto_region 43 with (go_at_call 67; refine Calls.mono (HR2.out _ HS6.out) ?_; rintro e w3 ⟨rfl, ys2, a1, a2, a3⟩; have HS3 := Aside0.mk (⟨a1, a2, a3⟩ : _ ∧ _ ∧ _); clear a1 a2 a3)
                      go_upto_region 43 with (fail)
                      (try simp only [Act.put, List.setIfInBounds_toArray, List.set_cons_zero, List.set_cons_succ])
                      go_cut [213] (fun v wc => v = .bool (decide (mid < en) && decide (en < b)) ∧ Aside0 (Srt D n w0 wc ys2))
                      case first =>
                        as_aux_lemma =>
                          have HTWO := Aside0.mk (HCUT.out.right.out (by omega) (by omega) HS3.out.2.1 (.inl (Nat.le_refl _)) : Two rs ys2 mid en b)
                          have HN2 := Aside0.mk (HN1.out.swaps HS3.out.2.1 (by omega) : Num n ys2)
                          by_cases hA : mid < en
                          · by_cases hB : en < b
                            · go_wp2
                              go_meet
                              case rel => exact ⟨by simp [hA, hB], ⟨HS3.out.1⟩⟩
                            · go_wp2
                              go_meet
                              case rel => exact ⟨by simp [hA, hB], ⟨HS3.out.1⟩⟩
                          · go_wp2
                            go_meet
                            case rel => exact ⟨by simp [hA], ⟨HS3.out.1⟩⟩
                      case rest =>
                        obtain ⟨rfl, HS4⟩ := hcut
                        have HTWO := Aside0.mk (HCUT.out.right.out (by omega) (by omega) HS3.out.2.1 (.inl (Nat.le_refl _)) : Two rs ys2 mid en b)
                        have HN2 := Aside0.mk (HN1.out.swaps HS3.out.2.1 (by omega) : Num n ys2)
                        by_cases h43 : mid < en ∧ en < b
                        · as_aux_lemma =>
                            obtain ⟨hA, hB⟩ := h43
                            have hBB : (decide (mid < en) && decide (en < b)) = true := by simp [hA, hB]
                            rw [hBB] at *
                            clear hBB
                            have HR3 := Aside0.mk (fun W (hW : Srt D n w0 W ys2) => IH.out mid en b ys2 W (by omega) hA hB (by omega) HTWO.out HN2.out hW)
                            go_wp2_with (go_at_call 67; refine Calls.mono (HR3.out _ HS4.out) ?_; rintro e w4 ⟨rfl, ys3, a1, a2, a3⟩; have HS5 := Aside0.mk (⟨a1, a2, a3⟩ : _ ∧ _ ∧ _); clear a1 a2 a3)
                            go_end0
                            refine ⟨rfl, ys3, HS5.out.1, ((HS2.out.2.1.mono (by omega) (by omega)).trans (HS3.out.2.1.mono (by omega) (by omega))).trans (HS5.out.2.1.mono (by omega) (by omega)), HCUT.out.glue (by omega) (by omega) HS3.out.2.1 HS3.out.2.2 HS5.out.2.1 HS5.out.2.2⟩
                        · as_aux_lemma =>
                            have hBB : (decide (mid < en) && decide (en < b)) = false := by simp only [Bool.and_eq_false_iff, decide_eq_false_iff_not]; omega
                            rw [hBB] at *
                            clear hBB
                            have HS5 := Aside0.mk (⟨HS4.out, .refl _, HTWO.out.none (by omega) (by omega) (by omega)⟩ : _ ∧ Swaps mid b ys2 ys2 ∧ Sorted rs ys2 mid b)
                            go_wp2
                            go_end0
                            refine ⟨rfl, ys2, HS5.out.1, ((HS2.out.2.1.mono (by omega) (by omega)).trans (HS3.out.2.1.mono (by omega) (by omega))).trans (HS5.out.2.1.mono (by omega) (by omega)), HCUT.out.glue (by omega) (by omega) HS3.out.2.1 HS3.out.2.2 HS5.out.2.1 HS5.out.2.2⟩
                  · as_aux_lemma =>
                      have hBB : (decide (a < lo) && decide (lo < mid)) = false := by simp only [Bool.and_eq_false_iff, decide_eq_false_iff_not]; omega
                      rw [hBB] at *
                      clear hBB
                      have HS3 := Aside0.mk (⟨HS6.out, .refl _, HCUT.out.left.none (by omega) (by omega) (by omega)⟩ : _ ∧ Swaps a mid ys0 ys0 ∧ Sorted rs ys0 a mid)
                      go_upto_region 43 with (fail)
                      (try simp only [Act.put, List.setIfInBounds_toArray, List.set_cons_zero, List.set_cons_succ])
                      go_cut [213] (fun v wc => v = .bool (decide (mid < en) && decide (en < b)) ∧ Aside0 (Srt D n w0 wc ys0))
                      case first =>
                        as_aux_lemma =>
                          have HTWO := Aside0.mk (HCUT.out.right.out (by omega) (by omega) HS3.out.2.1 (.inl (Nat.le_refl _)) : Two rs ys0 mid en b)
                          have HN2 := Aside0.mk (HN1.out.swaps HS3.out.2.1 (by omega) : Num n ys0)
                          by_cases hA : mid < en
                          · by_cases hB : en < b
                            · go_wp2
                              go_meet
                              case rel => exact ⟨by simp [hA, hB], ⟨HS3.out.1⟩⟩
                            · go_wp2
                              go_meet
                              case rel => exact ⟨by simp [hA, hB], ⟨HS3.out.1⟩⟩
                          · go_wp2
                            go_meet
                            case rel => exact ⟨by simp [hA], ⟨HS3.out.1⟩⟩
                      case rest =>
                        obtain ⟨rfl, HS4⟩ := hcut
                        have HTWO := Aside0.mk (HCUT.out.right.out (by omega) (by omega) HS3.out.2.1 (.inl (Nat.le_refl _)) : Two rs ys0 mid en b)
                        have HN2 := Aside0.mk (HN1.out.swaps HS3.out.2.1 (by omega) : Num n ys0)
                        by_cases h43 : mid < en ∧ en < b
                        · as_aux_lemma =>
                            obtain ⟨hA, hB⟩ := h43
                            have hBB : (decide (mid < en) && decide (en < b)) = true := by simp [hA, hB]
                            rw [hBB] at *
                            clear hBB
                            have HR3 := Aside0.mk (fun W (hW : Srt D n w0 W ys0) => IH.out mid en b ys0 W (by omega) hA hB (by omega) HTWO.out HN2.out hW)
                            go_wp2_with (go_at_call 67; refine Calls.mono (HR3.out _ HS4.out) ?_; rintro e w4 ⟨rfl, ys3, a1, a2, a3⟩; have HS5 := Aside0.mk (⟨a1, a2, a3⟩ : _ ∧ _ ∧ _); clear a1 a2 a3)
                            go_end0
                            refine ⟨rfl, ys3, HS5.out.1, ((HS2.out.2.1.mono (by omega) (by omega)).trans (HS3.out.2.1.mono (by omega) (by omega))).trans (HS5.out.2.1.mono (by omega) (by omega)), HCUT.out.glue (by omega) (by omega) HS3.out.2.1 HS3.out.2.2 HS5.out.2.1 HS5.out.2.2⟩
                        · as_aux_lemma =>
                            have hBB : (decide (mid < en) && decide (en < b)) = false := by simp only [Bool.and_eq_false_iff, decide_eq_false_iff_not]; omega
                            rw [hBB] at *
                            clear hBB
                            have HS5 := Aside0.mk (⟨HS4.out, .refl _, HTWO.out.none (by omega) (by omega) (by omega)⟩ : _ ∧ Swaps mid b ys0 ys0 ∧ Sorted rs ys0 mid b)
                            go_wp2
                            go_end0
                            refine ⟨rfl, ys0, HS5.out.1, ((HS2.out.2.1.mono (by omega) (by omega)).trans (HS3.out.2.1.mono (by omega) (by omega))).trans (HS5.out.2.1.mono (by omega) (by omega)), HCUT.out.glue (by omega) (by omega) HS3.out.2.1 HS3.out.2.2 HS5.out.2.1 HS5.out.2.2⟩
  · as_aux_lemma =>
      have HM : Mid a m b mid nn a m := ⟨by omega, by omega, by omega, by omega, by omega, by omega, by omega, by omega, by omega, by omega⟩
      have HMM := Aside0.mk HM
      have hr0m : m ≤ m := HM.h3
      have hs0r : a ≤ m := HM.h2
      have hs0a : a ≤ a := HM.h1
      have hmb3 : mid < b := HM.mb
      have ham3 : a < mid := HM.am
      clear HM hs hmid hnn hpp
      go_enter Try.func67, Try.ntmps67
      go_wp2
      go_loopw [20, 21] (fun v10 v11 W => ∃ (lo hi : Nat), v10 = .int .i64 lo ∧ v11 = .int .i64 hi ∧ Aside0 (Srt D n w0 W ys0 ∧ a ≤ lo ∧ lo ≤ hi ∧ hi ≤ m ∧ (lo = a ∨ lt rs (ys0.getD (lo - 1) 0) (ys0.getD (nn - lo) 0) = true) ∧ (hi = m ∨ lt rs (ys0.getD (nn - 1 - hi) 0) (ys0.getD hi 0) = true))) (fun v10 v11 _ => (intOf v11).toNat - (intOf v10).toNat)
      case atStart => exact ⟨a, m, rfl, rfl, ⟨HS.out, by omega, hs0r, by omega, .inl rfl, .inl rfl⟩⟩
      case round =>
        clear HS
        obtain ⟨lo, hi, rfl, rfl, hk⟩ := hrel
        have HS1 := Aside0.mk hk.out.1
        have HI := Aside0.mk hk.out.2.2.2.2
        have h1 : a ≤ lo := hk.out.2.1
        have h2 : lo ≤ hi := hk.out.2.2.1
        have h3 : hi ≤ m := hk.out.2.2.2.1
        clear hk
        by_cases hlt : lo < hi
        · obtain ⟨s2, hs2⟩ : ∃ s2, s2 = lo + hi := ⟨_, rfl⟩
          obtain ⟨p, hp⟩ : ∃ p, p = s2 / 2 := ⟨_, rfl⟩
          have p1 : lo ≤ p := by omega
          have p2 : p < hi := by omega
          have hpq := HPP.out
          have hh4 := HMM.out.h4
          have hh5 := HMM.out.h5
          obtain ⟨q, hq⟩ : ∃ q, q + p = pp := ⟨pp - p, by omega⟩
          have g1 : m ≤ q := by omega
          have g2 : q < b := by omega
          obtain ⟨x, x1, x2⟩ := HN.out q (by omega)
          obtain ⟨y, y1, y2⟩ := HN.out p (by omega)
          have hxy : y < x := by
            have := HT.out.ix p q (by omega) (by omega) g1 g2
            rw [x2, y2] at this; omega
          have HX := Aside0.mk x2
          have HY := Aside0.mk y2
          have hLT := cmp_lt (r := rs) (show (y : Int) < (x : Int) by omega)
          rw [Int.toNat_natCast, Int.toNat_natCast] at hLT
          have HCALL := Aside0.mk (fun (W : World) (hW : Srt D n w0 W ys0) => cmp_calls HC.out x y x1 y1 W hW)
          have HTOT := Aside0.mk (lt_total (r := rs) (show (y : Int) ≠ (x : Int) by omega))
          obtain ⟨cv, hcv⟩ : ∃ cv, cmpI (rs.getD y 0) (rs.getD x 0) = cv := ⟨_, rfl⟩
          rw [hcv] at hLT HCALL
          have q1 := HS1.out.cell p (by omega)
          have q2 := HS1.out.cell q (by omega)
          rw [x2] at q2
          rw [y2] at q1
          have u0 : (0 : Int) ≤ (p : Int) := by omega
          have u1 : (p : Int) < (n : Int) := by omega
          have u2 : (0 : Int) ≤ (q : Int) := by omega
          have u3 : (q : Int) < (n : Int) := by omega
          have f2 : (lo : Int) + (hi : Int) = (s2 : Int) := by omega
          have f3 : (s2 : Int) / 2 = (p : Int) := by omega
          have f4 : (pp : Int) - (p : Int) = (q : Int) := by omega
          have c1 : s2 < 4611686018427387904 := by omega
          have c2 : p < 4611686018427387904 := by omega
          have c3 : q < 4611686018427387904 := by omega
          have HQ := Aside0.mk (⟨hs2, hp, hq, hpq, hh4, hh5⟩ : _ ∧ _ ∧ _ ∧ _ ∧ _ ∧ _)
          clear hcv x2 y2 hs2 hp hq hpq hh4 hh5
          cases hl : lt rs (x : Int) (y : Int) with
          | false =>
            as_aux_lemma =>
              rw [hl] at hLT
              have HL := Aside0.mk hl
              clear hl
              go_wp2
              go_quiet ((go_at_call 50; exact Calls.quiet_of ((HCALL.out _ (HS1.out.drewN _)).mono fun _ _ ⟨he, q, hq⟩ => ⟨he, q, hq.symm⟩)))
              go_wp2
              go_roundw
              case rel =>
                  obtain ⟨hs2, hp, hq, hpq, hh4, hh5⟩ := HQ.out
                  refine ⟨p + 1, hi, by go_num, rfl, ⟨HS1.out.drewN _, by omega, by omega, h3, .inr ?_, HI.out.2⟩⟩
                  rw [Nat.add_sub_cancel, show nn - (p + 1) = q by omega, HX.out, HY.out]
                  rcases HTOT.out with h | h
                  · exact h
                  · rw [HL.out] at h; cases h
              case measure => simp [intOf] <;> omega
          | true =>
            as_aux_lemma =>
              rw [hl] at hLT
              have HL := Aside0.mk hl
              clear hl
              go_wp2
              go_quiet ((go_at_call 50; exact Calls.quiet_of ((HCALL.out _ (HS1.out.drewN _)).mono fun _ _ ⟨he, q, hq⟩ => ⟨he, q, hq.symm⟩)))
              go_wp2
              go_roundw
              case rel =>
                  obtain ⟨hs2, hp, hq, hpq, hh4, hh5⟩ := HQ.out
                  refine ⟨lo, p, rfl, by go_num, ⟨HS1.out.drewN _, h1, by omega, by omega, HI.out.1, .inr ?_⟩⟩
                  rw [show nn - 1 - p = q by omega, HX.out, HY.out]
                  exact HL.out
              case measure => simp [intOf] <;> omega
        · obtain rfl : lo = hi := by omega
          have HC2 := Aside0.mk (sym_cut HT.out HMM.out h1 h3 HI.out.1 HI.out.2)
          obtain ⟨en, hen⟩ : ∃ en, en + lo = nn := ⟨nn - lo, by have := HMM.out.h4; omega⟩
          have g1 : m ≤ en := by have := HMM.out.h4; omega
          have g2 : en ≤ b := by have := HMM.out.h5; omega
          have HEN := Aside0.mk (show nn - lo = en by omega)
          have f4 : (nn : Int) - (lo : Int) = (en : Int) := by omega
          have c1 : en < 4611686018427387904 := by omega
          have g3 : mid ≤ en := by have := HMM.out.hn; omega
          clear hen
          go_upto_region 39 with (fail)
          (try simp only [Act.put, List.setIfInBounds_toArray, List.set_cons_zero, List.set_cons_succ])
          go_cut [185] (fun v wc => v = .bool (decide (lo < m) && decide (m < en)) ∧ Aside0 (Srt D n w0 wc ys0))
          case first =>
            as_aux_lemma =>
              by_cases hA : lo < m
              · by_cases hB : m < en
                · go_wp2
                  go_meet
                  case rel => exact ⟨by simp [hA, hB], ⟨HS1.out⟩⟩
                · go_wp2
                  go_meet
                  case rel => exact ⟨by simp [hA, hB], ⟨HS1.out⟩⟩
              · go_wp2
                go_meet
                case rel => exact ⟨by simp [hA], ⟨HS1.out⟩⟩
          case rest =>
            clear HS1
            obtain ⟨rfl, HS7⟩ := hcut
            by_cases h39 : lo < m ∧ m < en
            · as_aux_lemma =>
                obtain ⟨hA, hB⟩ := h39
                have hBB : (decide (lo < m) && decide (m < en)) = true := by simp [hA, hB]
                rw [hBB] at *
                clear hBB
                have HR1 := Aside0.mk (fun W (hW : Srt D n w0 W ys0) => rotate_calls (B := B) hn lo m en hA hB (by omega) W hW)
                go_upto_region 41 with (go_at_call 68; refine (HR1.out _ HS7.out).mono ?_; rintro e w2 ⟨rfl, ys1, a1, a2, a3⟩; have HS2 := Aside0.mk (⟨a1, a2, a3⟩ : _ ∧ _ ∧ _); clear a1 a2 a3)
                go_upto_region 41 with (fail)
                (try simp only [Act.put, List.setIfInBounds_toArray, List.set_cons_zero, List.set_cons_succ])
                go_cut [199] (fun v wc => v = .bool (decide (a < lo) && decide (lo < mid)) ∧ Aside0 (Srt D n w0 wc ys1))
                case first =>
                  as_aux_lemma =>
                    by_cases hA : a < lo
                    · by_cases hB : lo < mid
                      · go_wp2
                        go_meet
                        case rel => exact ⟨by simp [hA, hB], ⟨HS2.out.1⟩⟩
                      · go_wp2
                        go_meet
                        case rel => exact ⟨by simp [hA, hB], ⟨HS2.out.1⟩⟩
                    · go_wp2
                      go_meet
                      case rel => exact ⟨by simp [hA], ⟨HS2.out.1⟩⟩
                case rest =>
                  obtain ⟨rfl, HS6⟩ := hcut
                  have HCUT := Aside0.mk (show Cut rs ys1 a lo mid en b by have z := HC2.out ys1 (by rw [HEN.out]; exact HS2.out.2.2); rwa [HEN.out] at z)
                  have HN1 := Aside0.mk (HN.out.swaps HS2.out.2.1 (by omega) : Num n ys1)
                  by_cases h41 : a < lo ∧ lo < mid
                  · as_aux_lemma =>
                      obtain ⟨hA, hB⟩ := h41
                      have hBB : (decide (a < lo) && decide (lo < mid)) = true := by simp [hA, hB]
                      rw [hBB] at *
                      clear hBB
                      have HR2 := Aside0.mk (fun W (hW : Srt D n w0 W ys1) => IH.out a lo mid ys1 W (by omega) hA hB (by omega) HCUT.out.left HN1.out hW)
                      go_upto_region 43 with (go_at_call 67; refine Calls.mono (HR2.out _ HS6.out) ?_; rintro e w3 ⟨rfl, ys2, a1, a2, a3⟩; have HS3 := Aside0.mk (⟨a1, a2, a3⟩ : _ ∧ _ ∧ _); clear a1 a2 a3)
                      go_upto_region 43 with (fail)
                      (try simp only [Act.put, List.setIfInBounds_toArray, List.set_cons_zero, List.set_cons_succ])
                      go_cut [213] (fun v wc => v = .bool (decide (mid < en) && decide (en < b)) ∧ Aside0 (Srt D n w0 wc ys2))
                      case first =>
                        as_aux_lemma =>
                          have HTWO := Aside0.mk (HCUT.out.right.out (by omega) (by omega) HS3.out.2.1 (.inl (Nat.le_refl _)) : Two rs ys2 mid en b)
                          have HN2 := Aside0.mk (HN1.out.swaps HS3.out.2.1 (by omega) : Num n ys2)
                          by_cases hA : mid < en
                          · by_cases hB : en < b
                            · go_wp2
                              go_meet
                              case rel => exact ⟨by simp [hA, hB], ⟨HS3.out.1⟩⟩
                            · go_wp2
                              go_meet
                              case rel => exact ⟨by simp [hA, hB], ⟨HS3.out.1⟩⟩
                          · go_wp2
                            go_meet
                            case rel => exact ⟨by simp [hA], ⟨HS3.out.1⟩⟩
                      case rest =>
                        obtain ⟨rfl, HS4⟩ := hcut
                        have HTWO := Aside0.mk (HCUT.out.right.out (by omega) (by omega) HS3.out.2.1 (.inl (Nat.le_refl _)) : Two rs ys2 mid en b)
                        have HN2 := Aside0.mk (HN1.out.swaps HS3.out.2.1 (by omega) : Num n ys2)
                        by_cases h43 : mid < en ∧ en < b
                        · as_aux_lemma =>
                            obtain ⟨hA, hB⟩ := h43
                            have hBB : (decide (mid < en) && decide (en < b)) = true := by simp [hA, hB]
                            rw [hBB] at *
                            clear hBB
                            have HR3 := Aside0.mk (fun W (hW : Srt D n w0 W ys2) => IH.out mid en b ys2 W (by omega) hA hB (by omega) HTWO.out HN2.out hW)
                            go_wp2_with (go_at_call 67; refine Calls.mono (HR3.out _ HS4.out) ?_; rintro e w4 ⟨rfl, ys3, a1, a2, a3⟩; have HS5 := Aside0.mk (⟨a1, a2, a3⟩ : _ ∧ _ ∧ _); clear a1 a2 a3)
                            go_end0
                            refine ⟨rfl, ys3, HS5.out.1, ((HS2.out.2.1.mono (by omega) (by omega)).trans (HS3.out.2.1.mono (by omega) (by omega))).trans (HS5.out.2.1.mono (by omega) (by omega)), HCUT.out.glue (by omega) (by omega) HS3.out.2.1 HS3.out.2.2 HS5.out.2.1 HS5.out.2.2⟩
                        · as_aux_lemma =>
                            have hBB : (decide (mid < en) && decide (en < b)) = false := by simp only [Bool.and_eq_false_iff, decide_eq_false_iff_not]; omega
                            rw [hBB] at *
                            clear hBB
                            have HS5 := Aside0.mk (⟨HS4.out, .refl _, HTWO.out.none (by omega) (by omega) (by omega)⟩ : _ ∧ Swaps mid b ys2 ys2 ∧ Sorted rs ys2 mid b)
                            go_wp2
                            go_end0
                            refine ⟨rfl, ys2, HS5.out.1, ((HS2.out.2.1.mono (by omega) (by omega)).trans (HS3.out.2.1.mono (by omega) (by omega))).trans (HS5.out.2.1.mono (by omega) (by omega)), HCUT.out.glue (by omega) (by omega) HS3.out.2.1 HS3.out.2.2 HS5.out.2.1 HS5.out.2.2⟩
                  · as_aux_lemma =>
                      have hBB : (decide (a < lo) && decide (lo < mid)) = false := by simp only [Bool.and_eq_false_iff, decide_eq_false_iff_not]; omega
                      rw [hBB] at *
                      clear hBB
                      have HS3 := Aside0.mk (⟨HS6.out, .refl _, HCUT.out.left.none (by omega) (by omega) (by omega)⟩ : _ ∧ Swaps a mid ys1 ys1 ∧ Sorted rs ys1 a mid)
                      go_upto_region 43 with (fail)
                      (try simp only [Act.put, List.setIfInBounds_toArray, List.set_cons_zero, List.set_cons_succ])
                      go_cut [213] (fun v wc => v = .bool (decide (mid < en) && decide (en < b)) ∧ Aside0 (Srt D n w0 wc ys1))
                      case first =>
                        as_aux_lemma =>
                          have HTWO := Aside0.mk (HCUT.out.right.out (by omega) (by omega) HS3.out.2.1 (.inl (Nat.le_refl _)) : Two rs ys1 mid en b)
                          have HN2 := Aside0.mk (HN1.out.swaps HS3.out.2.1 (by omega) : Num n ys1)
                          by_cases hA : mid < en
                          · by_cases hB : en < b
                            · go_wp2
                              go_meet
                              case rel => exact ⟨by simp [hA, hB], ⟨HS3.out.1⟩⟩
                            · go_wp2
                              go_meet
                              case rel => exact ⟨by simp [hA, hB], ⟨HS3.out.1⟩⟩
                          · go_wp2
                            go_meet
                            case rel => exact ⟨by simp [hA], ⟨HS3.out.1⟩⟩
                      case rest =>
                        obtain ⟨rfl, HS4⟩ := hcut
                        have HTWO := Aside0.mk (HCUT.out.right.out (by omega) (by omega) HS3.out.2.1 (.inl (Nat.le_refl _)) : Two rs ys1 mid en b)
                        have HN2 := Aside0.mk (HN1.out.swaps HS3.out.2.1 (by omega) : Num n ys1)
                        by_cases h43 : mid < en ∧ en < b
                        · as_aux_lemma =>
                            obtain ⟨hA, hB⟩ := h43
                            have hBB : (decide (mid < en) && decide (en < b)) = true := by simp [hA, hB]
                            rw [hBB] at *
                            clear hBB
                            have HR3 := Aside0.mk (fun W (hW : Srt D n w0 W ys1) => IH.out mid en b ys1 W (by omega) hA hB (by omega) HTWO.out HN2.out hW)
                            go_wp2_with (go_at_call 67; refine Calls.mono (HR3.out _ HS4.out) ?_; rintro e w4 ⟨rfl, ys3, a1, a2, a3⟩; have HS5 := Aside0.mk (⟨a1, a2, a3⟩ : _ ∧ _ ∧ _); clear a1 a2 a3)
                            go_end0
                            refine ⟨rfl, ys3, HS5.out.1, ((HS2.out.2.1.mono (by omega) (by omega)).trans (HS3.out.2.1.mono (by omega) (by omega))).trans (HS5.out.2.1.mono (by omega) (by omega)), HCUT.out.glue (by omega) (by omega) HS3.out.2.1 HS3.out.2.2 HS5.out.2.1 HS5.out.2.2⟩
                        · as_aux_lemma =>
                            have hBB : (decide (mid < en) && decide (en < b)) = false := by simp only [Bool.and_eq_false_iff, decide_eq_false_iff_not]; omega
                            rw [hBB] at *
                            clear hBB
                            have HS5 := Aside0.mk (⟨HS4.out, .refl _, HTWO.out.none (by omega) (by omega) (by omega)⟩ : _ ∧ Swaps mid b ys1 ys1 ∧ Sorted rs ys1 mid b)
                            go_wp2
                            go_end0
                            refine ⟨rfl, ys1, HS5.out.1, ((HS2.out.2.1.mono (by omega) (by omega)).trans (HS3.out.2.1.mono (by omega) (by omega))).trans (HS5.out.2.1.mono (by omega) (by omega)), HCUT.out.glue (by omega) (by omega) HS3.out.2.1 HS3.out.2.2 HS5.out.2.1 HS5.out.2.2⟩
            · as_aux_lemma =>
                have hBB : (decide (lo < m) && decide (m < en)) = false := by simp only [Bool.and_eq_false_iff, decide_eq_false_iff_not]; omega
                rw [hBB] at *
                clear hBB
                have HS2 := Aside0.mk (⟨HS7.out, .refl _, rot_none h39 (by omega) g1⟩ : _ ∧ Swaps lo en ys0 ys0 ∧ Rot lo m en ys0 ys0)
                go_upto_region 41 with (fail)
                (try simp only [Act.put, List.setIfInBounds_toArray, List.set_cons_zero, List.set_cons_succ])
                go_cut [199] (fun v wc => v = .bool (decide (a < lo) && decide (lo < mid)) ∧ Aside0 (Srt D n w0 wc ys0))
                case first =>
                  as_aux_lemma =>
                    by_cases hA : a < lo
                    · by_cases hB : lo < mid
                      · go_wp2
                        go_meet
                        case rel => exact ⟨by simp [hA, hB], ⟨HS2.out.1⟩⟩
                      · go_wp2
                        go_meet
                        case rel => exact ⟨by simp [hA, hB], ⟨HS2.out.1⟩⟩
                    · go_wp2
                      go_meet
                      case rel => exact ⟨by simp [hA], ⟨HS2.out.1⟩⟩
                case rest =>
                  obtain ⟨rfl, HS6⟩ := hcut
                  have HCUT := Aside0.mk (show Cut rs ys0 a lo mid en b by have z := HC2.out ys0 (by rw [HEN.out]; exact HS2.out.2.2); rwa [HEN.out] at z)
                  have HN1 := Aside0.mk (HN.out.swaps HS2.out.2.1 (by omega) : Num n ys0)
                  by_cases h41 : a < lo ∧ lo < mid
                  · as_aux_lemma =>
                      obtain ⟨hA, hB⟩ := h41
                      have hBB : (decide (a < lo) && decide (lo < mid)) = true := by simp [hA, hB]
                      rw [hBB] at *
                      clear hBB
                      have HR2 := Aside0.mk (fun W (hW : Srt D n w0 W ys0) => IH.out a lo mid ys0 W (by omega) hA hB (by omega) HCUT.out.left HN1.out hW)
                      go_upto_region 43 with (go_at_call 67; refine Calls.mono (HR2.out _ HS6.out) ?_; rintro e w3 ⟨rfl, ys2, a1, a2, a3⟩; have HS3 := Aside0.mk (⟨a1, a2, a3⟩ : _ ∧ _ ∧ _); clear a1 a2 a3)
                      go_upto_region 43 with (fail)
                      (try simp only [Act.put, List.setIfInBounds_toArray, List.set_cons_zero, List.set_cons_succ])
                      go_cut [213] (fun v wc => v = .bool (decide (mid < en) && decide (en < b)) ∧ Aside0 (Srt D n w0 wc ys2))
                      case first =>
                        as_aux_lemma =>
                          have HTWO := Aside0.mk (HCUT.out.right.out (by omega) (by omega) HS3.out.2.1 (.inl (Nat.le_refl _)) : Two rs ys2 mid en b)
                          have HN2 := Aside0.mk (HN1.out.swaps HS3.out.2.1 (by omega) : Num n ys2)
                          by_cases hA : mid < en
                          · by_cases hB : en < b
                            · go_wp2
                              go_meet
                              case rel => exact ⟨by simp [hA, hB], ⟨HS3.out.1⟩⟩
                            · go_wp2
                              go_meet
                              case rel => exact ⟨by simp [hA, hB], ⟨HS3.out.1⟩⟩
                          · go_wp2
                            go_meet
                            case rel => exact ⟨by simp [hA], ⟨HS3.out.1⟩⟩
                      case rest =>
                        obtain ⟨rfl, HS4⟩ := hcut
                        have HTWO := Aside0.mk (HCUT.out.right.out (by omega) (by omega) HS3.out.2.1 (.inl (Nat.le_refl _)) : Two rs ys2 mid en b)
                        have HN2 := Aside0.mk (HN1.out.swaps HS3.out.2.1 (by omega) : Num n ys2)
                        by_cases h43 : mid < en ∧ en < b
                        · as_aux_lemma =>
                            obtain ⟨hA, hB⟩ := h43
                            have hBB : (decide (mid < en) && decide (en < b)) = true := by simp [hA, hB]
                            rw [hBB] at *
                            clear hBB
                            have HR3 := Aside0.mk (fun W (hW : Srt D n w0 W ys2) => IH.out mid en b ys2 W (by omega) hA hB (by omega) HTWO.out HN2.out hW)
                            go_wp2_with (go_at_call 67; refine Calls.mono (HR3.out _ HS4.out) ?_; rintro e w4 ⟨rfl, ys3, a1, a2, a3⟩; have HS5 := Aside0.mk (⟨a1, a2, a3⟩ : _ ∧ _ ∧ _); clear a1 a2 a3)
                            go_end0
                            refine ⟨rfl, ys3, HS5.out.1, ((HS2.out.2.1.mono (by omega) (by omega)).trans (HS3.out.2.1.mono (by omega) (by omega))).trans (HS5.out.2.1.mono (by omega) (by omega)), HCUT.out.glue (by omega) (by omega) HS3.out.2.1 HS3.out.2.2 HS5.out.2.1 HS5.out.2.2⟩
                        · as_aux_lemma =>
                            have hBB : (decide (mid < en) && decide (en < b)) = false := by simp only [Bool.and_eq_false_iff, decide_eq_false_iff_not]; omega
                            rw [hBB] at *
                            clear hBB
                            have HS5 := Aside0.mk (⟨HS4.out, .refl _, HTWO.out.none (by omega) (by omega) (by omega)⟩ : _ ∧ Swaps mid b ys2 ys2 ∧ Sorted rs ys2 mid b)
                            go_wp2
                            go_end0
                            refine ⟨rfl, ys2, HS5.out.1, ((HS2.out.2.1.mono (by omega) (by omega)).trans (HS3.out.2.1.mono (by omega) (by omega))).trans (HS5.out.2.1.mono (by omega) (by omega)), HCUT.out.glue (by omega) (by omega) HS3.out.2.1 HS3.out.2.2 HS5.out.2.1 HS5.out.2.2⟩
                  · as_aux_lemma =>
                      have hBB : (decide (a < lo) && decide (lo < mid)) = false := by simp only [Bool.and_eq_false_iff, decide_eq_false_iff_not]; omega
                      rw [hBB] at *
                      clear hBB
                      have HS3 := Aside0.mk (⟨HS6.out, .refl _, HCUT.out.left.none (by omega) (by omega) (by omega)⟩ : _ ∧ Swaps a mid ys0 ys0 ∧ Sorted rs ys0 a mid)
                      go_upto_region 43 with (fail)
                      (try simp only [Act.put, List.setIfInBounds_toArray, List.set_cons_zero, List.set_cons_succ])
                      go_cut [213] (fun v wc => v = .bool (decide (mid < en) && decide (en < b)) ∧ Aside0 (Srt D n w0 wc ys0))
                      case first =>
                        as_aux_lemma =>
                          have HTWO := Aside0.mk (HCUT.out.right.out (by omega) (by omega) HS3.out.2.1 (.inl (Nat.le_refl _)) : Two rs ys0 mid en b)
                          have HN2 := Aside0.mk (HN1.out.swaps HS3.out.2.1 (by omega) : Num n ys0)
                          by_cases hA : mid < en
                          · by_cases hB : en < b
                            · go_wp2
                              go_meet
                              case rel => exact ⟨by simp [hA, hB], ⟨HS3.out.1⟩⟩
                            · go_wp2
                              go_meet
                              case rel => exact ⟨by simp [hA, hB], ⟨HS3.out.1⟩⟩
                          · go_wp2
                            go_meet
                            case rel => exact ⟨by simp [hA], ⟨HS3.out.1⟩⟩
                      case rest =>
                        obtain ⟨rfl, HS4⟩ := hcut
                        have HTWO := Aside0.mk (HCUT.out.right.out (by omega) (by omega) HS3.out.2.1 (.inl (Nat.le_refl _)) : Two rs ys0 mid en b)
                        have HN2 := Aside0.mk (HN1.out.swaps HS3.out.2.1 (by omega) : Num n ys0)
                        by_cases h43 : mid < en ∧ en < b
                        · as_aux_lemma =>
                            obtain ⟨hA, hB⟩ := h43
                            have hBB : (decide (mid < en) && decide (en < b)) = true := by simp [hA, hB]
                            rw [hBB] at *
                            clear hBB
                            have HR3 := Aside0.mk (fun W (hW : Srt D n w0 W ys0) => IH.out mid en b ys0 W (by omega) hA hB (by omega) HTWO.out HN2.out hW)
                            go_wp2_with (go_at_call 67; refine Calls.mono (HR3.out _ HS4.out) ?_; rintro e w4 ⟨rfl, ys3, a1, a2, a3⟩; have HS5 := Aside0.mk (⟨a1, a2, a3⟩ : _ ∧ _ ∧ _); clear a1 a2 a3)
                            go_end0
                            refine ⟨rfl, ys3, HS5.out.1, ((HS2.out.2.1.mono (by omega) (by omega)).trans (HS3.out.2.1.mono (by omega) (by omega))).trans (HS5.out.2.1.mono (by omega) (by omega)), HCUT.out.glue (by omega) (by omega) HS3.out.2.1 HS3.out.2.2 HS5.out.2.1 HS5.out.2.2⟩
                        · as_aux_lemma =>
                            have hBB : (decide (mid < en) && decide (en < b)) = false := by simp only [Bool.and_eq_false_iff, decide_eq_false_iff_not]; omega
                            rw [hBB] at *
                            clear hBB
                            have HS5 := Aside0.mk (⟨HS4.out, .refl _, HTWO.out.none (by omega) (by omega) (by omega)⟩ : _ ∧ Swaps mid b ys0 ys0 ∧ Sorted rs ys0 mid b)
                            go_wp2
                            go_end0
                            refine ⟨rfl, ys0, HS5.out.1, ((HS2.out.2.1.mono (by omega) (by omega)).trans (HS3.out.2.1.mono (by omega) (by omega))).trans (HS5.out.2.1.mono (by omega) (by omega)), HCUT.out.glue (by omega) (by omega) HS3.out.2.1 HS3.out.2.2 HS5.out.2.1 HS5.out.2.2⟩
end Go.Proofs.Ytcncjldggfbjdaa.G2
