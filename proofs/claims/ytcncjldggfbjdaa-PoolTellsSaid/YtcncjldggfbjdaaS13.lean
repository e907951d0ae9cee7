import Derived.Test.YtcncjldggfbjdaaS12
import Derived.Test.YtcncjldggfbjdaaO5
namespace Go.Proofs.Ytcncjldggfbjdaa.G2
open Go.RowKit Go.Proofs.YtcncjldggfbjdaaW.PrintWords Go.Proofs.YtcncjldggfbjdaaW.PrintLast Go.Proofs.YtcncjldggfbjdaaW.PrintMore Go.Proofs.Ytcncjldggfbjdaa.G1 Go.Proofs.Ytcncjldggfbjdaa.O
set_option linter.unusedVariables false
set_option linter.unusedSimpArgs false

theorem symMerge_all {D B R n : Nat} {rs : List Int} {w0 : World} (c : Ctx D B R n rs w0) : ∀ (d a m b : Nat) (ys : List Int) (W : World), b - a ≤ d → a < m → m < b → b ≤ n → Two rs ys a m b → Num n ys → Srt D n w0 W ys → SymOk D B n rs w0 a m b ys W := by
  intro d
  induction d with
  | zero => intro a m b ys W h1 h2 h3; omega
  | succ d ih =>
    intro a m b ys W h1 h2 h3 h4 ht hn hs
    by_cases e1 : m = a + 1
    · exact symA c a m b e1 h3 h4 ht hn W hs
    by_cases e2 : b = m + 1
    · exact symB c a m b (by omega) e2 h4 ht hn W hs
    exact symC c a m b (by omega) (by omega) h4 ht hn W hs (fun a' m' b' ys' W' g1 g2 g3 g4 g5 g6 g7 => ih a' m' b' ys' W' (by omega) g2 g3 g4 g5 g6 g7)
theorem loc_out {n s a b c d : Nat} {xs ys : List Int} (h : Blk n s a xs) (hab : a ≤ b) (hw : Swaps c d xs ys) (hd : d ≤ b) : Blk n s b ys := fun p h1 h2 => by
  obtain ⟨j, h3, h4, h5⟩ := h p (by omega) h2
  exact ⟨j, h3, (hw.outside p (by omega)).trans h4, h5⟩
theorem sb_from {r : List Int} {s a b e : Nat} {ys : List Int} (h : SB r s a e ys) (hab : a ≤ b) : SB r s b e ys := fun p q h1 h2 h3 h4 => h p q (by omega) h2 h3 h4
set_option maxRecDepth 100000 in
set_option maxHeartbeats 4000000 in
theorem stable_all {D B R n : Nat} {rs ys0 : List Int} {w0 : World} (c : Ctx D B R n rs w0) (h0 : ∀ k, k < n → ys0.getD k 0 = k) (W : World) (h : Srt D n w0 W ys0) :
    Calls Try.prog 63 #[.slice (some ⟨D, 0, none⟩) n n, .int .i64 n, .func (.func 50) #[] #[.pointer (some ⟨B, 0, none⟩)]] W fun e w' => e = .returned (.tuple #[]) ∧ ∃ ys, Srt D n w0 w' ys ∧ Swaps 0 n ys0 ys ∧ Sorted rs ys 0 n := by
  have HC := Aside0.mk c
  have H0 := Aside0.mk h0
  have HS := Aside0.mk h
  have hn := c.ln
  clear c h0 h
  go_enter Try.func63, Try.ntmps63
  go_wp2
  go_loopw [7, 8] (fun v7 v8 W => ∃ (a b cc : Nat) (ys : List Int), v7 = .int .i64 a ∧ v8 = .int .i64 b ∧ Aside0 (Srt D n w0 W ys ∧ Swaps 0 a ys0 ys ∧ Blk n 20 0 ys ∧ SB rs 20 0 a ys ∧ a = cc * 20 ∧ b = a + 20 ∧ a ≤ n)) (fun v7 _ _ => n - (intOf v7).toNat)
  case atStart => exact ⟨0, 20, 0, ys0, by go_num, by go_num, ⟨HS.out, .refl _, .id H0.out, fun p q h1 h2 h3 => by omega, by omega, by omega, by omega⟩⟩
  case round =>
    clear HS
    obtain ⟨a, b, cc, ys, rfl, rfl, hk⟩ := hrel
    have HS1 := Aside0.mk hk.out.1
    have HW := Aside0.mk hk.out.2.1
    have HL := Aside0.mk hk.out.2.2.1
    have HB := Aside0.mk hk.out.2.2.2.1
    have HE := Aside0.mk (⟨hk.out.2.2.2.2.1, hk.out.2.2.2.2.2.1⟩ : _ ∧ _)
    have han : a ≤ n := hk.out.2.2.2.2.2.2
    have hab : a ≤ b := by have := HE.out.2; omega
    clear hk
    by_cases hlt : b ≤ n
    · have HI := Aside0.mk (fun (W : World) (hW : Srt D n w0 W ys) => insertion_calls HC.out a b hab hlt (fun k h1 h2 => by rw [HW.out.outside k (.inr h1)]; exact H0.out k (by omega)) W hW)
      obtain ⟨b', hb'⟩ : ∃ b', b' = b + 20 := ⟨_, rfl⟩
      have e1 : (b : Int) + 20 = (b' : Int) := by omega
      have b1 : b' < 4611686018427387904 := by omega
      have hab2 : a < b := by have := HE.out.2; omega
      have HB' := Aside0.mk hb'
      clear hb'
      go_wp2_with (go_at_call 66; refine (HI.out _ HS1.out).mono ?_; rintro e w2 ⟨rfl, ys2, a1, a2, a3⟩; have HS2 := Aside0.mk (⟨a1, a2, a3⟩ : _ ∧ _ ∧ _); clear a1 a2 a3)
      go_roundw
      case rel =>
          obtain ⟨g1, g2⟩ := HE.out
          have hb' := HB'.out
          have hw := HS2.out.2.1
          have hso := HS2.out.2.2
          have hSB := HB.out
          rw [g1] at hw hso hSB
          exact ⟨b, b', cc + 1, ys2, rfl, rfl, ⟨HS2.out.1, (HW.out.mono (Nat.le_refl _) hab).trans (HS2.out.2.1.mono (Nat.zero_le _) (Nat.le_refl _)), HL.out.swaps (by omega) (by omega) (by omega) hlt hw, hSB.more (by omega) hw (by omega) hso, by omega, hb', hlt⟩⟩
      case measure => simp [intOf] <;> omega
    · have HI := Aside0.mk (fun (W : World) (hW : Srt D n w0 W ys) => insertion_calls HC.out a n han (Nat.le_refl _) (fun k h1 h2 => by rw [HW.out.outside k (.inr h1)]; exact H0.out k (by omega)) W hW)
      go_wp2_with (go_at_call 66; refine (HI.out _ HS1.out).mono ?_; rintro e w2 ⟨rfl, ys2, a1, a2, a3⟩; have HS2 := Aside0.mk (⟨a1, a2, a3⟩ : _ ∧ _ ∧ _); clear a1 a2 a3)
      go_loopw [6] (fun v6 W => ∃ (s : Nat) (ys : List Int), v6 = .int .i64 s ∧ Aside0 (20 ≤ s ∧ s ≤ 128 ∧ Srt D n w0 W ys ∧ Swaps 0 n ys0 ys ∧ Blk n s 0 ys ∧ SB rs s 0 n ys)) (fun v6 _ => n - (intOf v6).toNat)
      case atStart =>
        obtain ⟨g1, g2⟩ := HE.out
        have hw := HS2.out.2.1
        have hso := HS2.out.2.2
        have hSB := HB.out
        rw [g1] at hw hso hSB
        exact ⟨20, ys2, by go_num, ⟨by omega, by omega, HS2.out.1, (HW.out.mono (Nat.le_refl _) han).trans (HS2.out.2.1.mono (Nat.zero_le _) (Nat.le_refl _)), HL.out.swaps (by omega) (by omega) (by omega) (Nat.le_refl _) hw, hSB.more (by omega) hw (by omega) hso⟩⟩
      case round =>
        clear HI HS2 HS1 HW HL HB HE ys2 ys
        obtain ⟨s, ys, rfl, hk⟩ := hrel
        have hs20 : 20 ≤ s := hk.out.1
        have hs128 : s ≤ 128 := hk.out.2.1
        have HS1 := Aside0.mk hk.out.2.2.1
        have HW := Aside0.mk hk.out.2.2.2.1
        have HL := Aside0.mk hk.out.2.2.2.2.1
        have HB := Aside0.mk hk.out.2.2.2.2.2
        clear hk hlt hab han
        by_cases hlt : s < n
        · obtain ⟨s2, hs2⟩ : ∃ s2, s2 = 2 * s := ⟨_, rfl⟩
          have e1 : 2 * (s : Int) = (s2 : Int) := by omega
          have e2 : (s : Int) * 2 = (s2 : Int) := by omega
          have b1 : s2 < 4611686018427387904 := by omega
          have hss : s < s2 := by omega
          have hs2b : s2 ≤ 128 := by omega
          have HS2 := Aside0.mk hs2
          clear hs2
          go_wp2
          go_loopw [7, 8] (fun v7 v8 W => ∃ (a b cc : Nat) (ys : List Int), v7 = .int .i64 a ∧ v8 = .int .i64 b ∧ Aside0 (Srt D n w0 W ys ∧ Swaps 0 n ys0 ys ∧ Blk n s2 0 ys ∧ SB rs s2 0 a ys ∧ Blk n s a ys ∧ SB rs s a n ys ∧ a = cc * s2 ∧ b = a + s2 ∧ a ≤ n)) (fun v7 _ _ => n - (intOf v7).toNat)
          case atStart =>
            have hs2 := HS2.out
            exact ⟨0, s2, 0, ys, by go_num, by go_num, ⟨HS1.out, HW.out, hs2 ▸ HL.out.twice, fun p q h1 h2 h3 => by omega, HL.out, HB.out, by omega, by omega, by omega⟩⟩
          case round =>
            clear HS1 HW HL HB ys
            obtain ⟨a, b, cc, ys, rfl, rfl, hk⟩ := hrel
            have HS1 := Aside0.mk hk.out.1
            have HW := Aside0.mk hk.out.2.1
            have HL2 := Aside0.mk hk.out.2.2.1
            have HB2 := Aside0.mk hk.out.2.2.2.1
            have HL := Aside0.mk hk.out.2.2.2.2.1
            have HB := Aside0.mk hk.out.2.2.2.2.2.1
            have HE := Aside0.mk (⟨hk.out.2.2.2.2.2.2.1, hk.out.2.2.2.2.2.2.2.1⟩ : _ ∧ _)
            have han : a ≤ n := hk.out.2.2.2.2.2.2.2.2
            clear hk
            obtain ⟨mm, hmm⟩ : ∃ mm, mm = a + s := ⟨_, rfl⟩
            have e3 : (a : Int) + (s : Int) = (mm : Int) := by omega
            have b3 : mm < 4611686018427387904 := by omega
            have HM := Aside0.mk hmm
            have ham : a < mm := by omega
            have hmb : mm < b := by have := HE.out.2; omega
            have hac := Aside0.mk (show a = (2 * cc) * s by have h1 := HE.out.1; have h2 := HS2.out; rw [h1, h2, ← Nat.mul_assoc, Nat.mul_comm cc 2])
            clear hmm
            by_cases hbn : b ≤ n
            · have HT : Aside0 (Two rs ys a mm b) := ⟨two_of (c := 2 * cc) (by omega) hac.out HM.out (by omega) (by have := HE.out.2; have := HS2.out; have := HM.out; omega) hbn HL.out HB.out⟩
              have HR := Aside0.mk (fun W (hW : Srt D n w0 W ys) => symMerge_all HC.out _ a mm b ys W (Nat.le_refl _) ham hmb hbn HT.out HL2.out.num hW)
              obtain ⟨b', hb'⟩ : ∃ b', b' = b + s2 := ⟨_, rfl⟩
              have e4 : (b : Int) + (s2 : Int) = (b' : Int) := by omega
              have b4 : b' < 4611686018427387904 := by omega
              have HB' := Aside0.mk hb'
              clear hb'
              go_wp2_with (go_at_call 67; refine Calls.mono (HR.out _ HS1.out) ?_; rintro e w4 ⟨rfl, ys3, a1, a2, a3⟩; have HS5 := Aside0.mk (⟨a1, a2, a3⟩ : _ ∧ _ ∧ _); clear a1 a2 a3)
              go_roundw
              case rel =>
                  obtain ⟨g1, g2⟩ := HE.out
                  have hw := HS5.out.2.1
                  have hso := HS5.out.2.2
                  have hSB := HB2.out
                  rw [g1] at hw hso hSB
                  have hcc : (cc + 1) * s2 = cc * s2 + s2 := Nat.succ_mul cc s2
                  exact ⟨b, b', cc + 1, ys3, rfl, rfl, ⟨HS5.out.1, HW.out.trans (HS5.out.2.1.mono (by omega) (by omega)), HL2.out.swaps (by omega) (by omega) (by omega) hbn hw, hSB.more (by omega) hw (by omega) hso, loc_out HL.out (by omega) HS5.out.2.1 (Nat.le_refl _), (sb_from HB.out (by omega)).swaps HS5.out.2.1 (.inl (Nat.le_refl _)), by omega, HB'.out, hbn⟩⟩
              case measure => simp [intOf] <;> omega
            · by_cases hmn : mm < n
              · have HT : Aside0 (Two rs ys a mm n) := ⟨two_of (c := 2 * cc) (by omega) hac.out HM.out (by omega) (by have := HE.out.2; have := HS2.out; have := HM.out; omega) (Nat.le_refl _) HL.out HB.out⟩
                have HR := Aside0.mk (fun W (hW : Srt D n w0 W ys) => symMerge_all HC.out _ a mm n ys W (Nat.le_refl _) ham hmn (Nat.le_refl _) HT.out HL2.out.num hW)
                go_wp2_with (go_at_call 67; refine Calls.mono (HR.out _ HS1.out) ?_; rintro e w4 ⟨rfl, ys3, a1, a2, a3⟩; have HS5 := Aside0.mk (⟨a1, a2, a3⟩ : _ ∧ _ ∧ _); clear a1 a2 a3)
                go_roundw
                case rel =>
                    obtain ⟨g1, g2⟩ := HE.out
                    have hw := HS5.out.2.1
                    have hso := HS5.out.2.2
                    have hSB := HB2.out
                    rw [g1] at hw hso hSB
                    exact ⟨s2, ys3, rfl, ⟨by omega, hs2b, HS5.out.1, HW.out.trans (HS5.out.2.1.mono (by omega) (by omega)), HL2.out.swaps (by omega) (by omega) (by omega) (Nat.le_refl _) hw, hSB.more (by omega) hw (by omega) hso⟩⟩
                case measure => simp [intOf] <;> omega
              · go_wp2
                go_roundw
                case rel =>
                    obtain ⟨g1, g2⟩ := HE.out
                    have hso : Sorted rs ys a n := fun p q h1 h2 h3 => HB.out p q h1 h2 h3 (by
                      have h4 := hac.out
                      have h5 := HM.out
                      rw [div_block (s := s) (c := 2 * cc) (p := p) (by omega) (by omega) (by omega), div_block (s := s) (c := 2 * cc) (p := q) (by omega) (by omega) (by omega)])
                    have hSB := HB2.out
                    rw [g1] at hso hSB
                    exact ⟨s2, ys, rfl, ⟨by omega, hs2b, HS1.out, HW.out, HL2.out, hSB.more (by omega) (.refl _) (by omega) hso⟩⟩
                case measure => simp [intOf] <;> omega
        · go_wp2
          go_end0
          exact ⟨rfl, ys, HS1.out, HW.out, HB.out.all (by omega)⟩
set_option maxHeartbeats 1000000 in
theorem sort_calls {D B R n : Nat} {rs ys0 : List Int} {w0 : World} (c : Ctx D B R n rs w0) (h0 : ∀ k, k < n → ys0.getD k 0 = k) (W : World) (h : Srt D n w0 W ys0) :
    Calls Try.prog 49 #[.slice (some ⟨D, 0, none⟩) n n, .func (.func 50) #[] #[.pointer (some ⟨B, 0, none⟩)]] W fun e w' => e = .returned (.tuple #[]) ∧ ∃ ys, Srt D n w0 w' ys ∧ Swaps 0 n ys0 ys ∧ Sorted rs ys 0 n := by
  have HC := Aside0.mk (stable_all c h0 W h)
  clear c h0 h
  go_enter Try.func49, Try.ntmps49
  go_wp2_with (go_at_call 63; refine HC.out.mono ?_; rintro e w2 ⟨rfl, ys, hs1, hs2, hs3⟩; have HS := Aside0.mk (⟨hs1, hs2, hs3⟩ : _ ∧ _ ∧ _); clear hs1 hs2 hs3)
  go_end0
  exact ⟨rfl, ys, HS.out⟩
end Go.Proofs.Ytcncjldggfbjdaa.G2
