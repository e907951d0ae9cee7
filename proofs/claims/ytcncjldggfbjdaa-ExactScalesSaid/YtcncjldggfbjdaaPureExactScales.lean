/-
  The law ExactScales in plain terms: what Scale answers is the quotient and the remainder of the product, told in two halves of 26 bits.
-/
import Derived.Test.YtcncjldggfbjdaaPExx7
import Derived.Test.YtcncjldggfbjdaaE3
namespace Go.Proofs.Ytcncjldggfbjdaa.Pure
open Go.RowKit Go.Proofs.Ytcncjldggfbjdaa.PEx Go.Proofs.YtcncjldggfbjdaaW.PrintWords Go.Proofs.YtcncjldggfbjdaaW.PrintLast Go.Proofs.Ytcncjldggfbjdaa.E
set_option linter.unusedVariables false
set_option linter.unusedSimpArgs false

theorem and26 (n : Int) : Go.bits .and .i64 n 67108863 = n % 67108864 := by
  show IntKind.i64.wrap ((BitVec.ofInt 64 n &&& BitVec.ofInt 64 67108863).toNat : Int) = _
  have h : (BitVec.ofInt 64 n &&& BitVec.ofInt 64 67108863).toNat = (n % 67108864).toNat := by
    rw [BitVec.toNat_and, show (BitVec.ofInt 64 67108863).toNat = 2 ^ 26 - 1 from rfl, Nat.and_two_pow_sub_one_eq_mod, BitVec.toNat_ofInt]
    omega
  rw [h, IntKind.wrap_i64]
  omega
theorem w_in {x : Int} (h : 0 ≤ x) (h2 : x ≤ 4611686018427387904) : wrap64 x = x := by unfold wrap64; omega
theorem mul_bd {a b A B : Int} (h0 : 0 ≤ a) (h1 : a ≤ A) (h2 : 0 ≤ b) (h3 : b ≤ B) : 0 ≤ a * b ∧ a * b ≤ A * B := ⟨Int.mul_nonneg h0 h2, Int.mul_le_mul h1 h3 h2 (Int.le_trans h0 h1)⟩
/-- A product in halves of 26 bits. -/
theorem halves (a b : Int) : a * b = (a / 67108864) * (b / 67108864) * 4503599627370496 + ((a / 67108864) * (b % 67108864) + (a % 67108864) * (b / 67108864)) * 67108864 + (a % 67108864) * (b % 67108864) := by
  have h1 : a = a / 67108864 * 67108864 + a % 67108864 := by omega
  have h2 : b = b / 67108864 * 67108864 + b % 67108864 := by omega
  generalize a / 67108864 = x at *
  generalize a % 67108864 = y at *
  generalize b / 67108864 = u at *
  generalize b % 67108864 = v at *
  subst h1 h2
  grind
theorem some_true {b : Bool} (h : b = true) : some b = some true := by rw [h]
theorem ExactScales : bournelaw01_ExactScales.Pure := by
  intro a b c _ _ _
  apply Ev.rounds
  unfold bournelaw01_ExactScales.f
  refine Ev.bind small_ev ?_
  refine Ev.bind (scale_ev a b c) ?_
  have bad : scaleOk a b c = false → Ev (fun k => bournelaw01_ExactScales.j0 k a b c true (scaleF a b c).1 (scaleF a b c).2.1 (scaleF a b c).2.2 true) true := fun h => by
    unfold scaleF
    rw [if_neg (by simp [h])]
    exact Ev.step (fun k => by simp only [bournelaw01_ExactScales.j0]; rfl) (Ev.now _)
  have no : ∀ h : Prop, h → (h → scaleOk a b c = false) → scaleOk a b c = false := fun _ h f => f h
  by_cases c1 : a < 0
  · refine Ev.congr (fun k => by rw [if_pos c1]) (bad ?_)
    simp [scaleOk]; omega
  by_cases c2 : a > 1125899906842624
  · refine Ev.congr (fun k => by rw [if_neg c1, if_pos c2]) (bad ?_)
    simp [scaleOk]; omega
  by_cases c3 : b < 0
  · refine Ev.congr (fun k => by rw [if_neg c1, if_neg c2, if_pos c3]) (bad ?_)
    simp [scaleOk]; omega
  by_cases c4 : b > 1125899906842624
  · refine Ev.congr (fun k => by rw [if_neg c1, if_neg c2, if_neg c3, if_pos c4]) (bad ?_)
    simp [scaleOk]; omega
  by_cases c5 : c < 1
  · refine Ev.congr (fun k => by rw [if_neg c1, if_neg c2, if_neg c3, if_neg c4, if_pos c5]) (bad ?_)
    simp [scaleOk]; omega
  by_cases c6 : c > 1125899906842624
  · refine Ev.congr (fun k => by rw [if_neg c1, if_neg c2, if_neg c3, if_neg c4, if_neg c5, decide_eq_true c6]) (bad ?_)
    simp [scaleOk]; omega
  refine Ev.congr (fun k => by rw [if_neg c1, if_neg c2, if_neg c3, if_neg c4, if_neg c5, decide_eq_false c6]) ?_
  by_cases hd : a * b / c ≤ 1125899906842624
  · have ok : scaleOk a b c = true := by
      simp only [scaleOk, Bool.and_eq_true, decide_eq_true_eq]
      exact ⟨⟨⟨⟨⟨⟨by omega, by omega⟩, by omega⟩, by omega⟩, by omega⟩, by omega⟩, hd⟩
    have e : scaleF a b c = (a * b / c, a * b % c, true) := by unfold scaleF; rw [if_pos ok]
    have e2 : scaleF b a c = (a * b / c, a * b % c, true) := by
      unfold scaleF
      rw [if_pos, Int.mul_comm b a]
      simp only [scaleOk, Bool.and_eq_true, decide_eq_true_eq]
      rw [Int.mul_comm b a]
      exact ⟨⟨⟨⟨⟨⟨by omega, by omega⟩, by omega⟩, by omega⟩, by omega⟩, by omega⟩, hd⟩
    rw [e]
    have ab0 : 0 ≤ a * b := Int.mul_nonneg (by omega) (by omega)
    have q0 : 0 ≤ a * b / c := Int.ediv_nonneg ab0 (by omega)
    have r0 : 0 ≤ a * b % c := Int.emod_nonneg _ (by omega)
    have r1 : a * b % c < c := Int.emod_lt_of_pos _ (by omega)
    have qr : a * b / c * c + a * b % c = a * b := by rw [Int.mul_comm]; exact Int.mul_ediv_add_emod (a * b) c
    -- the next one
    have hnext : (scaleF (mn (wrap64 (a + 1)) 1125899906842624) b c).2.2 = true → a * b / c ≤ (scaleF (mn (wrap64 (a + 1)) 1125899906842624) b c).1 := by
      have hw : wrap64 (a + 1) = a + 1 := by unfold wrap64; omega
      have hmn : a ≤ mn (wrap64 (a + 1)) 1125899906842624 := by rw [hw]; unfold mn; omega
      generalize mn (wrap64 (a + 1)) 1125899906842624 = a' at *
      unfold scaleF
      by_cases h : scaleOk a' b c = true
      · rw [if_pos h]
        intro _
        exact Int.ediv_le_ediv (by omega) (Int.mul_le_mul_of_nonneg_right hmn (by omega))
      · rw [if_neg h]
        intro h2
        cases h2
    have hab := halves a b
    have hqc := halves (a * b / c) c
    generalize hp : a * b = p at *
    generalize p / c = q at *
    generalize p % c = r at *
    obtain ⟨x1, x2⟩ := mul_bd (a := a / 67108864) (b := b / 67108864) (A := 16777216) (B := 16777216) (by omega) (by omega) (by omega) (by omega)
    obtain ⟨x3, x4⟩ := mul_bd (a := a / 67108864) (b := b % 67108864) (A := 16777216) (B := 67108863) (by omega) (by omega) (by omega) (by omega)
    obtain ⟨x5, x6⟩ := mul_bd (a := a % 67108864) (b := b / 67108864) (A := 67108863) (B := 16777216) (by omega) (by omega) (by omega) (by omega)
    obtain ⟨x7, x8⟩ := mul_bd (a := a % 67108864) (b := b % 67108864) (A := 67108863) (B := 67108863) (by omega) (by omega) (by omega) (by omega)
    obtain ⟨y1, y2⟩ := mul_bd (a := q / 67108864) (b := c / 67108864) (A := 16777216) (B := 16777216) (by omega) (by omega) (by omega) (by omega)
    obtain ⟨y3, y4⟩ := mul_bd (a := q / 67108864) (b := c % 67108864) (A := 16777216) (B := 67108863) (by omega) (by omega) (by omega) (by omega)
    obtain ⟨y5, y6⟩ := mul_bd (a := q % 67108864) (b := c / 67108864) (A := 67108863) (B := 16777216) (by omega) (by omega) (by omega) (by omega)
    obtain ⟨y7, y8⟩ := mul_bd (a := q % 67108864) (b := c % 67108864) (A := 67108863) (B := 67108863) (by omega) (by omega) (by omega) (by omega)
    have g2 := scale_ev b a c
    have g3 := scale_ev (mn (wrap64 (a + 1)) 1125899906842624) b c
    rw [e2] at g2
    generalize scaleF (mn (wrap64 (a + 1)) 1125899906842624) b c = nx at *
    refine Ev.step (f := fun k => (exact_Scale.f k b a c).bind fun bt185 => ((exact_Scale.f k (mn (wrap64 (a + 1)) 1125899906842624) b c).bind fun bt188 => (if true = true then (if r ≥ 0 then (if r < c then (if q ≥ 0 then (if q ≤ 1125899906842624 then (if bt185.2.2 = true then (if bt185.1 = q then (if bt185.2.1 = r then (if bt188.2.2 = true then (some (decide (bt188.1 ≥ q))) else (some true)) else (some false)) else (some false)) else (some false)) else (some false)) else (some false)) else (some false)) else (some false)) else (some false)))) (fun k => ?_) ?_
    · simp only [bournelaw01_ExactScales.j0]
      simp only [and26]
      generalize a / 67108864 = a1 at *
      generalize a % 67108864 = a0 at *
      generalize b / 67108864 = b1 at *
      generalize b % 67108864 = b0 at *
      generalize q / 67108864 = q1 at *
      generalize q % 67108864 = q0' at *
      generalize c / 67108864 = c1' at *
      generalize c % 67108864 = c0 at *
      generalize a1 * b1 = p1 at *
      generalize a1 * b0 = p2 at *
      generalize a0 * b1 = p3 at *
      generalize a0 * b0 = p4 at *
      generalize q1 * c1' = s1 at *
      generalize q1 * c0 = s2 at *
      generalize q0' * c1' = s3 at *
      generalize q0' * c0 = s4 at *
      rw [w_in x7 (by omega), w_in (x := s4) y7 (by omega), w_in (x := s4 + r) (by omega) (by omega), w_in (x := p2) x3 (by omega), w_in (x := p3) x5 (by omega), w_in (x := p2 + p3) (by omega) (by omega), w_in (x := s2) y3 (by omega), w_in (x := s3) y5 (by omega), w_in (x := s2 + s3) (by omega) (by omega), w_in (x := p1) x1 (by omega), w_in (x := s1) y1 (by omega), w_in (x := p2 + p3 + p4 / 67108864) (by omega) (by omega), w_in (x := s2 + s3 + (s4 + r) / 67108864) (by omega) (by omega), w_in (x := p1 + (p2 + p3 + p4 / 67108864) / 67108864) (by omega) (by omega), w_in (x := s1 + (s2 + s3 + (s4 + r) / 67108864) / 67108864) (by omega) (by omega)]
      rw [if_neg (by simp), if_pos trivial, if_pos (by omega), if_pos (by omega)]
      have hh : p1 + (p2 + p3 + p4 / 67108864) / 67108864 = s1 + (s2 + s3 + (s4 + r) / 67108864) / 67108864 := by omega
      simp only [hh, eq_self, if_true]
    · refine Ev.bind g2 (Ev.bind g3 ?_)
      by_cases hn : nx.2.2 = true
      · refine Ev.congr (fun k => ?_) (Ev.now _)
        rw [if_pos rfl, if_pos r0, if_pos r1, if_pos q0, if_pos hd, if_pos rfl, if_pos rfl, if_pos rfl, if_pos hn, decide_eq_true (hnext hn)]
      · refine Ev.congr (fun k => ?_) (Ev.now _)
        rw [if_pos rfl, if_pos r0, if_pos r1, if_pos q0, if_pos hd, if_pos rfl, if_pos rfl, if_pos rfl, if_neg hn]
  · have nok : scaleOk a b c = false := by simp [scaleOk]; omega
    unfold scaleF
    rw [if_neg (by simp [nok])]
    exact Ev.step (fun k => by simp only [bournelaw01_ExactScales.j0]; rfl) (Ev.now _)
end Go.Proofs.Ytcncjldggfbjdaa.Pure
