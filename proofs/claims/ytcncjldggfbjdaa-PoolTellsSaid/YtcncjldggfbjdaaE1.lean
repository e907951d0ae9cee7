import Derived.Test.YtcncjldggfbjdaaPExx3
import Derived.Lib.ItoaNum
import Derived.Lib.Mul64
import Derived.Laws.Bits64b
namespace Go.Proofs.Ytcncjldggfbjdaa.E
open Go.RowKit Go.Proofs.YtcncjldggfbjdaaW.PrintWords Go.Proofs.YtcncjldggfbjdaaW.PrintLast Go.Proofs.YtcncjldggfbjdaaW.PrintMore Go.Proofs.Ytcncjldggfbjdaa.G0 Go.Proofs.Ytcncjldggfbjdaa.PEx
set_option linter.unusedVariables false
set_option linter.unusedSimpArgs false

/-! The division of two words by one: each half digit. -/
theorem dig_exp (q y1 y0 : Nat) : q * (y1 * 4294967296 + y0) = q * y1 * 4294967296 + q * y0 := by rw [Nat.mul_add, Nat.mul_assoc]
theorem dig_lo {u d y1 y0 q rh : Nat} (hy0 : y0 < 4294967296) (h : (q + 1) * y1 + rh = u) (hq : q ≤ 4294967296) (hr : 4294967296 ≤ rh + y1) : q * (y1 * 4294967296 + y0) ≤ u * 4294967296 + d := by
  have h0 : q * y0 ≤ 4294967296 * 4294967295 := Nat.mul_le_mul hq (by omega)
  rw [dig_exp]
  rw [Nat.succ_mul] at h
  omega
theorem dig_gt {u d y1 y0 q rh : Nat} (h : q * y1 + rh = u) (ht : 4294967296 * rh + d < q * y0) : u * 4294967296 + d < q * (y1 * 4294967296 + y0) := by
  rw [dig_exp]
  omega
theorem dig_le {u d y1 y0 q rh : Nat} (h : q * y1 + rh = u) (ht : q * y0 ≤ 4294967296 * rh + d) : q * (y1 * 4294967296 + y0) ≤ u * 4294967296 + d := by
  rw [dig_exp]
  omega
theorem div_lt_of {X y q : Nat} (hy : 0 < y) (h : X < q * y) : X / y < q := (Nat.div_lt_iff_lt_mul hy).2 h
theorem le_div_of {X y q : Nat} (hy : 0 < y) (h : q * y ≤ X) : q ≤ X / y := (Nat.le_div_iff_mul_le hy).2 h
theorem wrapc (x : Nat) (h : x < 18446744073709551616) : IntKind.u64.wrap (x : Int) = (x : Int) := by rw [IntKind.wrap_u64]; omega


set_option maxRecDepth 100000 in
theorem l0_ev (x2 x8 un0 : Int) (y1 y0 u d y Q : Nat) (hy : y = y1 * 4294967296 + y0) (hy1' : y1 < 4294967296) (hy0 : y0 < 4294967296) (hd : d < 4294967296) (hQ1 : ∀ x, x * y ≤ u * 4294967296 + d → x ≤ Q) (hQ2 : ∀ x, u * 4294967296 + d < x * y → Q < x) (hQ : Q < 4294967296)
    (r : Int × Int) (hf : Ev (fun k => bits_Div64.j2 k x2 x8 y1 y0 u d un0 Q) r) : ∀ q rh : Nat, q * y1 + rh = u → Q ≤ q → q ≤ 4294967297 → rh < 4294967296 → Ev (fun k => bits_Div64.l0 k x2 x8 y1 y0 u d un0 q rh) r := by
  have down : ∀ q rh : Nat, (∀ rh : Nat, q * y1 + rh = u → Q ≤ q → q ≤ 4294967297 → rh < 4294967296 → Ev (fun k => bits_Div64.l0 k x2 x8 y1 y0 u d un0 q rh) r) → (q + 1) * y1 + rh = u → Q < q + 1 → q ≤ 4294967296 → rh < 4294967296 →
      Ev (fun k => bits_Div64.j1 k x2 x8 y1 y0 u d un0 (q + 1 : Nat) rh true) r := by
    intro q rh ih h1 h2 h3 h4
    have e1 : IntKind.u64.wrap ((rh : Int) + (y1 : Int)) = ((rh + y1 : Nat) : Int) := by rw [← Int.natCast_add]; exact wrapc _ (by omega)
    have e2 : IntKind.u64.wrap (((q + 1 : Nat) : Int) - 1) = (q : Int) := by rw [show (((q + 1 : Nat) : Int) - 1) = (q : Int) by omega]; exact wrapc _ (by omega)
    by_cases hb : 4294967296 ≤ rh + y1
    · have hq : q = Q := by
        have := hQ1 q (by rw [hy]; exact dig_lo (d := d) hy0 h1 h3 hb)
        omega
      subst hq
      refine Ev.step (fun k => ?_) hf
      simp only [bits_Div64.j1]
      rw [if_pos trivial, e1, e2, if_pos (show ((rh + y1 : Nat) : Int) ≥ 4294967296 by omega)]
    · refine Ev.step (fun k => ?_) (ih (rh + y1) (by rw [Nat.succ_mul] at h1; omega) (by omega) (by omega) (by omega))
      simp only [bits_Div64.j1]
      rw [if_pos trivial, e1, e2, if_neg (show ¬ ((rh + y1 : Nat) : Int) ≥ 4294967296 by omega)]
  have stay : ∀ rh : Nat, Ev (fun k => bits_Div64.j1 k x2 x8 y1 y0 u d un0 Q rh false) r := fun rh => Ev.step (fun k => by simp only [bits_Div64.j1]; rw [if_neg (by simp)]) hf
  intro q
  induction q with
  | zero =>
    intro rh h1 h2 h3 h4
    obtain rfl : Q = 0 := by omega
    refine Ev.step (fun k => ?_) (stay rh)
    simp only [bits_Div64.l0]
    rw [if_neg (by omega)]
    congr 1
    rw [decide_eq_false_iff_not, Int.natCast_zero, Int.zero_mul]
    have : (0 : Int) ≤ IntKind.u64.wrap (IntKind.u64.wrap (4294967296 * (rh : Int)) + (d : Int)) := by rw [IntKind.wrap_u64]; omega
    have e : IntKind.u64.wrap 0 = 0 := rfl
    omega
  | succ q ih =>
    intro rh h1 h2 h3 h4
    by_cases hq : 4294967296 ≤ q + 1
    · refine Ev.step (fun k => ?_) (down q rh ih h1 (by omega) (by omega) h4)
      simp only [bits_Div64.l0]
      rw [if_pos (by omega)]
    · have hm : (q + 1) * y0 ≤ 4294967295 * 4294967295 := Nat.mul_le_mul (by omega) (by omega)
      have e1 : IntKind.u64.wrap (((q + 1 : Nat) : Int) * (y0 : Int)) = (((q + 1) * y0 : Nat) : Int) := by rw [← Int.natCast_mul]; exact wrapc _ (by omega)
      have e2 : IntKind.u64.wrap (4294967296 * (rh : Int)) = ((4294967296 * rh : Nat) : Int) := by rw [show (4294967296 * (rh : Int)) = ((4294967296 * rh : Nat) : Int) by omega]; exact wrapc _ (by omega)
      have e3 : IntKind.u64.wrap (((4294967296 * rh : Nat) : Int) + (d : Int)) = ((4294967296 * rh + d : Nat) : Int) := by rw [← Int.natCast_add]; exact wrapc _ (by omega)
      by_cases ht : 4294967296 * rh + d < (q + 1) * y0
      · refine Ev.step (fun k => ?_) (down q rh ih h1 (hQ2 _ (by rw [hy]; exact dig_gt h1 ht)) (by omega) h4)
        simp only [bits_Div64.l0]
        rw [if_neg (by omega), e1, e2, e3]
        congr 1
        rw [decide_eq_true_eq]
        exact Int.ofNat_lt.2 ht
      · have hQq : Q = q + 1 := by
          have := hQ1 (q + 1) (by rw [hy]; exact dig_le h1 (Nat.le_of_not_lt ht))
          omega
        subst hQq
        refine Ev.step (fun k => ?_) (stay rh)
        simp only [bits_Div64.l0]
        rw [if_neg (by omega), e1, e2, e3]
        congr 1
        rw [decide_eq_false_iff_not]
        exact fun h => ht (Int.ofNat_lt.1 h)

set_option maxRecDepth 100000 in
theorem l1_ev (x2 x8 x15 x17 : Int) (h8 : 0 ≤ x8) (y1 y0 u d y Q : Nat) (hy : y = y1 * 4294967296 + y0) (hy1' : y1 < 4294967296) (hy0 : y0 < 4294967296) (hd : d < 4294967296) (hQ1 : ∀ x, x * y ≤ u * 4294967296 + d → x ≤ Q) (hQ2 : ∀ x, u * 4294967296 + d < x * y → Q < x) (hQ : Q < 4294967296)
    (r : Int × Int) (hf : r = (IntKind.u64.wrap ((IntKind.u64.wrap (x15 * 4294967296)) + (Q : Int)), shr .u64 (IntKind.u64.wrap ((IntKind.u64.wrap ((IntKind.u64.wrap (x17 * 4294967296)) + (d : Int))) - (IntKind.u64.wrap ((Q : Int) * x2)))) x8)) : ∀ q rh : Nat, q * y1 + rh = u → Q ≤ q → q ≤ 4294967297 → rh < 4294967296 → Ev (fun k => bits_Div64.l1 k x2 x8 y1 y0 d x15 rh x17 q) r := by
  have down : ∀ q rh : Nat, (∀ rh : Nat, q * y1 + rh = u → Q ≤ q → q ≤ 4294967297 → rh < 4294967296 → Ev (fun k => bits_Div64.l1 k x2 x8 y1 y0 d x15 rh x17 q) r) → (q + 1) * y1 + rh = u → Q < q + 1 → q ≤ 4294967296 → rh < 4294967296 →
      Ev (fun k => bits_Div64.j4 k x2 x8 y1 y0 d x15 rh x17 (q + 1 : Nat) true) r := by
    intro q rh ih h1 h2 h3 h4
    have e1 : IntKind.u64.wrap ((rh : Int) + (y1 : Int)) = ((rh + y1 : Nat) : Int) := by rw [← Int.natCast_add]; exact wrapc _ (by omega)
    have e2 : IntKind.u64.wrap (((q + 1 : Nat) : Int) - 1) = (q : Int) := by rw [show (((q + 1 : Nat) : Int) - 1) = (q : Int) by omega]; exact wrapc _ (by omega)
    by_cases hb : 4294967296 ≤ rh + y1
    · have hq : q = Q := by
        have := hQ1 q (by rw [hy]; exact dig_lo (d := d) hy0 h1 h3 hb)
        omega
      subst hq
      refine Ev.step (fun k => ?_) (Ev.now r)
      simp only [bits_Div64.j4]
      rw [if_pos trivial, e1, e2, if_pos (show ((rh + y1 : Nat) : Int) ≥ 4294967296 by omega), if_pos h8, hf]
    · refine Ev.step (fun k => ?_) (ih (rh + y1) (by rw [Nat.succ_mul] at h1; omega) (by omega) (by omega) (by omega))
      simp only [bits_Div64.j4]
      rw [if_pos trivial, e1, e2, if_neg (show ¬ ((rh + y1 : Nat) : Int) ≥ 4294967296 by omega)]
  have stay : ∀ rh : Nat, Ev (fun k => bits_Div64.j4 k x2 x8 y1 y0 d x15 rh x17 Q false) r := fun rh => Ev.step (fun k => by simp only [bits_Div64.j4]; rw [if_neg (by simp), if_pos h8, hf]) (Ev.now r)
  intro q
  induction q with
  | zero =>
    intro rh h1 h2 h3 h4
    obtain rfl : Q = 0 := by omega
    refine Ev.step (fun k => ?_) (stay rh)
    simp only [bits_Div64.l1]
    rw [if_neg (by omega)]
    congr 1
    rw [decide_eq_false_iff_not, Int.natCast_zero, Int.zero_mul]
    have : (0 : Int) ≤ IntKind.u64.wrap (IntKind.u64.wrap (4294967296 * (rh : Int)) + (d : Int)) := by rw [IntKind.wrap_u64]; omega
    have e : IntKind.u64.wrap 0 = 0 := rfl
    omega
  | succ q ih =>
    intro rh h1 h2 h3 h4
    by_cases hq : 4294967296 ≤ q + 1
    · refine Ev.step (fun k => ?_) (down q rh ih h1 (by omega) (by omega) h4)
      simp only [bits_Div64.l1]
      rw [if_pos (by omega)]
    · have hm : (q + 1) * y0 ≤ 4294967295 * 4294967295 := Nat.mul_le_mul (by omega) (by omega)
      have e1 : IntKind.u64.wrap (((q + 1 : Nat) : Int) * (y0 : Int)) = (((q + 1) * y0 : Nat) : Int) := by rw [← Int.natCast_mul]; exact wrapc _ (by omega)
      have e2 : IntKind.u64.wrap (4294967296 * (rh : Int)) = ((4294967296 * rh : Nat) : Int) := by rw [show (4294967296 * (rh : Int)) = ((4294967296 * rh : Nat) : Int) by omega]; exact wrapc _ (by omega)
      have e3 : IntKind.u64.wrap (((4294967296 * rh : Nat) : Int) + (d : Int)) = ((4294967296 * rh + d : Nat) : Int) := by rw [← Int.natCast_add]; exact wrapc _ (by omega)
      by_cases ht : 4294967296 * rh + d < (q + 1) * y0
      · refine Ev.step (fun k => ?_) (down q rh ih h1 (hQ2 _ (by rw [hy]; exact dig_gt h1 ht)) (by omega) h4)
        simp only [bits_Div64.l1]
        rw [if_neg (by omega), e1, e2, e3]
        congr 1
        rw [decide_eq_true_eq]
        exact Int.ofNat_lt.2 ht
      · have hQq : Q = q + 1 := by
          have := hQ1 (q + 1) (by rw [hy]; exact dig_le h1 (Nat.le_of_not_lt ht))
          omega
        subst hQq
        refine Ev.step (fun k => ?_) (stay rh)
        simp only [bits_Div64.l1]
        rw [if_neg (by omega), e1, e2, e3]
        congr 1
        rw [decide_eq_false_iff_not]
        exact fun h => ht (Int.ofNat_lt.1 h)

theorem un_eq {hi lo s : Nat} (hs : s ≤ 64) (hlo : lo < 18446744073709551616) : (hi * 18446744073709551616 + lo) * 2 ^ s = (hi * 2 ^ s + lo / 2 ^ (64 - s)) * 18446744073709551616 + lo * 2 ^ s % 18446744073709551616 ∧ lo / 2 ^ (64 - s) < 2 ^ s := by
  have hR : 2 ^ s * 2 ^ (64 - s) = 18446744073709551616 := by rw [← Nat.pow_add, show s + (64 - s) = 64 by omega]
  have hP : 0 < 2 ^ s := Nat.two_pow_pos s
  have hR0 : 0 < 2 ^ (64 - s) := Nat.two_pow_pos _
  generalize 2 ^ s = P at *
  generalize 2 ^ (64 - s) = R at *
  have h1 := Nat.div_add_mod' lo R
  have h2 := Nat.mod_lt lo hR0
  have h3 : lo * P = lo / R * 18446744073709551616 + lo % R * P := by
    conv => lhs; rw [← h1]
    rw [Nat.add_mul, Nat.mul_assoc, Nat.mul_comm R P, hR]
  have h4 : lo % R * P < 18446744073709551616 := by
    rw [← hR, Nat.mul_comm P R]
    exact Nat.mul_lt_mul_of_pos_right h2 hP
  constructor
  · rw [Nat.add_mul, Nat.add_mul, h3, show hi * 18446744073709551616 * P = hi * P * 18446744073709551616 by rw [Nat.mul_right_comm]]
    omega
  · exact Nat.div_lt_of_lt_mul (by rw [Nat.mul_comm, hR]; exact hlo)
theorem two_digits (N e y : Nat) (hy : 0 < y) : (N * 4294967296 + e) / y = N / y * 4294967296 + (N % y * 4294967296 + e) / y ∧ (N * 4294967296 + e) % y = (N % y * 4294967296 + e) % y := by
  have h : N * 4294967296 + e = N % y * 4294967296 + e + N / y * 4294967296 * y := by
    conv => lhs; rw [← Nat.div_add_mod' N y]
    rw [Nat.add_mul, Nat.mul_right_comm]
    omega
  rw [h, Nat.add_mul_div_right _ _ hy, Nat.add_mul_mod_self_right]
  exact ⟨Nat.add_comm .., rfl⟩
theorem wrap_mod (x : Int) : IntKind.u64.wrap x = x % 18446744073709551616 := IntKind.wrap_u64 x
theorem maskN (a : Nat) (ha : a < 18446744073709551616) : Go.bits .and .u64 (a : Int) 4294967295 = ((a % 4294967296 : Nat) : Int) := by
  have h := bits_and_u64_nat a 4294967295 ha (by omega)
  have e : a &&& 4294967295 = a % 4294967296 := Nat.and_two_pow_sub_one_eq_mod a 32
  rw [e] at h
  exact h
theorem shlN (a s : Nat) (hs : s ≤ 64) : shl .u64 (a : Int) (s : Int) = ((a * 2 ^ s % 18446744073709551616 : Nat) : Int) := by
  unfold shl
  rw [Int.toNat_natCast, show min s (IntKind.u64.bits) = s from Nat.min_eq_left hs, wrap_mod]
  rw [show ((a : Int) * 2 ^ s) = ((a * 2 ^ s : Nat) : Int) by rw [Int.natCast_mul, Int.natCast_pow]; rfl]
  omega
theorem shrN (a s : Nat) (hs : s ≤ 64) : shr .u64 (a : Int) (s : Int) = ((a / 2 ^ s : Nat) : Int) := by
  unfold shr
  rw [Int.toNat_natCast, show min s (IntKind.u64.bits) = s from Nat.min_eq_left hs, Int.natCast_ediv, Int.natCast_pow]
  rfl
theorem join64 (u z : Nat) : u * 18446744073709551616 + z = (u * 4294967296 + z / 4294967296) * 4294967296 + z % 4294967296 := by omega
theorem rem_wrap (u d q y v : Nat) (h : q * y + v = u * 4294967296 + d) (hv : v < 18446744073709551616) :
    IntKind.u64.wrap ((IntKind.u64.wrap ((IntKind.u64.wrap ((u : Int) * 4294967296)) + (d : Int))) - (IntKind.u64.wrap ((q : Int) * (y : Int)))) = (v : Int) := by
  rw [← Int.natCast_mul]
  generalize q * y = p at h ⊢
  simp only [wrap_mod]
  omega
theorem guess {v y1 : Nat} (hv : v < 18446744073709551616) (hy : 0 < y1) : IntKind.u64.wrap (Int.tdiv (v : Int) (y1 : Int)) = ((v / y1 : Nat) : Int) ∧ IntKind.u64.wrap ((v : Int) - (IntKind.u64.wrap (((v / y1 : Nat) : Int) * (y1 : Int)))) = ((v % y1 : Nat) : Int) := by
  have h1 := Nat.div_add_mod' v y1
  have h2 : v / y1 ≤ v := Nat.div_le_self _ _
  refine ⟨by rw [Int.tdiv_eq_ediv_of_nonneg (by omega), ← Int.natCast_ediv]; exact wrapc _ (by omega), ?_⟩
  rw [← Int.natCast_mul]
  generalize v / y1 * y1 = p at h1 ⊢
  generalize v % y1 = m at h1 ⊢
  rw [wrapc _ (by omega), show ((v : Int) - (p : Int)) = (m : Int) by omega]
  exact wrapc _ (by omega)
theorem firsts {y y1 y0 v d : Nat} (hyy : y = y1 * 4294967296 + y0) (hy1 : 2147483648 ≤ y1) (hy0 : y0 < 4294967296) (hy1' : y1 < 4294967296) (hv : v < y) (hd : d < 4294967296) :
    v / y1 ≤ 4294967297 ∧ (v * 4294967296 + d) / y ≤ v / y1 ∧ v / y1 * y1 + v % y1 = v ∧ v % y1 < 4294967296 ∧ (v * 4294967296 + d) / y < 4294967296 := by
  have h1 := Nat.div_add_mod' v y1
  have h2 := Nat.mod_lt v (show 0 < y1 by omega)
  refine ⟨?_, ?_, h1, by omega, div_lt_of (by omega) (by omega)⟩
  · have : v / y1 < 4294967298 := div_lt_of (by omega) (by omega)
    omega
  · have : (v * 4294967296 + d) / y < v / y1 + 1 := by
      refine div_lt_of (by omega) ?_
      rw [hyy, dig_exp, Nat.succ_mul, Nat.succ_mul]
      generalize v / y1 * y1 = p at *
      generalize v / y1 * y0 = p2 at *
      omega
    omega
set_option maxRecDepth 100000 in
theorem div_tail (u z1 z0 y1 y0 y s : Nat) (hs : s ≤ 64) (hyy : y = y1 * 4294967296 + y0) (hy1 : 2147483648 ≤ y1) (hy0 : y0 < 4294967296) (hy1' : y1 < 4294967296) (hu : u < y) (hz1 : z1 < 4294967296) (hz0 : z0 < 4294967296) :
    Ev (fun k => bits_Div64.l0 k y s y1 y0 u z1 z0 (u / y1 : Nat) (u % y1 : Nat)) ((((u * 4294967296 + z1) * 4294967296 + z0) / y : Nat), (((u * 4294967296 + z1) * 4294967296 + z0) % y / 2 ^ s : Nat)) := by
  have hypos : 0 < y := by omega
  have hy64 : y < 18446744073709551616 := by omega
  obtain ⟨q1, hq1⟩ : ∃ q1, q1 = (u * 4294967296 + z1) / y := ⟨_, rfl⟩
  obtain ⟨v, hv⟩ : ∃ v, v = (u * 4294967296 + z1) % y := ⟨_, rfl⟩
  obtain ⟨q0, hq0⟩ : ∃ q0, q0 = (v * 4294967296 + z0) / y := ⟨_, rfl⟩
  obtain ⟨m, hm⟩ : ∃ m, m = (v * 4294967296 + z0) % y := ⟨_, rfl⟩
  have hV : v < y := by rw [hv]; exact Nat.mod_lt _ hypos
  have hM : m < y := by rw [hm]; exact Nat.mod_lt _ hypos
  have hN : q1 * y + v = u * 4294967296 + z1 := by rw [hq1, hv]; exact Nat.div_add_mod' _ _
  have hN' : q0 * y + m = v * 4294967296 + z0 := by rw [hq0, hm]; exact Nat.div_add_mod' _ _
  obtain ⟨f1, f2, f3, f4, f5⟩ := firsts hyy hy1 hy0 hy1' hu hz1
  obtain ⟨f1', f2', f3', f4', f5'⟩ := firsts hyy hy1 hy0 hy1' hV hz0
  have g5 : q1 < 4294967296 := by rw [hq1]; exact f5
  have g5' : q0 < 4294967296 := by rw [hq0]; exact f5'
  have e0 : ((u * 4294967296 + z1) * 4294967296 + z0) / y = q1 * 4294967296 + q0 := by rw [hq0, hv, hq1]; exact (two_digits _ z0 y hypos).1
  have e1 : ((u * 4294967296 + z1) * 4294967296 + z0) % y = m := by rw [hm, hv]; exact (two_digits _ z0 y hypos).2
  rw [e0, e1]
  obtain ⟨g3, g4⟩ := guess (v := v) (y1 := y1) (Nat.lt_trans hV hy64) (by omega)
  refine l0_ev _ _ _ y1 y0 u z1 y q1 hyy hy1' hy0 hz1 (fun x hx => by rw [hq1]; exact le_div_of hypos hx) (fun x hx => by rw [hq1]; exact div_lt_of hypos hx) g5 _ ?_ (u / y1) (u % y1) f3 (by rw [hq1]; exact f2) f1 f4
  refine Ev.step (f := fun k => bits_Div64.l1 k y s y1 y0 z0 q1 (v % y1 : Nat) v (v / y1 : Nat)) (fun k => ?_) ?_
  · simp only [bits_Div64.j2]
    rw [if_neg (by omega), rem_wrap u z1 q1 y v hN (Nat.lt_trans hV hy64), g3, g4]
  · refine l1_ev _ _ _ _ (by omega) y1 y0 v z0 y q0 hyy hy1' hy0 hz0 (fun x hx => by rw [hq0]; exact le_div_of hypos hx) (fun x hx => by rw [hq0]; exact div_lt_of hypos hx) g5' _ ?_ (v / y1) (v % y1) f3' (by rw [hq0]; exact f2') f1' f4'
    rw [rem_wrap v z0 q0 y m hN' (Nat.lt_trans hM hy64), shrN _ s hs]
    have e : IntKind.u64.wrap (IntKind.u64.wrap ((q1 : Int) * 4294967296) + (q0 : Int)) = ((q1 * 4294967296 + q0 : Nat) : Int) := by
      rw [show ((q1 : Int) * 4294967296) = ((q1 * 4294967296 : Nat) : Int) by omega, wrapc _ (by omega), ← Int.natCast_add]
      exact wrapc _ (by omega)
    rw [e]
set_option maxRecDepth 100000 in
set_option maxHeartbeats 1000000 in
theorem div64_ev (hi lo Y : Nat) (h : hi < Y) (hY : Y < 18446744073709551616) (hlo : lo < 18446744073709551616) :
    Ev (fun k => bits_Div64.f k hi lo Y) (((hi * 18446744073709551616 + lo) / Y : Nat), ((hi * 18446744073709551616 + lo) % Y : Nat)) := by
  have n1 : ¬ ((Y : Int) = 0) := by omega
  have n2 : ¬ ((Y : Int) ≤ (hi : Int)) := by omega
  by_cases h0 : hi = 0
  · subst h0
    refine Ev.congr (fun k => ?_) (Ev.now _)
    unfold bits_Div64.f
    rw [if_neg n1, if_neg n2, if_pos (by omega)]
    rw [Nat.zero_mul, Nat.zero_add, Int.tdiv_eq_ediv_of_nonneg (by omega), Int.tmod_eq_emod_of_nonneg (by omega), ← Int.natCast_ediv, ← Int.natCast_emod]
    have : lo / Y < 18446744073709551616 := Nat.lt_of_le_of_lt (Nat.div_le_self _ _) hlo
    rw [wrapc _ this]
  · have hb := Lib.bitLenAux_bounds 64 Y hY (by omega)
    have hbl : Lib.bitLen Y ≤ 64 := Lib.bitLen_le Y 64 (by omega) hY
    have hb1 : 1 ≤ Lib.bitLen Y := hb.1
    obtain ⟨s, hs⟩ : ∃ s : Nat, s = 64 - Lib.bitLen Y := ⟨_, rfl⟩
    have hz : bits_LeadingZeros64.f (Y : Int) = some (s : Int) := by
      unfold bits_LeadingZeros64.f
      rw [if_pos ⟨by omega, by omega⟩, Int.toNat_natCast]
      congr 1
      omega
    have hPb : 2 ^ s * 2 ^ Lib.bitLen Y = 18446744073709551616 := by rw [← Nat.pow_add, show s + Lib.bitLen Y = 64 by omega]
    have hPb' : 2 ^ s * 2 ^ (Lib.bitLen Y - 1) = 9223372036854775808 := by rw [← Nat.pow_add, show s + (Lib.bitLen Y - 1) = 63 by omega]
    have hP : 0 < 2 ^ s := Nat.two_pow_pos s
    have hy1 : 9223372036854775808 ≤ Y * 2 ^ s := by rw [← hPb', Nat.mul_comm Y]; exact Nat.mul_le_mul_left _ hb.2.1
    have hy2 : Y * 2 ^ s < 18446744073709551616 := by rw [← hPb, Nat.mul_comm Y]; exact Nat.mul_lt_mul_of_pos_left hb.2.2 hP
    have hhi : hi * 2 ^ s < 18446744073709551616 := Nat.lt_of_le_of_lt (Nat.mul_le_mul_right _ (Nat.le_of_lt h)) hy2
    have hs64 : s ≤ 64 := by omega
    clear hb hPb hPb'
    obtain ⟨hX, hr⟩ := un_eq (hi := hi) (lo := lo) (s := s) hs64 hlo
    have hor : hi * 2 ^ s ||| lo / 2 ^ (64 - s) = hi * 2 ^ s + lo / 2 ^ (64 - s) := by
      have := Nat.shiftLeft_add_eq_or_of_lt hr hi
      rw [Nat.shiftLeft_eq] at this
      exact this.symm
    have hu : hi * 2 ^ s + lo / 2 ^ (64 - s) < Y * 2 ^ s := by
      have : (hi + 1) * 2 ^ s ≤ Y * 2 ^ s := Nat.mul_le_mul_right _ h
      rw [Nat.succ_mul] at this
      omega
    have hdiv : (hi * 18446744073709551616 + lo) / Y = (hi * 18446744073709551616 + lo) * 2 ^ s / (Y * 2 ^ s) := (Nat.mul_div_mul_right _ _ hP).symm
    have hmod : (hi * 18446744073709551616 + lo) % Y = (hi * 18446744073709551616 + lo) * 2 ^ s % (Y * 2 ^ s) / 2 ^ s := by rw [Nat.mul_mod_mul_right, Nat.mul_div_cancel _ hP]
    have w1 : IntKind.u64.wrap (s : Int) = (s : Int) := wrapc s (by omega)
    have w2 : IntKind.u64.wrap (64 - (s : Int)) = ((64 - s : Nat) : Int) := by rw [show (64 - (s : Int)) = ((64 - s : Nat) : Int) by omega]; exact wrapc _ (by omega)
    have m1 : Y * 2 ^ s % 18446744073709551616 = Y * 2 ^ s := Nat.mod_eq_of_lt hy2
    have m2 : hi * 2 ^ s % 18446744073709551616 = hi * 2 ^ s := Nat.mod_eq_of_lt hhi
    have bor : Go.bits .or .u64 ((hi * 2 ^ s : Nat) : Int) ((lo / 2 ^ (64 - s) : Nat) : Int) = ((hi * 2 ^ s + lo / 2 ^ (64 - s) : Nat) : Int) := by
      rw [bits_or_u64_nat _ _ hhi (Nat.lt_of_le_of_lt (Nat.div_le_self _ _) hlo), hor]
    rw [hdiv, hmod, hX, join64]
    have hun : lo * 2 ^ s % 18446744073709551616 < 18446744073709551616 := Nat.mod_lt _ (by omega)
    have sy := shlN Y s hs64
    have sh := shlN hi s hs64
    have sl := shlN lo s hs64
    have sr := shrN lo (64 - s) (by omega)
    rw [m1] at sy
    rw [m2] at sh
    have hs0 : (0 : Int) ≤ (s : Int) := by omega
    have hs1 : (0 : Int) ≤ ((64 - s : Nat) : Int) := by omega
    clear hX hdiv hmod hor m1 m2 hr
    generalize hi * 2 ^ s + lo / 2 ^ (64 - s) = u at *
    generalize lo * 2 ^ s % 18446744073709551616 = z at *
    generalize Y * 2 ^ s = y at *
    have c1 : ((y : Nat) : Int) / 4294967296 = ((y / 4294967296 : Nat) : Int) := by omega
    have c2 : ((z : Nat) : Int) / 4294967296 = ((z / 4294967296 : Nat) : Int) := by omega
    have k1 := maskN y hy2
    have k2 := maskN z hun
    obtain ⟨g1, g2⟩ := guess (v := u) (y1 := y / 4294967296) (by omega) (by omega)
    refine Ev.congr (fun k => ?_) (div_tail u (z / 4294967296) (z % 4294967296) (y / 4294967296) (y % 4294967296) y s hs64 (by omega) (by omega) (by omega) (by omega) hu (by omega) (by omega))
    unfold bits_Div64.f
    rw [if_neg n1, if_neg n2, if_neg (by omega), hz]
    simp only [Option.bind_some]
    rw [w1, w2, if_pos hs0, if_pos hs1, sy, sh, sl, sr, bor, c1, c2, if_neg (by omega), k1, k2, g1, g2]
end Go.Proofs.Ytcncjldggfbjdaa.E
