/-
  Blocks in the order: what the stable sort keeps from round to round.
-/
import Derived.Test.YtcncjldggfbjdaaO4
set_option linter.unusedVariables false
namespace Go.Proofs.Ytcncjldggfbjdaa.O
/-- Each element is an index of its own block, from place a on. -/
def Blk (n s a : Nat) (ys : List Int) : Prop := ∀ p, a ≤ p → p < n → ∃ j, j < n ∧ ys.getD p 0 = ((j : Nat) : Int) ∧ j / s = p / s
/-- The blocks are in the order, from place a to place e. -/
def SB (r : List Int) (s a e : Nat) (ys : List Int) : Prop := ∀ p q, a ≤ p → p < q → q < e → p / s = q / s → lt r (ys.getD p 0) (ys.getD q 0) = true
theorem div_block {s c p : Nat} (hs : 0 < s) (h1 : c * s ≤ p) (h2 : p < c * s + s) : p / s = c := by
  apply Nat.div_eq_of_lt_le h1
  rw [Nat.succ_mul]; exact h2
theorem block_div {s c p : Nat} (hs : 0 < s) (h : p / s = c) : c * s ≤ p ∧ p < c * s + s := by
  have := Nat.div_add_mod p s
  have h2 := Nat.mod_lt p hs
  rw [h, Nat.mul_comm] at this
  omega
theorem Blk.id {n s : Nat} {ys : List Int} (h : ∀ k, k < n → ys.getD k 0 = k) : Blk n s 0 ys := fun p _ h2 => ⟨p, h2, h p h2, rfl⟩
theorem Blk.num {n s : Nat} {ys : List Int} (h : Blk n s 0 ys) : Num n ys := fun k hk => by
  obtain ⟨j, h1, h2, _⟩ := h k (Nat.zero_le _) hk
  exact ⟨j, h1, h2⟩
theorem Blk.mono {n s a b : Nat} {ys : List Int} (h : Blk n s a ys) (hab : a ≤ b) : Blk n s b ys := fun p h1 h2 => h p (by omega) h2
theorem Blk.twice {n s a : Nat} {ys : List Int} (h : Blk n s a ys) : Blk n (2 * s) a ys := fun p h1 h2 => by
  obtain ⟨j, h3, h4, h5⟩ := h p h1 h2
  refine ⟨j, h3, h4, ?_⟩
  rw [Nat.mul_comm, ← Nat.div_div_eq_div_mul, ← Nat.div_div_eq_div_mul, h5]
/-- Exchanges inside of one block keep every element in its block. -/
theorem Blk.swaps {n s a c e : Nat} {xs ys : List Int} (h : Blk n s a xs) (hs : 0 < s) (hac : a ≤ c * s) (he : e ≤ c * s + s) (hen : e ≤ n) (hw : Swaps (c * s) e xs ys) : Blk n s a ys := fun p h1 h2 => by
  by_cases hp : c * s ≤ p ∧ p < e
  · obtain ⟨m, m1, m2, m3⟩ := hw.inside p hp.1 hp.2
    obtain ⟨j, h3, h4, h5⟩ := h m (by omega) (by omega)
    refine ⟨j, h3, m3.trans h4, ?_⟩
    rw [h5, div_block hs m1 (by omega), div_block hs hp.1 (by omega)]
  · obtain ⟨j, h3, h4, h5⟩ := h p h1 h2
    exact ⟨j, h3, (hw.outside p (by omega)).trans h4, h5⟩
theorem SB.swaps {r : List Int} {s a e c d : Nat} {xs ys : List Int} (h : SB r s a e xs) (hw : Swaps c d xs ys) (hd : d ≤ a ∨ e ≤ c) : SB r s a e ys := fun p q h1 h2 h3 h4 => by
  rw [hw.outside p (by omega), hw.outside q (by omega)]; exact h p q h1 h2 h3 h4
/-- One block more is in the order. -/
theorem SB.more {r : List Int} {s c e : Nat} {xs ys : List Int} (hs : 0 < s) (h : SB r s 0 (c * s) xs) (hw : Swaps (c * s) e xs ys) (he : e ≤ c * s + s) (so : Sorted r ys (c * s) e) : SB r s 0 e ys := fun p q h1 h2 h3 h4 => by
  by_cases hq : q < c * s
  · rw [hw.outside p (by omega), hw.outside q (by omega)]; exact h p q h1 h2 hq h4
  · have e1 := div_block (s := s) (c := c) (p := q) hs (by omega) (by omega)
    have e2 := block_div hs (h4.trans e1)
    exact so p q e2.1 h2 h3
/-- Two blocks that follow one another. -/
theorem two_of {r ys : List Int} {n s a c e b : Nat} (hs : 0 < s) (ha : a = c * s) (hb : b = a + s) (hbe : b ≤ e) (he : e ≤ b + s) (hen : e ≤ n) (hl : Blk n s a ys) (hsb : SB r s a n ys) : Two r ys a b e := by
  have hcs : (c + 1) * s = c * s + s := Nat.succ_mul c s
  have d1 : ∀ p, a ≤ p → p < b → p / s = c := fun p h1 h2 => div_block hs (by omega) (by omega)
  have d2 : ∀ p, b ≤ p → p < e → p / s = c + 1 := fun p h1 h2 => div_block hs (by omega) (by omega)
  refine ⟨fun p q h1 h2 h3 => hsb p q h1 h2 (by omega) ?_, fun p q h1 h2 h3 => hsb p q (by omega) h2 (by omega) ?_, fun p q h1 h2 h3 h4 => ?_⟩
  · rw [d1 p h1 (by omega), d1 q (by omega) h3]
  · rw [d2 p h1 (by omega), d2 q (by omega) h3]
  · obtain ⟨i, i1, i2, i3⟩ := hl p h1 (by omega)
    obtain ⟨j, j1, j2, j3⟩ := hl q (by omega) (by omega)
    rw [i2, j2]
    rw [d1 p h1 h2] at i3
    rw [d2 q h3 h4] at j3
    have g1 := block_div hs i3
    have g2 := block_div hs j3
    omega
theorem SB.all {r ys : List Int} {n s : Nat} (h : SB r s 0 n ys) (hn : n ≤ s) : Sorted r ys 0 n := fun p q h1 h2 h3 => h p q h1 h2 h3 (by rw [Nat.div_eq_of_lt (by omega), Nat.div_eq_of_lt (by omega)])
end Go.Proofs.Ytcncjldggfbjdaa.O
