/-
  Merging in place, in plain terms: exchange of two runs, rotation, and what the search for the cut gives.
-/
import Derived.Test.YtcncjldggfbjdaaO1
set_option linter.unusedVariables false
namespace Go.Proofs.Ytcncjldggfbjdaa.O

/-- Two runs of m elements, at a and at b, are exchanged. -/
def Exch (a b m : Nat) (xs ys : List Int) : Prop := ∀ k, ys.getD k 0 = if a ≤ k ∧ k < a + m then xs.getD (k + (b - a)) 0 else if b ≤ k ∧ k < b + m then xs.getD (k - (b - a)) 0 else xs.getD k 0
theorem Exch.zero (a b : Nat) (xs : List Int) : Exch a b 0 xs xs := fun k => by rw [if_neg (by omega), if_neg (by omega)]
theorem Exch.step {a b m : Nat} {xs ys : List Int} (h : Exch a b m xs ys) (hab : a + m < b) (hb : b + m < ys.length) : Exch a b (m + 1) xs (swap ys (a + m) (b + m)) := by
  intro k
  rw [swap_at _ _ _ _ (by omega) hb]
  have h1 := h (a + m); have h2 := h (b + m)
  rw [if_neg (by omega), if_neg (by omega)] at h1 h2
  by_cases e1 : k = b + m
  · subst e1
    rw [if_pos rfl, if_neg (by omega), if_pos (by omega), h1]
    congr 1 <;> omega
  · rw [if_neg e1]
    by_cases e2 : k = a + m
    · subst e2
      rw [if_pos rfl, if_pos (by omega), h2]
      congr 1 <;> omega
    · rw [if_neg e2, h k]
      by_cases e3 : a ≤ k ∧ k < a + m
      · rw [if_pos e3, if_pos (by omega)]
      · by_cases e4 : b ≤ k ∧ k < b + m
        · rw [if_neg e3, if_pos e4, if_neg (by omega), if_pos (by omega)]
        · rw [if_neg e3, if_neg e4, if_neg (by omega), if_neg (by omega)]
/-- The runs [a, m) and [m, b) change places. -/
def Rot (a m b : Nat) (xs ys : List Int) : Prop := ∀ k, ys.getD k 0 = if a ≤ k ∧ k < a + (b - m) then xs.getD (k + (m - a)) 0 else if a + (b - m) ≤ k ∧ k < b then xs.getD (k - (b - m)) 0 else xs.getD k 0
theorem Rot.left (m b : Nat) (xs : List Int) : Rot m m b xs xs := fun k => by
  by_cases h1 : m ≤ k ∧ k < m + (b - m)
  · rw [if_pos h1]; congr 1 <;> omega
  · rw [if_neg h1, if_neg (by omega)]
theorem Rot.right (a m : Nat) (xs : List Int) : Rot a m m xs xs := fun k => by
  rw [if_neg (by omega)]
  by_cases h1 : a + (m - m) ≤ k ∧ k < m
  · rw [if_pos h1]; congr 1 <;> omega
  · rw [if_neg h1]
theorem Rot.less {m i j : Nat} {xs ys zs : List Int} (hij : j < i) (him : i ≤ m) (h : Exch (m - i) m j xs ys) (h2 : Rot (m - (i - j)) m (m + j) ys zs) : Rot (m - i) m (m + j) xs zs := by
  intro k
  rw [h2 k]
  by_cases h3 : m - i ≤ k ∧ k < m - i + (m + j - m)
  · rw [if_pos h3, if_neg (by omega), if_neg (by omega), h k, if_pos (by omega)]
  · rw [if_neg h3]
    by_cases h4 : m - i + (m + j - m) ≤ k ∧ k < m + j
    · rw [if_pos h4]
      by_cases h5 : m - (i - j) ≤ k ∧ k < m - (i - j) + (m + j - m)
      · rw [if_pos h5, h, if_neg (by omega), if_pos (by omega)]
        congr 1 <;> omega
      · rw [if_neg h5, if_pos (by omega), h, if_neg (by omega), if_neg (by omega)]
    · rw [if_neg h4, if_neg (by omega), if_neg (by omega), h k, if_neg (by omega), if_neg (by omega)]
theorem Rot.more {m i j : Nat} {xs ys zs : List Int} (hij : i < j) (him : i ≤ m) (h : Exch (m - i) (m + j - i) i xs ys) (h2 : Rot (m - i) m (m + (j - i)) ys zs) : Rot (m - i) m (m + j) xs zs := by
  intro k
  rw [h2 k]
  by_cases h3 : m - i ≤ k ∧ k < m - i + (m + j - m)
  · rw [if_pos h3]
    by_cases h4 : m - i ≤ k ∧ k < m - i + (m + (j - i) - m)
    · rw [if_pos h4, h, if_neg (by omega), if_neg (by omega)]
    · rw [if_neg h4]
      by_cases h5 : m - i + (m + (j - i) - m) ≤ k ∧ k < m + (j - i)
      · rw [if_pos h5, h, if_pos (by omega)]
        congr 1 <;> omega
      · exfalso; omega
  · rw [if_neg h3, if_neg (by omega)]
    by_cases h4 : m - i + (m + j - m) ≤ k ∧ k < m + j
    · rw [if_pos h4, if_neg (by omega), h, if_neg (by omega), if_pos (by omega)]
      congr 1 <;> omega
    · rw [if_neg h4, if_neg (by omega), h, if_neg (by omega), if_neg (by omega)]
theorem Rot.same {m i : Nat} {xs zs : List Int} (him : i ≤ m) (h : Exch (m - i) m i xs zs) : Rot (m - i) m (m + i) xs zs := by
  intro k
  rw [h k]
  by_cases h3 : m - i ≤ k ∧ k < m - i + i
  · rw [if_pos h3, if_pos (by omega)]
  · by_cases h4 : m ≤ k ∧ k < m + i
    · rw [if_neg h3, if_pos h4, if_neg (by omega), if_pos (by omega)]
      congr 1 <;> omega
    · rw [if_neg h3, if_neg h4, if_neg (by omega), if_neg (by omega)]
/-- One element goes up by one place more. -/
theorem Rot.up {a k : Nat} {xs zs : List Int} (hk : a ≤ k) (hl : k + 1 < zs.length) (h : Rot a (a + 1) (k + 1) xs zs) : Rot a (a + 1) (k + 2) xs (swap zs k (k + 1)) := by
  intro p
  rw [swap_at _ _ _ _ (by omega) hl]
  by_cases e1 : p = k + 1
  · subst e1
    rw [if_pos rfl, if_neg (by omega), if_pos (by omega), h k, if_neg (by omega), if_pos (by omega)]
    congr 1 <;> omega
  · rw [if_neg e1]
    by_cases e2 : p = k
    · subst e2
      rw [if_pos rfl, if_pos (by omega), h (p + 1), if_neg (by omega), if_neg (by omega)]
      congr 1 <;> omega
    · rw [if_neg e2, h p]
      by_cases e3 : a ≤ p ∧ p < a + (k + 1 - (a + 1))
      · rw [if_pos e3, if_pos (by omega)]
      · rw [if_neg e3, if_neg (by omega), if_neg (by omega), if_neg (by omega)]
/-- One element goes down by one place more. -/
theorem Rot.down {m k : Nat} {xs zs : List Int} (hk : k + 1 ≤ m) (hl : m < zs.length) (h : Rot (k + 1) m (m + 1) xs zs) : Rot k m (m + 1) xs (swap zs (k + 1) k) := by
  intro p
  rw [swap_at _ _ _ _ (by omega) (by omega)]
  by_cases e1 : p = k
  · subst e1
    rw [if_pos rfl, if_pos (by omega), h (p + 1), if_pos (by omega)]
    congr 1 <;> omega
  · rw [if_neg e1]
    by_cases e2 : p = k + 1
    · subst e2
      rw [if_pos rfl, if_neg (by omega), if_pos (by omega), h k, if_neg (by omega), if_neg (by omega)]
      congr 1 <;> omega
    · rw [if_neg e2, h p]
      by_cases e3 : k + 1 + (m + 1 - m) ≤ p ∧ p < m + 1
      · rw [if_neg (by omega), if_pos e3, if_neg (by omega), if_pos (by omega)]
      · rw [if_neg (by omega), if_neg e3, if_neg (by omega), if_neg (by omega)]
/-- Two runs, each in the order, and all indices of the left one smaller. -/
structure Two (r ys : List Int) (a m b : Nat) : Prop where
  sl : Sorted r ys a m
  sr : Sorted r ys m b
  ix : ∀ p q, a ≤ p → p < m → m ≤ q → q < b → ys.getD p 0 < ys.getD q 0
theorem Sorted.le {r ys : List Int} {a b : Nat} (h : Sorted r ys a b) (p q : Nat) (h1 : a ≤ p) (h2 : p ≤ q) (h3 : q < b) : ys.getD p 0 = ys.getD q 0 ∨ lt r (ys.getD p 0) (ys.getD q 0) = true := by
  by_cases e : p = q
  · subst e; exact .inl rfl
  · exact .inr (h p q h1 (by omega) h3)
theorem le_lt {r : List Int} {x y z : Int} (h : x = y ∨ lt r x y = true) (h2 : lt r y z = true) : lt r x z = true := by
  rcases h with rfl | h
  · exact h2
  · exact lt_trans h h2
theorem lt_le {r : List Int} {x y z : Int} (h : lt r x y = true) (h2 : y = z ∨ lt r y z = true) : lt r x z = true := by
  rcases h2 with rfl | h2
  · exact h
  · exact lt_trans h h2
/-- What the cut (s, e) gives. -/
structure Cut (r zs : List Int) (a s mid e b : Nat) : Prop where
  cross : ∀ p q, a ≤ p → p < mid → mid ≤ q → q < b → lt r (zs.getD p 0) (zs.getD q 0) = true
  left : Two r zs a s mid
  right : Two r zs mid e b
theorem cut {r ys zs : List Int} {a s m e b : Nat} (t : Two r ys a m b) (has : a ≤ s) (hsm : s ≤ m) (hme : m ≤ e) (heb : e ≤ b)
    (h1 : s = a ∨ e = b ∨ lt r (ys.getD (s - 1) 0) (ys.getD e 0) = true) (h2 : s = m ∨ m = e ∨ lt r (ys.getD (e - 1) 0) (ys.getD s 0) = true) (h : Rot s m e ys zs) : Cut r zs a s (s + (e - m)) e b := by
  have g1 : ∀ k, k < s → zs.getD k 0 = ys.getD k 0 := fun k hk => by rw [h k, if_neg (by omega), if_neg (by omega)]
  have g2 : ∀ k, s ≤ k → k < s + (e - m) → zs.getD k 0 = ys.getD (k + (m - s)) 0 := fun k hk hk2 => by rw [h k, if_pos (by omega)]
  have g3 : ∀ k, s + (e - m) ≤ k → k < e → zs.getD k 0 = ys.getD (k - (e - m)) 0 := fun k hk hk2 => by rw [h k, if_neg (by omega), if_pos (by omega)]
  have g4 : ∀ k, e ≤ k → zs.getD k 0 = ys.getD k 0 := fun k hk => by rw [h k, if_neg (by omega), if_neg (by omega)]
  refine ⟨fun p q p1 p2 p3 p4 => ?_, ⟨fun p q p1 p2 p3 => ?_, fun p q p1 p2 p3 => ?_, fun p q p1 p2 p3 p4 => ?_⟩, ⟨fun p q p1 p2 p3 => ?_, fun p q p1 p2 p3 => ?_, fun p q p1 p2 p3 p4 => ?_⟩⟩
  · by_cases e1 : p < s
    · rw [g1 p e1]
      by_cases e2 : q < e
      · rw [g3 q p3 e2]; exact t.sl p _ p1 (by omega) (by omega)
      · rw [g4 q (by omega)]
        rcases h1 with h1 | h1 | h1
        · omega
        · omega
        · exact le_lt (t.sl.le p (s - 1) p1 (by omega) (by omega)) (lt_le h1 (t.sr.le e q (by omega) (by omega) p4))
    · rw [g2 p (by omega) p2]
      by_cases e2 : q < e
      · rw [g3 q p3 e2]
        rcases h2 with h2 | h2 | h2
        · omega
        · omega
        · exact le_lt (t.sr.le (p + (m - s)) (e - 1) (by omega) (by omega) (by omega)) (lt_le h2 (t.sl.le s _ (by omega) (by omega) (by omega)))
      · rw [g4 q (by omega)]; exact t.sr _ q (by omega) (by omega) p4
  · rw [g1 p (by omega), g1 q p3]; exact t.sl p q p1 p2 (by omega)
  · rw [g2 p p1 (by omega), g2 q (by omega) p3]; exact t.sr _ _ (by omega) (by omega) (by omega)
  · rw [g1 p p2, g2 q p3 p4]; exact t.ix _ _ p1 (by omega) (by omega) (by omega)
  · rw [g3 p p1 (by omega), g3 q (by omega) p3]; exact t.sl _ _ (by omega) (by omega) (by omega)
  · rw [g4 p p1, g4 q (by omega)]; exact t.sr _ _ (by omega) p2 p3
  · rw [g3 p p1 p2, g4 q p3]; exact t.ix _ _ (by omega) (by omega) (by omega) p4
/-- Halves in the order, the left one before the right one: all in the order; also after exchanges inside of the halves. -/
theorem Cut.glue {r zs us : List Int} {a s mid e b : Nat} (c : Cut r zs a s mid e b) (ham : a ≤ mid) (hmb : mid ≤ b) {vs : List Int} (hl : Swaps a mid zs vs) (sl : Sorted r vs a mid) (hr : Swaps mid b vs us) (sr : Sorted r us mid b) : Sorted r us a b := by
  have f1 : ∀ p, p < mid → us.getD p 0 = vs.getD p 0 := fun p hp => hr.outside p (.inl hp)
  intro p q h1 h2 h3
  by_cases e1 : q < mid
  · rw [f1 p (by omega), f1 q e1]; exact sl p q h1 h2 e1
  · by_cases e2 : p < mid
    · obtain ⟨x, x1, x2, x3⟩ := hl.inside p h1 e2
      obtain ⟨y, y1, y2, y3⟩ := hr.inside q (by omega) h3
      rw [f1 p e2, x3, y3, hl.outside y (.inr y1)]
      exact c.cross x y x1 x2 y1 y2
    · exact sr p q (by omega) h2 h3
theorem Two.out {r ys zs : List Int} {a m b c d : Nat} (t : Two r ys a m b) (ham : a ≤ m) (hmb : m ≤ b) (h : Swaps c d ys zs) (hcd : d ≤ a ∨ b ≤ c) : Two r zs a m b := by
  have f : ∀ p, a ≤ p → p < b → zs.getD p 0 = ys.getD p 0 := fun p h1 h2 => h.outside p (by omega)
  refine ⟨fun p q h1 h2 h3 => ?_, fun p q h1 h2 h3 => ?_, fun p q h1 h2 h3 h4 => ?_⟩
  · rw [f p h1 (by omega), f q (by omega) (by omega)]; exact t.sl p q h1 h2 h3
  · rw [f p (by omega) (by omega), f q (by omega) h3]; exact t.sr p q h1 h2 h3
  · rw [f p h1 (by omega), f q (by omega) h4]; exact t.ix p q h1 h2 h3 h4
/-- Every element is an index. -/
def Num (n : Nat) (ys : List Int) : Prop := ∀ k, k < n → ∃ j, j < n ∧ ys.getD k 0 = ((j : Nat) : Int)
theorem Num.swaps {n a b : Nat} {xs ys : List Int} (h : Num n xs) (hs : Swaps a b xs ys) (hb : b ≤ n) : Num n ys := by
  intro k hk
  by_cases e : a ≤ k ∧ k < b
  · obtain ⟨m, h1, h2, h3⟩ := hs.inside k e.1 e.2
    obtain ⟨j, h4, h5⟩ := h m (by omega)
    exact ⟨j, h4, h3.trans h5⟩
  · rw [hs.outside k (by omega)]; exact h k hk
theorem num_of {n : Nat} {ys : List Int} (h : ∀ k, k < n → ys.getD k 0 = k) : Num n ys := fun k hk => ⟨k, hk, h k hk⟩
theorem Two.none {r ys : List Int} {a m b : Nat} (t : Two r ys a m b) (h : m ≤ a ∨ b ≤ m) (ham : a ≤ m) (hmb : m ≤ b) : Sorted r ys a b := by
  intro p q h1 h2 h3
  rcases h with h | h
  · exact t.sr p q (by omega) h2 h3
  · exact t.sl p q h1 h2 (by omega)
end Go.Proofs.Ytcncjldggfbjdaa.O
