import Derived.Test.YtddhaagfieldfaaPCallTellsx3
import Derived.Test.YtddhaagfieldfaaQ1
namespace Go.Proofs.Ytddhaagfieldfaa.Q
open Go.RowKit Go.Proofs.YtddhaagfieldfaaW.PrintWords Go.Proofs.YtddhaagfieldfaaW.PrintLast Go.Proofs.YtddhaagfieldfaaW.PrintMore Go.Proofs.Ytddhaagfieldfaa.PCallTells

/-- The sum, stopped at the ends of int. -/
def add (a b : Int) : Int := if ((decide (a < 0)) == (decide (b < 0))) = true then (if ((decide ((wrap64 (a + b)) < 0)) != (decide (a < 0))) = true then (if a < 0 then -9223372036854775808 else 9223372036854775807) else wrap64 (a + b)) else wrap64 (a + b)
theorem add_now (a b : Int) : exact_Add.f a b = some (add a b) := by
  unfold exact_Add.f add exact_end.f
  by_cases h : a < 0 <;> simp only [h] <;> (repeat' split) <;> simp_all

/-! ### a day's division -/
def raise (n : Int) (l left : List Int) : List Int := l.foldl (fun left q => left.set q.toNat (add (rd left q) n)) left
def lower (n : Int) (l left : List Int) : List Int := l.foldl (fun left q => left.set q.toNat (wrap64 (rd left q - n))) left
def leastF (n : Int) (left l : List Int) : Int := l.foldl (fun n q => mn n (rd left q)) n
def left0Go (pl : List S79) (su : List Int) : Nat → Nat → List Int → List Int
  | 0, _, left => left
  | d + 1, p, left => left0Go pl su d (p + 1) (if (p : Int) ≥ su.length ∨ rd su p < 0 then left else raise (rd su p) (reach pl p) left)
def left0 (pl : List S79) (su : List Int) : List Int := left0Go pl su pl.length 0 (List.replicate pl.length 0)
def grant (pl : List S79) (left : List Int) (r : S39) : Int := if reach pl r.f3 = [] then 0 else mx 0 (leastF r.f4 left (reach pl r.f3))
def dayGo (pl : List S79) : List S39 → List S53 → List Int → List S53 × List Int
  | [], gs, left => (gs, left)
  | r :: rs, gs, left => dayGo pl rs (gs ++ [⟨r.f0, grant pl left r⟩]) (lower (grant pl left r) (reach pl r.f3) left)
def dayF (pl : List S79) (ro : List S39) (su : List Int) : List S53 × List Int := dayGo pl ro [] (left0 pl su)

theorem foldl_set_length (f : List Int → Int → Int) (l : List Int) : ∀ left : List Int, (l.foldl (fun left q => left.set q.toNat (f left q)) left).length = left.length := by
  induction l with
  | nil => intro left; rfl
  | cons q l ih => intro left; rw [List.foldl_cons, ih, List.length_set]
theorem raise_length (n : Int) (l left : List Int) : (raise n l left).length = left.length := foldl_set_length (fun left q => add (rd left q) n) l left
theorem lower_length (n : Int) (l left : List Int) : (lower n l left).length = left.length := foldl_set_length (fun left q => wrap64 (rd left q - n)) l left
theorem left0Go_length (pl : List S79) (su : List Int) : ∀ d p left, (left0Go pl su d p left).length = left.length := by
  intro d
  induction d with
  | zero => intro p left; rfl
  | succ d ih =>
    intro p left
    rw [left0Go, ih]
    split
    · rfl
    · exact raise_length ..
theorem left0_length (pl : List S79) (su : List Int) : (left0 pl su).length = pl.length := by unfold left0; rw [left0Go_length, List.length_replicate]
theorem dayGo_length (pl : List S79) : ∀ rs gs left, (dayGo pl rs gs left).1.length = gs.length + rs.length ∧ (dayGo pl rs gs left).2.length = left.length := by
  intro rs
  induction rs with
  | nil => intro gs left; exact ⟨rfl, rfl⟩
  | cons r rs ih =>
    intro gs left
    obtain ⟨h1, h2⟩ := ih (gs ++ [⟨r.f0, grant pl left r⟩]) (lower (grant pl left r) (reach pl r.f3) left)
    refine ⟨?_, ?_⟩
    · rw [dayGo, h1]; simp; omega
    · rw [dayGo, h2, lower_length]

theorem rd39 (xs : List S39) (i : Nat) (h : i < xs.length) : rd_T39 xs (i : Int) = xs[i] := by simp [rd_T39, h]

theorem least_ev (left : List Int) (l : List Int) (hl : l.length ≤ 1000) (hin : ∀ q ∈ l, 0 ≤ q ∧ q < left.length) (d : Nat) : ∀ (i : Nat) (n : Int), l.length - i = d → i ≤ l.length →
    Ev (fun F => allot_least.l0 F n left l (l.length : Int) (i : Int)) (leastF n left (l.drop i)) := by
  induction d with
  | zero =>
    intro i n hd hi
    rw [List.drop_of_length_le (by omega)]
    refine Ev.step (f := fun _ => some n) (fun k => ?_) (Ev.now _)
    simp only [allot_least.l0]; rw [if_neg (by omega)]
  | succ d ih =>
    intro i n hd hi
    have hlt : i < l.length := by omega
    rw [List.drop_eq_getElem_cons hlt]
    have hq := hin l[i] (List.getElem_mem hlt)
    refine Ev.step (f := fun F => allot_least.l0 F (mn n (rd left l[i])) left l (l.length : Int) ((i + 1 : Nat) : Int)) (fun k => ?_) (ih (i + 1) _ (by omega) (by omega))
    simp only [allot_least.l0]
    rw [rd_nat _ _ hlt, if_pos (by omega), if_pos (by omega), if_pos (by omega), if_pos hq.1, if_pos hq.2, w64 (by omega) (by omega)]; rfl

section
variable (a0 a1 a2 : V1) (pl : List S79) (a4 a5 a6 a7 a8 a9 a10 : V1)
theorem raise_ev (ro : List S39) (su : List Int) (p : Nat) (hp : (p : Int) < su.length) (l : List Int) (hl : l.length ≤ 1000) (r : List S53 × List Int) (d : Nat) : ∀ (i : Nat) (left : List Int), l.length - i = d → i ≤ l.length →
    (∀ q ∈ l, 0 ≤ q ∧ q < left.length) → pl.length ≤ 1000 → p ≤ 1000 →
    Ev (fun F => allot_Day.l0 F ro su (raise (rd su p) (l.drop i) left) (pl.length : Int) ((p + 1 : Nat) : Int) a0 a1 a2 pl a4 a5 a6 a7 a8 a9 a10) r →
    Ev (fun F => allot_Day.l1 F ro su left (p : Int) (pl.length : Int) (p : Int) l (l.length : Int) (i : Int) a0 a1 a2 pl a4 a5 a6 a7 a8 a9 a10) r := by
  induction d with
  | zero =>
    intro i left hd hi hin hpl hp1 h
    rw [List.drop_of_length_le (by omega)] at h
    refine Ev.step (fun k => ?_) h
    simp only [allot_Day.l1]; rw [if_neg (by omega), w64 (by omega) (by omega)]; rfl
  | succ d ih =>
    intro i left hd hi hin hpl hp1 h
    have hlt : i < l.length := by omega
    rw [List.drop_eq_getElem_cons hlt] at h
    have hq := hin l[i] (List.getElem_mem hlt)
    refine Ev.step (fun k => ?_) (ih (i + 1) (left.set l[i].toNat (add (rd left l[i]) (rd su p))) (by omega) (by omega) (fun q h' => by rw [List.length_set]; exact hin q h') hpl hp1 h)
    simp only [allot_Day.l1]
    rw [rd_nat _ _ hlt, if_pos (by omega), if_pos (by omega), if_pos (by omega), if_pos hq.1, if_pos hq.2, if_pos (by omega), if_pos hp, add_now, Option.bind_some, w64 (x := (i : Int) + 1) (by omega) (by omega)]; rfl
theorem lower_ev (gs : List S53) (n : Int) (ro : List S39) (j : Nat) (l : List Int) (hl : l.length ≤ 1000) (hgs : gs.length ≤ 1000) (hj : j ≤ 1000) (r0 r1 r2 r3 r4 r5 r6 r7 r8 : Int) (r : List S53 × List Int) (d : Nat) : ∀ (i : Nat) (left : List Int), l.length - i = d → i ≤ l.length →
    (∀ q ∈ l, 0 ≤ q ∧ q < left.length) →
    Ev (fun F => allot_Day.l2 F (lower n (l.drop i) left) (gs ++ [⟨r0, n⟩]) ro (ro.length : Int) ((j + 1 : Nat) : Int) a0 a1 a2 pl a4 a5 a6 a7 a8 a9 a10) r →
    Ev (fun F => allot_Day.l3 F left gs n ro (ro.length : Int) (j : Int) l (l.length : Int) (i : Int) a0 a1 a2 pl a4 a5 a6 a7 a8 a9 a10 r0 r1 r2 r3 r4 r5 r6 r7 r8) r := by
  induction d with
  | zero =>
    intro i left hd hi hin h
    rw [List.drop_of_length_le (by omega)] at h
    refine Ev.step (fun k => ?_) h
    simp only [allot_Day.l3]; rw [if_neg (by omega), if_pos (by omega), w64 (by omega) (by omega)]; rfl
  | succ d ih =>
    intro i left hd hi hin h
    have hlt : i < l.length := by omega
    rw [List.drop_eq_getElem_cons hlt] at h
    have hq := hin l[i] (List.getElem_mem hlt)
    refine Ev.step (fun k => ?_) (ih (i + 1) (left.set l[i].toNat (wrap64 (rd left l[i] - n))) (by omega) (by omega) (fun q h' => by rw [List.length_set]; exact hin q h') h)
    simp only [allot_Day.l3]
    rw [rd_nat _ _ hlt, if_pos (by omega), if_pos (by omega), if_pos (by omega), if_pos hq.1, if_pos hq.2, w64 (x := (i : Int) + 1) (by omega) (by omega)]; rfl
theorem dayGo_ev (ro : List S39) (hro : ro.length ≤ 1000) (hpl : pl.length ≤ 1000) (d : Nat) : ∀ (j : Nat) (gs : List S53) (left : List Int), ro.length - j = d → j ≤ ro.length → gs.length = j → left.length = pl.length →
    Ev (fun F => allot_Day.l2 F left gs ro (ro.length : Int) (j : Int) a0 a1 a2 pl a4 a5 a6 a7 a8 a9 a10) (dayGo pl (ro.drop j) gs left) := by
  induction d with
  | zero =>
    intro j gs left hd hj hgs hleft
    rw [List.drop_of_length_le (by omega)]
    refine Ev.step (f := fun _ => some (gs, left)) (fun k => ?_) (Ev.now _)
    simp only [allot_Day.l2]; rw [if_neg (by omega)]
  | succ d ih =>
    intro j gs left hd hj hgs hleft
    have hlt : j < ro.length := by omega
    rw [List.drop_eq_getElem_cons hlt]
    have hin := reach_in pl ro[j].f3
    have hlen := nodup_short pl.length _ (reach_nodup pl ro[j].f3) hin
    have key := ih (j + 1) (gs ++ [⟨ro[j].f0, grant pl left ro[j]⟩]) (lower (grant pl left ro[j]) (reach pl ro[j].f3) left) (by omega) (by omega) (by simp; omega) (by rw [lower_length]; exact hleft)
    have k3 := lower_ev a0 a1 a2 pl a4 a5 a6 a7 a8 a9 a10 gs (grant pl left ro[j]) ro j (reach pl ro[j].f3) (by omega) (by omega) (by omega) ro[j].f0 ro[j].f1 ro[j].f2 ro[j].f3 ro[j].f4 ro[j].f5 ro[j].f6 ro[j].f7 ro[j].f8 _ _ 0 left rfl (by omega) (by rw [hleft]; exact hin) key
    have k4 := Ev.step (g := fun F => allot_Day.j4 F left gs (reach pl ro[j].f3) (grant pl left ro[j]) ro (ro.length : Int) (j : Int) a0 a1 a2 pl a4 a5 a6 a7 a8 a9 a10 ro[j].f0 ro[j].f1 ro[j].f2 ro[j].f3 ro[j].f4 ro[j].f5 ro[j].f6 ro[j].f7 ro[j].f8) (fun k => by simp only [allot_Day.j4]; rfl) k3
    have hle := least_ev left (reach pl ro[j].f3) (by omega) (by rw [hleft]; exact hin) _ 0 ro[j].f4 rfl (by omega)
    refine Ev.step (fun k => ?_) (Ev.bind (f := fun F t138 => (allot_least.f F ro[j].f4 left t138).bind fun t141 => (if (t138.length : Int) = 0 then (allot_Day.j4 F left gs t138 0 ro (ro.length : Int) (j : Int) a0 a1 a2 pl a4 a5 a6 a7 a8 a9 a10 ro[j].f0 ro[j].f1 ro[j].f2 ro[j].f3 ro[j].f4 ro[j].f5 ro[j].f6 ro[j].f7 ro[j].f8) else (allot_Day.j4 F left gs t138 (mx 0 t141) ro (ro.length : Int) (j : Int) a0 a1 a2 pl a4 a5 a6 a7 a8 a9 a10 ro[j].f0 ro[j].f1 ro[j].f2 ro[j].f3 ro[j].f4 ro[j].f5 ro[j].f6 ro[j].f7 ro[j].f8))) (reach_ev a0 a1 a2 pl a4 a5 a6 a7 a8 a9 a10 hpl ro[j].f3) (Ev.bind (f := fun F t141 => (if ((reach pl ro[j].f3).length : Int) = 0 then (allot_Day.j4 F left gs (reach pl ro[j].f3) 0 ro (ro.length : Int) (j : Int) a0 a1 a2 pl a4 a5 a6 a7 a8 a9 a10 ro[j].f0 ro[j].f1 ro[j].f2 ro[j].f3 ro[j].f4 ro[j].f5 ro[j].f6 ro[j].f7 ro[j].f8) else (allot_Day.j4 F left gs (reach pl ro[j].f3) (mx 0 t141) ro (ro.length : Int) (j : Int) a0 a1 a2 pl a4 a5 a6 a7 a8 a9 a10 ro[j].f0 ro[j].f1 ro[j].f2 ro[j].f3 ro[j].f4 ro[j].f5 ro[j].f6 ro[j].f7 ro[j].f8))) hle ?_))
    · simp only [allot_Day.l2]
      rw [rd39 _ _ hlt, if_pos (by omega), if_pos (by omega), if_pos (by omega)]
    · rw [List.drop_zero]
      by_cases h0 : reach pl ro[j].f3 = []
      · have e : grant pl left ro[j] = 0 := by unfold grant; rw [if_pos h0]
        rw [e] at k4
        refine Ev.congr (fun k => if_pos (by rw [h0]; rfl)) ?_
        rw [dayGo, e]
        exact k4
      · have e : grant pl left ro[j] = mx 0 (leastF ro[j].f4 left (reach pl ro[j].f3)) := by unfold grant; rw [if_neg h0]
        rw [e] at k4
        refine Ev.congr (fun k => if_neg (by intro h; exact h0 (List.eq_nil_of_length_eq_zero (by omega)))) ?_
        rw [dayGo, e]
        exact k4
theorem left0_ev (ro : List S39) (su : List Int) (hpl : pl.length ≤ 1000) (r : List S53 × List Int) (d : Nat) : ∀ (p : Nat) (left : List Int), pl.length - p = d → p ≤ pl.length → left.length = pl.length →
    Ev (fun F => allot_Day.l2 F (left0Go pl su d p left) ([] : List (S53)) ro (ro.length : Int) 0 a0 a1 a2 pl a4 a5 a6 a7 a8 a9 a10) r →
    Ev (fun F => allot_Day.l0 F ro su left (pl.length : Int) (p : Int) a0 a1 a2 pl a4 a5 a6 a7 a8 a9 a10) r := by
  induction d with
  | zero =>
    intro p left hd hp hleft h
    refine Ev.step (fun k => ?_) h
    simp only [allot_Day.l0]; rw [if_neg (by omega)]; rfl
  | succ d ih =>
    intro p left hd hp hleft h
    have hlt : p < pl.length := by omega
    rw [left0Go] at h
    by_cases hc : (p : Int) ≥ su.length ∨ rd su p < 0
    · rw [if_pos hc] at h
      have k0 := ih (p + 1) left (by omega) (by omega) hleft h
      have k1 : Ev (fun F => allot_Day.j1 F ro su left (p : Int) (pl.length : Int) (p : Int) true a0 a1 a2 pl a4 a5 a6 a7 a8 a9 a10) r :=
        Ev.step (fun k => by simp only [allot_Day.j1]; rw [if_pos trivial, w64 (by omega) (by omega)]; rfl) k0
      refine Ev.step (fun k => ?_) k1
      simp only [allot_Day.l0]
      rw [if_pos (by omega)]
      by_cases h1 : (p : Int) ≥ su.length
      · rw [if_pos h1]
      · rw [if_neg h1, if_pos (by omega), if_pos (by omega), decide_eq_true (hc.resolve_left h1)]
    · rw [if_neg hc] at h
      have k0 := ih (p + 1) _ (by omega) (by omega) (by rw [raise_length]; exact hleft) h
      have hin := reach_in pl p
      have hlen := nodup_short pl.length _ (reach_nodup pl p) hin
      have k1 := raise_ev a0 a1 a2 pl a4 a5 a6 a7 a8 a9 a10 ro su p (by omega) (reach pl p) (by omega) r _ 0 left rfl (by omega) (by rw [hleft]; exact hin) hpl (by omega) k0
      have k2 : Ev (fun F => allot_Day.j1 F ro su left (p : Int) (pl.length : Int) (p : Int) false a0 a1 a2 pl a4 a5 a6 a7 a8 a9 a10) r := by
        refine Ev.step (fun k => ?_) (Ev.bind (f := fun F t128 => allot_Day.l1 F ro su left (p : Int) (pl.length : Int) (p : Int) t128 (t128.length : Int) 0 a0 a1 a2 pl a4 a5 a6 a7 a8 a9 a10) (reach_ev a0 a1 a2 pl a4 a5 a6 a7 a8 a9 a10 hpl p) k1)
        simp only [allot_Day.j1]; rfl
      refine Ev.step (fun k => ?_) k2
      simp only [allot_Day.l0]
      rw [if_pos (by omega), if_neg (by omega), if_pos (by omega), if_pos (by omega), decide_eq_false (fun h' => hc (.inr h'))]
theorem day_ev (ro : List S39) (su : List Int) (hpl : pl.length ≤ 1000) (hro : ro.length ≤ 1000) : Ev (fun F => allot_Day.f F a0 a1 a2 pl a4 a5 a6 a7 a8 a9 a10 ro su) (dayF pl ro su) := by
  have k2 := dayGo_ev a0 a1 a2 pl a4 a5 a6 a7 a8 a9 a10 ro hro hpl _ 0 [] (left0 pl su) rfl (by omega) rfl (left0_length ..)
  have k0 := left0_ev a0 a1 a2 pl a4 a5 a6 a7 a8 a9 a10 ro su hpl _ _ 0 (List.replicate pl.length 0) rfl (by omega) (by simp) k2
  refine Ev.congr (fun k => ?_) k0
  unfold allot_Day.f
  rw [if_pos (by omega), if_pos (by simp; omega)]; rfl
end
end Go.Proofs.Ytddhaagfieldfaa.Q
