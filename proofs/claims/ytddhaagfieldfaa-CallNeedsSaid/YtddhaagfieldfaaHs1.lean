import Derived.Test.YtddhaagfieldfaaHs0
namespace Go.Proofs.Ytddhaagfieldfaa.Hb
set_option linter.unusedVariables false
set_option linter.unusedSimpArgs false
open Go.RowKit Go.Proofs.YtddhaagfieldfaaW.PrintWords Go.Proofs.YtddhaagfieldfaaW.PrintLast Go.Proofs.YtddhaagfieldfaaW.PrintMore Go.Proofs.Ytddhaagfieldfaa.PCallTells Go.Proofs.Ytddhaagfieldfaa.Hw Go.Proofs.Ytddhaagfieldfaa.Q
attribute [local go_sem] run_store_v1 max2_int min2_int max_two min_two max_three min_three max_four min_four

theorem drawn_below {w w' : World} (h : Drawn0 w w') : Below w.heap.size w w' := by
  obtain ⟨m, rfl⟩ := h; exact pw_below_drewN (Below.refl _ _) m
theorem has_ev (xs : List Int) (x : Int) (hl : xs.length ≤ 9223372036854775806) : Ev (fun k => bourneref37_Has.f k xs x) (decide (x ∈ xs)) := by
  have key : ∀ (d i : Nat), xs.length - i = d → i ≤ xs.length → Ev (fun k => bourneref37_Has.l0 k xs x (i : Int)) (decide (x ∈ xs.drop i)) := by
    intro d
    induction d with
    | zero =>
      intro i hd hi
      refine Ev.step (f := fun _ => some false) (fun k => ?_) ?_
      · simp only [bourneref37_Has.l0]; rw [if_neg (by omega)]
      · rw [List.drop_of_length_le (by omega)]; simpa using Ev.now false
    | succ d ih =>
      intro i hd hi
      have hlt : i < xs.length := by omega
      have hdrop := List.drop_eq_getElem_cons hlt
      by_cases e : xs[i] = x
      · refine Ev.step (f := fun _ => some true) (fun k => ?_) ?_
        · simp only [bourneref37_Has.l0]; rw [if_pos (by omega), if_pos (by omega), if_pos (by rw [rd_nat _ _ hlt]; exact e)]
        · rw [hdrop, decide_eq_true (List.mem_cons.2 (.inl e.symm))]; exact Ev.now true
      · refine Ev.step (f := fun k => bourneref37_Has.l0 k xs x ((i + 1 : Nat) : Int)) (fun k => ?_) ?_
        · simp only [bourneref37_Has.l0]; rw [if_pos (by omega), if_pos (by omega), if_neg (by rw [rd_nat _ _ hlt]; exact e), w64 (by omega) (by omega)]; rfl
        · have h := ih (i + 1) (by omega) (by omega)
          have e2 : decide (x ∈ xs.drop i) = decide (x ∈ xs.drop (i + 1)) := by
            apply decide_eq_decide.2; rw [hdrop, List.mem_cons]; exact ⟨fun h => h.resolve_left (fun q => e q.symm), .inr⟩
          rw [e2]; exact h
  have h := key _ 0 rfl (Nat.zero_le _)
  rw [List.drop_zero] at h; exact h
theorem Has_calls (A : Option Addr) (c : Nat) (xs : List Int) (x : Int) (w : World) (hr : Kd.C (Kd.int .i64) w A xs.length xs) (hc : xs.length ≤ c) (hl : xs.length ≤ 9223372036854775806) :
    Calls Try.prog 26 #[.slice A xs.length c, .int .i64 x] w fun e w' => e = .returned (.bool (decide (x ∈ xs))) ∧ Below w.heap.size w w' := by
  obtain ⟨k, h⟩ := (has_ev xs x hl).rounds
  exact (bourneref37_Has.calls k A c xs x _ w hr hc h).mono fun e w' h => ⟨h.1, drawn_below h.2⟩
theorem sameInts_ev (xs ys : List Int) (hl : xs.length ≤ 9223372036854775806) : Ev (fun k => bourneref37_SameInts.f k xs ys) (decide (xs = ys)) := by
  by_cases hlen : xs.length = ys.length
  · have key : ∀ (d i : Nat), xs.length - i = d → i ≤ xs.length → Ev (fun k => bourneref37_SameInts.l0 k xs ys (i : Int)) (decide (xs.drop i = ys.drop i)) := by
      intro d
      induction d with
      | zero =>
        intro i hd hi
        refine Ev.step (f := fun _ => some true) (fun k => ?_) ?_
        · simp only [bourneref37_SameInts.l0]; rw [if_neg (by omega)]
        · rw [List.drop_of_length_le (by omega), List.drop_of_length_le (by omega)]; simpa using Ev.now true
      | succ d ih =>
        intro i hd hi
        have hlt : i < xs.length := by omega
        have hlt2 : i < ys.length := by omega
        have hdrop := List.drop_eq_getElem_cons hlt
        have hdrop2 := List.drop_eq_getElem_cons hlt2
        by_cases e : xs[i] = ys[i]
        · refine Ev.step (f := fun k => bourneref37_SameInts.l0 k xs ys ((i + 1 : Nat) : Int)) (fun k => ?_) ?_
          · simp only [bourneref37_SameInts.l0]; rw [if_pos (by omega), if_pos (by omega), if_pos (by omega), if_pos (by rw [rd_nat _ _ hlt, rd_nat _ _ hlt2]; exact e), w64 (by omega) (by omega)]; rfl
          · have h := ih (i + 1) (by omega) (by omega)
            have e2 : decide (xs.drop i = ys.drop i) = decide (xs.drop (i + 1) = ys.drop (i + 1)) := by
              apply decide_eq_decide.2; rw [hdrop, hdrop2, List.cons.injEq]; exact ⟨fun h => h.2, fun h => ⟨e, h⟩⟩
            rw [e2]; exact h
        · refine Ev.step (f := fun _ => some false) (fun k => ?_) ?_
          · simp only [bourneref37_SameInts.l0]; rw [if_pos (by omega), if_pos (by omega), if_pos (by omega), if_neg (by rw [rd_nat _ _ hlt, rd_nat _ _ hlt2]; exact e)]
          · rw [decide_eq_false (by rw [hdrop, hdrop2]; intro h; exact e (List.cons.inj h).1)]; exact Ev.now false
    have h := key _ 0 rfl (Nat.zero_le _)
    rw [List.drop_zero, List.drop_zero] at h
    refine Ev.congr (fun k => ?_) h
    unfold bourneref37_SameInts.f
    rw [if_pos (by omega)]; rfl
  · refine Ev.congr (f := fun _ => some false) (fun k => ?_) ?_
    · unfold bourneref37_SameInts.f
      rw [if_neg (by omega)]
    · rw [decide_eq_false (by rintro rfl; exact hlen rfl)]; exact Ev.now false
theorem SameInts_calls (A : Option Addr) (c : Nat) (xs : List Int) (B : Option Addr) (c2 : Nat) (ys : List Int) (w : World) (hr : Kd.C (Kd.int .i64) w A xs.length xs) (hc : xs.length ≤ c) (hr2 : Kd.C (Kd.int .i64) w B ys.length ys) (hc2 : ys.length ≤ c2) (hl : xs.length ≤ 9223372036854775806) :
    Calls Try.prog 12 #[.slice A xs.length c, .slice B ys.length c2] w fun e w' => e = .returned (.bool (decide (xs = ys))) ∧ Below w.heap.size w w' := by
  obtain ⟨k, h⟩ := (sameInts_ev xs ys hl).rounds
  exact (bourneref37_SameInts.calls k A c xs B c2 ys _ w hr hc hr2 hc2 h).mono fun e w' h => ⟨h.1, drawn_below h.2⟩
/-- Two lists of excuses are the same. -/
def sameX (xs ys : List S60) : Bool := decide (xs.map (fun x => (x.f0, x.f1)) = ys.map fun x => (x.f0, x.f1))
theorem sameX_ev (xs ys : List S60) (hl : xs.length ≤ 9223372036854775806) : Ev (fun k => bourneref38_Same.f k xs ys) (sameX xs ys) := by
  unfold sameX
  by_cases hlen : xs.length = ys.length
  · have key : ∀ (d i : Nat), xs.length - i = d → i ≤ xs.length → Ev (fun k => bourneref38_Same.l0 k xs ys (i : Int)) (decide ((xs.drop i).map (fun x => (x.f0, x.f1)) = (ys.drop i).map fun x => (x.f0, x.f1))) := by
      intro d
      induction d with
      | zero =>
        intro i hd hi
        refine Ev.step (f := fun _ => some true) (fun k => ?_) ?_
        · simp only [bourneref38_Same.l0]; rw [if_neg (by omega)]
        · rw [List.drop_of_length_le (by omega), List.drop_of_length_le (by omega)]; simpa using Ev.now true
      | succ d ih =>
        intro i hd hi
        have hlt : i < xs.length := by omega
        have hlt2 : i < ys.length := by omega
        have hdrop := List.drop_eq_getElem_cons hlt
        have hdrop2 := List.drop_eq_getElem_cons hlt2
        by_cases e : xs[i].f0 = ys[i].f0 ∧ xs[i].f1 = ys[i].f1
        · refine Ev.step (f := fun k => bourneref38_Same.l0 k xs ys ((i + 1 : Nat) : Int)) (fun k => ?_) ?_
          · simp only [bourneref38_Same.l0]; rw [if_pos (by omega), if_pos (by omega), if_pos (by omega), if_neg (by rw [rd60 _ _ hlt, rd60 _ _ hlt2, e.1, e.2]; simp), w64 (by omega) (by omega)]; rfl
          · have h := ih (i + 1) (by omega) (by omega)
            have e2 : decide ((xs.drop i).map (fun x => (x.f0, x.f1)) = (ys.drop i).map fun x => (x.f0, x.f1)) = decide ((xs.drop (i + 1)).map (fun x => (x.f0, x.f1)) = (ys.drop (i + 1)).map fun x => (x.f0, x.f1)) := by
              apply decide_eq_decide.2; rw [hdrop, hdrop2, List.map_cons, List.map_cons, List.cons.injEq]; exact ⟨fun h => h.2, fun h => ⟨by rw [e.1, e.2], h⟩⟩
            rw [e2]; exact h
        · refine Ev.step (f := fun _ => some false) (fun k => ?_) ?_
          · simp only [bourneref38_Same.l0]; rw [if_pos (by omega), if_pos (by omega), if_pos (by omega), if_pos (by rw [rd60 _ _ hlt, rd60 _ _ hlt2]; simpa [Classical.or_iff_not_imp_left] using e)]
          · rw [decide_eq_false (by rw [hdrop, hdrop2, List.map_cons, List.map_cons]; intro h; have := (List.cons.inj h).1; exact e (Prod.mk.inj this))]; exact Ev.now false
    have h := key _ 0 rfl (Nat.zero_le _)
    rw [List.drop_zero, List.drop_zero] at h
    refine Ev.congr (fun k => ?_) h
    unfold bourneref38_Same.f
    rw [if_pos (by omega)]; rfl
  · refine Ev.congr (f := fun _ => some false) (fun k => ?_) ?_
    · unfold bourneref38_Same.f
      rw [if_neg (by omega)]
    · rw [decide_eq_false (fun h => hlen (by simpa using congrArg List.length h))]; exact Ev.now false
theorem SameX_calls (A : Option Addr) (c : Nat) (xs : List S60) (B : Option Addr) (c2 : Nat) (ys : List S60) (w : World) (hr : Kd.C k60 w A xs.length xs) (hc : xs.length ≤ c) (hr2 : Kd.C k60 w B ys.length ys) (hc2 : ys.length ≤ c2) (hl : xs.length ≤ 9223372036854775806) :
    Calls Try.prog 15 #[.slice A xs.length c, .slice B ys.length c2] w fun e w' => e = .returned (.bool (sameX xs ys)) ∧ Below w.heap.size w w' := by
  obtain ⟨k, h⟩ := (sameX_ev xs ys hl).rounds
  exact (bourneref38_Same.calls k A c xs B c2 ys _ w hr hc hr2 hc2 h).mono fun e w' h => ⟨h.1, drawn_below h.2⟩
def futileF (pl : List S79) (stop place : Int) : Bool := decide (0 ≤ stop) && (decide (stop < pl.length) && !decide (stop ∈ reach pl place))
theorem Futile_calls (b : BV) (stop : Int) (r : S39) (w : World) (hb : b.In w) (hs : b.pl.length ≤ 1000) :
    Calls Try.prog 10 #[b.val, .int .i64 stop, .agg (r39 r).toArray] w fun e w' => e = .returned (.bool (futileF b.pl stop r.f3)) ∧ Below w.heap.size w w' := by
  have hE : Ev (fun k => call_Futile.f k b.f0 b.f1 b.f2 b.pl b.f4 b.f5 b.f6 b.f7 b.f8 b.f9 b.f10 stop r.f0 r.f1 r.f2 r.f3 r.f4 r.f5 r.f6 r.f7 r.f8) (futileF b.pl stop r.f3) := by
    unfold call_Futile.f futileF
    by_cases h0 : 0 ≤ stop
    · by_cases h1 : stop < b.pl.length
      · rw [decide_eq_true h0, decide_eq_true h1]
        refine Ev.congr (fun k => by rw [if_pos h0, if_pos h1]) ?_
        refine Ev.bind (reach_ev b.f0 b.f1 b.f2 b.pl b.f4 b.f5 b.f6 b.f7 b.f8 b.f9 b.f10 hs r.f3) ?_
        refine Ev.bind (f := fun _ t => some (!t)) (contains_ev _ _ (Nat.le_trans (nodup_short _ _ (reach_nodup b.pl _) (reach_in b.pl _)) (by omega))) ?_
        exact Ev.now _
      · refine Ev.congr (f := fun _ => some false) (fun k => by rw [if_pos h0, if_neg h1]) ?_
        rw [decide_eq_false h1]; simpa using Ev.now false
    · refine Ev.congr (f := fun _ => some false) (fun k => by rw [if_neg h0]) ?_
      rw [decide_eq_false h0]; exact Ev.now false
  obtain ⟨k, h⟩ := hE.rounds
  exact call_Futile.calls k b.f0 b.f1 b.f2 b.A b.c b.pl b.f4 b.f5 b.f6 b.f7 b.f8 b.f9 b.f10 stop r.f0 r.f1 r.f2 r.f3 r.f4 r.f5 r.f6 r.f7 r.f8 _ w hb.hr hb.hc h
def fewF (pl : List S79) (ro : List S39) (gr : List S53) : Bool := decide (pl.length ≤ 16) && (decide (ro.length ≤ 14) && decide (gr.length ≤ 20))
theorem Few_calls (b : BV) (A1 : Option Addr) (c1 : Nat) (ro : List S39) (A3 : Option Addr) (c3 : Nat) (gr : List S53) (w : World) (hb : b.In w) (h1 : Kd.C k39 w A1 ro.length ro) (hc1 : ro.length ≤ c1) (h3 : Kd.C k53 w A3 gr.length gr) (hc3 : gr.length ≤ c3) :
    Calls Try.prog 9 #[b.val, .slice A1 ro.length c1, .slice A3 gr.length c3] w fun e w' => e = .returned (.bool (fewF b.pl ro gr)) ∧ Below w.heap.size w w' := by
  refine bournelaw38_few.calls b.f0 b.f1 b.f2 b.A b.c b.pl b.f4 b.f5 b.f6 b.f7 b.f8 b.f9 b.f10 A1 c1 ro A3 c3 gr _ w hb.hr hb.hc h1 hc1 h3 hc3 ?_
  unfold bournelaw38_few.f fewF
  by_cases e1 : b.pl.length ≤ 16
  · by_cases e2 : ro.length ≤ 14
    · rw [if_pos (by omega), if_pos (by omega), decide_eq_true e1, decide_eq_true e2, Bool.true_and, Bool.true_and]
      exact congrArg some (decide_eq_decide.2 (by omega))
    · rw [if_pos (by omega), if_neg (by omega), decide_eq_true e1, decide_eq_false e2]; rfl
  · rw [if_neg (by omega), decide_eq_false e1]; rfl
end Go.Proofs.Ytddhaagfieldfaa.Hb
