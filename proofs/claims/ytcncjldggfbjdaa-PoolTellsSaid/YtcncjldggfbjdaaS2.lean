import Derived.Test.YtcncjldggfbjdaaS1
import Derived.Test.YtcncjldggfbjdaaO1
import Derived.Deep.QuietTactic
import Derived.BigQuiet
namespace Go.Proofs.Ytcncjldggfbjdaa.G2
open Go.RowKit Go.Proofs.YtcncjldggfbjdaaW.PrintWords Go.Proofs.YtcncjldggfbjdaaW.PrintLast Go.Proofs.YtcncjldggfbjdaaW.PrintMore Go.Proofs.Ytcncjldggfbjdaa.G1 Go.Proofs.Ytcncjldggfbjdaa.O
set_option linter.unusedVariables false
set_option linter.unusedSimpArgs false

/-- What the comparison looks at. -/
structure Ctx (D B R n : Nat) (rs : List Int) (w0 : World) : Prop where
  hB : w0.heap[B]? = some (.cells #[.slice (some ⟨R, 0, none⟩) n n] 22 (0, 0))
  hR : w0.heap[R]? = some (.cells (rs.map (Value.int .i64)).toArray 3 (0, 0))
  bD : B < D
  rD : R < D
  lr : rs.length = n
  ln : n ≤ 64
/-- What is sorted, as it now lies. -/
structure Srt (D n : Nat) (w0 W : World) (ys : List Int) : Prop where
  hD : W.heap[D]? = some (.cells (ys.map (Value.int .i64)).toArray 3 (0, 0))
  ly : ys.length = n
  be : Below D w0 W
  sz : D < w0.heap.size
section
variable {D B R n : Nat} {rs ys : List Int} {w0 W : World}
theorem Srt.cell (h : Srt D n w0 W ys) (i : Nat) (hi : i < n) : W.cell? ⟨D, i, none⟩ = some (.int .i64 (ys.getD i 0)) := by
  have : i < ys.length := by rw [h.ly]; exact hi
  rw [blk_cell h.hD]; simp [this]
theorem Srt.set (h : Srt D n w0 W ys) (i : Nat) (v : Int) : Srt D n w0 (W.setCell ⟨D, i, none⟩ (.int .i64 v)) (ys.set i v) := by
  refine ⟨?_, by rw [List.length_set]; exact h.ly, h.be.setCell (Nat.le_refl _) _, h.sz⟩
  rw [blk_set h.hD i]
  congr 2
  apply Array.ext'
  simp
theorem Srt.drewN (h : Srt D n w0 W ys) (m : Nat) : Srt D n w0 (W.drewN m) ys := ⟨h.hD, h.ly, ⟨h.be.os, h.be.tape, h.be.output, h.be.size, h.be.block⟩, h.sz⟩
theorem Srt.drew (h : Srt D n w0 W ys) : Srt D n w0 W.drew ys := ⟨h.hD, h.ly, ⟨h.be.os, h.be.tape, h.be.output, h.be.size, h.be.block⟩, h.sz⟩
theorem Ctx.box (c : Ctx D B R n rs w0) (h : Srt D n w0 W ys) : W.cell? ⟨B, 0, none⟩ = some (.slice (some ⟨R, 0, none⟩) n n) := by
  have : W.heap[B]? = some (.cells #[.slice (some ⟨R, 0, none⟩) n n] 22 (0, 0)) := (h.be.block B c.bD).trans c.hB
  rw [blk_cell this]; rfl
theorem Ctx.row (c : Ctx D B R n rs w0) (h : Srt D n w0 W ys) (i : Nat) (hi : i < n) : W.cell? ⟨R, i, none⟩ = some (.int .i64 (rs.getD i 0)) := by
  have : W.heap[R]? = some (.cells (rs.map (Value.int .i64)).toArray 3 (0, 0)) := (h.be.block R c.rD).trans c.hR
  have hi' : i < rs.length := by rw [c.lr]; exact hi
  rw [blk_cell this]; simp [hi']
end
set_option maxHeartbeats 1000000 in
theorem isNaN_calls (a : Int) (w : World) : Calls Try.prog 64 #[.int .i64 a] w fun e w' => e = .returned (.bool false) ∧ w' = w := by
  have h : (a != a) = false := by simp
  go_enter Try.func64, Try.ntmps64
  go_wp2
  go_ret
  exact ⟨rfl, rfl⟩
set_option maxHeartbeats 1000000 in
theorem compare_calls (a b : Int) (w : World) : Calls Try.prog 51 #[.int .i64 a, .int .i64 b] w fun e w' => e = .returned (.int .i64 (cmpI a b)) ∧ w' = w := by
  by_cases h1 : a < b
  · have e : Aside0 (cmpI a b = -1) := ⟨by unfold cmpI; rw [if_pos h1]⟩
    go_enter Try.func51, Try.ntmps51
    go_wp2_with (go_at_call 64; refine (isNaN_calls _ _).mono ?_; rintro e w' ⟨rfl, rfl⟩)
    go_ret
    exact ⟨by rw [e.out]; rfl, rfl⟩
  · by_cases h2 : b < a
    · have e : Aside0 (cmpI a b = 1) := ⟨by unfold cmpI; rw [if_neg h1, if_pos h2]⟩
      go_enter Try.func51, Try.ntmps51
      go_wp2_with (go_at_call 64; refine (isNaN_calls _ _).mono ?_; rintro e w' ⟨rfl, rfl⟩)
      go_ret
      exact ⟨by rw [e.out]; rfl, rfl⟩
    · have e : Aside0 (cmpI a b = 0) := ⟨by unfold cmpI; rw [if_neg h1, if_neg h2]⟩
      go_enter Try.func51, Try.ntmps51
      go_wp2_with (go_at_call 64; refine (isNaN_calls _ _).mono ?_; rintro e w' ⟨rfl, rfl⟩)
      go_ret
      exact ⟨by rw [e.out]; rfl, rfl⟩
set_option maxHeartbeats 1000000 in
theorem cmp_calls {D B R n : Nat} {rs ys : List Int} {w0 : World} (c : Ctx D B R n rs w0) (i j : Nat) (hi : i < n) (hj : j < n) (W : World) (h : Srt D n w0 W ys) :
    Calls Try.prog 50 #[.int .i64 i, .int .i64 j, .pointer (some ⟨B, 0, none⟩)] W fun e w' => e = .returned (.int .i64 (cmpI (rs.getD j 0) (rs.getD i 0))) ∧ ∃ q, W.drewN q = w' := by
  have hb := c.box h
  have h1 := c.row h i hi
  have h2 := c.row h j hj
  obtain ⟨u, hu⟩ : ∃ u, rs.getD i 0 = u := ⟨_, rfl⟩
  obtain ⟨v, hv⟩ : ∃ v, rs.getD j 0 = v := ⟨_, rfl⟩
  rw [hu] at h1 ⊢
  rw [hv] at h2 ⊢
  clear hu hv
  have hn := c.ln
  have i0 : (0 : Int) ≤ (i : Int) := by omega
  have j0 : (0 : Int) ≤ (j : Int) := by omega
  have i1 : (i : Int) < (n : Int) := by omega
  have j1 : (j : Int) < (n : Int) := by omega
  go_enter Try.func50, Try.ntmps50
  go_wp2
  go_quiet ((go_at_call 51; exact Calls.quiet_of_same (compare_calls _ _ _)))
  go_wp2
  go_ret
  exact ⟨rfl, _, rfl⟩
end Go.Proofs.Ytcncjldggfbjdaa.G2
