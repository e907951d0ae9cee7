import Derived.Test.YtcncjldggfbjdaaS6
import Derived.Test.YtcncjldggfbjdaaO2
import Derived.Test.YtcncjldggfbjdaaE2
namespace Go.Proofs.Ytcncjldggfbjdaa.G2
open Go.RowKit Go.Proofs.YtcncjldggfbjdaaW.PrintWords Go.Proofs.YtcncjldggfbjdaaW.PrintLast Go.Proofs.YtcncjldggfbjdaaW.PrintMore Go.Proofs.Ytcncjldggfbjdaa.G1 Go.Proofs.Ytcncjldggfbjdaa.O Go.Proofs.Ytcncjldggfbjdaa.PEx Go.Proofs.Ytcncjldggfbjdaa.E
set_option linter.unusedVariables false
set_option linter.unusedSimpArgs false

def ShareNo (w : World) (e : Ending) (w' : World) : Prop := ∃ v0_ : Value, e = .returned (.tuple #[v0_, .bool false]) ∧ Kd.R (Kd.int .i64) 3 w' w.heap.size (fun _ => True) v0_ [] ∧ Below w.heap.size w w'
theorem shareNo_mk {w w' : World} (h : Below w.heap.size w w') : ShareNo w (.returned (.tuple #[.slice none 0 0, .bool false])) w' := ⟨_, rfl, Kd.R_nil _ _ _ _ _, h⟩
set_option maxHeartbeats 1000000 in
theorem share_long (a0 : Int) (A1 : Option Addr) (c1 : Nat) (l1 : List Int) (w : World) (h : 64 < l1.length) :
    Calls Try.prog 17 #[.int .i64 a0, .slice A1 l1.length c1] w (ShareNo w) := by
  have d0 : decide ((64 : Int) < (l1.length : Int)) = true := decide_eq_true (by omega)
  have d1 : decide (64 < l1.length) = true := decide_eq_true h
  go_enter Try.func17, Try.ntmps17
  go_wp2
  go_ret2
  exact shareNo_mk (Below.refl _ _)
set_option maxHeartbeats 1000000 in
theorem share_bad (a0 : Int) (A1 : Option Addr) (c1 : Nat) (l1 : List Int) (w : World) (hr1 : Kd.C (Kd.int .i64) w A1 l1.length l1) (h : l1.length ≤ 64) (hb : l1.any badW = true) :
    Calls Try.prog 17 #[.int .i64 a0, .slice A1 l1.length c1] w (ShareNo w) := by
  have d0 : decide ((64 : Int) < (l1.length : Int)) = false := decide_eq_false (by omega)
  have d1 : decide (64 < l1.length) = false := decide_eq_false (by omega)
  have HC := bad_calls A1 c1 l1 w hr1 (by omega)
  rw [hb] at HC
  have HC := Aside0.mk HC
  clear hb hr1
  go_enter Try.func17, Try.ntmps17
  go_wp2_with (go_at_call 47; refine HC.out.mono ?_; rintro e w2 ⟨rfl, hb2⟩)
  go_ret2
  exact shareNo_mk hb2
/-- What the weights are. -/
structure Fine (l : List Int) : Prop where
  len : l.length ≤ 64
  all : ∀ x ∈ l, 0 ≤ x ∧ x ≤ 1125899906842624
theorem Fine.nn {l : List Int} (h : Fine l) : ∀ x ∈ l, 0 ≤ x := fun x hx => (h.all x hx).1
theorem Fine.bd {l : List Int} (h : Fine l) : 0 ≤ l.sum ∧ l.sum ≤ 72057594037927936 := by
  have h1 := sum_nonneg h.nn
  have h2 := sum_le_card (l := l) (W := 1125899906842624) (fun x hx => (h.all x hx).2)
  have := h.len
  omega
def SharePost (w : World) (r : List Int) (e : Ending) (w' : World) : Prop := ∃ v0_ : Value, e = .returned (.tuple #[v0_, .bool true]) ∧ Kd.R (Kd.int .i64) 3 w' w.heap.size (fun _ => True) v0_ r ∧ Below w.heap.size w w'
def shareSum (t : Int) (l : List Int) : Bool := decide (l.sum ≤ 1125899906842624) && decide (0 ≤ t) && decide (t ≤ l.sum)
def ShareAll (w : World) (t : Int) (l : List Int) (e : Ending) (w' : World) : Prop := if shareSum t l = true then SharePost w (shareL t l) e w' else ShareNo w e w'
theorem shareAll_no {w w' : World} {t : Int} {l : List Int} {e : Ending} (h : shareSum t l = false) (h2 : ShareNo w e w') : ShareAll w t l e w' := by unfold ShareAll; rw [if_neg (by simp [h])]; exact h2
theorem shareAll_yes {w w' : World} {t : Int} {l : List Int} {e : Ending} (h : shareSum t l = true) (h2 : SharePost w (shareL t l) e w') : ShareAll w t l e w' := by unfold ShareAll; rw [if_pos h]; exact h2
theorem share_zero {t : Int} {l : List Int} (h : l.sum = 0) (ht : t = 0) : shareL t l = List.replicate l.length 0 := by
  subst ht
  refine ext_getD (by simp [shareL, bump_length]) fun i hi => ?_
  unfold shareL at hi ⊢
  rw [bump_length] at hi
  rw [bump_at _ _ _ _ hi, h]
  have hq : O.leftOf 0 l = 0 := by
    have e : quots 0 l = List.replicate l.length 0 := by
      unfold quots
      rw [h]
      refine List.ext_getElem (by simp) fun i h1 h2 => by simp
    unfold O.leftOf
    rw [e]
    simp
  rw [hq, if_neg (by omega)]
  simp [hi]
/-- The four blocks of a division, as they now lie. -/
structure ShareMid (P R B D n : Nat) (w W : World) (ps rs os : List Int) : Prop where
  hP : W.heap[P]? = some (.cells (cellsOf ps) 3 (0, 0))
  hR : W.heap[R]? = some (.cells (cellsOf rs) 3 (0, 0))
  hB : W.heap[B]? = some (.cells #[.slice (some ⟨R, 0, none⟩) n n] 22 (0, 0))
  hD : W.heap[D]? = some (.cells (cellsOf os) 3 (0, 0))
  wP : w.heap.size ≤ P
  PR : P < R
  RB : R < B
  BD : B < D
  be : Below w.heap.size w W
  lp : ps.length = n
  lr : rs.length = n
  lo : os.length = n
section
variable {P R B D n : Nat} {w W W' : World} {ps rs os : List Int}
theorem below_same {B : Nat} {w W W' : World} (h : Below B w W) (h1 : W'.heap = W.heap) (h2 : W'.os = W.os) (h3 : W'.tape = W.tape) (h4 : W'.output = W.output) : Below B w W' :=
  ⟨h2.trans h.os, h3.trans h.tape, h4.trans h.output, by rw [h1]; exact h.size, fun k hk => by rw [h1]; exact h.block k hk⟩
theorem ShareMid.drewN (h : ShareMid P R B D n w W ps rs os) (m : Nat) : ShareMid P R B D n w (W.drewN m) ps rs os := ⟨h.hP, h.hR, h.hB, h.hD, h.wP, h.PR, h.RB, h.BD, below_same h.be rfl rfl rfl rfl, h.lp, h.lr, h.lo⟩
theorem ShareMid.drew (h : ShareMid P R B D n w W ps rs os) : ShareMid P R B D n w W.drew ps rs os := ⟨h.hP, h.hR, h.hB, h.hD, h.wP, h.PR, h.RB, h.BD, below_same h.be rfl rfl rfl rfl, h.lp, h.lr, h.lo⟩
theorem ShareMid.box (h : ShareMid P R B D n w W ps rs os) : W.cell? ⟨B, 0, none⟩ = some (.slice (some ⟨R, 0, none⟩) n n) := by rw [blk_cell h.hB]; rfl
theorem ShareMid.cellP (h : ShareMid P R B D n w W ps rs os) (i : Nat) (hi : i < n) : W.cell? ⟨P, i, none⟩ = some (.int .i64 (ps.getD i 0)) := by rw [blk_cell h.hP, cellsOf_at _ _ (by rw [h.lp]; exact hi)]
theorem ShareMid.cellD (h : ShareMid P R B D n w W ps rs os) (i : Nat) (hi : i < n) : W.cell? ⟨D, i, none⟩ = some (.int .i64 (os.getD i 0)) := by rw [blk_cell h.hD, cellsOf_at _ _ (by rw [h.lo]; exact hi)]
theorem ShareMid.putP (h : ShareMid P R B D n w W ps rs os) {i : Nat} {v : Int} (h1 : W'.heap[P]? = some (.cells ((cellsOf ps).setIfInBounds i (.int .i64 v)) 3 (0, 0))) (h2 : ∀ b, b ≤ P → Below b W W') (h3 : ∀ k, k ≠ P → W'.heap[k]? = W.heap[k]?) : ShareMid P R B D n w W' (ps.set i v) rs os := by
  have := h.PR; have := h.RB; have := h.BD; have := h.wP
  exact ⟨by rw [h1, cellsOf_set], by rw [h3 _ (by omega)]; exact h.hR, by rw [h3 _ (by omega)]; exact h.hB, by rw [h3 _ (by omega)]; exact h.hD, h.wP, h.PR, h.RB, h.BD, below_then h.be (h2 _ h.wP), by rw [List.length_set]; exact h.lp, h.lr, h.lo⟩
theorem ShareMid.putR (h : ShareMid P R B D n w W ps rs os) {i : Nat} {v : Int} (h1 : W'.heap[R]? = some (.cells ((cellsOf rs).setIfInBounds i (.int .i64 v)) 3 (0, 0))) (h2 : ∀ b, b ≤ R → Below b W W') (h3 : ∀ k, k ≠ R → W'.heap[k]? = W.heap[k]?) : ShareMid P R B D n w W' ps (rs.set i v) os := by
  have := h.PR; have := h.RB; have := h.BD; have := h.wP
  exact ⟨by rw [h3 _ (by omega)]; exact h.hP, by rw [h1, cellsOf_set], by rw [h3 _ (by omega)]; exact h.hB, by rw [h3 _ (by omega)]; exact h.hD, h.wP, h.PR, h.RB, h.BD, below_then h.be (h2 _ (by omega)), h.lp, by rw [List.length_set]; exact h.lr, h.lo⟩
theorem ShareMid.putD (h : ShareMid P R B D n w W ps rs os) {i : Nat} {v : Int} (h1 : W'.heap[D]? = some (.cells ((cellsOf os).setIfInBounds i (.int .i64 v)) 3 (0, 0))) (h2 : ∀ b, b ≤ D → Below b W W') (h3 : ∀ k, k ≠ D → W'.heap[k]? = W.heap[k]?) : ShareMid P R B D n w W' ps rs (os.set i v) := by
  have := h.PR; have := h.RB; have := h.BD; have := h.wP
  exact ⟨by rw [h3 _ (by omega)]; exact h.hP, by rw [h3 _ (by omega)]; exact h.hR, by rw [h3 _ (by omega)]; exact h.hB, by rw [h1, cellsOf_set], h.wP, h.PR, h.RB, h.BD, below_then h.be (h2 _ (by omega)), h.lp, h.lr, by rw [List.length_set]; exact h.lo⟩
theorem mid_mk {w w2 w3 w4 w5 w6 w7 : World} (hb2 : Below w.heap.size w w2) (hP : w3.heap[P]? = some (.cells (cellsOf (List.replicate n 0)) 3 (0, 0))) (hgP : w2.heap.size ≤ P) (hbP : Below w2.heap.size w2 w3)
    (hR : w4.heap[R]? = some (.cells (cellsOf (List.replicate n 0)) 3 (0, 0))) (hgR : w3.heap.size ≤ R) (hbR : Below w3.heap.size w3 w4) (hB : w5.heap[B]? = some (.cells #[.slice none 0 0] 22 (0, 0))) (hgB : w4.heap.size ≤ B) (hbB : Below w4.heap.size w4 w5)
    (hB6 : w6.heap[B]? = some (.cells (#[Value.slice none 0 0].setIfInBounds 0 (.slice (some ⟨R, 0, none⟩) n n)) 22 (0, 0))) (hbB6 : ∀ b, b ≤ B → Below b w5 w6) (hkB6 : ∀ k, k ≠ B → w6.heap[k]? = w5.heap[k]?)
    (hD : w7.heap[D]? = some (.cells (cellsOf (List.replicate n 0)) 3 (0, 0))) (hgD : w6.heap.size ≤ D) (hbD : Below w6.heap.size w6 w7) : ShareMid P R B D n w w7 (List.replicate n 0) (List.replicate n 0) (List.replicate n 0) := by
  have lP := blk_lt hP; have lR := blk_lt hR; have lB := blk_lt hB6
  have hR5 := blk_below hR hbB
  have hP4 := blk_below hP hbR
  have hP5 := blk_below hP4 hbB
  have s1 := hbP.size; have s2 := hbR.size; have s3 := hbB.size; have s4 := (hbB6 0 (Nat.zero_le _)).size; have s5 := hb2.size
  have hP6 : w6.heap[P]? = _ := (hkB6 P (by omega)).trans hP5
  have hR6 : w6.heap[R]? = _ := (hkB6 R (by omega)).trans hR5
  refine ⟨blk_below hP6 hbD, blk_below hR6 hbD, blk_below hB6 hbD, hD, by omega, by omega, by omega, by omega, ?_, by simp, by simp, by simp⟩
  have b3 := below_step hb2 hbP
  have b4 := below_step b3 hbR
  have b5 := below_step b4 hbB
  have b6 := below_then b5 (hbB6 w.heap.size (by omega))
  exact below_step b6 hbD
/-- The first k elements, and zeros behind them. -/
def half (n k : Nat) (xs : List Int) : List Int := xs.take k ++ List.replicate (n - k) 0
theorem half_set (n k : Nat) (xs : List Int) (hk : k < n) (hl : xs.length = n) : (half n k xs).set k (xs.getD k 0) = half n (k + 1) xs := by
  unfold half
  rw [List.set_append_right _ _ (by rw [List.length_take]; omega), List.length_take, Nat.min_eq_left (by omega), Nat.sub_self]
  obtain ⟨m, hm⟩ : ∃ m, n - k = m + 1 := ⟨n - k - 1, by omega⟩
  rw [hm, List.replicate_succ, List.set_cons_zero, show n - (k + 1) = m by omega, List.take_succ_eq_append_getElem (by omega), List.append_assoc, O.getD_eq _ _ (by omega)]
  rfl
theorem half_all (n : Nat) (xs : List Int) (hl : xs.length = n) : half n n xs = xs := by
  unfold half
  rw [Nat.sub_self, List.replicate_zero, List.append_nil, List.take_of_length_le (by omega)]
end
theorem ctx_of {P R B D n : Nat} {w W : World} {ps rs os : List Int} (h : ShareMid P R B D n w W ps rs os) (hr : rs.length = n) (hn : n ≤ 64) : Ctx D B R n rs W := ⟨h.hB, h.hR, h.BD, Nat.lt_trans h.RB h.BD, hr, hn⟩
theorem srt_of {P R B D n : Nat} {w W : World} {ps rs os : List Int} (h : ShareMid P R B D n w W ps rs os) : Srt D n W W os := ⟨h.hD, h.lo, Below.refl _ _, blk_lt h.hD⟩
theorem mid_sorted {P R B D n : Nat} {w W W' : World} {ps rs os ys : List Int} (h : ShareMid P R B D n w W ps rs os) (s : Srt D n W W' ys) : ShareMid P R B D n w W' ps rs ys := by
  have := h.PR; have := h.RB; have := h.BD; have := h.wP
  exact ⟨(s.be.block P (by omega)).trans h.hP, (s.be.block R (by omega)).trans h.hR, (s.be.block B (by omega)).trans h.hB, s.hD, h.wP, h.PR, h.RB, h.BD, below_then h.be ⟨s.be.os, s.be.tape, s.be.output, s.be.size, fun k hk => s.be.block k (by omega)⟩, h.lp, h.lr, s.ly⟩
/-- A weight's part. -/
theorem scale_call (a0 : Int) (l1 : List Int) (hf : Fine l1) (W : Int) (hW : l1.sum = W) (h1 : 1 ≤ W) (h2 : W ≤ 1125899906842624) (h3 : 0 ≤ a0) (h4 : a0 ≤ W) (k : Nat) (hk : k < l1.length) (w : World) :
    Calls Try.prog 15 #[.int .i64 a0, .int .i64 l1[k], .int .i64 W] w fun e w' => e = .returned (.tuple #[.int .i64 ((quots a0 l1).getD k 0), .int .i64 ((rests a0 l1).getD k 0), .bool true]) ∧ Drawn0 w w' := by
  obtain ⟨kk, h⟩ := (scale_ev a0 l1[k] W).rounds
  have hx := hf.all _ (List.getElem_mem hk)
  have hq := quot_le hf.nn (by omega) (show a0 ≤ l1.sum by omega) (List.getElem_mem hk)
  rw [hW] at hq
  have e : scaleF a0 l1[k] W = ((quots a0 l1).getD k 0, (rests a0 l1).getD k 0, true) := by
    rw [quots_at _ _ _ hk, rests_at _ _ _ hk, O.getD_eq _ _ hk, hW]
    unfold scaleF
    rw [if_pos]
    simp only [scaleOk, Bool.and_eq_true, decide_eq_true_eq]
    exact ⟨⟨⟨⟨⟨⟨h3, by omega⟩, hx.1⟩, hx.2⟩, h1⟩, h2⟩, by omega⟩
  rw [e] at h
  exact exact_Scale.calls kk _ _ _ _ _ _ w h
set_option maxRecDepth 100000 in
set_option maxHeartbeats 8000000 in
theorem share_fine (a0 : Int) (A1 : Option Addr) (c1 : Nat) (l1 : List Int) (w : World) (hr1 : Kd.C (Kd.int .i64) w A1 l1.length l1) (hf : Fine l1) (hn : l1.any badW = false) (hll : l1.length ≤ 64) :
    Calls Try.prog 17 #[.int .i64 a0, .slice A1 l1.length c1] w (ShareAll w a0 l1) := by
  have h := hf.len
  have d0 : decide ((64 : Int) < (l1.length : Int)) = false := decide_eq_false (by omega)
  have d1 : decide (64 < l1.length) = false := decide_eq_false (by omega)
  have HC := bad_calls A1 c1 l1 w hr1 (by omega)
  rw [hn] at HC
  have HC := Aside0.mk HC
  have HR := Aside0.mk hr1
  have HR0 := HR
  have HF := Aside0.mk hf
  clear hn hr1 hf
  go_enter Try.func17, Try.ntmps17
  go_wp2_with (go_at_call 47; refine HC.out.mono ?_; rintro e w2 ⟨rfl, hb2⟩; have HB2 := Aside0.mk hb2; clear hb2)
  go_loop [6, 26] (fun v6 v26 => ∃ k : Nat, v26 = .int .i64 k ∧ v6 = .int .i64 (l1.take k).sum ∧ Aside0 (k ≤ l1.length)) (fun _ v26 => l1.length - (intOf v26).toNat)
  case atStart => exact ⟨0, rfl, by simp, ⟨Nat.zero_le _⟩⟩
  case round =>
    obtain ⟨k, rfl, rfl, hk⟩ := hrel
    have hbd := HF.out.bd
    have htk := take_sum_le HF.out.nn k
    by_cases hlt : k < l1.length
    · have hk0 : (0 : Int) ≤ (k : Int) := Int.natCast_nonneg _
      have hk1 : (k : Int) < (l1.length : Int) := by omega
      obtain ⟨ad, e1, hx⟩ := Kd.at_int (Kd.C_below HR.out HB2.out) k hk0 hk1
      subst e1
      rw [Int.toNat_natCast, rdn _ _ hlt] at hx
      have HS := Aside0.mk (sum_take l1 k hlt)
      have hxb := HF.out.all _ (List.getElem_mem hlt)
      obtain ⟨y, hy⟩ : ∃ y, l1[k] = y := ⟨_, rfl⟩
      rw [hy] at hx HS hxb
      clear hy
      obtain ⟨s, hs⟩ : ∃ s, (l1.take k).sum = s := ⟨_, rfl⟩
      rw [hs] at HS htk ⊢
      clear hs
      go_wp2
      go_round
      case rel => exact ⟨k + 1, by go_num, by rw [HS.out], ⟨by omega⟩⟩
      case measure => simp [intOf]; omega
    · obtain rfl : k = l1.length := by have := hk.out; omega
      rw [List.take_length] at htk ⊢
      obtain ⟨W, hW⟩ : ∃ W, l1.sum = W := ⟨_, rfl⟩
      rw [hW] at hbd ⊢
      clear htk hk
      have HW := Aside0.mk hW
      clear hW
      cases hs : shareSum a0 l1 with
      | false =>
        have HS := Aside0.mk hs
        have hcs : 1125899906842624 < W ∨ a0 < 0 ∨ W < a0 := by
          unfold shareSum at hs
          rw [HW.out] at hs
          simp only [Bool.and_eq_false_iff, decide_eq_false_iff_not] at hs
          omega
        clear hs
        by_cases hc1 : 1125899906842624 < W
        · go_wp2
          go_ret2
          exact shareAll_no HS.out (shareNo_mk HB2.out)
        · by_cases hc2 : a0 < 0
          · go_wp2
            go_ret2
            exact shareAll_no HS.out (shareNo_mk HB2.out)
          · have hc3 : W < a0 := by omega
            go_wp2
            go_ret2
            exact shareAll_no HS.out (shareNo_mk HB2.out)
      | true =>
        have HS := Aside0.mk hs
        have hcs : W ≤ 1125899906842624 ∧ 0 ≤ a0 ∧ a0 ≤ W := by
          unfold shareSum at hs
          rw [HW.out] at hs
          simp only [Bool.and_eq_true, decide_eq_true_eq] at hs
          omega
        obtain ⟨hc1, hc2, hc3⟩ := hcs
        have e1 : decide (1125899906842624 < W) = false := decide_eq_false (by omega)
        have e2 : decide (a0 < 0) = false := decide_eq_false (by omega)
        have e3 : decide (W < a0) = false := decide_eq_false (by omega)
        clear hs
        by_cases hz : W = 0
        · have e4 : (W == 0) = true := beq_iff_eq.2 hz
          have HZ := Aside0.mk hz
          clear hz
          go_wp2_with (((with_reducible refine gate_dst (N := 47) rfl ?_); refine ev_make rfl rfl _ _ rfl l1.length (by omega) (by go_simp; done) (by go_simp; done) ?_; intro gP w3 hP hgP hbP))
          go_ret2
          refine shareAll_yes HS.out ⟨_, rfl, ?_, below_step HB2.out hbP⟩
          rw [share_zero (by rw [HW.out, HZ.out]) (by have := HZ.out; omega)]
          exact R_block _ (by simp) (by unfold maxLen; omega) hP (Nat.le_trans HB2.out.size hgP)
        · skip
          have e4 : (W == 0) = false := beq_eq_false_iff_ne.2 hz
          have hz' : 1 ≤ W := by omega
          clear hz
          have HLL := Aside0.mk hll
          go_wp2_with (first
            | ((with_reducible refine gate_dst (N := 47) rfl ?_); refine ev_make rfl rfl _ _ rfl l1.length (by omega) (by go_simp; done) (by go_simp; done) ?_; intro P w3 hP hgP hbP)
            | ((with_reducible refine gate_dst (N := 53) rfl ?_); refine ev_make rfl rfl _ _ rfl l1.length (by omega) (by go_simp; done) (by go_simp; done) ?_; intro R w4 hR hgR hbR)
            | ((with_reducible refine gate_dst (N := 10) rfl ?_); refine ev_box rfl rfl #[.slice none 0 0] 22 (by go_simp; done) ?_; intro B w5 hB hgB hbB)
            | (refine ev_put rfl 22 _ _ rfl rfl B 0 rfl _ rfl rfl 22 _ hB (Nat.le_of_ble_eq_true rfl) (by kernel_rfl) ?_; intro w6 hB6 hbB6 hkB6)
            | ((with_reducible refine gate_dst (N := 56) rfl ?_); refine ev_make rfl rfl _ _ rfl l1.length (by omega) (by go_simp; done) (by go_simp; done) ?_; intro D w7 hD hgD hbD))
          have HM0 := Aside0.mk (mid_mk HB2.out hP hgP hbP hR hgR hbR hB hgB hbB hB6 hbB6 hkB6 hD hgD hbD)
          clear hP hgP hbP hR hgR hbR hB hgB hbB hB6 hbB6 hkB6 hD hgD hbD
          go_loopw [12, 60] (fun v12 v60 w' => ∃ k : Nat, v60 = .int .i64 k ∧ v12 = .int .i64 (a0 - ((quots a0 l1).take k).sum) ∧ Aside0 (k ≤ l1.length ∧ ShareMid P R B D l1.length w w' (half l1.length k (quots a0 l1)) (half l1.length k (rests a0 l1)) (half l1.length k (idx l1.length)))) (fun _ v60 _ => l1.length - (intOf v60).toNat)
          case atStart => exact ⟨0, rfl, by simp, ⟨Nat.zero_le _, by simpa [half] using HM0.out⟩⟩
          case round =>
            clear HM0
            obtain ⟨k, rfl, rfl, hk⟩ := hrel
            have hqn := quots_nonneg HF.out.nn hc2
            have hql : (quots a0 l1).sum ≤ a0 := by
              have := (left_bd a0 l1 (by rw [HW.out]; omega)).1
              unfold O.leftOf at this
              omega
            have htk := take_sum_le hqn k
            have HQL := Aside0.mk hql
            by_cases hlt : k < l1.length
            · have hk0 : (0 : Int) ≤ (k : Int) := Int.natCast_nonneg _
              have hk1 : (k : Int) < (l1.length : Int) := by omega
              have HK := Aside0.mk hk.out.1
              have HM := Aside0.mk hk.out.2
              have HLT := Aside0.mk hlt
              clear hk
              obtain ⟨ad, e1', hx⟩ := Kd.at_int (Kd.C_below HR0.out HM.out.be) k hk0 hk1
              subst e1'
              rw [Int.toNat_natCast, rdn _ _ hlt] at hx
              have HSC := Aside0.mk (scale_call a0 l1 HF.out W HW.out hz' hc1 hc2 hc3 k hlt)
              have HSQ := Aside0.mk (sum_take (quots a0 l1) k (by rw [quots_length]; exact hlt))
              have HPS := Aside0.mk (half_set l1.length k (quots a0 l1) hlt (by rw [quots_length]))
              have HRS := Aside0.mk (half_set l1.length k (rests a0 l1) hlt (by rw [rests_length]))
              have HOS := Aside0.mk (half_set l1.length k (idx l1.length) hlt (by rw [idx_length]))
              have hq1 : 0 ≤ (quots a0 l1)[k]'(by rw [quots_length]; exact hlt) := hqn _ (List.getElem_mem _)
              have hq2 : ((quots a0 l1).take k).sum + (quots a0 l1)[k]'(by rw [quots_length]; exact hlt) ≤ a0 := by
                have := (take_sum_le hqn (k + 1)).2
                rw [HSQ.out] at this
                omega
              have hqe : (quots a0 l1)[k]'(by rw [quots_length]; exact hlt) = (quots a0 l1).getD k 0 := (O.getD_eq _ _ _).symm
              rw [hqe] at hq1 hq2 HSQ
              rw [idx_at _ _ hlt] at HOS
              obtain ⟨y, hy⟩ : ∃ y, l1[k] = y := ⟨_, rfl⟩
              obtain ⟨q, hq⟩ : ∃ q, (quots a0 l1).getD k 0 = q := ⟨_, rfl⟩
              obtain ⟨rm, hrm⟩ : ∃ rm, (rests a0 l1).getD k 0 = rm := ⟨_, rfl⟩
              obtain ⟨s, hs⟩ : ∃ s, ((quots a0 l1).take k).sum = s := ⟨_, rfl⟩
              obtain ⟨ps, hps⟩ : ∃ ps, half l1.length k (quots a0 l1) = ps := ⟨_, rfl⟩
              obtain ⟨rs, hrs⟩ : ∃ rs, half l1.length k (rests a0 l1) = rs := ⟨_, rfl⟩
              obtain ⟨os, hos⟩ : ∃ os, half l1.length k (idx l1.length) = os := ⟨_, rfl⟩
              rw [hy, hq, hrm] at HSC
              rw [hy] at hx
              rw [hq] at HSQ HPS hq1 hq2
              rw [hs] at HSQ htk hq2 ⊢
              rw [hrm] at HRS
              rw [hps] at HPS HM
              rw [hrs] at HRS HM
              rw [hos] at HOS HM
              clear hy hq hrm hs hps hrs hos hqe hqn hql
              go_wp2
              refine start_ (n := 16) (S := fun w' => ∃ ps', ShareMid P R B D l1.length w w' ps' rs os) (ds := [15]) #[false, false, false, false, false, false, false, false, false, false, false, false, false, false, false, false] (by kernel_rfl) rfl rfl ⟨ps, HM.out.drew⟩ (fun hHeld => ?_)
              have HM7 := Aside0.mk HM.out.drew
              generalize World.drew _ = w7 at hHeld HM7 ⊢
              refine pure_ (i := 0) (N := (some 66)) (v := ?_) (a' := ?_) #[true, false, false, false, false, false, false, false, false, false, false, false, false, false, false, false] rfl rfl (by kernel_rfl) (fun _ _ _ h => h) (Or.inl ⟨by rfl, ?_⟩) ?_ ?_
              rotate_left
              · intro w'; go_simp; with_reducible rfl
              rotate_left
              · simp only [Act.put, List.setIfInBounds_toArray, List.set_cons_zero, List.set_cons_succ, i64_w, i32_w]; rfl
              refine pure_ (i := 1) (N := (some 67)) (v := ?_) (a' := ?_) #[true, true, false, false, false, false, false, false, false, false, false, false, false, false, false, false] rfl rfl (by kernel_rfl) (fun _ _ _ h => h) (Or.inl ⟨by rfl, ?_⟩) ?_ ?_
              rotate_left
              · intro w'; go_simp; with_reducible rfl
              rotate_left
              · simp only [Act.put, List.setIfInBounds_toArray, List.set_cons_zero, List.set_cons_succ, i64_w, i32_w]; rfl
              refine take_ (i := 2) (N := (some 68)) (v := ?_) (a' := ?_) #[true, true, true, false, false, false, false, false, false, false, false, false, false, false, false, false] rfl rfl (by kernel_rfl) (fun _ _ _ h => h) (Or.inl ⟨by rfl, ?_⟩) hHeld ?_ ?_
              rotate_left
              · intro w' hw'; obtain ⟨_, hw'⟩ := hw'; have z := ShareMid.box hw'; go_simp; with_reducible rfl
              rotate_left
              · simp only [Act.put, List.setIfInBounds_toArray, List.set_cons_zero, List.set_cons_succ, i64_w, i32_w]; rfl
              refine pure_ (i := 3) (N := (some 69)) (v := ?_) (a' := ?_) #[true, true, true, true, false, false, false, false, false, false, false, false, false, false, false, false] rfl rfl (by kernel_rfl) (fun _ _ _ h => h) (Or.inl ⟨by rfl, ?_⟩) ?_ ?_
              rotate_left
              · intro w'; go_simp; with_reducible rfl
              rotate_left
              · simp only [Act.put, List.setIfInBounds_toArray, List.set_cons_zero, List.set_cons_succ, i64_w, i32_w]; rfl
              refine pure_ (i := 4) (N := (some 70)) (v := ?_) (a' := ?_) #[true, true, true, true, true, false, false, false, false, false, false, false, false, false, false, false] rfl rfl (by kernel_rfl) (fun _ _ _ h => h) (Or.inl ⟨by rfl, ?_⟩) ?_ ?_
              rotate_left
              · intro w'; go_simp; with_reducible rfl
              rotate_left
              · simp only [Act.put, List.setIfInBounds_toArray, List.set_cons_zero, List.set_cons_succ, i64_w, i32_w]; rfl
              refine pure_ (i := 5) (N := (some 71)) (v := ?_) (a' := ?_) #[true, true, true, true, true, true, false, false, false, false, false, false, false, false, false, false] rfl rfl (by kernel_rfl) (fun _ _ _ h => h) (Or.inl ⟨by rfl, ?_⟩) ?_ ?_
              rotate_left
              · intro w'; go_simp; with_reducible rfl
              rotate_left
              · simp only [Act.put, List.setIfInBounds_toArray, List.set_cons_zero, List.set_cons_succ, i64_w, i32_w]; rfl
              refine pure_ (i := 6) (N := (some 72)) (v := ?_) (a' := ?_) #[true, true, true, true, true, true, true, false, false, false, false, false, false, false, false, false] rfl rfl (by kernel_rfl) (fun _ _ _ h => h) (Or.inl ⟨by rfl, ?_⟩) ?_ ?_
              rotate_left
              · intro w'; go_simp; with_reducible rfl
              rotate_left
              · simp only [Act.put, List.setIfInBounds_toArray, List.set_cons_zero, List.set_cons_succ, i64_w, i32_w]; rfl
              refine one_ (i := 7) (N := some 73) #[true, true, true, true, true, true, true, true, false, false, false, false, false, false, false, false] rfl rfl (by kernel_rfl) (by decide) (fun K hK => ?_)
              refine goes_ Try.func15 (by kernel_rfl) rfl #[.int .i64 a0, .int .i64 y, .int .i64 W] (by rfl) rfl rfl (by simp only [List.map_toArray, List.map_cons, List.map_nil]; rfl) ?_
              refine (HSC.out _).mono ?_; rintro e w8 ⟨rfl, ⟨nd, rfl⟩⟩
              refine ⟨_, rfl, ?_⟩
              refine hK.out _ _ ⟨ps, ShareMid.drewN HM7.out _⟩ (fun hHeld => ?_)
              have HM8 := Aside0.mk (ShareMid.drewN HM7.out nd)
              clear hK K
              refine norm_ (a' := ?_) ?_ ?_
              rotate_left
              · show Act.put _ (some 73) _ = _; simp only [Act.put, List.setIfInBounds_toArray, List.set_cons_zero, List.set_cons_succ]; rfl
              generalize World.drewN _ nd = w8 at hHeld HM8 ⊢
              refine pure_ (i := 8) (N := (some 65)) (v := ?_) (a' := ?_) #[true, true, true, true, true, true, true, true, true, false, false, false, false, false, false, false] rfl rfl (by kernel_rfl) (fun _ _ _ h => h) (Or.inl ⟨by rfl, ?_⟩) ?_ ?_
              rotate_left
              · intro w'; go_simp; with_reducible rfl
              rotate_left
              · simp only [Act.put, List.setIfInBounds_toArray, List.set_cons_zero, List.set_cons_succ, i64_w, i32_w]; rfl
              refine pure_ (i := 9) (N := (some 74)) (v := ?_) (a' := ?_) #[true, true, true, true, true, true, true, true, true, true, false, false, false, false, false, false] rfl rfl (by kernel_rfl) (fun _ _ _ h => h) (Or.inl ⟨by rfl, ?_⟩) ?_ ?_
              rotate_left
              · intro w'; go_simp; with_reducible rfl
              rotate_left
              · simp only [Act.put, List.setIfInBounds_toArray, List.set_cons_zero, List.set_cons_succ, i64_w, i32_w]; rfl
              refine pure_ (i := 10) (N := (some 75)) (v := ?_) (a' := ?_) #[true, true, true, true, true, true, true, true, true, true, true, false, false, false, false, false] rfl rfl (by kernel_rfl) (fun _ _ _ h => h) (Or.inl ⟨by rfl, ?_⟩) ?_ ?_
              rotate_left
              · intro w'; go_simp; with_reducible rfl
              rotate_left
              · simp only [Act.put, List.setIfInBounds_toArray, List.set_cons_zero, List.set_cons_succ, i64_w, i32_w]; rfl
              refine pure_ (i := 11) (N := (some 76)) (v := ?_) (a' := ?_) #[true, true, true, true, true, true, true, true, true, true, true, true, false, false, false, false] rfl rfl (by kernel_rfl) (fun _ _ _ h => h) (Or.inl ⟨by rfl, ?_⟩) ?_ ?_
              rotate_left
              · intro w'; go_simp; with_reducible rfl
              rotate_left
              · simp only [Act.put, List.setIfInBounds_toArray, List.set_cons_zero, List.set_cons_succ, i64_w, i32_w]; rfl
              refine pure_ (i := 12) (N := (some 77)) (v := ?_) (a' := ?_) #[true, true, true, true, true, true, true, true, true, true, true, true, true, false, false, false] rfl rfl (by kernel_rfl) (fun _ _ _ h => h) (Or.inl ⟨by rfl, ?_⟩) ?_ ?_
              rotate_left
              · intro w'; go_simp; with_reducible rfl
              rotate_left
              · simp only [Act.put, List.setIfInBounds_toArray, List.set_cons_zero, List.set_cons_succ, i64_w, i32_w]; rfl
              refine one_ (i := 13) (N := none) #[true, true, true, true, true, true, true, true, true, true, true, true, true, true, false, false] rfl rfl (by kernel_rfl) (by decide) (fun K hK => ?_)
              refine put_step (by rfl) 3 (.tmp 77) (.tmp 74) rfl rfl P k (by go_simp; done) (.int .i64 q) (by go_simp; done) rfl 3 _ HM8.out.hP (by rw [cellsOf_size, HM8.out.lp]; exact hlt) (by kernel_rfl) (fun w9 h1_ h2_ h3_ => hK.out _ _ ⟨_, ShareMid.putP HM8.out h1_ h2_ h3_⟩ (fun hHeld => ?_))
              have HM9 := Aside0.mk (ShareMid.putP HM8.out h1_ h2_ h3_)
              clear h1_ h2_ h3_ hK K
              refine pure_ (i := 14) (N := (some 78)) (v := ?_) (a' := ?_) #[true, true, true, true, true, true, true, true, true, true, true, true, true, true, true, false] rfl rfl (by kernel_rfl) (fun _ _ _ h => h) (Or.inl ⟨by rfl, ?_⟩) ?_ ?_
              rotate_left
              · intro w'; go_simp; with_reducible rfl
              rotate_left
              · simp only [Act.put, List.setIfInBounds_toArray, List.set_cons_zero, List.set_cons_succ, i64_w, i32_w]; rfl
              refine last_ (i := 15) (N := none) #[true, true, true, true, true, true, true, true, true, true, true, true, true, true, true, true] rfl rfl (by kernel_rfl) (by decide) (fun K hK => ?_)
              refine put_step (by rfl) 3 (.tmp 78) (.tmp 75) rfl rfl R k (by go_simp; done) (.int .i64 rm) (by go_simp; done) rfl 3 _ HM9.out.hR (by rw [cellsOf_size, HM9.out.lr]; exact hlt) (by kernel_rfl) (fun w10 h1_ h2_ h3_ => hK.out _ _ ?_)
              have HM10 := Aside0.mk (ShareMid.putR HM9.out h1_ h2_ h3_)
              clear h1_ h2_ h3_ hK K
              refine done_ (by kernel_rfl) ?_
              go_wp2_with (first
                | (refine ev_put rfl 3 _ _ rfl rfl D k (by go_simp; done) (.int .i64 k) (by go_simp; done) rfl 3 _ HM10.out.hD (by rw [cellsOf_size, HM10.out.lo]; exact HLT.out) (by kernel_rfl) ?_; intro w11 h1_ h2_ h3_; have HM11 := Aside0.mk (ShareMid.putD HM10.out h1_ h2_ h3_); have zc := HM11.out.cellP k HLT.out; rw [getD_set _ _ _ _ (by rw [(HM.out.lp)]; exact HLT.out), if_pos rfl] at zc; clear h1_ h2_ h3_))
              go_roundw
              case rel => exact ⟨k + 1, by go_num, by rw [HSQ.out, Int.sub_sub], ⟨by omega, by rw [← HPS.out, ← HRS.out, ← HOS.out]; exact HM11.out⟩⟩
              case measure => simp [intOf] <;> omega
            · obtain rfl : k = l1.length := by have := hk.out.1; omega
              have HM := Aside0.mk hk.out.2
              clear hk
              rw [half_all _ _ (by rw [quots_length]), half_all _ _ (by rw [rests_length]), half_all _ _ (by rw [idx_length])] at HM
              have hlb := left_bd a0 l1 (by rw [HW.out]; omega)
              have HLB := Aside0.mk hlb
              rw [List.take_of_length_le (by rw [quots_length]; exact Nat.le_refl _)] at htk ⊢
              obtain ⟨lf, hlf⟩ : ∃ lf : Nat, O.leftOf a0 l1 = lf := ⟨(O.leftOf a0 l1).toNat, by omega⟩
              have hlf' : a0 - (quots a0 l1).sum = (lf : Int) := hlf
              rw [hlf']
              have hlfn : lf ≤ l1.length := by omega
              have HLF := Aside0.mk hlf
              have HLN := Aside0.mk hlfn
              clear hlf hlf' hlb htk hqn hql
              have lfi : (lf : Int) ≤ (l1.length : Int) := by omega
              have lf0 : (0 : Int) ≤ (lf : Int) := by omega
              have HSORT := Aside0.mk (sort_calls (ctx_of HM.out (by rw [rests_length]) (by omega)) (fun k hk => idx_at _ _ hk) _ (srt_of HM.out))
              go_wp2_with (go_at_call 49; refine HSORT.out.mono ?_; rintro e w8 ⟨rfl, ys, hs1, hs2, hs3⟩; have HS8 := Aside0.mk (⟨hs1, hs2, hs3⟩ : _ ∧ _ ∧ _); clear hs1 hs2 hs3)
              have HM8 := Aside0.mk (mid_sorted HM.out HS8.out.1)
              go_loopw [97] (fun v97 w' => ∃ i : Nat, v97 = .int .i64 i ∧ Aside0 (i ≤ lf ∧ ShareMid P R B D l1.length w w' (bump a0 l1 i) (rests a0 l1) ys)) (fun v97 _ => lf - (intOf v97).toNat)
              case atStart => exact ⟨0, rfl, ⟨Nat.zero_le _, by rw [show ((0 : Nat) : Int) = 0 from rfl, bump_zero]; exact HM8.out⟩⟩
              case round =>
                clear HM8
                obtain ⟨i, rfl, hi⟩ := hrel
                by_cases hil : i < lf
                · have HI := Aside0.mk hi.out.2
                  obtain ⟨m, hm1, hm2, hm3⟩ := HS8.out.2.1.inside i (Nat.zero_le _) (by omega)
                  rw [idx_at _ _ hm2] at hm3
                  obtain ⟨hml, hbs⟩ := bump_succ a0 l1 ys HS8.out.2.1 HS8.out.2.2 i m (by omega) hm3
                  have c1 := HI.out.cellD i (by omega)
                  have c2 := HI.out.cellP m hml
                  rw [hm3] at c1
                  have hbb : 0 ≤ (bump a0 l1 i).getD m 0 ∧ (bump a0 l1 i).getD m 0 ≤ 1125899906842625 := by
                    rw [bump_at _ _ _ _ hml]
                    have hx := HF.out.all _ (List.getElem_mem hml)
                    have hq := quot_le HF.out.nn (by rw [HW.out]; omega) (show a0 ≤ l1.sum by rw [HW.out]; omega) (List.getElem_mem hml)
                    have hq0 : 0 ≤ a0 * l1[m] / l1.sum := Int.ediv_nonneg (Int.mul_nonneg hc2 hx.1) HF.out.bd.1
                    rw [O.getD_eq _ _ hml]
                    split <;> omega
                  have HBS := Aside0.mk hbs
                  obtain ⟨bv, hbv⟩ : ∃ bv, (bump a0 l1 i).getD m 0 = bv := ⟨_, rfl⟩
                  rw [hbv] at c2 hbb HBS
                  clear hbv hbs hm3 hi
                  have m0 : (0 : Int) ≤ (m : Int) := by omega
                  have m1 : (m : Int) < (l1.length : Int) := by omega
                  have i0 : (0 : Int) ≤ (i : Int) := by omega
                  have i1 : (i : Int) < (lf : Int) := by omega
                  go_wp2_with (first
                    | (refine ev_put rfl 3 _ _ rfl rfl P m (by go_simp; done) (.int .i64 (bv + 1)) (by go_simp; done) rfl 3 _ HI.out.hP (by rw [cellsOf_size, bump_length]; exact hml) (by kernel_rfl) ?_; intro w9 h1_ h2_ h3_; have HI9 := Aside0.mk (ShareMid.putP HI.out h1_ h2_ h3_); clear h1_ h2_ h3_))
                  go_roundw
                  case rel => exact ⟨i + 1, by go_num, ⟨by omega, by rw [Int.natCast_add, Int.natCast_one, HBS.out]; exact HI9.out⟩⟩
                  case measure => simp [intOf] <;> omega
                · obtain rfl : i = lf := by have := hi.out.1; omega
                  have HI := Aside0.mk hi.out.2
                  clear hi
                  go_wp2
                  go_ret2
                  refine shareAll_yes HS.out ⟨_, rfl, ?_, HI.out.be⟩
                  unfold shareL
                  rw [HLF.out]
                  exact R_block _ (by rw [bump_length]) (by unfold maxLen; omega) HI.out.hP HI.out.wP
end Go.Proofs.Ytcncjldggfbjdaa.G2
