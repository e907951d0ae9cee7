import Derived.Test.YtcncjldggfbjdaaS5
import Derived.Test.YtcncjldggfbjdaaPExx3
namespace Go.Proofs.Ytcncjldggfbjdaa.G2
open Go.RowKit Go.Proofs.YtcncjldggfbjdaaW.PrintWords Go.Proofs.YtcncjldggfbjdaaW.PrintLast Go.Proofs.YtcncjldggfbjdaaW.PrintMore Go.Proofs.Ytcncjldggfbjdaa.G1 Go.Proofs.Ytcncjldggfbjdaa.O Go.Proofs.Ytcncjldggfbjdaa.PEx
set_option linter.unusedVariables false
set_option linter.unusedSimpArgs false

/-- A row of whole numbers, as a block's cells. -/
def cellsOf (xs : List Int) : Array Value := (xs.map (Value.int .i64)).toArray
theorem cellsOf_set (xs : List Int) (i : Nat) (v : Int) : (cellsOf xs).setIfInBounds i (.int .i64 v) = cellsOf (xs.set i v) := by
  unfold cellsOf
  apply Array.ext'
  simp
theorem cellsOf_size (xs : List Int) : (cellsOf xs).size = xs.length := by simp [cellsOf]
theorem cellsOf_at (xs : List Int) (i : Nat) (h : i < xs.length) : (cellsOf xs)[i]? = some (.int .i64 (xs.getD i 0)) := by simp [cellsOf, h]
section
variable {P : Program} {ops : Array Oper} {rest : List Oper} {o : Oper} {a : Act} {Q : Exit → Act → World → Prop} {w : World}
/-- A variable is made: its block, and the world, get letters. -/
theorem ev_box {N : Tmp} (_hd : o.dst = some N) (hgd : o.guard = none) (cs : Array Value) (t : TypeId)
    (hrun : (execOp a.eval o).run P w = .ok (.value (.pointer (some ⟨w.heap.size, 0, none⟩))) (w.alloc (.cells cs t (0, 0))))
    (h : ∀ g w1, w1.heap[g]? = some (.cells cs t (0, 0)) → w.heap.size ≤ g → Below w.heap.size w w1 → wpList P ops Q rest (a.put o.dst (.pointer (some ⟨g, 0, none⟩))) w1) : wpList P ops Q (o :: rest) a w :=
  box_event hgd _hd hrun fun g hg w1 hb hbel => h g w1 hb (by omega) hbel
/-- A value of one cell is stored into a block of the call's own. -/
theorem ev_put (hgd : o.guard = none) (ty : TypeId) (x y : Operand) (ho : o.op = .store ty x y) (hN : o.dst = none) (g j : Nat) (hx : a.eval x = .pointer (some ⟨g, j, none⟩))
    (v : Value) (hy : a.eval y = v) (h1 : v.oneCell' = true) (t : TypeId) (old : Array Value) (hg : w.heap[g]? = some (.cells old t (0, 0))) (hj : j < old.size) (hi : (P.info? ty).map (·.size) = some 1)
    (h : ∀ w', w'.heap[g]? = some (.cells (old.setIfInBounds j v) t (0, 0)) → (∀ B, B ≤ g → Below B w w') → (∀ k, k ≠ g → w'.heap[k]? = w.heap[k]?) → wpList P ops Q rest a w') : wpList P ops Q (o :: rest) a w := by
  refine wpList_plain hgd fun _ hK => ?_
  unfold Oper.wp execOp
  simp only [ho, hx, hy, Instr.storeAt, Instr.sureAddr, Sem.run_bind, Sem.run_pure, Result.andThen_ok, run_storeVar_put ty g j v t old hg hj h1 hi]
  refine hK _ _ ?_
  rw [hN]
  exact h _ (blk_set hg j v) (fun B hB => (Below.refl _ _).setCell hB _) (fun k hk => Below.heap_setCell w _ v k hk)
theorem put_step {K : Act → World → Prop} (hw : Region.wanted o (yielded ops a.tmps) = true) (ty : TypeId) (x y : Operand) (ho : o.op = .store ty x y) (hN : o.dst = none) (g j : Nat) (hx : a.eval x = .pointer (some ⟨g, j, none⟩))
    (v : Value) (hy : a.eval y = v) (h1 : v.oneCell' = true) (t : TypeId) (old : Array Value) (hg : w.heap[g]? = some (.cells old t (0, 0))) (hj : j < old.size) (hi : (P.info? ty).map (·.size) = some 1)
    (h : ∀ w', w'.heap[g]? = some (.cells (old.setIfInBounds j v) t (0, 0)) → (∀ B, B ≤ g → Below B w w') → (∀ k, k ≠ g → w'.heap[k]? = w.heap[k]?) → K a w') :
    if Region.wanted o (yielded ops a.tmps) = true then Oper.wp P o a w K Q else K (a.put none undef) w := by
  rw [if_pos hw]
  unfold Oper.wp execOp
  simp only [ho, hx, hy, Instr.storeAt, Instr.sureAddr, Sem.run_bind, Sem.run_pure, Result.andThen_ok, run_storeVar_put ty g j v t old hg hj h1 hi]
  show K (a.put o.dst _) _
  rw [hN]
  exact h _ (blk_set hg j v) (fun B hB => (Below.refl _ _).setCell hB _) (fun k hk => Below.heap_setCell w _ v k hk)
end
/-- A row of whole numbers is made. -/
theorem ev_make {ops : Array Oper} {rest : List Oper} {o : Oper} {a : Act} {Q : Exit → Act → World → Prop} {w : World} {N : Tmp} (hd : o.dst = some N) (hgd : o.guard = none) (x y : Operand) (ho : o.op = .makeSlice 22 x y) (n : Nat) (hn : n ≤ 35184372088832) (hx : a.eval x = .int .i64 n) (hy : a.eval y = .int .i64 n)
    (h : ∀ g w1, w1.heap[g]? = some (.cells (cellsOf (List.replicate n 0)) 3 (0, 0)) → w.heap.size ≤ g → Below w.heap.size w w1 → wpList Try.prog ops Q rest (a.put o.dst (.slice (some ⟨g, 0, none⟩) n n)) w1) : wpList Try.prog ops Q (o :: rest) a w := by
  obtain ⟨i0, hi, hzz⟩ := Option.map_eq_some_iff.1 info3
  simp only [Prod.mk.injEq] at hzz
  obtain ⟨hz0, hz1, hz2⟩ := hzz
  have hr := run_make (P := Try.prog) w 22 3 i0 (.int .i64 0) Try.underlying22 hi hz0 .i64 .i64 (n : Int) (n : Int) (by omega) (by omega) (by rw [hz2]; omega) (by omega)
  simp only [Int.toNat_natCast] at hr
  have e : madeCells (Value.int .i64 0).cells (n * i0.size) = cellsOf (List.replicate n 0) := by
    rw [hz1, Nat.mul_one]
    apply Array.ext
    · simp [madeCells, cellsOf]
    · intro i h1 h2
      simp [madeCells, cellsOf, Value.cells, Nat.mod_one]
  rw [e] at hr
  refine Kd.event_run hgd (v := .slice (some ⟨w.heap.size, 0, none⟩) n n) (w1 := w.alloc (.cells (cellsOf (List.replicate n 0)) 3)) ?_ (h _ _ (blk_new w _) (Nat.le_refl _) (below_alloc (Below.refl _ _) _))
  simp [execOp, ho, hx, hy, hr]
theorem below_then {B : Nat} {w W W' : World} (h : Below B w W) (hb : Below B W W') : Below B w W' :=
  ⟨hb.os.trans h.os, hb.tape.trans h.tape, hb.output.trans h.output, Nat.le_trans h.size hb.size, fun k hk => (hb.block k hk).trans (h.block k hk)⟩
/-- A block that holds a row is the row. -/
theorem R_block {w w' : World} {g n : Nat} (xs : List Int) (hn : xs.length = n) (hl : n ≤ maxLen) (hg : w'.heap[g]? = some (.cells (cellsOf xs) 3 (0, 0))) (hb : w.heap.size ≤ g) : Kd.R (Kd.int .i64) 3 w' w.heap.size (fun _ => True) (.slice (some ⟨g, 0, none⟩) n n) xs := by
  refine ⟨fun _ _ => trivial, xs.map (Value.int .i64), ⟨by rw [List.length_map, hn]; exact (Nat.mul_one _).symm, .inr ⟨g, n, cellsOf xs, by rw [hn], hb, hg, by omega, hl, by rw [cellsOf_size, hn]; exact (Nat.mul_one _).symm, ?_⟩⟩, ?_⟩
  · show List.take (xs.length * 1) (cellsOf xs).toList = _
    rw [List.take_of_length_le (by simp [cellsOf])]
    simp [cellsOf]
  · refine ⟨by rw [List.length_map]; exact (Nat.mul_one _).symm, fun j p hj => ?_⟩
    show _ = _
    have : j < xs.length := by
      rcases Nat.lt_or_ge j xs.length with h | h
      · exact h
      · rw [List.getElem?_eq_none h] at hj; cases hj
    rw [List.getElem?_eq_getElem this] at hj
    obtain rfl := Option.some.inj hj
    show List.take 1 (List.drop (j * 1) (xs.map (Value.int .i64))) = [.int .i64 xs[j]]
    rw [Nat.mul_one, List.drop_eq_getElem_cons (by simpa using this)]
    simp
end Go.Proofs.Ytcncjldggfbjdaa.G2
