import Derived.Test.YtddhaagfieldfaaPCallTellsx0
namespace Go.Proofs.Ytddhaagfieldfaa.Hw
open Go.RowKit Go.Proofs.YtddhaagfieldfaaW.PrintWords Go.Proofs.YtddhaagfieldfaaW.PrintLast Go.Proofs.YtddhaagfieldfaaW.PrintMore

/-- The cells of a value lie at an address. -/
def CellsAt (w : World) (p : Addr) (cs : List Value) : Prop := ∀ i v, cs[i]? = some v → w.cell? (p.add i) = some v

section
variable {P : Program} {ops : Array Oper} {rest : List Oper} {o : Oper} {a : Act} {Q : Exit → Act → World → Prop} {w : World}

theorem run_loadVar_at (ty : TypeId) (p : Addr) (cs : List Value) (d : TypeDesc) (hc : CellsAt w p cs)
    (hu : P.underlying ty = some d) (hd : (match d with | .struct _ | .array _ _ => true | _ => false) = true) (hi : (P.info? ty).map (·.size) = some cs.length) :
    (loadVar ty p).run P w = .ok (.agg cs.toArray) w := by
  have hl : (loadCells p cs.length).run P w = .ok cs.toArray w := run_loadCells_list (P := P) w p cs hc
  cases hq : P.info? ty with
  | none => simp [hq] at hi
  | some i =>
    have hs : i.size = cs.length := by simpa [hq] using hi
    have hagg : (isAgg ty).run P w = .ok true w := by
      unfold isAgg
      rw [Sem.run_bind, run_underlying hu w]
      cases d <;> simp_all
    simp [loadVar, Sem.run_bind, hagg, sizeOf, typeInfo, hq, hs, hl]
/-- A variable is made: its block, and the world, get letters. -/
theorem ev_box {N : Tmp} (_hd : o.dst = some N) (hgd : o.guard = none) (cs : Array Value) (t : TypeId)
    (hrun : (execOp a.eval o).run P w = .ok (.value (.pointer (some ⟨w.heap.size, 0, none⟩))) (w.alloc (.cells cs t (0, 0))))
    (h : ∀ g w1, w1.heap[g]? = some (.cells cs t (0, 0)) → w.heap.size ≤ g → Below w.heap.size w w1 → wpList P ops Q rest (a.put o.dst (.pointer (some ⟨g, 0, none⟩))) w1) : wpList P ops Q (o :: rest) a w :=
  box_event hgd _hd hrun fun g hg w1 hb hbel => h g w1 hb (by omega) hbel
/-- A struct is loaded whole, from wherever it lies. -/
theorem ev_load (hgd : o.guard = none) (ty : TypeId) (x : Operand) (ho : o.op = .load ty x) (p : Addr) (hx : a.eval x = .pointer (some p)) (cs : List Value) (hc : CellsAt w p cs)
    (d : TypeDesc) (hu : P.underlying ty = some d) (hd : (match d with | .struct _ | .array _ _ => true | _ => false) = true) (hi : (P.info? ty).map (·.size) = some cs.length)
    (h : wpList P ops Q rest (a.put o.dst (.agg cs.toArray)) w) : wpList P ops Q (o :: rest) a w := by
  refine wpList_plain hgd fun _ hK => ?_
  unfold Oper.wp execOp
  simp only [ho, hx, Instr.loadAt, Instr.sureAddr, Sem.run_bind, Sem.run_pure, Result.andThen_ok, run_loadVar_at ty p cs d hc hu hd hi]
  exact hK _ _ h
/-- A struct is stored whole into a variable of the call's own. -/
theorem ev_store (hgd : o.guard = none) (ty : TypeId) (x y : Operand) (ho : o.op = .store ty x y) (hN : o.dst = none) (g : Nat) (hx : a.eval x = .pointer (some ⟨g, 0, none⟩))
    (cs : Array Value) (hy : a.eval y = .agg cs) (t : TypeId) (old : Array Value) (hg : w.heap[g]? = some (.cells old t (0, 0)))
    (hi : (P.info? ty).map (·.size) = some cs.size) (hold : old.size = cs.size) (h1 : cs.all (·.oneCell') = true)
    (h : ∀ w', w'.heap[g]? = some (.cells cs t (0, 0)) → (∀ B, B ≤ g → Below B w w') → (∀ k, k ≠ g → w'.heap[k]? = w.heap[k]?) → wpList P ops Q rest a w') : wpList P ops Q (o :: rest) a w := by
  refine wpList_store_row hgd ty x y ho g cs hx hy t old hg hi hold h1 ?_
  rw [hN]
  refine h _ (setRow_heap w g old cs t _ hg) (fun B hB => ?_) (fun k hk => setRow_other w g k cs hk)
  exact ⟨rfl, rfl, rfl, by simp, fun i hi => setRow_other w g i cs (by omega)⟩
theorem run_storeVar_put (ty : TypeId) (g j : Nat) (v : Value) (t : TypeId) (old : Array Value) (hg : w.heap[g]? = some (.cells old t (0, 0))) (hj : j < old.size) (h1 : v.oneCell' = true) (hi : (P.info? ty).map (·.size) = some 1) :
    (storeVar ty ⟨g, j, none⟩ v).run P w = .ok () (w.setCell ⟨g, j, none⟩ v) := by
  have hc : v.cells = #[v] := by cases v <;> first | rfl | cases h1
  have hcell : w.cell? ⟨g, j, none⟩ = some old[j] := by rw [blk_cell hg]; simp [hj]
  have hst : (store ⟨g, j, none⟩ v).run P w = .ok () (w.setCell ⟨g, j, none⟩ v) := by
    rw [run_store P w _ v _ h1, hcell]; simp [blk_frozen hg]
  have hadd : (⟨g, j, none⟩ : Addr).add 0 = ⟨g, j, none⟩ := by unfold Addr.add; split <;> simp_all
  cases hq : P.info? ty with
  | none => simp [hq] at hi
  | some i =>
    have hs : i.size = 1 := by simpa [hq] using hi
    have hsz : (sizeOf ty).run P w = .ok 1 w := by simp [sizeOf, typeInfo, hq, hs]
    have hcs : (storeCells ⟨g, j, none⟩ [v]).run P w = .ok () (w.setCell ⟨g, j, none⟩ v) := by
      simp only [storeCells, Sem.run_bind, hadd, hst, Result.andThen_ok]; rfl
    simp [storeVar, hc, hsz, hcs]
/-- A value of one cell is stored into a block of the call's own. -/
theorem ev_put (hgd : o.guard = none) (ty : TypeId) (x y : Operand) (ho : o.op = .store ty x y) (hN : o.dst = none) (g j : Nat) (hx : a.eval x = .pointer (some ⟨g, j, none⟩))
    (v : Value) (hy : a.eval y = v) (h1 : v.oneCell' = true) (t : TypeId) (old : Array Value) (hg : w.heap[g]? = some (.cells old t (0, 0))) (hj : j < old.size) (hi : (P.info? ty).map (·.size) = some 1)
    (h : ∀ w', w'.heap[g]? = some (.cells (old.setIfInBounds j v) t (0, 0)) → (∀ B, B ≤ g → Below B w w') → (∀ k, k ≠ g → w'.heap[k]? = w.heap[k]?) → w'.heap.size = w.heap.size → wpList P ops Q rest a w') : wpList P ops Q (o :: rest) a w := by
  refine wpList_plain hgd fun _ hK => ?_
  unfold Oper.wp execOp
  simp only [ho, hx, hy, Instr.storeAt, Instr.sureAddr, Sem.run_bind, Sem.run_pure, Result.andThen_ok, run_storeVar_put ty g j v t old hg hj h1 hi]
  refine hK _ _ ?_
  rw [hN]
  exact h _ (blk_set hg j v) (fun B hB => (Below.refl _ _).setCell hB _) (fun k hk => Below.heap_setCell w _ v k hk) (by simp [World.setCell])
end
theorem CellsAt.below {w w1 : World} {p : Addr} {cs : List Value} (h : CellsAt w p cs) (hb : Below w.heap.size w w1) : CellsAt w1 p cs := fun i v hv => pw_cell_below hb (h i v hv)
theorem cells_get {α : Type} {d : Kd α} {w : World} {A : Option Addr} {n : Nat} {xs : List α} (h : d.C w A n xs) (z : α) (i : Int) (h0 : 0 ≤ i) (h1 : i < n) :
    ∃ ad c, A = some ad ∧ c.length = d.sz ∧ d.K w (xs.getD i.toNat z) c ∧ CellsAt w (ad.add (i.toNat * d.sz)) c := by
  obtain ⟨ad, c, e, hl, hK, hc⟩ := Kd.C_get h z i h0 h1
  refine ⟨ad, c, e, hl, hK, fun j v hv => ?_⟩
  have := hc j v hv
  rwa [← Addr.add_add] at this
end Go.Proofs.Ytddhaagfieldfaa.Hw
