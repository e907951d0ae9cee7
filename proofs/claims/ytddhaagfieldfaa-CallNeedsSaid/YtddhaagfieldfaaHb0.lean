import Derived.Test.YtddhaagfieldfaaHw
namespace Go.Proofs.Ytddhaagfieldfaa.Hb
open Go.RowKit Go.Proofs.YtddhaagfieldfaaW.PrintWords Go.Proofs.YtddhaagfieldfaaW.PrintLast Go.Proofs.YtddhaagfieldfaaW.PrintMore Go.Proofs.Ytddhaagfieldfaa.PCallTells Go.Proofs.Ytddhaagfieldfaa.Hw
attribute [local go_sem] max2_int min2_int max_two min_two max_three min_three max_four min_four

theorem run_store_v1 (P : Program) (w : World) (a : Addr) (x : V1) (m : Mode) : (store a x.v m).run P w = stored P w a x.v m := run_store P w a _ m x.h
/-- A basin as it is handed on: its places alone are looked at. -/
structure BV where
  f0 : V1
  f1 : V1
  f2 : V1
  A : Option Addr
  c : Nat
  pl : List S79
  f4 : V1
  f5 : V1
  f6 : V1
  f7 : V1
  f8 : V1
  f9 : V1
  f10 : V1
@[reducible] def BV.cs (b : BV) : Array Value := #[b.f0.v, b.f1.v, b.f2.v, .slice b.A b.pl.length b.c, b.f4.v, b.f5.v, b.f6.v, b.f7.v, b.f8.v, b.f9.v, b.f10.v]
@[reducible] def BV.val (b : BV) : Value := .agg b.cs
structure BV.In (b : BV) (w : World) : Prop where
  hr : Kd.C k79 w b.A b.pl.length b.pl
  hc : b.pl.length ≤ b.c
theorem BV.In.below {b : BV} {w W : World} (h : b.In w) (hb : Below w.heap.size w W) : b.In W := ⟨Kd.C_below h.hr hb, h.hc⟩
def r39 (r : S39) : List Value := [.int .i64 r.f0, .int .i64 r.f1, .int .i64 r.f2, .int .i64 r.f3, .int .i64 r.f4, .int .i64 r.f5, .int .i64 r.f6, .int .i64 r.f7, .int .i64 r.f8]
theorem r39_at {w : World} {A : Option Addr} {n : Nat} {xs : List S39} (h : Kd.C k39 w A n xs) (i : Int) (h0 : 0 ≤ i) (h1 : i < n) : ∃ ad, A = some ad ∧ CellsAt w (ad.add (i.toNat * 9)) (r39 (rd_T39 xs i)) := by
  obtain ⟨ad, c, e, _, hK, hc⟩ := cells_get h z39 i h0 h1
  obtain rfl := k39_open hK; exact ⟨ad, e, hc⟩

def isF (n : Nat) (ro : List S39) (gr : List S53) (i : Int) : Bool :=
  decide (i < gr.length) && (decide (0 ≤ (rd_T39 ro i).f3) && (decide ((rd_T39 ro i).f3 < n) && decide ((rd_T53 gr i).f1 < (rd_T39 ro i).f4)))

set_option maxHeartbeats 1000000 in
theorem Is_calls (b : BV) (A1 : Option Addr) (c1 : Nat) (ro : List S39) (A3 : Option Addr) (c3 : Nat) (gr : List S53) (i : Int) (w : World)
    (hr : Kd.C k39 w A1 ro.length ro) (hg : Kd.C k53 w A3 gr.length gr) (h0 : 0 ≤ i) (h1 : i < ro.length) :
    Calls Try.prog 32 #[b.val, .slice A1 ro.length c1, .slice A3 gr.length c3, .int .i64 i] w fun e w' => e = .returned (.bool (isF b.pl.length ro gr i)) ∧ Below w.heap.size w w' := by
  obtain ⟨ad, rfl, hx⟩ := r39_at hr i h0 h1
  go_enter Try.func32, Try.ntmps32
  go_wp2_with (first
    | ((with_reducible refine gate_dst (N := 4) rfl ?_); refine ev_box rfl rfl b.cs 31 (by go_simp; done) ?_; intro gb w1 BK hgb hb)
    | ((with_reducible refine gate_dst (N := 13) rfl ?_); refine ev_load rfl 39 _ rfl (ad.add (i.toNat * 9)) rfl (r39 (rd_T39 ro i)) (hx.below hb) _ Try.underlying39 rfl (by kernel_rfl) ?_)
    | ((with_reducible refine gate_dst (N := 9) rfl ?_); refine ev_box rfl rfl #[.int .i64 0, .int .i64 0, .int .i64 0, .int .i64 0, .int .i64 0, .int .i64 0, .int .i64 0, .int .i64 0, .int .i64 0] 39 (by go_simp; done) ?_; intro g2 w2 BK2 hg2 hb2)
    | (refine ev_store rfl 39 _ _ rfl rfl g2 rfl (r39 (rd_T39 ro i)).toArray rfl 39 _ BK2 (by kernel_rfl) rfl (by simp [r39, Value.oneCell']) ?_; intro w3 BK3 hb3 hk3))
  have e3 : w3.cell? ⟨g2, 3, none⟩ = some (.int .i64 (rd_T39 ro i).f3) := (blk_cell BK3 3).trans rfl
  have e4 : w3.cell? ⟨g2, 4, none⟩ = some (.int .i64 (rd_T39 ro i).f4) := (blk_cell BK3 4).trans rfl
  have f3 := blk_frozen BK3 3
  have f4 := blk_frozen BK3 4
  have hne : gb ≠ g2 := by have := blk_lt BK; omega
  have BK' := (hk3 gb hne).trans (blk_below BK hb2)
  have eb : w3.cell? ⟨gb, 3, none⟩ = some (.slice b.A b.pl.length b.c) := (blk_cell BK' 3).trans rfl
  have fb := blk_frozen BK' 3
  have HB : Below w.heap.size w w3 := below_weaken (below_step hb hb2) (Nat.le_refl _) (hb3 _ (by have := hb.size; omega))
  have HG : i < gr.length → ∃ ad2, A3 = some ad2 ∧ w3.cell? ⟨(ad2.add (i.toNat * 2)).block, (ad2.add (i.toNat * 2)).off + 1, none⟩ = some (.int .i64 (rd_T53 gr i).f1) := fun h => by
    obtain ⟨ad2, e, _, hx⟩ := at_T53 (Kd.C_below hg HB) i h0 h
    exact ⟨ad2, e, hx⟩
  have HB' := Aside0.mk HB
  clear hb hb2 hb3 hk3 BK BK2 BK3 BK' HB hx hr hg
  have key : decide (i < gr.length) = false ∨ (decide (i < gr.length) = true ∧ decide (0 ≤ (rd_T39 ro i).f3) = false) ∨ (decide (i < gr.length) = true ∧ decide (0 ≤ (rd_T39 ro i).f3) = true ∧ decide ((rd_T39 ro i).f3 < b.pl.length) = false) ∨ (decide (i < gr.length) = true ∧ decide (0 ≤ (rd_T39 ro i).f3) = true ∧ decide ((rd_T39 ro i).f3 < b.pl.length) = true) := by
    simp only [decide_eq_true_eq, decide_eq_false_iff_not]; omega
  rcases key with k1 | ⟨k1, k2⟩ | ⟨k1, k2, k3⟩ | ⟨k1, k2, k3⟩
  · clear HG
    simp only [Act.put, List.setIfInBounds_toArray, List.set_cons_succ, List.set_cons_zero]
    go_quiet (fail)
    go_wp2
    go_ret
    exact ⟨by simp [isF, k1], pw_below_drewN HB'.out _⟩
  · clear HG
    simp only [Act.put, List.setIfInBounds_toArray, List.set_cons_succ, List.set_cons_zero]
    go_quiet (fail)
    go_wp2
    go_ret
    exact ⟨by simp only [isF, k1, k2, Bool.false_and, Bool.true_and]; rfl, pw_below_drewN HB'.out _⟩
  · clear HG
    simp only [Act.put, List.setIfInBounds_toArray, List.set_cons_succ, List.set_cons_zero]
    go_quiet (fail)
    go_wp2
    go_ret
    exact ⟨by simp [isF, k1, k2, k3], pw_below_drewN HB'.out _⟩
  · have k1' : i < gr.length := by simpa using k1
    obtain ⟨ad2, rfl, hx2⟩ := HG k1'
    simp only [Act.put, List.setIfInBounds_toArray, List.set_cons_succ, List.set_cons_zero]
    go_quiet (fail)
    go_wp2
    go_ret
    exact ⟨by simp [isF, k1, k2, k3], pw_below_drewN HB'.out _⟩
end Go.Proofs.Ytddhaagfieldfaa.Hb
