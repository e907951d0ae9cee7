import Derived.Test.YtddhaagfieldfaaHb0
import Derived.Test.YtddhaagfieldfaaQ2
import Derived.StillTailTactics
namespace Go.Proofs.Ytddhaagfieldfaa.Hb
set_option linter.unusedVariables false
set_option linter.unusedSimpArgs false
open Go.RowKit Go.Proofs.YtddhaagfieldfaaW.PrintWords Go.Proofs.YtddhaagfieldfaaW.PrintLast Go.Proofs.YtddhaagfieldfaaW.PrintMore Go.Proofs.Ytddhaagfieldfaa.PCallTells Go.Proofs.Ytddhaagfieldfaa.Hw Go.Proofs.Ytddhaagfieldfaa.Q
attribute [local go_sem] run_store_v1 max2_int min2_int max_two min_two max_three min_three max_four min_four

theorem Reach_calls (b : BV) (p : Int) (w : World) (hb : b.In w) (hs : b.pl.length ≤ 1000) :
    Calls Try.prog 25 #[b.val, .int .i64 p] w fun e w' => ∃ v, e = .returned v ∧ Kd.R (Kd.int .i64) 3 w' w.heap.size (fun _ => True) v (reach b.pl p) ∧ Below w.heap.size w w' := by
  obtain ⟨k, h⟩ := (reach_ev b.f0 b.f1 b.f2 b.pl b.f4 b.f5 b.f6 b.f7 b.f8 b.f9 b.f10 hs p).rounds
  exact allot_Reach.calls k b.f0 b.f1 b.f2 b.A b.c b.pl b.f4 b.f5 b.f6 b.f7 b.f8 b.f9 b.f10 p _ w hb.hr hb.hc h
theorem Day_calls (b : BV) (A1 : Option Addr) (c1 : Nat) (ro : List S39) (A2 : Option Addr) (c2 : Nat) (su : List Int) (w : World) (hb : b.In w) (hs : b.pl.length ≤ 1000)
    (hr1 : Kd.C k39 w A1 ro.length ro) (hc1 : ro.length ≤ c1) (hr2 : Kd.C (Kd.int .i64) w A2 su.length su) (hc2 : su.length ≤ c2) (hro : ro.length ≤ 1000) :
    Calls Try.prog 23 #[b.val, .slice A1 ro.length c1, .slice A2 su.length c2] w fun e w' => ∃ v0 v1 : Value, e = .returned (.tuple #[v0, v1]) ∧ Kd.R k53 53 w' w.heap.size (fun _ => True) v0 (dayF b.pl ro su).1 ∧ Kd.R (Kd.int .i64) 3 w' w.heap.size (fun _ => True) v1 (dayF b.pl ro su).2 ∧ Below w.heap.size w w' := by
  obtain ⟨k, h⟩ := (day_ev b.f0 b.f1 b.f2 b.pl b.f4 b.f5 b.f6 b.f7 b.f8 b.f9 b.f10 ro su hs hro).rounds
  exact allot_Day.calls k b.f0 b.f1 b.f2 b.A b.c b.pl b.f4 b.f5 b.f6 b.f7 b.f8 b.f9 b.f10 A1 c1 ro A2 c2 su _ _ w hb.hr hb.hc hr1 hc1 hr2 hc2 h

@[reducible] def dcs (b : BV) (v1 v2 v3 v4 : Value) : Array Value := #[b.f0.v, b.f1.v, b.f2.v, .slice b.A b.pl.length b.c, b.f4.v, b.f5.v, b.f6.v, b.f7.v, b.f8.v, b.f9.v, b.f10.v, v1, v2, v3, v4]
def zero63 : Array Value := #[.string ⟨#[]⟩, .slice none 0 0, .int .i64 0, .slice none 0 0, .slice none 0 0, .slice none 0 0, .slice none 0 0, .slice none 0 0, .slice none 0 0, .slice none 0 0, .int .i64 0, .slice none 0 0, .slice none 0 0, .slice none 0 0, .slice none 0 0]

def litres (gr : List S53) (i : Nat) : Int := if i < gr.length then (rd_T53 gr i).f1 else 0
def gotTo (n : Nat) (gr : List S53) (i : Nat) : List Int := (List.range n).map fun j => if j < i then litres gr j else 0
def reTo (pl : List S79) (ro : List S39) (i : Nat) : List (List Int) := (ro.take i).map fun r => reach pl r.f3
def leftTo (pl : List S79) (ro : List S39) (gr : List S53) (l : List Int) : Nat → List Int
  | 0 => l
  | i + 1 => if i < gr.length then lower (litres gr i) (reach pl (rd_T39 ro i).f3) (leftTo pl ro gr l i) else leftTo pl ro gr l i
theorem dcs_one (b : BV) {v1 v2 v3 v4 : Value} (h1 : v1.oneCell' = true) (h2 : v2.oneCell' = true) (h3 : v3.oneCell' = true) (h4 : v4.oneCell' = true) : (dcs b v1 v2 v3 v4).all (·.oneCell') = true := by
  simp [dcs, b.f0.h, b.f1.h, b.f2.h, b.f4.h, b.f5.h, b.f6.h, b.f7.h, b.f8.h, b.f9.h, b.f10.h, h1, h2, h3, h4]
  rfl
/-- A day's rights and grants, as the program holds them. -/
structure DV where
  b : BV
  A1 : Option Addr
  c1 : Nat
  ro : List S39
  A2 : Option Addr
  c2 : Nat
  re : List (List Int)
  A3 : Option Addr
  c3 : Nat
  got : List Int
  A4 : Option Addr
  c4 : Nat
  left : List Int
@[reducible] def DV.cs (d : DV) : Array Value := dcs d.b (.slice d.A1 d.ro.length d.c1) (.slice d.A2 d.re.length d.c2) (.slice d.A3 d.got.length d.c3) (.slice d.A4 d.left.length d.c4)
@[reducible] def DV.val (d : DV) : Value := .agg d.cs
structure DV.In (d : DV) (w : World) : Prop where
  hb : d.b.In w
  r1 : Kd.C k39 w d.A1 d.ro.length d.ro
  c1 : d.ro.length ≤ d.c1
  r2 : Kd.C (Kd.slice 3 (Kd.int .i64)) w d.A2 d.re.length d.re
  c2 : d.re.length ≤ d.c2
  r3 : Kd.C (Kd.int .i64) w d.A3 d.got.length d.got
  c3 : d.got.length ≤ d.c3
  r4 : Kd.C (Kd.int .i64) w d.A4 d.left.length d.left
  c4 : d.left.length ≤ d.c4
theorem DV.In.below {d : DV} {w W : World} (h : d.In w) (hb : Below w.heap.size w W) : d.In W :=
  ⟨h.hb.below hb, Kd.C_below h.r1 hb, h.c1, Kd.C_below h.r2 hb, h.c2, Kd.C_below h.r3 hb, h.c3, Kd.C_below h.r4 hb, h.c4⟩
theorem reTo_length (pl : List S79) (ro : List S39) : (reTo pl ro ro.length).length = ro.length := by simp [reTo]
theorem gotTo_length (n : Nat) (gr : List S53) (i : Nat) : (gotTo n gr i).length = n := by simp [gotTo]
theorem leftTo_length (pl : List S79) (ro : List S39) (gr : List S53) (l : List Int) : ∀ i, (leftTo pl ro gr l i).length = l.length := by
  intro i
  induction i with
  | zero => rfl
  | succ i ih =>
    rw [leftTo]; split
    · rw [lower_length, ih]
    · exact ih
structure OfSt (b : BV) (A1 : Option Addr) (c1 : Nat) (ro : List S39) (w w6 : World) (gb g8 gd gg : Nat) (VL : Value) (re : List (List Int)) (got left : List Int) (vre : Value) (W : World) : Prop where
  bd : W.heap[gd]? = some (.cells (dcs b (.slice A1 ro.length c1) vre (.slice (some ⟨gg, 0, none⟩) ro.length ro.length) VL) 63 (0, 0))
  bb : W.heap[gb]? = some (.cells b.cs 31 (0, 0))
  b8 : W.heap[g8]? = some (.cells zero63 63 (0, 0))
  re : Kd.R (Kd.slice 3 (Kd.int .i64)) 29 W w6.heap.size (fun _ => True) vre re
  rg : Kd.R (Kd.int .i64) 3 W w.heap.size (fun k => k = gg) (.slice (some ⟨gg, 0, none⟩) ro.length ro.length) got
  rl : Kd.R (Kd.int .i64) 3 W w.heap.size (fun k => some k = VL.ownBlock) VL left
  hb : Below w.heap.size w W
  h6 : w6.heap.size ≤ W.heap.size
theorem OfSt.below {b : BV} {A1 : Option Addr} {c1 : Nat} {ro : List S39} {w w6 : World} {gb g8 gd gg : Nat} {VL : Value} {re : List (List Int)} {got left : List Int} {vre : Value} {W W1 : World}
    (S : OfSt b A1 c1 ro w w6 gb g8 gd gg VL re got left vre W) (h : Below W.heap.size W W1) : OfSt b A1 c1 ro w w6 gb g8 gd gg VL re got left vre W1 :=
  ⟨blk_below S.bd h, blk_below S.bb h, blk_below S.b8 h, Kd.R_below S.re h, Kd.R_below S.rg h, Kd.R_below S.rl h, below_step S.hb h, Nat.le_trans S.h6 h.size⟩
/-- What never turns while the rounds go on. -/
structure OfG (w w6 : World) (gb g8 gd gg : Nat) (VL : Value) : Prop where
  d6 : gd < w6.heap.size
  b6 : gb < w6.heap.size
  e6 : g8 < w6.heap.size
  g6 : gg < w6.heap.size
  l6 : ∀ k, VL.ownBlock = some k → k < w6.heap.size
  bd : gb ≠ gd
  ed : g8 ≠ gd
  gd_ : gg ≠ gd
  ld : ∀ k, VL.ownBlock = some k → k ≠ gd
  lg : ∀ k, VL.ownBlock = some k → k ≠ gg
  w6_ : w.heap.size ≤ w6.heap.size
  wd : w.heap.size ≤ gd
theorem OfSt.app {b : BV} {A1 : Option Addr} {c1 : Nat} {ro : List S39} {w w6 : World} {gb g8 gd gg : Nat} {VL : Value} {re : List (List Int)} {got left : List Int} {vre : Value} {W W1 : World}
    (S : OfSt b A1 c1 ro w w6 gb g8 gd gg VL re got left vre W) (G : OfG w w6 gb g8 gd gg VL) {v1 : Value} {x : List Int}
    (hR : Kd.R (Kd.slice 3 (Kd.int .i64)) 29 W1 w6.heap.size (fun _ => True) v1 (re ++ [x])) (hg : W.grownBy W1 vre.ownBlock) :
    OfSt b A1 c1 ro w w6 gb g8 gd gg VL (re ++ [x]) got left v1 (W1.setCell ⟨gd, 12, none⟩ v1) := by
  have hno : ∀ k, k < w6.heap.size → some k ≠ vre.ownBlock := fun k hk e => by have := Kd.R_base S.re k e.symm; omega
  refine ⟨blk_put (blk_grown S.bd hg (hno _ G.d6)) 12 _ rfl, blk_far (blk_grown S.bb hg (hno _ G.b6)) G.bd _, blk_far (blk_grown S.b8 hg (hno _ G.e6)) G.ed _, ?_, ?_, ?_, ?_, ?_⟩
  · exact Kd.R_mono (Kd.R_far (p := ⟨gd, 12, none⟩) (Kd.R_mono (Kd.R_bound hR) (fun k hk => (show k ≠ gd from by have := hk.2.1; have := G.d6; omega))) (fun k hk => hk) _) (fun _ _ => trivial)
  · exact Kd.R_far (p := ⟨gd, 12, none⟩) (Kd.R_grown S.rg hg (fun k hk => hno k (by rw [hk]; exact G.g6))) (fun k hk => by rw [hk]; exact G.gd_) _
  · exact Kd.R_far (p := ⟨gd, 12, none⟩) (Kd.R_grown S.rl hg (fun k hk => hno k (G.l6 k hk.symm))) (fun k hk => G.ld k hk.symm) _
  · exact below_set (pw_below_grown S.hb _ S.hb.size hg (fun k hk => by have := Kd.R_base S.re k hk; have := G.w6_; omega)) G.wd
  · simpa [World.setCell] using Nat.le_trans S.h6 hg.size
theorem OfSt.putg {b : BV} {A1 : Option Addr} {c1 : Nat} {ro : List S39} {w w6 : World} {gb g8 gd gg : Nat} {VL : Value} {re : List (List Int)} {got left : List Int} {vre : Value} {W : World}
    (S : OfSt b A1 c1 ro w w6 gb g8 gd gg VL re got left vre W) (G : OfG w w6 gb g8 gd gg VL) (i : Nat) (x : Int) : OfSt b A1 c1 ro w w6 gb g8 gd gg VL re (got.set i x) left vre (W.setCell ⟨gg, i, none⟩ (.int .i64 x)) := by
  have hb : gb ≠ gg := fun e => by have h1 := S.bb; rw [e] at h1; exact Kd.R_ne S.rg h1 (by decide) rfl
  have h8 : g8 ≠ gg := fun e => by have h1 := S.b8; rw [e] at h1; exact Kd.R_ne S.rg h1 (by decide) rfl
  have hp := Kd.R_putn S.rg (i : Int) x
  rw [Int.toNat_natCast] at hp
  refine ⟨blk_far S.bd (Ne.symm G.gd_) _, blk_far S.bb hb _, blk_far S.b8 h8 _, ?_, hp, Kd.R_far (p := ⟨gg, i, none⟩) S.rl (fun k hk => G.lg k hk.symm) _, ?_, ?_⟩
  · exact Kd.R_mono (Kd.R_far (p := ⟨gg, i, none⟩) (Kd.R_mono (Kd.R_bound S.re) (fun k hk => (show k ≠ gg from by have := hk.2.1; have := G.g6; omega))) (fun k hk => hk) _) (fun _ _ => trivial)
  · exact below_set S.hb (Kd.R_base S.rg gg rfl)
  · simpa [World.setCell] using S.h6
theorem OfSt.putl {b : BV} {A1 : Option Addr} {c1 : Nat} {ro : List S39} {w w6 : World} {gb g8 gd gg gl n cl : Nat} {re : List (List Int)} {got left : List Int} {vre : Value} {W : World}
    (S : OfSt b A1 c1 ro w w6 gb g8 gd gg (.slice (some ⟨gl, 0, none⟩) n cl) re got left vre W) (G : OfG w w6 gb g8 gd gg (.slice (some ⟨gl, 0, none⟩) n cl)) (q : Int) (x : Int) :
    OfSt b A1 c1 ro w w6 gb g8 gd gg (.slice (some ⟨gl, 0, none⟩) n cl) re got (left.set q.toNat x) vre (W.setCell ⟨gl, q.toNat, none⟩ (.int .i64 x)) := by
  have hb : gb ≠ gl := fun e => by have h1 := S.bb; rw [e] at h1; exact Kd.R_ne S.rl h1 (by decide) rfl
  have h8 : g8 ≠ gl := fun e => by have h1 := S.b8; rw [e] at h1; exact Kd.R_ne S.rl h1 (by decide) rfl
  refine ⟨blk_far S.bd (fun e => G.ld gl rfl e.symm) _, blk_far S.bb hb _, blk_far S.b8 h8 _, ?_, Kd.R_far (p := ⟨gl, q.toNat, none⟩) S.rg (fun k hk => by rw [hk]; exact fun e => G.lg gl rfl e.symm) _, Kd.R_putn S.rl q x, ?_, ?_⟩
  · exact Kd.R_mono (Kd.R_far (p := ⟨gl, q.toNat, none⟩) (Kd.R_mono (Kd.R_bound S.re) (fun k hk => (show k ≠ gl from by have := hk.2.1; have := G.l6 gl rfl; omega))) (fun k hk => hk) _) (fun _ _ => trivial)
  · exact below_set S.hb (Kd.R_base S.rl gl rfl)
  · simpa [World.setCell] using S.h6
theorem re_get {w : World} {base : Nat} {v : Value} {xs : List (List Int)} (h : Kd.R (Kd.slice 3 (Kd.int .i64)) 29 w base (fun _ => True) v xs) (i : Nat) (hi : i < xs.length) :
    ∃ ad cap A c, v = .slice (some ad) xs.length cap ∧ w.cell? (ad.add i) = some (.slice A xs[i].length c) ∧ Kd.R (Kd.int .i64) 3 w base (fun _ => True) (.slice A xs[i].length c) xs[i] := by
  obtain ⟨_, inner, ho, hr⟩ := h
  obtain ⟨v1, e1, h1⟩ := hr.2 i _ (List.getElem?_eq_getElem hi)
  obtain ⟨A, c, rfl⟩ := Kd.R_slice h1
  obtain ⟨g, cap, he, _, _⟩ := ho.form (by omega)
  have e2 : (inner.drop (i * 1)).take 1 = [.slice A xs[i].length c] := e1
  rw [Nat.mul_one] at e2
  have e3 : inner[i]? = some (.slice A xs[i].length c) := by
    have := congrArg List.head? e2
    rw [List.head?_take, if_neg (by omega), List.head?_drop] at this
    exact this
  exact ⟨⟨g, 0, none⟩, cap, A, c, he, ho.cells (g := g) (by rw [he]; rfl) i _ e3, Kd.R_mono h1 (fun _ _ => trivial)⟩
theorem gotTo_succ (n : Nat) (gr : List S53) (i : Nat) : (gotTo n gr i).set i (litres gr i) = gotTo n gr (i + 1) := by
  unfold gotTo
  apply List.ext_getElem
  · simp
  · intro j h1 h2
    simp only [List.length_map, List.length_range, List.length_set] at h1 h2
    rw [List.getElem_set]
    simp only [List.getElem_map, List.getElem_range]
    by_cases e : i = j
    · subst e; simp
    · rw [if_neg e]
      by_cases e2 : j < i
      · rw [if_pos e2, if_pos (by omega)]
      · rw [if_neg e2, if_neg (by omega)]
theorem gotTo_past (n : Nat) (gr : List S53) (i : Nat) (h : ¬ i < gr.length) : gotTo n gr (i + 1) = gotTo n gr i := by
  have e : litres gr i = 0 := by unfold litres; rw [if_neg h]
  unfold gotTo
  refine List.map_congr_left (fun j _ => ?_)
  by_cases e2 : j < i
  · rw [if_pos e2, if_pos (by omega)]
  · rw [if_neg e2]
    by_cases e3 : j = i
    · subst e3; rw [if_pos (by omega), e]
    · rw [if_neg (by omega)]
theorem rd_gotTo (n : Nat) (gr : List S53) (i : Nat) (h : i < n) : rd (gotTo n gr (i + 1)) i = litres gr i := by
  rw [rd_nat _ _ (by rw [gotTo_length]; exact h)]; simp [gotTo]
theorem lower_succ (n : Int) (l left : List Int) (j : Nat) (h : j < l.length) : lower n (l.take (j + 1)) left = (lower n (l.take j) left).set l[j].toNat (wrap64 (rd (lower n (l.take j) left) l[j] - n)) := by
  unfold lower
  rw [List.take_succ_eq_append_getElem h, List.foldl_append]; rfl
theorem leftTo_step (pl : List S79) (ro : List S39) (gr : List S53) (l : List Int) (i : Nat) (h : i < gr.length) : leftTo pl ro gr l (i + 1) = lower (litres gr i) (reach pl (rd_T39 ro i).f3) (leftTo pl ro gr l i) := by
  rw [leftTo, if_pos h]
theorem leftTo_past (pl : List S79) (ro : List S39) (gr : List S53) (l : List Int) (i : Nat) (h : ¬ i < gr.length) : leftTo pl ro gr l (i + 1) = leftTo pl ro gr l i := by
  rw [leftTo, if_neg h]

theorem reTo_get (pl : List S79) (ro : List S39) (i : Nat) (h : i < ro.length) (h2 : i < (reTo pl ro (i + 1)).length) : (reTo pl ro (i + 1))[i] = reach pl (rd_T39 ro i).f3 := by
  simp [reTo, rd39 _ _ h]
theorem reTo_succ (pl : List S79) (ro : List S39) (i : Nat) (h : i < ro.length) : reTo pl ro (i + 1) = reTo pl ro i ++ [reach pl (rd_T39 ro i).f3] := by
  unfold reTo
  rw [List.take_succ_eq_append_getElem h, List.map_append, rd39 _ _ h]; rfl
theorem keepA {W W1 : World} (h : Below W.heap.size W W1) {b : BV} {gb gd g7 : Nat} {vre pv : Value} (c : W.cell? ⟨gb, 0, none⟩ = some b.f0.v ∧ W.cell? ⟨gb, 1, none⟩ = some b.f1.v ∧ W.cell? ⟨gb, 2, none⟩ = some b.f2.v ∧ W.cell? ⟨gb, 3, none⟩ = some (.slice b.A b.pl.length b.c) ∧ W.cell? ⟨gb, 4, none⟩ = some b.f4.v ∧ W.cell? ⟨gb, 5, none⟩ = some b.f5.v ∧ W.cell? ⟨gb, 6, none⟩ = some b.f6.v ∧ W.cell? ⟨gb, 7, none⟩ = some b.f7.v ∧ W.cell? ⟨gb, 8, none⟩ = some b.f8.v ∧ W.cell? ⟨gb, 9, none⟩ = some b.f9.v ∧ W.cell? ⟨gb, 10, none⟩ = some b.f10.v ∧ W.cell? ⟨gd, 12, none⟩ = some vre ∧ W.cell? ⟨g7, 3, none⟩ = some pv) : W1.cell? ⟨gb, 0, none⟩ = some b.f0.v ∧ W1.cell? ⟨gb, 1, none⟩ = some b.f1.v ∧ W1.cell? ⟨gb, 2, none⟩ = some b.f2.v ∧ W1.cell? ⟨gb, 3, none⟩ = some (.slice b.A b.pl.length b.c) ∧ W1.cell? ⟨gb, 4, none⟩ = some b.f4.v ∧ W1.cell? ⟨gb, 5, none⟩ = some b.f5.v ∧ W1.cell? ⟨gb, 6, none⟩ = some b.f6.v ∧ W1.cell? ⟨gb, 7, none⟩ = some b.f7.v ∧ W1.cell? ⟨gb, 8, none⟩ = some b.f8.v ∧ W1.cell? ⟨gb, 9, none⟩ = some b.f9.v ∧ W1.cell? ⟨gb, 10, none⟩ = some b.f10.v ∧ W1.cell? ⟨gd, 12, none⟩ = some vre ∧ W1.cell? ⟨g7, 3, none⟩ = some pv := by
  obtain ⟨c0, c1, c2, c3, c4, c5, c6, c7, c8, c9, c10, c11, c12⟩ := c
  exact ⟨pw_cell_below h c0, pw_cell_below h c1, pw_cell_below h c2, pw_cell_below h c3, pw_cell_below h c4, pw_cell_below h c5, pw_cell_below h c6, pw_cell_below h c7, pw_cell_below h c8, pw_cell_below h c9, pw_cell_below h c10, pw_cell_below h c11, pw_cell_below h c12⟩
theorem cell_grown {W W1 : World} {row : Option Nat} (hg : W.grownBy W1 row) {a : Addr} {v : Value} (h : some a.block ≠ row) (hc : W.cell? a = some v) : W1.cell? a = some v := by
  have hb := hg.block a.block (World.block_lt_of_cell? W a hc) h
  unfold World.cell? at hc ⊢
  rw [hb]; exact hc
theorem keepB {W W1 : World} {row : Option Nat} (h : W.grownBy W1 row) {b : BV} {gb gd g7 : Nat} {vre pv : Value} (hb : some gb ≠ row) (hd : some gd ≠ row) (h7 : some g7 ≠ row) (c : W.cell? ⟨gb, 0, none⟩ = some b.f0.v ∧ W.cell? ⟨gb, 1, none⟩ = some b.f1.v ∧ W.cell? ⟨gb, 2, none⟩ = some b.f2.v ∧ W.cell? ⟨gb, 3, none⟩ = some (.slice b.A b.pl.length b.c) ∧ W.cell? ⟨gb, 4, none⟩ = some b.f4.v ∧ W.cell? ⟨gb, 5, none⟩ = some b.f5.v ∧ W.cell? ⟨gb, 6, none⟩ = some b.f6.v ∧ W.cell? ⟨gb, 7, none⟩ = some b.f7.v ∧ W.cell? ⟨gb, 8, none⟩ = some b.f8.v ∧ W.cell? ⟨gb, 9, none⟩ = some b.f9.v ∧ W.cell? ⟨gb, 10, none⟩ = some b.f10.v ∧ W.cell? ⟨gd, 12, none⟩ = some vre ∧ W.cell? ⟨g7, 3, none⟩ = some pv) : W1.cell? ⟨gb, 0, none⟩ = some b.f0.v ∧ W1.cell? ⟨gb, 1, none⟩ = some b.f1.v ∧ W1.cell? ⟨gb, 2, none⟩ = some b.f2.v ∧ W1.cell? ⟨gb, 3, none⟩ = some (.slice b.A b.pl.length b.c) ∧ W1.cell? ⟨gb, 4, none⟩ = some b.f4.v ∧ W1.cell? ⟨gb, 5, none⟩ = some b.f5.v ∧ W1.cell? ⟨gb, 6, none⟩ = some b.f6.v ∧ W1.cell? ⟨gb, 7, none⟩ = some b.f7.v ∧ W1.cell? ⟨gb, 8, none⟩ = some b.f8.v ∧ W1.cell? ⟨gb, 9, none⟩ = some b.f9.v ∧ W1.cell? ⟨gb, 10, none⟩ = some b.f10.v ∧ W1.cell? ⟨gd, 12, none⟩ = some vre ∧ W1.cell? ⟨g7, 3, none⟩ = some pv := by
  obtain ⟨c0, c1, c2, c3, c4, c5, c6, c7, c8, c9, c10, c11, c12⟩ := c
  exact ⟨cell_grown h hb c0, cell_grown h hb c1, cell_grown h hb c2, cell_grown h hb c3, cell_grown h hb c4, cell_grown h hb c5, cell_grown h hb c6, cell_grown h hb c7, cell_grown h hb c8, cell_grown h hb c9, cell_grown h hb c10, cell_grown h hd c11, cell_grown h h7 c12⟩
theorem madeA (w : World) (C : Obj) (n : Nat) (h : n ≤ 1000) : Kd.R (Kd.int .i64) 3 ((w.alloc (.cells (madeCells #[.int .i64 0] n) 3)).alloc C).drew w.heap.size (fun k => k = w.heap.size) (.slice (some ⟨w.heap.size, 0, none⟩) n n) (List.replicate n 0) := by
  have h1 := own_made w w.heap.size 3 .i64 n (Nat.le_refl _) (by omega)
  have h2 : Kd.R (Kd.int .i64) 3 (w.alloc (.cells (madeCells #[.int .i64 0] n) 3)) w.heap.size (fun k => k = w.heap.size) (.slice (some ⟨w.heap.size, 0, none⟩) n n) (List.replicate n 0) :=
    Kd.R_of_own (by rw [List.length_replicate]; exact h1) (fun k hk => by simpa [Value.ownBlock] using hk.symm)
  exact Kd.R_below h2 ((below_alloc (Below.refl _ _) _).drew)
theorem madeB (w : World) (C : Obj) (n : Nat) (h : n ≤ 1000) : Kd.R (Kd.int .i64) 3 ((w.alloc C).alloc (.cells (madeCells #[.int .i64 0] n) 3)).drew w.heap.size (fun k => k = w.heap.size + 1) (.slice (some ⟨w.heap.size + 1, 0, none⟩) n n) (List.replicate n 0) := by
  have h1 := own_made (w.alloc C) w.heap.size 3 .i64 n (by simp) (by omega)
  rw [World.size_alloc] at h1
  have h2 : Kd.R (Kd.int .i64) 3 ((w.alloc C).alloc (.cells (madeCells #[.int .i64 0] n) 3)) w.heap.size (fun k => k = w.heap.size + 1) (.slice (some ⟨w.heap.size + 1, 0, none⟩) n n) (List.replicate n 0) :=
    Kd.R_of_own (by rw [List.length_replicate]; exact h1) (fun k hk => by simpa [Value.ownBlock] using hk.symm)
  exact Kd.R_below h2 ((Below.refl _ _).drew)

set_option maxRecDepth 100000 in
set_option maxHeartbeats 4000000 in
theorem of_calls (b : BV) (A1 : Option Addr) (c1 : Nat) (ro : List S39) (A2 : Option Addr) (c2 : Nat) (su : List Int) (A3 : Option Addr) (c3 : Nat) (gr : List S53) (w : World) (hb : b.In w) (hs : b.pl.length ≤ 1000)
    (hr1 : Kd.C k39 w A1 ro.length ro) (hc1 : ro.length ≤ c1) (hr2 : Kd.C (Kd.int .i64) w A2 su.length su) (hc2 : su.length ≤ c2) (hr3 : Kd.C k53 w A3 gr.length gr) (hc3 : gr.length ≤ c3) (hro : ro.length ≤ 1000) :
    Calls Try.prog 30 #[b.val, .slice A1 ro.length c1, .slice A2 su.length c2, .slice A3 gr.length c3] w fun e w' => ∃ (A4 : Option Addr) (c4 : Nat) (A5 : Option Addr) (c5 : Nat) (A6 : Option Addr) (c6 : Nat),
      e = .returned (DV.val ⟨b, A1, c1, ro, A4, c4, reTo b.pl ro ro.length, A5, c5, gotTo ro.length gr ro.length, A6, c6, leftTo b.pl ro gr (left0 b.pl su) ro.length⟩) ∧
      DV.In ⟨b, A1, c1, ro, A4, c4, reTo b.pl ro ro.length, A5, c5, gotTo ro.length gr ro.length, A6, c6, leftTo b.pl ro gr (left0 b.pl su) ro.length⟩ w' ∧ Below w.heap.size w w' := by
  go_enter Try.func30, Try.ntmps30
  go_wp2_with (first
    | ((with_reducible refine gate_dst (N := 4) rfl ?_); refine ev_box rfl rfl b.cs 31 (by go_simp; done) ?_; intro gb w1 BK hgb hb1)
    | ((with_reducible refine gate_dst (N := 8) rfl ?_); refine ev_box rfl rfl zero63 63 (by go_simp; rfl) ?_; intro g8 w2 BK8 hg8 hb2))
  simp only [Act.put, List.setIfInBounds_toArray, List.set_cons_succ, List.set_cons_zero]
  have BKb := Aside0.mk (blk_below BK hb2)
  have BK8' := Aside0.mk BK8
  have HB := Aside0.mk (below_step hb1 hb2)
  have hbw1 : w.heap.size ≤ w1.heap.size := hb1.size
  clear BK BK8 hb1 hb2
  have hmk := print_make (P := Try.prog) 29 3 .i64 8 Try.underlying29 info3 (by decide) ro.length (by omega)
  have z0 : w2.cell? ⟨gb, 0, none⟩ = some b.f0.v := (blk_cell BKb.out 0).trans rfl
  have z1 : w2.cell? ⟨gb, 1, none⟩ = some b.f1.v := (blk_cell BKb.out 1).trans rfl
  have z2 : w2.cell? ⟨gb, 2, none⟩ = some b.f2.v := (blk_cell BKb.out 2).trans rfl
  have z3 : w2.cell? ⟨gb, 3, none⟩ = some (.slice b.A b.pl.length b.c) := (blk_cell BKb.out 3).trans rfl
  have z4 : w2.cell? ⟨gb, 4, none⟩ = some b.f4.v := (blk_cell BKb.out 4).trans rfl
  have z5 : w2.cell? ⟨gb, 5, none⟩ = some b.f5.v := (blk_cell BKb.out 5).trans rfl
  have z6 : w2.cell? ⟨gb, 6, none⟩ = some b.f6.v := (blk_cell BKb.out 6).trans rfl
  have z7 : w2.cell? ⟨gb, 7, none⟩ = some b.f7.v := (blk_cell BKb.out 7).trans rfl
  have z8 : w2.cell? ⟨gb, 8, none⟩ = some b.f8.v := (blk_cell BKb.out 8).trans rfl
  have z9 : w2.cell? ⟨gb, 9, none⟩ = some b.f9.v := (blk_cell BKb.out 9).trans rfl
  have z10 : w2.cell? ⟨gb, 10, none⟩ = some b.f10.v := (blk_cell BKb.out 10).trans rfl
  have hlt := blk_lt BKb.out
  go_upto_region 1 with (fail)
  go_cut [9] (fun v9 wc => ∃ gd gg : Nat, v9 = .pointer (some ⟨gd, 0, none⟩) ∧ Aside0 (w2.heap.size ≤ gd ∧ w2.heap.size ≤ gg ∧ gd ≠ gg ∧ wc.heap[gd]? = some (.cells (dcs b (.slice A1 ro.length c1) (.slice none 0 0) (.slice (some ⟨gg, 0, none⟩) ro.length ro.length) (.slice none 0 0)) 63 (0, 0)) ∧
      Kd.R (Kd.int .i64) 3 wc w2.heap.size (fun k => k = gg) (.slice (some ⟨gg, 0, none⟩) ro.length ro.length) (List.replicate ro.length 0) ∧ Below w2.heap.size w2 wc))
  case first =>
    go_region_with (fail)
    all_goals
      go_wp2
      go_meet
      case rel =>
        first
          | exact ⟨w2.heap.size + 1, w2.heap.size, rfl, ⟨⟨Nat.le_succ _, Nat.le_refl _, by omega, heap_alloc2_new _ _ _, madeA w2 _ ro.length (by omega), (below_alloc (below_alloc (Below.refl _ _) _) _).drew⟩⟩⟩
          | exact ⟨w2.heap.size, w2.heap.size + 1, rfl, ⟨⟨Nat.le_refl _, Nat.le_succ _, by omega, heap_alloc2_old _ _ _, madeB w2 _ ro.length (by omega), (below_alloc (below_alloc (Below.refl _ _) _) _).drew⟩⟩⟩
  case rest =>
    clear z0 z1 z2 z3 z4 z5 z6 z7 z8 z9 z10 hmk
    obtain ⟨gd, gg, rfl, ⟨h1, h2, h3, BKd0, BKg0, hb3⟩⟩ := hcut
    have hbw := HB.out
    have BKb3 := Aside0.mk (blk_below BKb.out hb3)
    have BK83 := Aside0.mk (blk_below BK8'.out hb3)
    have HB3 := Aside0.mk (below_step hbw hb3)
    have BKd := Aside0.mk BKd0
    have RG := Aside0.mk (Kd.R_lower BKg0 (show w.heap.size ≤ w2.heap.size from hbw.size))
    have hgbd : gb ≠ gd := by omega
    have hg8d : g8 ≠ gd := by have := blk_lt BK8'.out; omega
    have hwgd : w.heap.size ≤ gd := by have := hbw.size; omega
    have hwg8 : w.heap.size ≤ g8 := by have := hbw1; omega
    have hwgg : w.heap.size ≤ gg := by have := hbw.size; omega
    clear hbw BKb BK8' HB hb3 BKd0 BKg0 h1 h2 hlt hg8
    go_wp2_with (first
      | ((with_reducible refine gate_dst (N := 21) rfl ?_); refine wpList_load_row rfl 31 _ rfl gb rfl 31 b.cs (0, 0) _ BKb3.out Try.underlying31 rfl (by kernel_rfl) ?_)
      | (go_at_call 23; refine (Day_calls b none 0 [] A2 c2 su _ (hb.below HB3.out) hs ⟨rfl, by decide, fun h => absurd h (by decide)⟩ (Nat.le_refl _) (Kd.C_below hr2 HB3.out) hc2 (by decide)).mono ?_; rintro e w5 ⟨v0, v1, rfl, _, hR5, hb5⟩; obtain ⟨Al, cl, rfl⟩ := Kd.R_slice hR5)
      | (refine ev_put rfl 29 _ _ rfl rfl gd 14 rfl _ rfl rfl 63 _ (blk_below BKd.out hb5) (Nat.le_of_ble_eq_true rfl) (by kernel_rfl) ?_; intro w6 BKd6 hbd6 hk6 hz6))
    have BD6 := Aside0.mk (show w6.heap[gd]? = some (.cells (dcs b (.slice A1 ro.length c1) (.slice none 0 0) (.slice (some ⟨gg, 0, none⟩) ro.length ro.length) (.slice Al (dayF b.pl [] su).2.length cl)) 63 (0, 0)) from BKd6)
    have BB6 := Aside0.mk ((hk6 gb hgbd).trans (blk_below BKb3.out hb5))
    have B86 := Aside0.mk ((hk6 g8 hg8d).trans (blk_below BK83.out hb5))
    have RG6 := Aside0.mk (Kd.R_step (Kd.R_below RG.out hb5) (w1 := w6) (fun k hk _ => hk6 k (by rw [hk]; exact Ne.symm h3)))
    have RL5 := Kd.R_types (Kd.R_tight rfl hR5) (blk_below BKd.out hb5) (by decide)
    have RL6 := Aside0.mk (Kd.R_lower (Kd.R_mono (Kd.R_step RL5 (w1 := w6) (fun k hk _ => hk6 k hk.2)) (fun k hk => hk.1)) (show w.heap.size ≤ wc.heap.size from HB3.out.size))
    have HB6 := Aside0.mk (below_weaken (below_step HB3.out hb5) (Nat.le_refl _) (hbd6 _ hwgd))
    have hgl : ∀ k, (Value.slice Al (dayF b.pl [] su).2.length cl).ownBlock = some k → k ≠ gg := by
      intro k hk e
      have h7 := (Kd.R_base hR5 k hk)
      obtain ⟨i7, o7⟩ := Kd.R_own RG.out
      have h8 := own_lt o7 gg rfl
      omega
    have G : Aside0 (OfG w w6 gb g8 gd gg (.slice Al (dayF b.pl [] su).2.length cl)) := ⟨⟨blk_lt BD6.out, blk_lt BB6.out, blk_lt B86.out, by obtain ⟨_, o7⟩ := Kd.R_own RG6.out; exact own_lt o7 gg rfl, by obtain ⟨_, o7⟩ := Kd.R_own RL6.out; exact own_lt o7,
      hgbd, hg8d, Ne.symm h3, fun k hk => (RL5.1 k hk).2, hgl, HB6.out.size, hwgd⟩⟩
    clear BKd6 hbd6 hk6 hb5 hR5 RL5 BKb3 BK83 HB3 BKd RG hz6
    go_loopw [29] (fun v29 W => ∃ (i : Nat) (vre : Value), v29 = .int .i64 i ∧ Aside0 (i ≤ ro.length) ∧ OfSt b A1 c1 ro w w6 gb g8 gd gg (.slice Al (dayF b.pl [] su).2.length cl) (reTo b.pl ro i) (gotTo ro.length gr i) (leftTo b.pl ro gr (left0 b.pl su) i) vre W) (fun v29 _ => ro.length - (intOf v29).toNat)
    case atStart =>
      refine ⟨0, .slice none 0 0, rfl, ⟨Nat.zero_le _⟩, BD6.out, BB6.out, B86.out, Kd.R_nil _ _ _ _ _, ?_, RL6.out, HB6.out, Nat.le_refl _⟩
      have e : gotTo ro.length gr 0 = List.replicate ro.length 0 := by
        unfold gotTo
        apply List.ext_getElem <;> simp
      rw [e]; exact RG6.out
    case round =>
      clear BD6 BB6 B86 RG6 RL6 HB6
      obtain ⟨i, vre, rfl, hi, S⟩ := hrel
      by_cases hlt : i < ro.length
      · obtain ⟨ad, e1, hx0⟩ := r39_at (Kd.C_below hr1 S.hb) i (by omega) (by omega)
        subst e1
        rw [Int.toNat_natCast] at hx0
        have hx := Aside0.mk hx0
        clear hx0
        go_wp2_with (first
          | ((with_reducible refine gate_dst (N := 33) rfl ?_); refine ev_load rfl 39 _ rfl (ad.add (i * 9)) rfl (r39 (rd_T39 ro i)) hx.out _ Try.underlying39 rfl (by kernel_rfl) ?_)
          | ((with_reducible refine gate_dst (N := 11) rfl ?_); refine ev_box rfl rfl #[.int .i64 0, .int .i64 0, .int .i64 0, .int .i64 0, .int .i64 0, .int .i64 0, .int .i64 0, .int .i64 0, .int .i64 0] 39 (by go_simp; done) ?_; intro g7 w7 BK7 hg7 hb7)
          | (refine ev_store rfl 39 _ _ rfl rfl g7 rfl (r39 (rd_T39 ro i)).toArray rfl 39 _ BK7 (by kernel_rfl) rfl (by simp [r39, Value.oneCell']) ?_; intro w8 BK8 hb8 hk8))
        have hb78 : Below wr.heap.size wr w8 := below_weaken hb7 (Nat.le_refl _) (hb8 _ hg7)
        have S8 := Aside0.mk (S.below hb78)
        have z0 : w8.cell? ⟨gb, 0, none⟩ = some b.f0.v := (blk_cell S8.out.bb 0).trans rfl
        have z1 : w8.cell? ⟨gb, 1, none⟩ = some b.f1.v := (blk_cell S8.out.bb 1).trans rfl
        have z2 : w8.cell? ⟨gb, 2, none⟩ = some b.f2.v := (blk_cell S8.out.bb 2).trans rfl
        have z3 : w8.cell? ⟨gb, 3, none⟩ = some (.slice b.A b.pl.length b.c) := (blk_cell S8.out.bb 3).trans rfl
        have z4 : w8.cell? ⟨gb, 4, none⟩ = some b.f4.v := (blk_cell S8.out.bb 4).trans rfl
        have z5 : w8.cell? ⟨gb, 5, none⟩ = some b.f5.v := (blk_cell S8.out.bb 5).trans rfl
        have z6 : w8.cell? ⟨gb, 6, none⟩ = some b.f6.v := (blk_cell S8.out.bb 6).trans rfl
        have z7 : w8.cell? ⟨gb, 7, none⟩ = some b.f7.v := (blk_cell S8.out.bb 7).trans rfl
        have z8 : w8.cell? ⟨gb, 8, none⟩ = some b.f8.v := (blk_cell S8.out.bb 8).trans rfl
        have z9 : w8.cell? ⟨gb, 9, none⟩ = some b.f9.v := (blk_cell S8.out.bb 9).trans rfl
        have z10 : w8.cell? ⟨gb, 10, none⟩ = some b.f10.v := (blk_cell S8.out.bb 10).trans rfl
        have zr : w8.cell? ⟨gd, 12, none⟩ = some vre := (blk_cell S8.out.bd 12).trans rfl
        have zp : w8.cell? ⟨g7, 3, none⟩ = some (.int .i64 (rd_T39 ro i).f3) := (blk_cell BK8 3).trans rfl
        have nb : some gb ≠ vre.ownBlock := Kd.R_ne S8.out.re S8.out.bb (by decide)
        have nd : some gd ≠ vre.ownBlock := Kd.R_ne S8.out.re S8.out.bd (by decide)
        have n7 : some g7 ≠ vre.ownBlock := Kd.R_ne S8.out.re BK8 (by decide)
        clear S hx hb78 BK8 BK7 hb7 hb8 hk8 hg7
        go_upto_region 6 with (fail)
        go_cut [] (fun wc => ∃ vre2 : Value, OfSt b (some ad) c1 ro w w6 gb g8 gd gg (.slice Al (dayF b.pl [] su).2.length cl) (reTo b.pl ro (i + 1)) (gotTo ro.length gr i) (leftTo b.pl ro gr (left0 b.pl su) i) vre2 wc)
        case first =>
          refine start_ (n := 10) (S := fun w' => w'.cell? ⟨gb, 0, none⟩ = some b.f0.v ∧ w'.cell? ⟨gb, 1, none⟩ = some b.f1.v ∧ w'.cell? ⟨gb, 2, none⟩ = some b.f2.v ∧ w'.cell? ⟨gb, 3, none⟩ = some (.slice b.A b.pl.length b.c) ∧ w'.cell? ⟨gb, 4, none⟩ = some b.f4.v ∧ w'.cell? ⟨gb, 5, none⟩ = some b.f5.v ∧ w'.cell? ⟨gb, 6, none⟩ = some b.f6.v ∧ w'.cell? ⟨gb, 7, none⟩ = some b.f7.v ∧ w'.cell? ⟨gb, 8, none⟩ = some b.f8.v ∧ w'.cell? ⟨gb, 9, none⟩ = some b.f9.v ∧ w'.cell? ⟨gb, 10, none⟩ = some b.f10.v ∧ w'.cell? ⟨gd, 12, none⟩ = some vre ∧ w'.cell? ⟨g7, 3, none⟩ = some (.int .i64 (rd_T39 ro i).f3)) (ds := [7, 9]) #[false, false, false, false, false, false, false, false, false, false] (by kernel_rfl) rfl rfl ⟨z0, z1, z2, z3, z4, z5, z6, z7, z8, z9, z10, zr, zp⟩ (fun hHeld => ?_)
          have S9 := Aside0.mk (OfSt.below S8.out (Below.refl _ _).drew)
          generalize w8.drew = w9 at S9 hHeld ⊢
          clear S8 z0 z1 z2 z3 z4 z5 z6 z7 z8 z9 z10 zr zp
          refine pure_ (i := 0) (N := some 34) (v := ?_) (a' := ?_) #[true, false, false, false, false, false, false, false, false, false] rfl rfl (by kernel_rfl) (fun _ _ _ h => h) (Or.inl ⟨by rfl, ?_⟩) ?_ ?_
          rotate_left
          · intro w'; go_simp; with_reducible rfl
          rotate_left
          · simp only [Act.put, List.setIfInBounds_toArray, List.set_cons_zero, List.set_cons_succ]; rfl
          refine take_ (i := 1) (N := some 35) (v := ?_) (a' := ?_) #[true, true, false, false, false, false, false, false, false, false] rfl rfl (by kernel_rfl) (fun _ _ _ h => h) (Or.inl ⟨by rfl, ?_⟩) hHeld ?_ ?_
          rotate_left
          · rintro w' ⟨s0, s1, s2, s3, s4, s5, s6, s7, s8, s9, s10, s11, s12⟩; go_simp; with_reducible rfl
          rotate_left
          · simp only [Act.put, List.setIfInBounds_toArray, List.set_cons_zero, List.set_cons_succ]; rfl
          refine take_ (i := 2) (N := some 36) (v := ?_) (a' := ?_) #[true, true, true, false, false, false, false, false, false, false] rfl rfl (by kernel_rfl) (fun _ _ _ h => h) (Or.inl ⟨by rfl, ?_⟩) hHeld ?_ ?_
          rotate_left
          · rintro w' ⟨s0, s1, s2, s3, s4, s5, s6, s7, s8, s9, s10, s11, s12⟩; go_simp; with_reducible rfl
          rotate_left
          · simp only [Act.put, List.setIfInBounds_toArray, List.set_cons_zero, List.set_cons_succ]; rfl
          refine pure_ (i := 3) (N := some 37) (v := ?_) (a' := ?_) #[true, true, true, true, false, false, false, false, false, false] rfl rfl (by kernel_rfl) (fun _ _ _ h => h) (Or.inl ⟨by rfl, ?_⟩) ?_ ?_
          rotate_left
          · intro w'; go_simp; with_reducible rfl
          rotate_left
          · simp only [Act.put, List.setIfInBounds_toArray, List.set_cons_zero, List.set_cons_succ]; rfl
          refine take_ (i := 4) (N := some 38) (v := ?_) (a' := ?_) #[true, true, true, true, true, false, false, false, false, false] rfl rfl (by kernel_rfl) (fun _ _ _ h => h) (Or.inl ⟨by rfl, ?_⟩) hHeld ?_ ?_
          rotate_left
          · rintro w' ⟨s0, s1, s2, s3, s4, s5, s6, s7, s8, s9, s10, s11, s12⟩; go_simp; with_reducible rfl
          rotate_left
          · simp only [Act.put, List.setIfInBounds_toArray, List.set_cons_zero, List.set_cons_succ]; rfl
          refine one_ (i := 5) (N := some 39) #[true, true, true, true, true, true, false, false, false, false] rfl rfl (by kernel_rfl) (by decide) (fun K hK => ?_)
          refine goes_ Try.func25 (by kernel_rfl) rfl #[b.val, .int .i64 (rd_T39 ro i).f3] (by rfl) rfl rfl (by simp only [List.map_toArray, List.map_cons, List.map_nil]; rfl) ?_
          refine (Reach_calls b _ _ (hb.below S9.out.hb) hs).mono ?_; rintro e w10 ⟨v10, rfl, hR10, hb10⟩; obtain ⟨A10, c10, rfl⟩ := Kd.R_slice hR10
          refine ⟨_, rfl, ?_⟩
          refine hK.out _ _ (keepA hb10 hHeld) (fun hHeld => ?_)
          clear hK K
          refine norm_ (a' := ?_) ?_ ?_
          rotate_left
          · show Act.put _ (some 39) _ = _; simp only [Act.put, List.setIfInBounds_toArray, List.set_cons_zero, List.set_cons_succ]; rfl
          have S10 := Aside0.mk (S9.out.below hb10)
          refine one_ (i := 6) (N := some 40) #[true, true, true, true, true, true, true, false, false, false] rfl rfl (by kernel_rfl) (by decide) (fun K hK => ?_)
          refine value_ (v := .slice (some ⟨w10.heap.size, 0, none⟩) 1 1) (w1 := w10.alloc (.cells #[.slice A10 (reach b.pl (rd_T39 ro i).f3).length c10] 29)) (by rfl) rfl (by go_simp) ?_
          refine hK.out _ _ (keepA (below_alloc (Below.refl _ _) _) hHeld) (fun hHeld => ?_)
          clear hK K
          refine norm_ (a' := ?_) ?_ ?_
          rotate_left
          · show Act.put _ (some 40) _ = _; simp only [Act.put, List.setIfInBounds_toArray, List.set_cons_zero, List.set_cons_succ]; rfl
          refine last_ (i := 7) (N := some 41) #[true, true, true, true, true, true, true, true, false, false] rfl rfl (by kernel_rfl) (by decide) (fun K hK => ?_)
          refine Kd.R_append_step (Kd.slice 3 (Kd.int .i64)) (w0 := w10) w6.heap.size (by rfl) _ _ 61 29 _ 24 rfl Try.underlying61 info29 rfl (by decide) (by omega) vre (reTo b.pl ro i) (reach b.pl (rd_T39 ro i).f3) [.slice A10 (reach b.pl (rd_T39 ro i).f3).length c10] (fun _ => True) (fun k => w9.heap.size ≤ k) rfl rfl ?aP ?aK (fun _ _ => trivial) S10.out.re (Below.refl _ _) S10.out.h6 ?aL ?_
          case aP => exact ⟨_, rfl, Kd.R_lower (Kd.R_mono (Kd.R_bound hR10) (fun k hk => hk.2.1)) S9.out.h6⟩
          case aK => exact fun k hk => ⟨trivial, fun e => by obtain ⟨_, o0⟩ := Kd.R_own S9.out.re; have := own_lt o0 k e.symm; omega⟩
          case aL => simp [reTo]; omega
          intro v11 w11 hR11 hB11 hg11 hat11
          obtain ⟨A11, c11, rfl⟩ := Kd.R_slice hR11
          refine hK.out _ _ ?_
          clear hK K
          refine norm_ (a' := ?_) ?_ ?_
          rotate_left
          · show Act.put _ (some 41) _ = _; simp only [Act.put, List.setIfInBounds_toArray, List.set_cons_zero, List.set_cons_succ]; rfl
          have zd11 := (blk_cell (blk_grown S10.out.bd hg11 nd) 12).trans (show _ = some vre from rfl)
          have fd11 := blk_frozen (blk_grown S10.out.bd hg11 nd) 12
          refine pure_ (i := 8) (N := some 42) (v := ?_) (a' := ?_) #[true, true, true, true, true, true, true, true, true, false] rfl rfl (by kernel_rfl) (fun _ _ _ h => h) (Or.inl ⟨by rfl, ?_⟩) ?_ ?_
          rotate_left
          · intro w'; go_simp; with_reducible rfl
          rotate_left
          · simp only [Act.put, List.setIfInBounds_toArray, List.set_cons_zero, List.set_cons_succ]; rfl
          refine last_ (i := 9) (N := none) #[true, true, true, true, true, true, true, true, true, true] rfl rfl (by kernel_rfl) (by decide) (fun K hK => ?_)
          refine skip_ (w1 := ?_) (by rfl) rfl ?_ ?_
          rotate_left
          · go_simp; rfl
          refine hK.out _ _ ?_
          clear hK K
          refine done_ (by kernel_rfl) ?_
          go_wp2
          go_meet
          case rel =>
            refine ⟨.slice A11 ((reTo b.pl ro i).length + 1) c11, ?_⟩
            rw [reTo_succ b.pl ro i hlt]
            have key := S10.out.app G.out hR11 hg11
            simpa using key
        case rest =>
          obtain ⟨vre2, S2⟩ := hcut
          clear S8 z0 z1 z2 z3 z4 z5 z6 z7 z8 z9 z10 zr zp nb nd n7
          by_cases hgr : i < gr.length
          · have hgr' : (i : Int) < (gr.length : Int) := by omega
            have hi0 : (0 : Int) ≤ (i : Int) := Int.natCast_nonneg _
            have hi1 : (i : Int) < (ro.length : Int) := by omega
            obtain ⟨ad3, e3, _, hx3⟩ := at_T53 (Kd.C_below hr3 S2.hb) i hi0 hgr'
            subst e3
            rw [Int.toNat_natCast] at hx3
            have hS2 := Aside0.mk S2
            have hx4 := Aside0.mk hx3
            clear S2 hx3
            go_wp2
            have y0 := (blk_cell hS2.out.bd 13).trans (show _ = some (Value.slice (some ⟨gg, 0, none⟩) ro.length ro.length) from rfl)
            refine start_ (n := 10) (S := fun w' => w'.cell? ⟨gd, 13, none⟩ = some (.slice (some ⟨gg, 0, none⟩) ro.length ro.length) ∧ w'.cell? ⟨(ad3.add (i * 2)).block, (ad3.add (i * 2)).off + 1, none⟩ = some (.int .i64 (rd_T53 gr i).f1)) (ds := [9]) #[false, false, false, false, false, false, false, false, false, false] (by kernel_rfl) rfl rfl ⟨y0, hx4.out⟩ (fun hHeld => ?_)
            have S3 := Aside0.mk (OfSt.below hS2.out (Below.refl _ _).drew)
            generalize wc.drew = w12 at S3 hHeld ⊢
            clear hS2 y0 hx4
            refine pure_ (i := 0) (N := some 47) (v := ?_) (a' := ?_) #[true, false, false, false, false, false, false, false, false, false] rfl rfl (by kernel_rfl) (fun _ _ _ h => h) (Or.inl ⟨by rfl, ?_⟩) ?_ ?_
            rotate_left
            · intro w'; go_simp; with_reducible rfl
            rotate_left
            · simp only [Act.put, List.setIfInBounds_toArray, List.set_cons_zero, List.set_cons_succ]; rfl
            refine take_ (i := 1) (N := some 48) (v := ?_) (a' := ?_) #[true, true, false, false, false, false, false, false, false, false] rfl rfl (by kernel_rfl) (fun _ _ _ h => h) (Or.inl ⟨by rfl, ?_⟩) hHeld ?_ ?_
            rotate_left
            · rintro w' ⟨s0, s1⟩; go_simp; with_reducible rfl
            rotate_left
            · simp only [Act.put, List.setIfInBounds_toArray, List.set_cons_zero, List.set_cons_succ]; rfl
            refine pure_ (i := 2) (N := some 49) (v := ?_) (a' := ?_) #[true, true, true, false, false, false, false, false, false, false] rfl rfl (by kernel_rfl) (fun _ _ _ h => h) (Or.inl ⟨by rfl, ?_⟩) ?_ ?_
            rotate_left
            · intro w'; go_simp; with_reducible rfl
            rotate_left
            · simp only [Act.put, List.setIfInBounds_toArray, List.set_cons_zero, List.set_cons_succ]; rfl
            refine pure_ (i := 3) (N := some 50) (v := ?_) (a' := ?_) #[true, true, true, true, false, false, false, false, false, false] rfl rfl (by kernel_rfl) (fun _ _ _ h => h) (Or.inl ⟨by rfl, ?_⟩) ?_ ?_
            rotate_left
            · intro w'; go_simp; with_reducible rfl
            rotate_left
            · simp only [Act.put, List.setIfInBounds_toArray, List.set_cons_zero, List.set_cons_succ]; rfl
            refine pure_ (i := 4) (N := some 51) (v := ?_) (a' := ?_) #[true, true, true, true, true, false, false, false, false, false] rfl rfl (by kernel_rfl) (fun _ _ _ h => h) (Or.inl ⟨by rfl, ?_⟩) ?_ ?_
            rotate_left
            · intro w'; go_simp; with_reducible rfl
            rotate_left
            · simp only [Act.put, List.setIfInBounds_toArray, List.set_cons_zero, List.set_cons_succ]; rfl
            refine pure_ (i := 5) (N := some 52) (v := ?_) (a' := ?_) #[true, true, true, true, true, true, false, false, false, false] rfl rfl (by kernel_rfl) (fun _ _ _ h => h) (Or.inl ⟨by rfl, ?_⟩) ?_ ?_
            rotate_left
            · intro w'; go_simp; with_reducible rfl
            rotate_left
            · simp only [Act.put, List.setIfInBounds_toArray, List.set_cons_zero, List.set_cons_succ]; rfl
            refine pure_ (i := 6) (N := some 53) (v := ?_) (a' := ?_) #[true, true, true, true, true, true, true, false, false, false] rfl rfl (by kernel_rfl) (fun _ _ _ h => h) (Or.inl ⟨by rfl, ?_⟩) ?_ ?_
            rotate_left
            · intro w'; go_simp; with_reducible rfl
            rotate_left
            · simp only [Act.put, List.setIfInBounds_toArray, List.set_cons_zero, List.set_cons_succ]; rfl
            refine take_ (i := 7) (N := some 54) (v := ?_) (a' := ?_) #[true, true, true, true, true, true, true, true, false, false] rfl rfl (by kernel_rfl) (fun _ _ _ h => h) (Or.inl ⟨by rfl, ?_⟩) hHeld ?_ ?_
            rotate_left
            · rintro w' ⟨s0, s1⟩; go_simp; with_reducible rfl
            rotate_left
            · simp only [Act.put, List.setIfInBounds_toArray, List.set_cons_zero, List.set_cons_succ]; rfl
            refine pure_ (i := 8) (N := some 55) (v := ?_) (a' := ?_) #[true, true, true, true, true, true, true, true, true, false] rfl rfl (by kernel_rfl) (fun _ _ _ h => h) (Or.inl ⟨by rfl, ?_⟩) ?_ ?_
            rotate_left
            · intro w'; go_simp; with_reducible rfl
            rotate_left
            · simp only [Act.put, List.setIfInBounds_toArray, List.set_cons_zero, List.set_cons_succ]; rfl
            obtain ⟨hc13, hf13⟩ := Kd.R_celln 0 S3.out.rg i hi0 hi1
            rw [Int.toNat_natCast] at hc13 hf13
            refine last_ (i := 9) (N := none) #[true, true, true, true, true, true, true, true, true, true] rfl rfl (by kernel_rfl) (by decide) (fun K hK => ?_)
            refine skip_ (w1 := ?_) (by rfl) rfl ?_ ?_
            rotate_left
            · go_simp; rfl
            refine hK.out _ _ ?_
            clear hK K
            refine done_ (by kernel_rfl) ?_
            have hS4 := Aside0.mk (S3.out.putg G.out i (litres gr i))
            rw [gotTo_succ] at hS4
            have elit : (rd_T53 gr i).f1 = litres gr i := by unfold litres; rw [if_pos hgr]
            rw [elit]
            clear elit hc13 hf13 hHeld S3
            generalize w12.setCell ⟨gg, i, none⟩ (.int .i64 (litres gr i)) = w13 at hS4 ⊢
            obtain ⟨ar, cr, A5, c5, er, hcell, hR5⟩ := re_get hS4.out.re i (by simp [reTo]; omega)
            rw [reTo_get b.pl ro i hlt] at hcell hR5
            subst er
            have y12 := (blk_cell hS4.out.bd 12).trans (show _ = some (Value.slice (some ar) (reTo b.pl ro (i + 1)).length cr) from rfl)
            have elen : (reTo b.pl ro (i + 1)).length = i + 1 := by simp [reTo]; omega
            rw [elen] at y12
            clear elen
            have hq := Aside0.mk (reach_in b.pl (rd_T39 ro i).f3)
            obtain ⟨l5, hl5⟩ : ∃ l5 : List Int, reach b.pl (rd_T39 ro i).f3 = l5 := ⟨_, rfl⟩
            rw [hl5] at hcell hR5 hq
            have hlen5 : l5.length ≤ 1000 := by rw [← hl5]; exact Nat.le_trans (nodup_short _ _ (reach_nodup b.pl _) (reach_in b.pl _)) hs
            have HL5 := Aside0.mk hl5
            have HR5 := Aside0.mk hR5
            clear hl5 hR5
            go_wp2
            go_loopw [62] (fun v62 W => ∃ j : Nat, v62 = .int .i64 j ∧ Aside0 (j ≤ l5.length ∧ Kd.R (Kd.int .i64) 3 W w6.heap.size (fun _ => True) (.slice A5 l5.length c5) l5) ∧ OfSt b (some ad) c1 ro w w6 gb g8 gd gg (.slice Al (dayF b.pl [] su).2.length cl) (reTo b.pl ro (i + 1)) (gotTo ro.length gr (i + 1)) (lower (litres gr i) (l5.take j) (leftTo b.pl ro gr (left0 b.pl su) i)) (.slice (some ar) (reTo b.pl ro (i + 1)).length cr) W) (fun v62 _ => l5.length - (intOf v62).toNat)
            case atStart => exact ⟨0, rfl, ⟨Nat.zero_le _, HR5.out⟩, hS4.out⟩
            case round =>
              clear hS4 HR5 y12 hcell
              obtain ⟨j, rfl, hj, S5⟩ := hrel
              have hj0 : (0 : Int) ≤ (j : Int) := Int.natCast_nonneg _
              by_cases hjl : j < l5.length
              · have hj1 : (j : Int) < (l5.length : Int) := by omega
                obtain ⟨ad5, e5, hx5⟩ := Kd.at_int (Kd.R_reads' hj.out.2).2.2 j hj0 hj1
                subst e5
                rw [Int.toNat_natCast, rd_nat _ _ hjl] at hx5
                have hq2 := hq.out _ (List.getElem_mem hjl)
                have hlow := Aside0.mk (lower_succ (litres gr i) l5 (leftTo b.pl ro gr (left0 b.pl su) i) j hjl)
                generalize l5[j] = q at hx5 hq2 hlow
                obtain ⟨hq0, hq1⟩ := hq2
                have hll : (lower (litres gr i) (l5.take j) (leftTo b.pl ro gr (left0 b.pl su) i)).length = b.pl.length := by rw [lower_length, leftTo_length, left0_length]
                obtain ⟨gl, cl2, el, _, _, _⟩ := Kd.R_form S5.rl (by rw [hll]; omega)
                injection el with el1 el2 el3
                subst el1 el3
                have hq1' : q < (((dayF b.pl [] su).2.length : Nat) : Int) := by rw [el2, hll]; exact hq1
                obtain ⟨hcl, hfl⟩ := Kd.R_celln 0 S5.rl q hq0 hq1'
                obtain ⟨hcg, hfg⟩ := Kd.R_celln 0 S5.rg i hi0 hi1
                rw [Int.toNat_natCast] at hcg hfg
                have hcg' : wr.cell? ⟨gg, i, none⟩ = some (.int .i64 (litres gr i)) := by rw [hcg]; exact congrArg (fun z => some (Value.int .i64 z)) (rd_gotTo ro.length gr i hlt)
                have hcl' : wr.cell? ⟨gl, q.toNat, none⟩ = some (.int .i64 (rd (lower (litres gr i) (l5.take j) (leftTo b.pl ro gr (left0 b.pl su) i)) q)) := hcl
                generalize hLj : lower (litres gr i) (l5.take j) (leftTo b.pl ro gr (left0 b.pl su) i) = Lj at S5 hcl' hlow
                have y14 := (blk_cell S5.bd 14).trans (show _ = some (Value.slice (some ⟨gl, 0, none⟩) (dayF b.pl [] su).2.length cl) from rfl)
                have y13 := (blk_cell S5.bd 13).trans (show _ = some (Value.slice (some ⟨gg, 0, none⟩) ro.length ro.length) from rfl)
                have hS5 := Aside0.mk S5
                have hfl' := Aside0.mk hfl
                have Y := Aside0.mk (And.intro y14 (And.intro hcl' (And.intro y13 hcg')))
                clear S5 hcl hcg hfg hcg' hcl' y14 y13 hLj hll el2 hfl
                go_wp2
                refine start_ (n := 13) (S := fun w' => w'.cell? ⟨gd, 14, none⟩ = some (.slice (some ⟨gl, 0, none⟩) (dayF b.pl [] su).2.length cl) ∧ w'.cell? ⟨gl, q.toNat, none⟩ = some (.int .i64 (rd Lj q)) ∧ w'.cell? ⟨gd, 13, none⟩ = some (.slice (some ⟨gg, 0, none⟩) ro.length ro.length) ∧ w'.cell? ⟨gg, i, none⟩ = some (.int .i64 (litres gr i))) (ds := [12]) #[false, false, false, false, false, false, false, false, false, false, false, false, false] (by kernel_rfl) rfl rfl Y.out (fun hHeld => ?_)
                have S6 := Aside0.mk (OfSt.below hS5.out (Below.refl _ _).drew)
                have hR6 := Aside0.mk (Kd.R_drew hj.out.2)
                have hfl6 : wr.drew.frozen? ⟨gl, q.toNat, none⟩ = false := hfl'.out
                generalize wr.drew = w14 at S6 hR6 hfl6 hHeld ⊢
                clear hS5 Y hfl' hx5
                refine pure_ (i := 0) (N := some 66) (v := ?_) (a' := ?_) #[true, false, false, false, false, false, false, false, false, false, false, false, false] rfl rfl (by kernel_rfl) (fun _ _ _ h => h) (Or.inl ⟨by rfl, ?_⟩) ?_ ?_
                rotate_left
                · intro w'; go_simp; with_reducible rfl
                rotate_left
                · simp only [Act.put, List.setIfInBounds_toArray, List.set_cons_zero, List.set_cons_succ]; rfl
                refine take_ (i := 1) (N := some 67) (v := ?_) (a' := ?_) #[true, true, false, false, false, false, false, false, false, false, false, false, false] rfl rfl (by kernel_rfl) (fun _ _ _ h => h) (Or.inl ⟨by rfl, ?_⟩) hHeld ?_ ?_
                rotate_left
                · rintro w' ⟨s0, s1, s2, s3⟩; go_simp; with_reducible rfl
                rotate_left
                · simp only [Act.put, List.setIfInBounds_toArray, List.set_cons_zero, List.set_cons_succ]; rfl
                refine pure_ (i := 2) (N := some 68) (v := ?_) (a' := ?_) #[true, true, true, false, false, false, false, false, false, false, false, false, false] rfl rfl (by kernel_rfl) (fun _ _ _ h => h) (Or.inl ⟨by rfl, ?_⟩) ?_ ?_
                rotate_left
                · intro w'; go_simp; with_reducible rfl
                rotate_left
                · simp only [Act.put, List.setIfInBounds_toArray, List.set_cons_zero, List.set_cons_succ]; rfl
                refine pure_ (i := 3) (N := some 69) (v := ?_) (a' := ?_) #[true, true, true, true, false, false, false, false, false, false, false, false, false] rfl rfl (by kernel_rfl) (fun _ _ _ h => h) (Or.inl ⟨by rfl, ?_⟩) ?_ ?_
                rotate_left
                · intro w'; go_simp; with_reducible rfl
                rotate_left
                · simp only [Act.put, List.setIfInBounds_toArray, List.set_cons_zero, List.set_cons_succ]; rfl
                refine take_ (i := 4) (N := some 70) (v := ?_) (a' := ?_) #[true, true, true, true, true, false, false, false, false, false, false, false, false] rfl rfl (by kernel_rfl) (fun _ _ _ h => h) (Or.inl ⟨by rfl, ?_⟩) hHeld ?_ ?_
                rotate_left
                · rintro w' ⟨s0, s1, s2, s3⟩; go_simp; with_reducible rfl
                rotate_left
                · simp only [Act.put, List.setIfInBounds_toArray, List.set_cons_zero, List.set_cons_succ]; rfl
                refine pure_ (i := 5) (N := some 71) (v := ?_) (a' := ?_) #[true, true, true, true, true, true, false, false, false, false, false, false, false] rfl rfl (by kernel_rfl) (fun _ _ _ h => h) (Or.inl ⟨by rfl, ?_⟩) ?_ ?_
                rotate_left
                · intro w'; go_simp; with_reducible rfl
                rotate_left
                · simp only [Act.put, List.setIfInBounds_toArray, List.set_cons_zero, List.set_cons_succ]; rfl
                refine take_ (i := 6) (N := some 72) (v := ?_) (a' := ?_) #[true, true, true, true, true, true, true, false, false, false, false, false, false] rfl rfl (by kernel_rfl) (fun _ _ _ h => h) (Or.inl ⟨by rfl, ?_⟩) hHeld ?_ ?_
                rotate_left
                · rintro w' ⟨s0, s1, s2, s3⟩; go_simp; with_reducible rfl
                rotate_left
                · simp only [Act.put, List.setIfInBounds_toArray, List.set_cons_zero, List.set_cons_succ]; rfl
                refine pure_ (i := 7) (N := some 73) (v := ?_) (a' := ?_) #[true, true, true, true, true, true, true, true, false, false, false, false, false] rfl rfl (by kernel_rfl) (fun _ _ _ h => h) (Or.inl ⟨by rfl, ?_⟩) ?_ ?_
                rotate_left
                · intro w'; go_simp; with_reducible rfl
                rotate_left
                · simp only [Act.put, List.setIfInBounds_toArray, List.set_cons_zero, List.set_cons_succ]; rfl
                refine pure_ (i := 8) (N := some 74) (v := ?_) (a' := ?_) #[true, true, true, true, true, true, true, true, true, false, false, false, false] rfl rfl (by kernel_rfl) (fun _ _ _ h => h) (Or.inl ⟨by rfl, ?_⟩) ?_ ?_
                rotate_left
                · intro w'; go_simp; with_reducible rfl
                rotate_left
                · simp only [Act.put, List.setIfInBounds_toArray, List.set_cons_zero, List.set_cons_succ]; rfl
                refine take_ (i := 9) (N := some 75) (v := ?_) (a' := ?_) #[true, true, true, true, true, true, true, true, true, true, false, false, false] rfl rfl (by kernel_rfl) (fun _ _ _ h => h) (Or.inl ⟨by rfl, ?_⟩) hHeld ?_ ?_
                rotate_left
                · rintro w' ⟨s0, s1, s2, s3⟩; go_simp; with_reducible rfl
                rotate_left
                · simp only [Act.put, List.setIfInBounds_toArray, List.set_cons_zero, List.set_cons_succ]; rfl
                refine pure_ (i := 10) (N := some 76) (v := ?_) (a' := ?_) #[true, true, true, true, true, true, true, true, true, true, true, false, false] rfl rfl (by kernel_rfl) (fun _ _ _ h => h) (Or.inl ⟨by rfl, ?_⟩) ?_ ?_
                rotate_left
                · intro w'; go_simp; with_reducible rfl
                rotate_left
                · simp only [Act.put, List.setIfInBounds_toArray, List.set_cons_zero, List.set_cons_succ]; rfl
                refine pure_ (i := 11) (N := some 77) (v := ?_) (a' := ?_) #[true, true, true, true, true, true, true, true, true, true, true, true, false] rfl rfl (by kernel_rfl) (fun _ _ _ h => h) (Or.inl ⟨by rfl, ?_⟩) ?_ ?_
                rotate_left
                · intro w'; go_simp; with_reducible rfl
                rotate_left
                · simp only [Act.put, List.setIfInBounds_toArray, List.set_cons_zero, List.set_cons_succ]; rfl
                obtain ⟨_, hcl6, _, _⟩ := hHeld
                refine last_ (i := 12) (N := none) #[true, true, true, true, true, true, true, true, true, true, true, true, true] rfl rfl (by kernel_rfl) (by decide) (fun K hK => ?_)
                refine skip_ (w1 := ?_) (by rfl) rfl ?_ ?_
                rotate_left
                · go_simp; rfl
                refine hK.out _ _ ?_
                clear hK K
                refine done_ (by kernel_rfl) ?_
                go_wp2
                refine ⟨⟨j + 1, by go_num, ⟨by omega, ?_⟩, ?_⟩, by simp [intOf]; omega⟩
                · exact Kd.R_mono (Kd.R_far (p := ⟨gl, q.toNat, none⟩) (Kd.R_mono (Kd.R_bound hR6.out) (fun k hk => (show k ≠ gl from by have := hk.2.1; have := G.out.l6 gl rfl; omega))) (fun k hk => hk) _) (fun _ _ => trivial)
                · rw [hlow.out]; exact S6.out.putl G.out q _
              · obtain rfl : j = l5.length := by have := hj.out.1; omega
                rw [List.take_length] at S5
                rw [← HL5.out, ← leftTo_step b.pl ro gr (left0 b.pl su) i hgr] at S5
                have hS5 := Aside0.mk S5
                clear S5
                go_wp2
                go_roundw
                case rel => exact ⟨i + 1, _, by go_num, ⟨by omega⟩, hS5.out⟩
                case measure => simp [intOf]; omega
          · have hgr' : (gr.length : Int) ≤ (i : Int) := by omega
            rw [← gotTo_past ro.length gr i hgr, ← leftTo_past b.pl ro gr (left0 b.pl su) i hgr] at S2
            have hS2 := Aside0.mk S2
            clear S2
            go_wp2
            go_roundw
            case rel => exact ⟨i + 1, _, by go_num, ⟨by omega⟩, hS2.out⟩
            case measure => simp [intOf]; omega
      · obtain rfl : i = ro.length := by have := hi.out; omega
        obtain ⟨Ar0, cr0, er0⟩ := Kd.R_slice S.re
        subst er0
        have S' := Aside0.mk S
        clear S
        go_wp2_with (first
          | ((with_reducible refine gate_dst (N := 80) rfl ?_); refine wpList_load_row rfl 63 _ rfl gd rfl 63 (dcs b (.slice A1 ro.length c1) (.slice Ar0 (reTo b.pl ro ro.length).length cr0) (.slice (some ⟨gg, 0, none⟩) ro.length ro.length) (.slice Al (dayF b.pl [] su).2.length cl)) (0, 0) _ S'.out.bd Try.underlying63 rfl (by kernel_rfl) ?_)
          | (refine ev_store rfl 63 _ _ rfl rfl g8 rfl (dcs b (.slice A1 ro.length c1) (.slice Ar0 (reTo b.pl ro ro.length).length cr0) (.slice (some ⟨gg, 0, none⟩) ro.length ro.length) (.slice Al (dayF b.pl [] su).2.length cl)) rfl 63 _ S'.out.b8 (by kernel_rfl) rfl (dcs_one b rfl rfl rfl rfl) ?_; intro w8 BK8 hb8 hk8))
        refine bodyPost_ret (results_cell_row rfl _ _ g8 63 _ (0, 0) _ rfl BK8 Try.underlying63 rfl (by kernel_rfl)) rfl ?_
        have S := S'.out
        have hbw : Below w.heap.size w w8 := below_weaken S.hb (Nat.le_refl _) (hb8 _ hwg8)
        obtain ⟨Ar, cr, er, hcr, hCr⟩ := Kd.R_reads (Kd.R_step (w1 := w8) (Kd.R_types S.re S.b8 (by decide)) (fun k hk _ => hk8 k hk.2))
        obtain ⟨Ag, cg, eg, hcg, hCg⟩ := Kd.R_reads (Kd.R_step (w1 := w8) (Kd.R_types S.rg S.b8 (by decide)) (fun k hk _ => hk8 k hk.2))
        obtain ⟨Al2, cl2, el, hcl, hCl⟩ := Kd.R_reads (Kd.R_step (w1 := w8) (Kd.R_types S.rl S.b8 (by decide)) (fun k hk _ => hk8 k hk.2))
        refine ⟨Ar, cr, Ag, cg, Al2, cl2, ?_, ⟨hb.below hbw, Kd.C_below hr1 hbw, hc1, hCr, hcr, hCg, hcg, hCl, hcl⟩, hbw⟩
        rw [er, eg, el]
end Go.Proofs.Ytddhaagfieldfaa.Hb
