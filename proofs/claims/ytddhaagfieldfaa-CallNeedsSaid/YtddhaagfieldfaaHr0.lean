import Derived.Test.YtddhaagfieldfaaHd0
import Derived.ChangeArms
import Derived.DataReads
namespace Go.Proofs.Ytddhaagfieldfaa.Hr
set_option linter.unusedVariables false
set_option linter.unusedSimpArgs false
open Go.RowKit Go.Proofs.YtddhaagfieldfaaW.PrintWords Go.Proofs.YtddhaagfieldfaaW.PrintLast Go.Proofs.YtddhaagfieldfaaW.PrintMore Go.Proofs.Ytddhaagfieldfaa.PCallTells Go.Proofs.Ytddhaagfieldfaa.Hw Go.Proofs.Ytddhaagfieldfaa.Hb
open Go.ChangeShapes Go.WideShapes

section
variable {H : Type} {enc : TypeId × Value → H} {P : Program} {w : World} {base : Nat} {spare : Nat → Bool} {held : Bool} {fuel : Nat} {t e : TypeId} {cs : List Value} {c : Value} {x : DataW H × List MemPlace}

/-- A type whose values are one cell. -/
def flatB (P : Program) (t : TypeId) : Bool := match P.underlying t with | some (.struct _) | some (.array _ _) | none => false | _ => true
theorem trod_cell (hn : flatB P t = true) (h : DataW.trod enc P w base spare held fuel t cs = some x) : ∃ v, cs = [v] ∧ v.oneCell' = true := by
  cases fuel with
  | zero => simp [DataW.trod] at h
  | succ n =>
    unfold DataW.trod at h
    unfold flatB at hn
    split at h <;> first | exact ⟨_, rfl, rfl⟩ | simp_all
theorem trod_int (ht : P.underlying t = some (.int .i64)) (h : DataW.trod enc P w base spare held fuel t [c] = some x) : ∃ y : Int, c = .int .i64 y ∧ (Lit.int .i64 y).wf = true := by
  cases fuel with
  | zero => simp [DataW.trod] at h
  | succ n =>
    unfold DataW.trod at h
    split at h <;> simp_all
/-- A struct each of whose fields is one cell. -/
theorem trod_flat {fs : Array Field} (ht : P.underlying t = some (.struct fs)) (hn : P.cellsOf t = fs.size) (hf : ∀ (i : Nat) (f : Field), fs[i]? = some f → f.offset = i ∧ P.cellsOf f.type = 1)
    (h : DataW.trod enc P w base spare held fuel t cs = some x) : cs.length = fs.size ∧ ∀ (i : Nat) (f : Field), fs[i]? = some f → ∃ n y c, cs[i]? = some c ∧ DataW.trod enc P w base spare held n f.type [c] = some y := by
  obtain ⟨xs, n, rfl, rfl, hl, hlen, hel⟩ := DataW.trod_struct ht h
  rw [hn] at hl
  refine ⟨hl, fun i f hi => ?_⟩
  have h1 := hel i f hi
  obtain ⟨h2, h3⟩ := hf i f hi
  have hi' : i < fs.size := by
    rcases Nat.lt_or_ge i fs.size with h | h
    · exact h
    · rw [Array.getElem?_eq_none h] at hi; cases hi
  have hc : i < cs.length := by omega
  have hd : (cs.drop i).take 1 = [cs[i]] := by rw [List.drop_eq_getElem_cons hc]; rfl
  rw [h2, h3, hd, List.getElem?_eq_getElem (by omega)] at h1
  exact ⟨n, _, cs[i], List.getElem?_eq_getElem hc, h1⟩
/-- A slice's row, as its elements read. -/
theorem trod_row {α : Type} {d : Kd α} (ht : P.underlying t = some (.slice e)) (hs : P.cellsOf e = d.sz) (hK : ∀ (n : Nat) (cs : List Value) (x : DataW H × List MemPlace), DataW.trod enc P w base spare held n e cs = some x → ∃ a, d.K w a cs)
    (h : DataW.trod enc P w base spare held fuel t [c] = some x) : ∃ (A : Option Addr) (cap : Nat) (xs : List α), c = .slice A xs.length cap ∧ xs.length ≤ cap ∧ Kd.C d w A xs.length xs := by
  rcases DataW.trod_slice ht h with ⟨hcs, hx⟩ | ⟨a, len, cap, elems, rest, n, rfl, hcs, hx, hb, hl, hm, hlen, hel, _⟩
  · obtain rfl := List.singleton_inj.1 hcs
    exact ⟨none, 0, [], rfl, Nat.le_refl _, rfl, by simp, fun h => absurd h (by simp)⟩
  · obtain rfl := List.singleton_inj.1 hcs
    have each : ∀ i : Fin len, ∃ (y : α) (c : List Value), w.cells? base (a.add (i.val * P.cellsOf e)) (P.cellsOf e) = some c ∧ d.K w y c := fun i => by
      have h1 := hel i.val i.isLt
      rw [List.getElem?_eq_getElem (by omega)] at h1
      cases h2 : w.cells? base (a.add (i.val * P.cellsOf e)) (P.cellsOf e) with
      | none => rw [h2] at h1; cases h1
      | some c =>
        rw [h2, Option.bind_some] at h1
        obtain ⟨y, hy⟩ := hK _ _ _ h1
        exact ⟨y, c, rfl, hy⟩
    refine ⟨some a, cap, List.ofFn fun i => Classical.choose (each i), by rw [List.length_ofFn], by rw [List.length_ofFn]; exact hl, rfl, ?_, fun _ => ⟨a, rfl, fun j p hj => ?_⟩⟩
    · rw [List.length_ofFn]; unfold maxLen at hm; omega
    · have hj' : j < len := by
        rcases Nat.lt_or_ge j len with h | h
        · exact h
        · rw [List.getElem?_eq_none (by rw [List.length_ofFn]; exact h)] at hj; cases hj
      rw [List.getElem?_eq_getElem (by rw [List.length_ofFn]; exact hj'), List.getElem_ofFn] at hj
      injection hj with hj
      obtain ⟨c, hc, hy⟩ := Classical.choose_spec (each ⟨j, hj'⟩)
      rw [hj] at hy
      obtain ⟨_, hcl, hcell⟩ := World.cells?_some hc
      rw [hs] at hcl hcell
      refine ⟨c, hcl, hy, fun i u hu => ?_⟩
      have hi : i < d.sz := by
        rcases Nat.lt_or_ge i d.sz with h | h
        · exact h
        · rw [List.getElem?_eq_none (by omega)] at hu; cases hu
      have h9 := hcell i hi
      rw [hu] at h9
      rw [← h9]
      show _ = w.cell? ((a.add (j * d.sz)).add i)
      rw [add_add]
end
section
variable {H : Type} {enc : TypeId × Value → H} {w : World} {base : Nat} {spare : Nat → Bool} {held : Bool} {fuel : Nat} {cs : List Value} {x : DataW H × List MemPlace}
theorem trod_ints (h : DataW.trod enc Try.prog w base spare held fuel 3 cs = some x) : ∃ a : Int, (Kd.int .i64).K w a cs := by
  obtain ⟨v, rfl, _⟩ := trod_cell (by kernel_rfl) h
  obtain ⟨y, rfl, _⟩ := trod_int Try.underlying3 h
  exact ⟨y, rfl⟩
theorem trod53 (h : DataW.trod enc Try.prog w base spare held fuel 53 cs = some x) : ∃ a : S53, k53.K w a cs := by
  obtain ⟨hl, hc⟩ := trod_flat Try.underlying53 (by kernel_rfl) (by intro i f hi; match i, hi with | 0, hi => (obtain rfl := Option.some.inj hi; exact ⟨rfl, by kernel_rfl⟩) | 1, hi => (obtain rfl := Option.some.inj hi; exact ⟨rfl, by kernel_rfl⟩)) h
  obtain ⟨n0, y0, c0, e0, h0⟩ := hc 0 _ rfl
  obtain ⟨x0, rfl, _⟩ := trod_int Try.underlying3 h0
  obtain ⟨n1, y1, c1, e1, h1⟩ := hc 1 _ rfl
  obtain ⟨x1, rfl, _⟩ := trod_int Try.underlying3 h1
  have hcs : cs = [.int .i64 x0, .int .i64 x1] := by
    match cs, hl with
    | [a0, a1], _ => simp_all
  exact ⟨⟨x0, x1⟩, by rw [hcs]; exact k53_mk w _⟩
theorem trod60 (h : DataW.trod enc Try.prog w base spare held fuel 60 cs = some x) : ∃ a : S60, k60.K w a cs := by
  obtain ⟨hl, hc⟩ := trod_flat Try.underlying60 (by kernel_rfl) (by intro i f hi; match i, hi with | 0, hi => (obtain rfl := Option.some.inj hi; exact ⟨rfl, by kernel_rfl⟩) | 1, hi => (obtain rfl := Option.some.inj hi; exact ⟨rfl, by kernel_rfl⟩)) h
  obtain ⟨n0, y0, c0, e0, h0⟩ := hc 0 _ rfl
  obtain ⟨x0, rfl, _⟩ := trod_int Try.underlying3 h0
  obtain ⟨n1, y1, c1, e1, h1⟩ := hc 1 _ rfl
  obtain ⟨x1, rfl, _⟩ := trod_int Try.underlying3 h1
  have hcs : cs = [.int .i64 x0, .int .i64 x1] := by
    match cs, hl with
    | [a0, a1], _ => simp_all
  exact ⟨⟨x0, x1⟩, by rw [hcs]; exact k60_mk w _⟩
theorem trod39 (h : DataW.trod enc Try.prog w base spare held fuel 39 cs = some x) : ∃ a : S39, k39.K w a cs := by
  obtain ⟨hl, hc⟩ := trod_flat Try.underlying39 (by kernel_rfl) (by intro i f hi; match i, hi with | 0, hi => (obtain rfl := Option.some.inj hi; exact ⟨rfl, by kernel_rfl⟩) | 1, hi => (obtain rfl := Option.some.inj hi; exact ⟨rfl, by kernel_rfl⟩) | 2, hi => (obtain rfl := Option.some.inj hi; exact ⟨rfl, by kernel_rfl⟩) | 3, hi => (obtain rfl := Option.some.inj hi; exact ⟨rfl, by kernel_rfl⟩) | 4, hi => (obtain rfl := Option.some.inj hi; exact ⟨rfl, by kernel_rfl⟩) | 5, hi => (obtain rfl := Option.some.inj hi; exact ⟨rfl, by kernel_rfl⟩) | 6, hi => (obtain rfl := Option.some.inj hi; exact ⟨rfl, by kernel_rfl⟩) | 7, hi => (obtain rfl := Option.some.inj hi; exact ⟨rfl, by kernel_rfl⟩) | 8, hi => (obtain rfl := Option.some.inj hi; exact ⟨rfl, by kernel_rfl⟩)) h
  obtain ⟨n0, y0, c0, e0, h0⟩ := hc 0 _ rfl
  obtain ⟨x0, rfl, _⟩ := trod_int Try.underlying3 h0
  obtain ⟨n1, y1, c1, e1, h1⟩ := hc 1 _ rfl
  obtain ⟨x1, rfl, _⟩ := trod_int Try.underlying3 h1
  obtain ⟨n2, y2, c2, e2, h2⟩ := hc 2 _ rfl
  obtain ⟨x2, rfl, _⟩ := trod_int Try.underlying3 h2
  obtain ⟨n3, y3, c3, e3, h3⟩ := hc 3 _ rfl
  obtain ⟨x3, rfl, _⟩ := trod_int Try.underlying3 h3
  obtain ⟨n4, y4, c4, e4, h4⟩ := hc 4 _ rfl
  obtain ⟨x4, rfl, _⟩ := trod_int Try.underlying3 h4
  obtain ⟨n5, y5, c5, e5, h5⟩ := hc 5 _ rfl
  obtain ⟨x5, rfl, _⟩ := trod_int Try.underlying3 h5
  obtain ⟨n6, y6, c6, e6, h6⟩ := hc 6 _ rfl
  obtain ⟨x6, rfl, _⟩ := trod_int Try.underlying3 h6
  obtain ⟨n7, y7, c7, e7, h7⟩ := hc 7 _ rfl
  obtain ⟨x7, rfl, _⟩ := trod_int Try.underlying3 h7
  obtain ⟨n8, y8, c8, e8, h8⟩ := hc 8 _ rfl
  obtain ⟨x8, rfl, _⟩ := trod_int Try.underlying3 h8
  have hcs : cs = [.int .i64 x0, .int .i64 x1, .int .i64 x2, .int .i64 x3, .int .i64 x4, .int .i64 x5, .int .i64 x6, .int .i64 x7, .int .i64 x8] := by
    match cs, hl with
    | [a0, a1, a2, a3, a4, a5, a6, a7, a8], _ => simp_all
  exact ⟨⟨x0, x1, x2, x3, x4, x5, x6, x7, x8⟩, by rw [hcs]; exact k39_mk w _⟩
theorem trod79 (h : DataW.trod enc Try.prog w base spare held fuel 79 cs = some x) : ∃ a : S79, k79.K w a cs := by
  obtain ⟨hl, hc⟩ := trod_flat Try.underlying79 (by kernel_rfl) (by intro i f hi; match i, hi with | 0, hi => (obtain rfl := Option.some.inj hi; exact ⟨rfl, by kernel_rfl⟩) | 1, hi => (obtain rfl := Option.some.inj hi; exact ⟨rfl, by kernel_rfl⟩) | 2, hi => (obtain rfl := Option.some.inj hi; exact ⟨rfl, by kernel_rfl⟩) | 3, hi => (obtain rfl := Option.some.inj hi; exact ⟨rfl, by kernel_rfl⟩) | 4, hi => (obtain rfl := Option.some.inj hi; exact ⟨rfl, by kernel_rfl⟩) | 5, hi => (obtain rfl := Option.some.inj hi; exact ⟨rfl, by kernel_rfl⟩) | 6, hi => (obtain rfl := Option.some.inj hi; exact ⟨rfl, by kernel_rfl⟩) | 7, hi => (obtain rfl := Option.some.inj hi; exact ⟨rfl, by kernel_rfl⟩) | 8, hi => (obtain rfl := Option.some.inj hi; exact ⟨rfl, by kernel_rfl⟩) | 9, hi => (obtain rfl := Option.some.inj hi; exact ⟨rfl, by kernel_rfl⟩) | 10, hi => (obtain rfl := Option.some.inj hi; exact ⟨rfl, by kernel_rfl⟩) | 11, hi => (obtain rfl := Option.some.inj hi; exact ⟨rfl, by kernel_rfl⟩)) h
  obtain ⟨n0, y0, c0, e0, h0⟩ := hc 0 _ rfl
  obtain ⟨x0, f0, g0⟩ := trod_cell (by kernel_rfl) h0
  obtain rfl := List.singleton_inj.1 f0
  obtain ⟨n1, y1, c1, e1, h1⟩ := hc 1 _ rfl
  obtain ⟨x1, f1, g1⟩ := trod_cell (by kernel_rfl) h1
  obtain rfl := List.singleton_inj.1 f1
  obtain ⟨n2, y2, c2, e2, h2⟩ := hc 2 _ rfl
  obtain ⟨x2, f2, g2⟩ := trod_cell (by kernel_rfl) h2
  obtain rfl := List.singleton_inj.1 f2
  obtain ⟨n3, y3, c3, e3, h3⟩ := hc 3 _ rfl
  obtain ⟨x3, f3, g3⟩ := trod_cell (by kernel_rfl) h3
  obtain rfl := List.singleton_inj.1 f3
  obtain ⟨n4, y4, c4, e4, h4⟩ := hc 4 _ rfl
  obtain ⟨x4, f4, g4⟩ := trod_cell (by kernel_rfl) h4
  obtain rfl := List.singleton_inj.1 f4
  obtain ⟨n5, y5, c5, e5, h5⟩ := hc 5 _ rfl
  obtain ⟨x5, f5, g5⟩ := trod_cell (by kernel_rfl) h5
  obtain rfl := List.singleton_inj.1 f5
  obtain ⟨n6, y6, c6, e6, h6⟩ := hc 6 _ rfl
  obtain ⟨x6, f6, g6⟩ := trod_cell (by kernel_rfl) h6
  obtain rfl := List.singleton_inj.1 f6
  obtain ⟨n7, y7, c7, e7, h7⟩ := hc 7 _ rfl
  obtain ⟨x7, f7, g7⟩ := trod_cell (by kernel_rfl) h7
  obtain rfl := List.singleton_inj.1 f7
  obtain ⟨n8, y8, c8, e8, h8⟩ := hc 8 _ rfl
  obtain ⟨x8, rfl, _⟩ := trod_int Try.underlying3 h8
  obtain ⟨n9, y9, c9, e9, h9⟩ := hc 9 _ rfl
  obtain ⟨x9, rfl, _⟩ := trod_int Try.underlying3 h9
  obtain ⟨n10, y10, c10, e10, h10⟩ := hc 10 _ rfl
  obtain ⟨x10, f10, g10⟩ := trod_cell (by kernel_rfl) h10
  obtain rfl := List.singleton_inj.1 f10
  obtain ⟨n11, y11, c11, e11, h11⟩ := hc 11 _ rfl
  obtain ⟨x11, f11, g11⟩ := trod_cell (by kernel_rfl) h11
  obtain rfl := List.singleton_inj.1 f11
  have hcs : cs = [c0, c1, c2, c3, c4, c5, c6, c7, .int .i64 x8, .int .i64 x9, c10, c11] := by
    match cs, hl with
    | [a0, a1, a2, a3, a4, a5, a6, a7, a8, a9, a10, a11], _ => simp_all
  exact ⟨⟨⟨_, g0⟩, ⟨_, g1⟩, ⟨_, g2⟩, ⟨_, g3⟩, ⟨_, g4⟩, ⟨_, g5⟩, ⟨_, g6⟩, ⟨_, g7⟩, x8, x9, ⟨_, g10⟩, ⟨_, g11⟩⟩, by rw [hcs]; exact k79_mk w _⟩
/-- A basin, as it reads. -/
theorem trod31 (h : DataW.trod enc Try.prog w base spare held fuel 31 cs = some x) : ∃ b : BV, b.In w ∧ cs = b.cs.toList := by
  obtain ⟨hl, hc⟩ := trod_flat Try.underlying31 (by kernel_rfl) (by intro i f hi; match i, hi with | 0, hi => (obtain rfl := Option.some.inj hi; exact ⟨rfl, by kernel_rfl⟩) | 1, hi => (obtain rfl := Option.some.inj hi; exact ⟨rfl, by kernel_rfl⟩) | 2, hi => (obtain rfl := Option.some.inj hi; exact ⟨rfl, by kernel_rfl⟩) | 3, hi => (obtain rfl := Option.some.inj hi; exact ⟨rfl, by kernel_rfl⟩) | 4, hi => (obtain rfl := Option.some.inj hi; exact ⟨rfl, by kernel_rfl⟩) | 5, hi => (obtain rfl := Option.some.inj hi; exact ⟨rfl, by kernel_rfl⟩) | 6, hi => (obtain rfl := Option.some.inj hi; exact ⟨rfl, by kernel_rfl⟩) | 7, hi => (obtain rfl := Option.some.inj hi; exact ⟨rfl, by kernel_rfl⟩) | 8, hi => (obtain rfl := Option.some.inj hi; exact ⟨rfl, by kernel_rfl⟩) | 9, hi => (obtain rfl := Option.some.inj hi; exact ⟨rfl, by kernel_rfl⟩) | 10, hi => (obtain rfl := Option.some.inj hi; exact ⟨rfl, by kernel_rfl⟩)) h
  obtain ⟨n0, y0, c0, e0, h0⟩ := hc 0 _ rfl
  obtain ⟨x0, f0, g0⟩ := trod_cell (by kernel_rfl) h0
  obtain rfl := List.singleton_inj.1 f0
  obtain ⟨n1, y1, c1, e1, h1⟩ := hc 1 _ rfl
  obtain ⟨x1, f1, g1⟩ := trod_cell (by kernel_rfl) h1
  obtain rfl := List.singleton_inj.1 f1
  obtain ⟨n2, y2, c2, e2, h2⟩ := hc 2 _ rfl
  obtain ⟨x2, f2, g2⟩ := trod_cell (by kernel_rfl) h2
  obtain rfl := List.singleton_inj.1 f2
  obtain ⟨n3, y3, c3, e3, h3⟩ := hc 3 _ rfl
  obtain ⟨A3, q3, l3, rfl, hle3, hr3⟩ := trod_row (d := k79) Try.underlying23 (by kernel_rfl) (fun n cs x h => trod79 h) h3
  obtain ⟨n4, y4, c4, e4, h4⟩ := hc 4 _ rfl
  obtain ⟨x4, f4, g4⟩ := trod_cell (by kernel_rfl) h4
  obtain rfl := List.singleton_inj.1 f4
  obtain ⟨n5, y5, c5, e5, h5⟩ := hc 5 _ rfl
  obtain ⟨x5, f5, g5⟩ := trod_cell (by kernel_rfl) h5
  obtain rfl := List.singleton_inj.1 f5
  obtain ⟨n6, y6, c6, e6, h6⟩ := hc 6 _ rfl
  obtain ⟨x6, f6, g6⟩ := trod_cell (by kernel_rfl) h6
  obtain rfl := List.singleton_inj.1 f6
  obtain ⟨n7, y7, c7, e7, h7⟩ := hc 7 _ rfl
  obtain ⟨x7, f7, g7⟩ := trod_cell (by kernel_rfl) h7
  obtain rfl := List.singleton_inj.1 f7
  obtain ⟨n8, y8, c8, e8, h8⟩ := hc 8 _ rfl
  obtain ⟨x8, f8, g8⟩ := trod_cell (by kernel_rfl) h8
  obtain rfl := List.singleton_inj.1 f8
  obtain ⟨n9, y9, c9, e9, h9⟩ := hc 9 _ rfl
  obtain ⟨x9, f9, g9⟩ := trod_cell (by kernel_rfl) h9
  obtain rfl := List.singleton_inj.1 f9
  obtain ⟨n10, y10, c10, e10, h10⟩ := hc 10 _ rfl
  obtain ⟨x10, f10, g10⟩ := trod_cell (by kernel_rfl) h10
  obtain rfl := List.singleton_inj.1 f10
  have hcs : cs = [c0, c1, c2, .slice A3 l3.length q3, c4, c5, c6, c7, c8, c9, c10] := by
    match cs, hl with
    | [a0, a1, a2, a3, a4, a5, a6, a7, a8, a9, a10], _ => simp_all
  exact ⟨⟨⟨_, g0⟩, ⟨_, g1⟩, ⟨_, g2⟩, A3, q3, l3, ⟨_, g4⟩, ⟨_, g5⟩, ⟨_, g6⟩, ⟨_, g7⟩, ⟨_, g8⟩, ⟨_, g9⟩, ⟨_, g10⟩⟩, ⟨hr3, hle3⟩, hcs⟩
end
end Go.Proofs.Ytddhaagfieldfaa.Hr
