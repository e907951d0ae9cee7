/-
  The law CallNeeds of the package bournelaw38, of the given program: for every input it returns true, and what it was handed reads as before. No condition.
-/
import Derived.Test.YtddhaagfieldfaaRows
import Derived.Test.YtddhaagfieldfaaHl7
import Derived.Test.YtddhaagfieldfaaHr1
import Derived.WalkKit
import Derived.ProofKit
import Derived.OpenShut
import Derived.ShutString
import Derived.ChangeOld
import Derived.Below
import Derived.SizedLaws
namespace Go.Proofs.Ytddhaagfieldfaa.callNeeds
open Go.ChangeShapes Go.WideShapes Go.ChangeAt Go.RowKit
open Go.Proofs.YtddhaagfieldfaaW.PrintWords Go.Proofs.Ytddhaagfieldfaa.PCallTells
set_option linter.unusedVariables false
theorem own : ownKnob Try.prog.godebug = none := by kernel_rfl
theorem laidOut : laidOutB Try.prog = true := by kernel_rfl
set_option maxRecDepth 100000 in
theorem lifted (os : Os) (started : os.Started) (H : Type) (enc : TypeId × Value → H) :
    ReturnsInHanded {} Try.checked os 7 .any (Rows.callNeedsSpec.pre6 enc Try.prog Try.f7 Rows.callNeedsRow.domain false) (Rows.callNeedsSpec.post enc Try.prog Try.f7 false true false false) := by
  refine returnsInHanded_of_change_sized (C := Try.checked) own started (by kernel_rfl) Try.func7
    (ChangeSpec.witness6 (enc := enc) (C := Try.checked) false ⟨#[], #[.agg #[.string ByteArray.empty, .slice none 0 0, .int .i64 0, .slice none 0 0, .slice none 0 0, .slice none 0 0, .slice none 0 0, .slice none 0 0, .slice none 0 0, .slice none 0 0, .int .i64 0], .slice none 0 0, .slice none 0 0, .slice none 0 0, .int .i64 0], []⟩ 8 (by kernel_rfl) (by kernel_rfl) (by kernel_rfl) (by kernel_rfl)) ?_
  intro W base args ds gs before hval0 hW hcnd hsz0 _
  have hval : ∀ (j : Nat) t v, Try.f7.params[j]? = some t → args[j]? = some v → Value.okWide Try.prog W .any base t v := hval0
  have hsz : (DataW.weightsEach Try.prog (Try.f7.params.toList ++ Rows.callNeedsSpec.plain.varTypes Try.prog) (ds ++ gs)).all (· ≤ reachBytes) = true := hsz0
  have hW' := hW
  obtain ⟨p, q, hA0, hV, rfl, hfz, hnd⟩ := hW
  have hA : DataW.TrodAll enc Try.prog W 0 (fun _ => true) true Try.f7.params.toList args.toList ds p := hA0
  rw [Try.params7] at hA hval hsz
  obtain ⟨v0, vs0, d0, ds0, p0, q0, hargs, rfl, rfl, h0, r0⟩ := trodAll_cons hA
  obtain ⟨v1, vs1, d1, ds1, p1, q1, rfl, rfl, rfl, h1, r1⟩ := trodAll_cons r0
  obtain ⟨v2, vs2, d2, ds2, p2, q2, rfl, rfl, rfl, h2, r2⟩ := trodAll_cons r1
  obtain ⟨v3, vs3, d3, ds3, p3, q3, rfl, rfl, rfl, h3, r3⟩ := trodAll_cons r2
  obtain ⟨v4, vs4, d4, ds4, p4, q4, rfl, rfl, rfl, h4, r4⟩ := trodAll_cons r3
  obtain ⟨rfl, rfl, rfl⟩ := trodAll_nil r4
  obtain rfl : args = #[v0, v1, v2, v3, v4] := by cases args; simp_all
  obtain ⟨rfl, rfl⟩ := trodVars_none hV
  obtain ⟨cs0, rfl, _⟩ := okWide_struct Try.underlying31 (hval 0 31 v0 rfl rfl)
  have k0 := h0
  have lt0 : ∀ x ∈ p0, x.block < W.heap.size := by obtain ⟨m, hm⟩ := k0; exact DataW.trod_lt m _ _ _ hm
  obtain ⟨b, hb, e0⟩ : ∃ b : Hb.BV, b.In W ∧ cs0 = b.cs := by
    obtain ⟨fuel, hf⟩ := h0
    obtain ⟨b, hb, e⟩ := Hr.trod31 hf
    exact ⟨b, hb, by apply Array.ext'; simpa [Value.cells] using e⟩
  subst e0
  obtain ⟨A1, n1, c1, rfl⟩ := okWide_slice Try.underlying32 (hval 1 32 v1 rfl rfl)
  have k1 := h1
  have lt1 : ∀ x ∈ p1, x.block < W.heap.size := by obtain ⟨m, hm⟩ := k1; exact DataW.trod_lt m _ _ _ hm
  obtain ⟨l1, e1, hc1, hr1⟩ : ∃ l : List S39, n1 = l.length ∧ l.length ≤ c1 ∧ Kd.C k39 W A1 l.length l := by
    obtain ⟨fuel, hf⟩ := h1
    obtain ⟨A', c', l, e, h1, h2⟩ := Hr.trod_row (d := k39) Try.underlying32 (by kernel_rfl) (fun _ _ _ h => Hr.trod39 h) (show DataW.trod enc Try.prog W 0 (fun _ => true) true fuel 32 [.slice A1 n1 c1] = _ from hf)
    injection e with e1 e2 e3
    subst e1 e2 e3
    exact ⟨l, rfl, h1, h2⟩
  subst e1
  obtain ⟨A2, n2, c2, rfl⟩ := okWide_slice Try.underlying29 (hval 2 29 v2 rfl rfl)
  have k2 := h2
  have lt2 : ∀ x ∈ p2, x.block < W.heap.size := by obtain ⟨m, hm⟩ := k2; exact DataW.trod_lt m _ _ _ hm
  obtain ⟨l2, e2, hc2, hr2⟩ : ∃ l : List Int, n2 = l.length ∧ l.length ≤ c2 ∧ Kd.C (Kd.int .i64) W A2 l.length l := by
    obtain ⟨fuel, hf⟩ := h2
    obtain ⟨A', c', l, e, h1, h2⟩ := Hr.trod_row (d := Kd.int .i64) Try.underlying29 (by kernel_rfl) (fun _ _ _ h => Hr.trod_ints h) (show DataW.trod enc Try.prog W 0 (fun _ => true) true fuel 29 [.slice A2 n2 c2] = _ from hf)
    injection e with e1 e2 e3
    subst e1 e2 e3
    exact ⟨l, rfl, h1, h2⟩
  subst e2
  obtain ⟨A3, n3, c3, rfl⟩ := okWide_slice Try.underlying34 (hval 3 34 v3 rfl rfl)
  have k3 := h3
  have lt3 : ∀ x ∈ p3, x.block < W.heap.size := by obtain ⟨m, hm⟩ := k3; exact DataW.trod_lt m _ _ _ hm
  obtain ⟨l3, e3, hc3, hr3⟩ : ∃ l : List S60, n3 = l.length ∧ l.length ≤ c3 ∧ Kd.C k60 W A3 l.length l := by
    obtain ⟨fuel, hf⟩ := h3
    obtain ⟨A', c', l, e, h1, h2⟩ := Hr.trod_row (d := k60) Try.underlying34 (by kernel_rfl) (fun _ _ _ h => Hr.trod60 h) (show DataW.trod enc Try.prog W 0 (fun _ => true) true fuel 34 [.slice A3 n3 c3] = _ from hf)
    injection e with e1 e2 e3
    subst e1 e2 e3
    exact ⟨l, rfl, h1, h2⟩
  subst e3
  obtain ⟨a4, rfl, rfl, rfl, w4⟩ := open_int Try.underlying3 (hval 4 3 v4 rfl rfl) h4
  have y3 : l3.length * 16 ≤ 140737488351232 := Hr.sized_rows hsz (j := 3) (t := 34) rfl rfl Try.underlying34 (by kernel_rfl) k3
  clear hA0 hval0
  refine (Hb.CallNeeds_walk b A1 c1 l1 A2 c2 l2 A3 c3 l3 a4 W hb hr1 hc1 hr2 hc2 hr3 hc3 y3).mono fun e W' ⟨he, bel⟩ => ?_
  subst he
  exact ⟨_, rfl, _, _, _, [], _, [], hW', trodAll_mk1 (shut_bool Try.underlying4 _), (trodAll_cons_mk (Below.trod laidOut (by kernel_rfl) (of_decide_eq_true (by kernel_rfl)) k0 bel lt0) (trodAll_cons_mk (Below.trod laidOut (by kernel_rfl) (of_decide_eq_true (by kernel_rfl)) k1 bel lt1) (trodAll_cons_mk (Below.trod laidOut (by kernel_rfl) (of_decide_eq_true (by kernel_rfl)) k2 bel lt2) (trodAll_cons_mk (Below.trod laidOut (by kernel_rfl) (of_decide_eq_true (by kernel_rfl)) k3 bel lt3) (trodAll_cons_mk (shut_int Try.underlying3 w4) trodAll_mk0))))), rfl, bel.frame _, fun h => by cases h⟩
theorem over : Rows.callNeedsRow.holds Try.pinned (OpenSpec.ofChange Rows.callNeedsSpec) :=
  OpenClaim.holds_of_wide 7 Try.f7 rfl rfl rfl rfl rfl rfl rfl ⟨rfl, rfl, rfl, rfl, rfl⟩ rfl rfl rfl rfl rfl (by kernel_rfl) Try.func7 (by kernel_rfl)
    (of_decide_eq_true (by kernel_rfl)) (by unfold Func.isWrapper; first | (rw [if_pos (by decide +kernel)]; kernel_rfl) | (rw [if_neg (by decide +kernel)]; exact ⟨rfl, rfl⟩))
    (fun os started H enc _ => lifted os started H enc)
theorem proved : Rows.CallNeedsSaid := over
#print axioms proved
end Go.Proofs.Ytddhaagfieldfaa.callNeeds
namespace Go.Proofs.Ytddhaagfieldfaa
/-- The row, under a short name, for the claim. -/
theorem callNeeds_holds : Rows.CallNeedsSaid := callNeeds.proved
end Go.Proofs.Ytddhaagfieldfaa
