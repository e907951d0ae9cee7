/-
  No cell of these rows narrows 'for every input' (looked for: loops, veiled, ifaces, maps, wideKeys, modest, calm, conditions, laid).
  DERIVED. THE GIVEN ROWS OF THIS SEAT. 5 by the template 'for every input the law returns true; each argument reads behind the call as it read before'; 0 by the template 'total and deterministic' (their statements: YtddhaagfieldfaaTotals.lean).
  GIVEN WITH THE SEED: the statements are not yours to turn. If you find one false, say at which input.
  Laid BY PROGRAM, IN A SANDBOX (cutbox-rows.mjs): the forced cells as the released guide's own fill.sh prints them over the translation 2fa991eedc09f9d8… (all of the seat's roots in one cut). By AI agents, Wed Nov 11 2026. No macro, syntax, notation, axiom, sorry.
-/
import Derived.Test.YtddhaagfieldfaaChecked
import GoSem.Claim
import GoSem.ClaimJoined
import GoSem.ClaimMapViews
import Derived.JoinedTies
import Derived.KernelRfl
namespace Go.Proofs.Ytddhaagfieldfaa
/- THE CELL 'sum', in the pinned program and in every row, IS THE sha256 OF THE DUMP (.gsa) THAT YtddhaagfieldfaaProg.lean LOADS. Nothing in Lean hashes anything: it is a label: what it is worth is what the hold of that sum in a sandbox is worth. -/
noncomputable def Try.pinned : Pinned := { name := "ytddhaagfieldfaa", sum := "2fa991eedc09f9d82635d2f16e24742a1a586f63a21ccbc5c473e8110ebe16b0", checked := Try.checked }
namespace Rows
def none {H : Type} : Left H := { results := [], args := [] }

/-- 'bournelaw38.CallTells': WHATEVER THE INPUT: true; the input reads as it did. -/
def callTellsSpec : ChangeSpec := { name := "callTells", fn := fun _ => fun
  | [d1, d2, d3, d4, d5, d6] => { results := [.lit (.bool true)], args := [d1, d2, d3, d4, d5, d6] }
  | _ => none }
def callTellsRow : OpenClaim := { program := "ytddhaagfieldfaa", sum := "2fa991eedc09f9d82635d2f16e24742a1a586f63a21ccbc5c473e8110ebe16b0", func := "bourne/bournelaw38.CallTells", spec := "callTells", unfollowed := true, recurses := true, apart := false }
def CallTellsSaid : Prop := callTellsRow.holds Try.pinned (OpenSpec.ofChange callTellsSpec)

/-- ITS FALSE NEIGHBOUR: 'it returns false'. Refute it at one input. -/
def callTellsWrong : ChangeSpec := { name := "callTells", fn := fun _ => fun
  | [d1, d2, d3, d4, d5, d6] => { results := [.lit (.bool false)], args := [d1, d2, d3, d4, d5, d6] }
  | _ => none }
def CallTellsWrongFalsely : Prop := callTellsRow.holds Try.pinned (OpenSpec.ofChange callTellsWrong)

/-- 'bournelaw38.CallOnly': WHATEVER THE INPUT: true; the input reads as it did. -/
def callOnlySpec : ChangeSpec := { name := "callOnly", fn := fun _ => fun
  | [d1, d2, d3, d4, d5] => { results := [.lit (.bool true)], args := [d1, d2, d3, d4, d5] }
  | _ => none }
def callOnlyRow : OpenClaim := { program := "ytddhaagfieldfaa", sum := "2fa991eedc09f9d82635d2f16e24742a1a586f63a21ccbc5c473e8110ebe16b0", func := "bourne/bournelaw38.CallOnly", spec := "callOnly", unfollowed := true, recurses := true, apart := false }
def CallOnlySaid : Prop := callOnlyRow.holds Try.pinned (OpenSpec.ofChange callOnlySpec)

/-- ITS FALSE NEIGHBOUR: 'it returns false'. Refute it at one input. -/
def callOnlyWrong : ChangeSpec := { name := "callOnly", fn := fun _ => fun
  | [d1, d2, d3, d4, d5] => { results := [.lit (.bool false)], args := [d1, d2, d3, d4, d5] }
  | _ => none }
def CallOnlyWrongFalsely : Prop := callOnlyRow.holds Try.pinned (OpenSpec.ofChange callOnlyWrong)

/-- 'bournelaw38.CallStops': WHATEVER THE INPUT: true; the input reads as it did. -/
def callStopsSpec : ChangeSpec := { name := "callStops", fn := fun _ => fun
  | [d1, d2, d3] => { results := [.lit (.bool true)], args := [d1, d2, d3] }
  | _ => none }
def callStopsRow : OpenClaim := { program := "ytddhaagfieldfaa", sum := "2fa991eedc09f9d82635d2f16e24742a1a586f63a21ccbc5c473e8110ebe16b0", func := "bourne/bournelaw38.CallStops", spec := "callStops", unfollowed := true, recurses := true, apart := false }
def CallStopsSaid : Prop := callStopsRow.holds Try.pinned (OpenSpec.ofChange callStopsSpec)

/-- ITS FALSE NEIGHBOUR: 'it returns false'. Refute it at one input. -/
def callStopsWrong : ChangeSpec := { name := "callStops", fn := fun _ => fun
  | [d1, d2, d3] => { results := [.lit (.bool false)], args := [d1, d2, d3] }
  | _ => none }
def CallStopsWrongFalsely : Prop := callStopsRow.holds Try.pinned (OpenSpec.ofChange callStopsWrong)

/-- 'bournelaw38.CallMoves': WHATEVER THE INPUT: true; the input reads as it did. -/
def callMovesSpec : ChangeSpec := { name := "callMoves", fn := fun _ => fun
  | [d1, d2, d3, d4, d5, d6, d7] => { results := [.lit (.bool true)], args := [d1, d2, d3, d4, d5, d6, d7] }
  | _ => none }
def callMovesRow : OpenClaim := { program := "ytddhaagfieldfaa", sum := "2fa991eedc09f9d82635d2f16e24742a1a586f63a21ccbc5c473e8110ebe16b0", func := "bourne/bournelaw38.CallMoves", spec := "callMoves", unfollowed := true, recurses := true, apart := false }
def CallMovesSaid : Prop := callMovesRow.holds Try.pinned (OpenSpec.ofChange callMovesSpec)

/-- ITS FALSE NEIGHBOUR: 'it returns false'. Refute it at one input. -/
def callMovesWrong : ChangeSpec := { name := "callMoves", fn := fun _ => fun
  | [d1, d2, d3, d4, d5, d6, d7] => { results := [.lit (.bool false)], args := [d1, d2, d3, d4, d5, d6, d7] }
  | _ => none }
def CallMovesWrongFalsely : Prop := callMovesRow.holds Try.pinned (OpenSpec.ofChange callMovesWrong)

/-- 'bournelaw38.CallNeeds': WHATEVER THE INPUT: true; the input reads as it did. -/
def callNeedsSpec : ChangeSpec := { name := "callNeeds", fn := fun _ => fun
  | [d1, d2, d3, d4, d5] => { results := [.lit (.bool true)], args := [d1, d2, d3, d4, d5] }
  | _ => none }
def callNeedsRow : OpenClaim := { program := "ytddhaagfieldfaa", sum := "2fa991eedc09f9d82635d2f16e24742a1a586f63a21ccbc5c473e8110ebe16b0", func := "bourne/bournelaw38.CallNeeds", spec := "callNeeds", unfollowed := true, recurses := true, apart := false }
def CallNeedsSaid : Prop := callNeedsRow.holds Try.pinned (OpenSpec.ofChange callNeedsSpec)

/-- ITS FALSE NEIGHBOUR: 'it returns false'. Refute it at one input. -/
def callNeedsWrong : ChangeSpec := { name := "callNeeds", fn := fun _ => fun
  | [d1, d2, d3, d4, d5] => { results := [.lit (.bool false)], args := [d1, d2, d3, d4, d5] }
  | _ => none }
def CallNeedsWrongFalsely : Prop := callNeedsRow.holds Try.pinned (OpenSpec.ofChange callNeedsWrong)

/- THE SECOND FORM. 'bulk': how many values and letters a reading holds, each counted each time it is reached (what is shared counts as often as it is met; a slice's spare places count too). A statement '..UptoSaid' is the law's where the arguments, and the package variables that the reading takes, are together of bulk at most 1048576: NARROWER than '..Said'. Prove '..Said' where nothing that the law and all that it calls make is longer than what came in: it says more and counts as full. Else prove '..UptoSaid'. A law counts once. -/
mutual
def uptoBulk {H : Type} : DataW H → Nat
  | .lit (.string bytes) => bytes.length + 1
  | .lit _ => 1
  | .nil => 1
  | .ptr d => uptoBulk d + 1
  | .slice elems spare => uptoBulkAll elems + uptoBulkAll spare + 1
  | .agg parts => uptoBulkAll parts + 1
  | .iface _ d => uptoBulk d + 1
  | .map entries => uptoBulkEntries entries + 1
  | .held _ => 1
def uptoBulkAll {H : Type} : List (DataW H) → Nat
  | [] => 0
  | d :: r => uptoBulk d + uptoBulkAll r
def uptoBulkEntries {H : Type} : List (Lit × DataW H) → Nat
  | [] => 0
  | x :: r => uptoBulkEntry x + uptoBulkEntries r
def uptoBulkEntry {H : Type} : Lit × DataW H → Nat
  | (.string bytes, d) => bytes.length + uptoBulk d + 1
  | (_, d) => uptoBulk d + 1
 end
def uptoSmall : (H : Type) → List (DataW H) → Bool := fun _ ds => decide (uptoBulkAll ds ≤ 1048576)
def OpenSpec.upto (s : _root_.Go.ChangeSpec) : _root_.Go.OpenSpec := { _root_.Go.OpenSpec.ofChange s with cond := some uptoSmall }

/-- 'bournelaw38.CallTells', WHERE WHAT IT READS IS OF BULK AT MOST 1048576: true; the input reads as it did. -/
def callTellsUptoRow : OpenClaim := { program := "ytddhaagfieldfaa", sum := "2fa991eedc09f9d82635d2f16e24742a1a586f63a21ccbc5c473e8110ebe16b0", func := "bourne/bournelaw38.CallTells", spec := "callTells", unfollowed := true, recurses := true, apart := false, narrowed := true }
def CallTellsUptoSaid : Prop := callTellsUptoRow.holds Try.pinned (OpenSpec.upto callTellsSpec)

/-- 'bournelaw38.CallOnly', WHERE WHAT IT READS IS OF BULK AT MOST 1048576: true; the input reads as it did. -/
def callOnlyUptoRow : OpenClaim := { program := "ytddhaagfieldfaa", sum := "2fa991eedc09f9d82635d2f16e24742a1a586f63a21ccbc5c473e8110ebe16b0", func := "bourne/bournelaw38.CallOnly", spec := "callOnly", unfollowed := true, recurses := true, apart := false, narrowed := true }
def CallOnlyUptoSaid : Prop := callOnlyUptoRow.holds Try.pinned (OpenSpec.upto callOnlySpec)

/-- 'bournelaw38.CallStops', WHERE WHAT IT READS IS OF BULK AT MOST 1048576: true; the input reads as it did. -/
def callStopsUptoRow : OpenClaim := { program := "ytddhaagfieldfaa", sum := "2fa991eedc09f9d82635d2f16e24742a1a586f63a21ccbc5c473e8110ebe16b0", func := "bourne/bournelaw38.CallStops", spec := "callStops", unfollowed := true, recurses := true, apart := false, narrowed := true }
def CallStopsUptoSaid : Prop := callStopsUptoRow.holds Try.pinned (OpenSpec.upto callStopsSpec)

/-- 'bournelaw38.CallMoves', WHERE WHAT IT READS IS OF BULK AT MOST 1048576: true; the input reads as it did. -/
def callMovesUptoRow : OpenClaim := { program := "ytddhaagfieldfaa", sum := "2fa991eedc09f9d82635d2f16e24742a1a586f63a21ccbc5c473e8110ebe16b0", func := "bourne/bournelaw38.CallMoves", spec := "callMoves", unfollowed := true, recurses := true, apart := false, narrowed := true }
def CallMovesUptoSaid : Prop := callMovesUptoRow.holds Try.pinned (OpenSpec.upto callMovesSpec)

/-- 'bournelaw38.CallNeeds', WHERE WHAT IT READS IS OF BULK AT MOST 1048576: true; the input reads as it did. -/
def callNeedsUptoRow : OpenClaim := { program := "ytddhaagfieldfaa", sum := "2fa991eedc09f9d82635d2f16e24742a1a586f63a21ccbc5c473e8110ebe16b0", func := "bourne/bournelaw38.CallNeeds", spec := "callNeeds", unfollowed := true, recurses := true, apart := false, narrowed := true }
def CallNeedsUptoSaid : Prop := callNeedsUptoRow.holds Try.pinned (OpenSpec.upto callNeedsSpec)

end Rows
end Go.Proofs.Ytddhaagfieldfaa
