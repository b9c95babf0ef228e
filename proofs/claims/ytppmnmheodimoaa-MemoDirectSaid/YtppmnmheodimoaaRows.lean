/-
  No cell of these rows narrows 'for every input' (looked for: loops, veiled, ifaces, maps, wideKeys, modest, calm, conditions, laid).
  DERIVED. THE GIVEN ROWS OF THIS SEAT. 5 by the template 'for every input the law returns true; each argument reads behind the call as it read before'; 0 by the template 'total and deterministic' (their statements: YtppmnmheodimoaaTotals.lean).
  GIVEN WITH THE SEED: the statements are not yours to turn. If you find one false, say at which input.
  Laid BY PROGRAM, IN A SANDBOX (cutbox-rows.mjs): the forced cells as the released guide's own fill.sh prints them over the translation 38e4c39d64defd5e… (all of the seat's roots in one cut). By AI agents, Wed Nov 11 2026. No macro, syntax, notation, axiom, sorry.
-/
import Derived.Test.YtppmnmheodimoaaChecked
import GoSem.Claim
import GoSem.ClaimJoined
import GoSem.ClaimMapViews
import Derived.JoinedTies
import Derived.KernelRfl
namespace Go.Proofs.Ytppmnmheodimoaa
/- THE CELL 'sum', in the pinned program and in every row, IS THE sha256 OF THE DUMP (.gsa) THAT YtppmnmheodimoaaProg.lean LOADS. Nothing in Lean hashes anything: it is a label: what it is worth is what the hold of that sum in a sandbox is worth. -/
noncomputable def Try.pinned : Pinned := { name := "ytppmnmheodimoaa", sum := "38e4c39d64defd5eab1c8f1c998920bf6c11a8ff69a608b71196e7d10aecb122", checked := Try.checked }
namespace Rows
def none {H : Type} : Left H := { results := [], args := [] }

/-- 'cellularlaw27.MemoNone': WHATEVER THE INPUT: true; the input reads as it did. -/
def memoNoneSpec : ChangeSpec := { name := "memoNone", fn := fun _ => fun
  | [d1, d2] => { results := [.lit (.bool true)], args := [d1, d2] }
  | _ => none }
def memoNoneRow : OpenClaim := { program := "ytppmnmheodimoaa", sum := "38e4c39d64defd5eab1c8f1c998920bf6c11a8ff69a608b71196e7d10aecb122", func := "cellular/cellularlaw27.MemoNone", spec := "memoNone", recurses := true, plainKeys := false, apart := false }
def MemoNoneSaid : Prop := memoNoneRow.holds Try.pinned (OpenSpec.ofChange memoNoneSpec)

/-- ITS FALSE NEIGHBOUR: 'it returns false'. Refute it at one input. -/
def memoNoneWrong : ChangeSpec := { name := "memoNone", fn := fun _ => fun
  | [d1, d2] => { results := [.lit (.bool false)], args := [d1, d2] }
  | _ => none }
def MemoNoneWrongFalsely : Prop := memoNoneRow.holds Try.pinned (OpenSpec.ofChange memoNoneWrong)

/-- 'cellularlaw27.MemoSteps': WHATEVER THE INPUT: true; the input reads as it did. -/
def memoStepsSpec : ChangeSpec := { name := "memoSteps", fn := fun _ => fun
  | [d1, d2, d3] => { results := [.lit (.bool true)], args := [d1, d2, d3] }
  | _ => none }
def memoStepsRow : OpenClaim := { program := "ytppmnmheodimoaa", sum := "38e4c39d64defd5eab1c8f1c998920bf6c11a8ff69a608b71196e7d10aecb122", func := "cellular/cellularlaw27.MemoSteps", spec := "memoSteps", recurses := true, plainKeys := false, apart := false }
def MemoStepsSaid : Prop := memoStepsRow.holds Try.pinned (OpenSpec.ofChange memoStepsSpec)

/-- ITS FALSE NEIGHBOUR: 'it returns false'. Refute it at one input. -/
def memoStepsWrong : ChangeSpec := { name := "memoSteps", fn := fun _ => fun
  | [d1, d2, d3] => { results := [.lit (.bool false)], args := [d1, d2, d3] }
  | _ => none }
def MemoStepsWrongFalsely : Prop := memoStepsRow.holds Try.pinned (OpenSpec.ofChange memoStepsWrong)

/-- 'cellularlaw27.MemoDoubles': WHATEVER THE INPUT: true; the input reads as it did. -/
def memoDoublesSpec : ChangeSpec := { name := "memoDoubles", fn := fun _ => fun
  | [d1, d2, d3] => { results := [.lit (.bool true)], args := [d1, d2, d3] }
  | _ => none }
def memoDoublesRow : OpenClaim := { program := "ytppmnmheodimoaa", sum := "38e4c39d64defd5eab1c8f1c998920bf6c11a8ff69a608b71196e7d10aecb122", func := "cellular/cellularlaw27.MemoDoubles", spec := "memoDoubles", recurses := true, plainKeys := false, apart := false }
def MemoDoublesSaid : Prop := memoDoublesRow.holds Try.pinned (OpenSpec.ofChange memoDoublesSpec)

/-- ITS FALSE NEIGHBOUR: 'it returns false'. Refute it at one input. -/
def memoDoublesWrong : ChangeSpec := { name := "memoDoubles", fn := fun _ => fun
  | [d1, d2, d3] => { results := [.lit (.bool false)], args := [d1, d2, d3] }
  | _ => none }
def MemoDoublesWrongFalsely : Prop := memoDoublesRow.holds Try.pinned (OpenSpec.ofChange memoDoublesWrong)

/-- 'cellularlaw27.MemoDirect': WHATEVER THE INPUT: true; the input reads as it did. -/
def memoDirectSpec : ChangeSpec := { name := "memoDirect", fn := fun _ => fun
  | [d1, d2, d3] => { results := [.lit (.bool true)], args := [d1, d2, d3] }
  | _ => none }
def memoDirectRow : OpenClaim := { program := "ytppmnmheodimoaa", sum := "38e4c39d64defd5eab1c8f1c998920bf6c11a8ff69a608b71196e7d10aecb122", func := "cellular/cellularlaw27.MemoDirect", spec := "memoDirect", recurses := true, plainKeys := false, apart := false }
def MemoDirectSaid : Prop := memoDirectRow.holds Try.pinned (OpenSpec.ofChange memoDirectSpec)

/-- ITS FALSE NEIGHBOUR: 'it returns false'. Refute it at one input. -/
def memoDirectWrong : ChangeSpec := { name := "memoDirect", fn := fun _ => fun
  | [d1, d2, d3] => { results := [.lit (.bool false)], args := [d1, d2, d3] }
  | _ => none }
def MemoDirectWrongFalsely : Prop := memoDirectRow.holds Try.pinned (OpenSpec.ofChange memoDirectWrong)

/-- 'cellularlaw27.MemoAgain': WHATEVER THE INPUT: true; the input reads as it did. -/
def memoAgainSpec : ChangeSpec := { name := "memoAgain", fn := fun _ => fun
  | [d1, d2, d3] => { results := [.lit (.bool true)], args := [d1, d2, d3] }
  | _ => none }
def memoAgainRow : OpenClaim := { program := "ytppmnmheodimoaa", sum := "38e4c39d64defd5eab1c8f1c998920bf6c11a8ff69a608b71196e7d10aecb122", func := "cellular/cellularlaw27.MemoAgain", spec := "memoAgain", recurses := true, plainKeys := false, apart := false }
def MemoAgainSaid : Prop := memoAgainRow.holds Try.pinned (OpenSpec.ofChange memoAgainSpec)

/-- ITS FALSE NEIGHBOUR: 'it returns false'. Refute it at one input. -/
def memoAgainWrong : ChangeSpec := { name := "memoAgain", fn := fun _ => fun
  | [d1, d2, d3] => { results := [.lit (.bool false)], args := [d1, d2, d3] }
  | _ => none }
def MemoAgainWrongFalsely : Prop := memoAgainRow.holds Try.pinned (OpenSpec.ofChange memoAgainWrong)

/- THE SECOND FORM. 'bulk': how many values and letters a reading holds, each counted each time it is reached (what is shared counts as often as it is met; a slice's spare places count too). A statement '..UptoSaid' is the law's where the arguments, and the package variables that the reading takes, are together of bulk at most 1048576: NARROWER than '..Said'. Prove '..Said' where nothing that the law and all that it calls make is longer than what came in: it says more and counts as full. Else prove '..UptoSaid'. A law counts once. -/
mutual
def uptoBulk {H : Type} : DataW H → Nat
  | .lit (.string bytes) => bytes.length + 1
  | .lit _ => 1
  | .nil => 1
  | .ptr d => uptoBulk d + 1
  | .slice elems spare => uptoBulkAll elems + uptoBulkAll spare + 1
  | .agg parts => uptoBulkAll parts + 1
  | .iface _ d => uptoBulk d + 1
  | .map entries => uptoBulkEntries entries + 1
  | .held _ => 1
def uptoBulkAll {H : Type} : List (DataW H) → Nat
  | [] => 0
  | d :: r => uptoBulk d + uptoBulkAll r
def uptoBulkEntries {H : Type} : List (Lit × DataW H) → Nat
  | [] => 0
  | x :: r => uptoBulkEntry x + uptoBulkEntries r
def uptoBulkEntry {H : Type} : Lit × DataW H → Nat
  | (.string bytes, d) => bytes.length + uptoBulk d + 1
  | (_, d) => uptoBulk d + 1
 end
def uptoSmall : (H : Type) → List (DataW H) → Bool := fun _ ds => decide (uptoBulkAll ds ≤ 1048576)
def OpenSpec.upto (s : _root_.Go.ChangeSpec) : _root_.Go.OpenSpec := { _root_.Go.OpenSpec.ofChange s with cond := some uptoSmall }

/-- 'cellularlaw27.MemoNone', WHERE WHAT IT READS IS OF BULK AT MOST 1048576: true; the input reads as it did. -/
def memoNoneUptoRow : OpenClaim := { program := "ytppmnmheodimoaa", sum := "38e4c39d64defd5eab1c8f1c998920bf6c11a8ff69a608b71196e7d10aecb122", func := "cellular/cellularlaw27.MemoNone", spec := "memoNone", recurses := true, plainKeys := false, apart := false, narrowed := true }
def MemoNoneUptoSaid : Prop := memoNoneUptoRow.holds Try.pinned (OpenSpec.upto memoNoneSpec)

/-- 'cellularlaw27.MemoSteps', WHERE WHAT IT READS IS OF BULK AT MOST 1048576: true; the input reads as it did. -/
def memoStepsUptoRow : OpenClaim := { program := "ytppmnmheodimoaa", sum := "38e4c39d64defd5eab1c8f1c998920bf6c11a8ff69a608b71196e7d10aecb122", func := "cellular/cellularlaw27.MemoSteps", spec := "memoSteps", recurses := true, plainKeys := false, apart := false, narrowed := true }
def MemoStepsUptoSaid : Prop := memoStepsUptoRow.holds Try.pinned (OpenSpec.upto memoStepsSpec)

/-- 'cellularlaw27.MemoDoubles', WHERE WHAT IT READS IS OF BULK AT MOST 1048576: true; the input reads as it did. -/
def memoDoublesUptoRow : OpenClaim := { program := "ytppmnmheodimoaa", sum := "38e4c39d64defd5eab1c8f1c998920bf6c11a8ff69a608b71196e7d10aecb122", func := "cellular/cellularlaw27.MemoDoubles", spec := "memoDoubles", recurses := true, plainKeys := false, apart := false, narrowed := true }
def MemoDoublesUptoSaid : Prop := memoDoublesUptoRow.holds Try.pinned (OpenSpec.upto memoDoublesSpec)

/-- 'cellularlaw27.MemoDirect', WHERE WHAT IT READS IS OF BULK AT MOST 1048576: true; the input reads as it did. -/
def memoDirectUptoRow : OpenClaim := { program := "ytppmnmheodimoaa", sum := "38e4c39d64defd5eab1c8f1c998920bf6c11a8ff69a608b71196e7d10aecb122", func := "cellular/cellularlaw27.MemoDirect", spec := "memoDirect", recurses := true, plainKeys := false, apart := false, narrowed := true }
def MemoDirectUptoSaid : Prop := memoDirectUptoRow.holds Try.pinned (OpenSpec.upto memoDirectSpec)

/-- 'cellularlaw27.MemoAgain', WHERE WHAT IT READS IS OF BULK AT MOST 1048576: true; the input reads as it did. -/
def memoAgainUptoRow : OpenClaim := { program := "ytppmnmheodimoaa", sum := "38e4c39d64defd5eab1c8f1c998920bf6c11a8ff69a608b71196e7d10aecb122", func := "cellular/cellularlaw27.MemoAgain", spec := "memoAgain", recurses := true, plainKeys := false, apart := false, narrowed := true }
def MemoAgainUptoSaid : Prop := memoAgainUptoRow.holds Try.pinned (OpenSpec.upto memoAgainSpec)

end Rows
end Go.Proofs.Ytppmnmheodimoaa
