/-
  No cell of these rows narrows 'for every input' (looked for: loops, veiled, ifaces, maps, wideKeys, modest, calm, conditions, laid).
  DERIVED. THE GIVEN ROWS OF THIS SEAT. 5 by the template 'for every input the law returns true; each argument reads behind the call as it read before'; 0 by the template 'total and deterministic' (their statements: YtfcihdicbncoaaaTotals.lean).
  GIVEN WITH THE SEED: the statements are not yours to turn. If you find one false, say at which input.
  Laid BY PROGRAM, IN A SANDBOX (cutbox-rows.mjs): the forced cells as the released guide's own fill.sh prints them over the translation 286edcf61ec04d11… (all of the seat's roots in one cut). By AI agents, Wed Nov 11 2026. No macro, syntax, notation, axiom, sorry.
-/
import Derived.Test.YtfcihdicbncoaaaChecked
import GoSem.Claim
import GoSem.ClaimJoined
import GoSem.ClaimMapViews
import Derived.JoinedTies
import Derived.KernelRfl
namespace Go.Proofs.Ytfcihdicbncoaaa
/- THE CELL 'sum', in the pinned program and in every row, IS THE sha256 OF THE DUMP (.gsa) THAT YtfcihdicbncoaaaProg.lean LOADS. Nothing in Lean hashes anything: it is a label: what it is worth is what the hold of that sum in a sandbox is worth. -/
noncomputable def Try.pinned : Pinned := { name := "ytfcihdicbncoaaa", sum := "286edcf61ec04d1167be5dc1d2638173a23ffbfeedf8e3a92f3f7be9cb691164", checked := Try.checked }
namespace Rows
def none {H : Type} : Left H := { results := [], args := [] }

/-- 'cellularlaw02.BitioWrites': WHATEVER THE INPUT: true; the input reads as it did. -/
def bitioWritesSpec : ChangeSpec := { name := "bitioWrites", fn := fun _ => fun
  | [d] => { results := [.lit (.bool true)], args := [d] }
  | _ => none }
def bitioWritesRow : OpenClaim := { program := "ytfcihdicbncoaaa", sum := "286edcf61ec04d1167be5dc1d2638173a23ffbfeedf8e3a92f3f7be9cb691164", func := "cellular/cellularlaw02.BitioWrites", spec := "bitioWrites", apart := false }
def BitioWritesSaid : Prop := bitioWritesRow.holds Try.pinned (OpenSpec.ofChange bitioWritesSpec)

/-- ITS FALSE NEIGHBOUR: 'it returns false'. Refute it at one input. -/
def bitioWritesWrong : ChangeSpec := { name := "bitioWrites", fn := fun _ => fun
  | [d] => { results := [.lit (.bool false)], args := [d] }
  | _ => none }
def BitioWritesWrongFalsely : Prop := bitioWritesRow.holds Try.pinned (OpenSpec.ofChange bitioWritesWrong)

/-- 'cellularlaw02.BitioLengths': WHATEVER THE INPUT: true; the input reads as it did. -/
def bitioLengthsSpec : ChangeSpec := { name := "bitioLengths", fn := fun _ => fun
  | [d1, d2] => { results := [.lit (.bool true)], args := [d1, d2] }
  | _ => none }
def bitioLengthsRow : OpenClaim := { program := "ytfcihdicbncoaaa", sum := "286edcf61ec04d1167be5dc1d2638173a23ffbfeedf8e3a92f3f7be9cb691164", func := "cellular/cellularlaw02.BitioLengths", spec := "bitioLengths", apart := false }
def BitioLengthsSaid : Prop := bitioLengthsRow.holds Try.pinned (OpenSpec.ofChange bitioLengthsSpec)

/-- ITS FALSE NEIGHBOUR: 'it returns false'. Refute it at one input. -/
def bitioLengthsWrong : ChangeSpec := { name := "bitioLengths", fn := fun _ => fun
  | [d1, d2] => { results := [.lit (.bool false)], args := [d1, d2] }
  | _ => none }
def BitioLengthsWrongFalsely : Prop := bitioLengthsRow.holds Try.pinned (OpenSpec.ofChange bitioLengthsWrong)

/-- 'cellularlaw02.BitioOneCode': WHATEVER THE INPUT: true; the input reads as it did. -/
def bitioOneCodeSpec : ChangeSpec := { name := "bitioOneCode", fn := fun _ => fun
  | [d] => { results := [.lit (.bool true)], args := [d] }
  | _ => none }
def bitioOneCodeRow : OpenClaim := { program := "ytfcihdicbncoaaa", sum := "286edcf61ec04d1167be5dc1d2638173a23ffbfeedf8e3a92f3f7be9cb691164", func := "cellular/cellularlaw02.BitioOneCode", spec := "bitioOneCode", apart := false }
def BitioOneCodeSaid : Prop := bitioOneCodeRow.holds Try.pinned (OpenSpec.ofChange bitioOneCodeSpec)

/-- ITS FALSE NEIGHBOUR: 'it returns false'. Refute it at one input. -/
def bitioOneCodeWrong : ChangeSpec := { name := "bitioOneCode", fn := fun _ => fun
  | [d] => { results := [.lit (.bool false)], args := [d] }
  | _ => none }
def BitioOneCodeWrongFalsely : Prop := bitioOneCodeRow.holds Try.pinned (OpenSpec.ofChange bitioOneCodeWrong)

/-- 'cellularlaw02.BitioReads': WHATEVER THE INPUT: true; the input reads as it did. -/
def bitioReadsSpec : ChangeSpec := { name := "bitioReads", fn := fun _ => fun
  | [d1, d2] => { results := [.lit (.bool true)], args := [d1, d2] }
  | _ => none }
def bitioReadsRow : OpenClaim := { program := "ytfcihdicbncoaaa", sum := "286edcf61ec04d1167be5dc1d2638173a23ffbfeedf8e3a92f3f7be9cb691164", func := "cellular/cellularlaw02.BitioReads", spec := "bitioReads", apart := false }
def BitioReadsSaid : Prop := bitioReadsRow.holds Try.pinned (OpenSpec.ofChange bitioReadsSpec)

/-- ITS FALSE NEIGHBOUR: 'it returns false'. Refute it at one input. -/
def bitioReadsWrong : ChangeSpec := { name := "bitioReads", fn := fun _ => fun
  | [d1, d2] => { results := [.lit (.bool false)], args := [d1, d2] }
  | _ => none }
def BitioReadsWrongFalsely : Prop := bitioReadsRow.holds Try.pinned (OpenSpec.ofChange bitioReadsWrong)

/-- 'cellularlaw02.BitioRoundTrip': WHATEVER THE INPUT: true; the input reads as it did. -/
def bitioRoundTripSpec : ChangeSpec := { name := "bitioRoundTrip", fn := fun _ => fun
  | [d] => { results := [.lit (.bool true)], args := [d] }
  | _ => none }
def bitioRoundTripRow : OpenClaim := { program := "ytfcihdicbncoaaa", sum := "286edcf61ec04d1167be5dc1d2638173a23ffbfeedf8e3a92f3f7be9cb691164", func := "cellular/cellularlaw02.BitioRoundTrip", spec := "bitioRoundTrip", apart := false }
def BitioRoundTripSaid : Prop := bitioRoundTripRow.holds Try.pinned (OpenSpec.ofChange bitioRoundTripSpec)

/-- ITS FALSE NEIGHBOUR: 'it returns false'. Refute it at one input. -/
def bitioRoundTripWrong : ChangeSpec := { name := "bitioRoundTrip", fn := fun _ => fun
  | [d] => { results := [.lit (.bool false)], args := [d] }
  | _ => none }
def BitioRoundTripWrongFalsely : Prop := bitioRoundTripRow.holds Try.pinned (OpenSpec.ofChange bitioRoundTripWrong)

/- THE SECOND FORM. 'bulk': how many values and letters a reading holds, each counted each time it is reached (what is shared counts as often as it is met; a slice's spare places count too). A statement '..UptoSaid' is the law's where the arguments, and the package variables that the reading takes, are together of bulk at most 1048576: NARROWER than '..Said'. Prove '..Said' where nothing that the law and all that it calls make is longer than what came in: it says more and counts as full. Else prove '..UptoSaid'. A law counts once. -/
mutual
def uptoBulk {H : Type} : DataW H → Nat
  | .lit (.string bytes) => bytes.length + 1
  | .lit _ => 1
  | .nil => 1
  | .ptr d => uptoBulk d + 1
  | .slice elems spare => uptoBulkAll elems + uptoBulkAll spare + 1
  | .agg parts => uptoBulkAll parts + 1
  | .iface _ d => uptoBulk d + 1
  | .map entries => uptoBulkEntries entries + 1
  | .held _ => 1
def uptoBulkAll {H : Type} : List (DataW H) → Nat
  | [] => 0
  | d :: r => uptoBulk d + uptoBulkAll r
def uptoBulkEntries {H : Type} : List (Lit × DataW H) → Nat
  | [] => 0
  | x :: r => uptoBulkEntry x + uptoBulkEntries r
def uptoBulkEntry {H : Type} : Lit × DataW H → Nat
  | (.string bytes, d) => bytes.length + uptoBulk d + 1
  | (_, d) => uptoBulk d + 1
 end
def uptoSmall : (H : Type) → List (DataW H) → Bool := fun _ ds => decide (uptoBulkAll ds ≤ 1048576)
def OpenSpec.upto (s : _root_.Go.ChangeSpec) : _root_.Go.OpenSpec := { _root_.Go.OpenSpec.ofChange s with cond := some uptoSmall }

/-- 'cellularlaw02.BitioWrites', WHERE WHAT IT READS IS OF BULK AT MOST 1048576: true; the input reads as it did. -/
def bitioWritesUptoRow : OpenClaim := { program := "ytfcihdicbncoaaa", sum := "286edcf61ec04d1167be5dc1d2638173a23ffbfeedf8e3a92f3f7be9cb691164", func := "cellular/cellularlaw02.BitioWrites", spec := "bitioWrites", apart := false, narrowed := true }
def BitioWritesUptoSaid : Prop := bitioWritesUptoRow.holds Try.pinned (OpenSpec.upto bitioWritesSpec)

/-- 'cellularlaw02.BitioLengths', WHERE WHAT IT READS IS OF BULK AT MOST 1048576: true; the input reads as it did. -/
def bitioLengthsUptoRow : OpenClaim := { program := "ytfcihdicbncoaaa", sum := "286edcf61ec04d1167be5dc1d2638173a23ffbfeedf8e3a92f3f7be9cb691164", func := "cellular/cellularlaw02.BitioLengths", spec := "bitioLengths", apart := false, narrowed := true }
def BitioLengthsUptoSaid : Prop := bitioLengthsUptoRow.holds Try.pinned (OpenSpec.upto bitioLengthsSpec)

/-- 'cellularlaw02.BitioOneCode', WHERE WHAT IT READS IS OF BULK AT MOST 1048576: true; the input reads as it did. -/
def bitioOneCodeUptoRow : OpenClaim := { program := "ytfcihdicbncoaaa", sum := "286edcf61ec04d1167be5dc1d2638173a23ffbfeedf8e3a92f3f7be9cb691164", func := "cellular/cellularlaw02.BitioOneCode", spec := "bitioOneCode", apart := false, narrowed := true }
def BitioOneCodeUptoSaid : Prop := bitioOneCodeUptoRow.holds Try.pinned (OpenSpec.upto bitioOneCodeSpec)

/-- 'cellularlaw02.BitioReads', WHERE WHAT IT READS IS OF BULK AT MOST 1048576: true; the input reads as it did. -/
def bitioReadsUptoRow : OpenClaim := { program := "ytfcihdicbncoaaa", sum := "286edcf61ec04d1167be5dc1d2638173a23ffbfeedf8e3a92f3f7be9cb691164", func := "cellular/cellularlaw02.BitioReads", spec := "bitioReads", apart := false, narrowed := true }
def BitioReadsUptoSaid : Prop := bitioReadsUptoRow.holds Try.pinned (OpenSpec.upto bitioReadsSpec)

/-- 'cellularlaw02.BitioRoundTrip', WHERE WHAT IT READS IS OF BULK AT MOST 1048576: true; the input reads as it did. -/
def bitioRoundTripUptoRow : OpenClaim := { program := "ytfcihdicbncoaaa", sum := "286edcf61ec04d1167be5dc1d2638173a23ffbfeedf8e3a92f3f7be9cb691164", func := "cellular/cellularlaw02.BitioRoundTrip", spec := "bitioRoundTrip", apart := false, narrowed := true }
def BitioRoundTripUptoSaid : Prop := bitioRoundTripUptoRow.holds Try.pinned (OpenSpec.upto bitioRoundTripSpec)

end Rows
end Go.Proofs.Ytfcihdicbncoaaa
