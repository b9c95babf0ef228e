/-
  No cell of these rows narrows 'for every input' (looked for: loops, veiled, ifaces, maps, wideKeys, modest, calm, conditions, laid).
  DERIVED. THE GIVEN ROWS OF THIS SEAT. 5 by the template 'for every input the law returns true; each argument reads behind the call as it read before'; 0 by the template 'total and deterministic' (their statements: YtgcompnpjpmanaaTotals.lean).
  GIVEN WITH THE SEED: the statements are not yours to turn. If you find one false, say at which input.
  Laid BY PROGRAM, IN A SANDBOX (cutbox-rows.mjs): the forced cells as the released guide's own fill.sh prints them over the translation c9742d2d6e8ae137… (all of the seat's roots in one cut). By AI agents, Wed Nov 11 2026. No macro, syntax, notation, axiom, sorry.
-/
import Derived.Test.YtgcompnpjpmanaaChecked
import GoSem.Claim
import GoSem.ClaimJoined
import GoSem.ClaimMapViews
import Derived.JoinedTies
import Derived.KernelRfl
namespace Go.Proofs.Ytgcompnpjpmanaa
/- THE CELL 'sum', in the pinned program and in every row, IS THE sha256 OF THE DUMP (.gsa) THAT YtgcompnpjpmanaaProg.lean LOADS. Nothing in Lean hashes anything: it is a label: what it is worth is what the hold of that sum in a sandbox is worth. -/
noncomputable def Try.pinned : Pinned := { name := "ytgcompnpjpmanaa", sum := "c9742d2d6e8ae1372d7d983bedbf081924babf5168e16b2c9d46cef8943d18d6", checked := Try.checked }
namespace Rows
def none {H : Type} : Left H := { results := [], args := [] }

/-- 'cellularlaw25.QuadRight': WHATEVER THE INPUT: true; the input reads as it did. -/
def quadRightSpec : ChangeSpec := { name := "quadRight", fn := fun _ => fun
  | [d] => { results := [.lit (.bool true)], args := [d] }
  | _ => none }
def quadRightRow : OpenClaim := { program := "ytgcompnpjpmanaa", sum := "c9742d2d6e8ae1372d7d983bedbf081924babf5168e16b2c9d46cef8943d18d6", func := "cellular/cellularlaw25.QuadRight", spec := "quadRight", plainKeys := false, apart := false }
def QuadRightSaid : Prop := quadRightRow.holds Try.pinned (OpenSpec.ofChange quadRightSpec)

/-- ITS FALSE NEIGHBOUR: 'it returns false'. Refute it at one input. -/
def quadRightWrong : ChangeSpec := { name := "quadRight", fn := fun _ => fun
  | [d] => { results := [.lit (.bool false)], args := [d] }
  | _ => none }
def QuadRightWrongFalsely : Prop := quadRightRow.holds Try.pinned (OpenSpec.ofChange quadRightWrong)

/-- 'cellularlaw25.QuadCalls': WHATEVER THE INPUT: true; the input reads as it did. -/
def quadCallsSpec : ChangeSpec := { name := "quadCalls", fn := fun _ => fun
  | [d1, d2] => { results := [.lit (.bool true)], args := [d1, d2] }
  | _ => none }
def quadCallsRow : OpenClaim := { program := "ytgcompnpjpmanaa", sum := "c9742d2d6e8ae1372d7d983bedbf081924babf5168e16b2c9d46cef8943d18d6", func := "cellular/cellularlaw25.QuadCalls", spec := "quadCalls", plainKeys := false, apart := false }
def QuadCallsSaid : Prop := quadCallsRow.holds Try.pinned (OpenSpec.ofChange quadCallsSpec)

/-- ITS FALSE NEIGHBOUR: 'it returns false'. Refute it at one input. -/
def quadCallsWrong : ChangeSpec := { name := "quadCalls", fn := fun _ => fun
  | [d1, d2] => { results := [.lit (.bool false)], args := [d1, d2] }
  | _ => none }
def QuadCallsWrongFalsely : Prop := quadCallsRow.holds Try.pinned (OpenSpec.ofChange quadCallsWrong)

/-- 'cellularlaw25.QuadLoads': WHATEVER THE INPUT: true; the input reads as it did. -/
def quadLoadsSpec : ChangeSpec := { name := "quadLoads", fn := fun _ => fun
  | [d1, d2] => { results := [.lit (.bool true)], args := [d1, d2] }
  | _ => none }
def quadLoadsRow : OpenClaim := { program := "ytgcompnpjpmanaa", sum := "c9742d2d6e8ae1372d7d983bedbf081924babf5168e16b2c9d46cef8943d18d6", func := "cellular/cellularlaw25.QuadLoads", spec := "quadLoads", plainKeys := false, apart := false }
def QuadLoadsSaid : Prop := quadLoadsRow.holds Try.pinned (OpenSpec.ofChange quadLoadsSpec)

/-- ITS FALSE NEIGHBOUR: 'it returns false'. Refute it at one input. -/
def quadLoadsWrong : ChangeSpec := { name := "quadLoads", fn := fun _ => fun
  | [d1, d2] => { results := [.lit (.bool false)], args := [d1, d2] }
  | _ => none }
def QuadLoadsWrongFalsely : Prop := quadLoadsRow.holds Try.pinned (OpenSpec.ofChange quadLoadsWrong)

/-- 'cellularlaw25.QuadOnce': WHATEVER THE INPUT: true; the input reads as it did. -/
def quadOnceSpec : ChangeSpec := { name := "quadOnce", fn := fun _ => fun
  | [d] => { results := [.lit (.bool true)], args := [d] }
  | _ => none }
def quadOnceRow : OpenClaim := { program := "ytgcompnpjpmanaa", sum := "c9742d2d6e8ae1372d7d983bedbf081924babf5168e16b2c9d46cef8943d18d6", func := "cellular/cellularlaw25.QuadOnce", spec := "quadOnce", plainKeys := false, apart := false }
def QuadOnceSaid : Prop := quadOnceRow.holds Try.pinned (OpenSpec.ofChange quadOnceSpec)

/-- ITS FALSE NEIGHBOUR: 'it returns false'. Refute it at one input. -/
def quadOnceWrong : ChangeSpec := { name := "quadOnce", fn := fun _ => fun
  | [d] => { results := [.lit (.bool false)], args := [d] }
  | _ => none }
def QuadOnceWrongFalsely : Prop := quadOnceRow.holds Try.pinned (OpenSpec.ofChange quadOnceWrong)

/-- 'cellularlaw25.QuadEmpty': WHATEVER THE INPUT: true; the input reads as it did. -/
def quadEmptySpec : ChangeSpec := { name := "quadEmpty", fn := fun _ => fun
  | [d1, d2] => { results := [.lit (.bool true)], args := [d1, d2] }
  | _ => none }
def quadEmptyRow : OpenClaim := { program := "ytgcompnpjpmanaa", sum := "c9742d2d6e8ae1372d7d983bedbf081924babf5168e16b2c9d46cef8943d18d6", func := "cellular/cellularlaw25.QuadEmpty", spec := "quadEmpty", plainKeys := false, apart := false }
def QuadEmptySaid : Prop := quadEmptyRow.holds Try.pinned (OpenSpec.ofChange quadEmptySpec)

/-- ITS FALSE NEIGHBOUR: 'it returns false'. Refute it at one input. -/
def quadEmptyWrong : ChangeSpec := { name := "quadEmpty", fn := fun _ => fun
  | [d1, d2] => { results := [.lit (.bool false)], args := [d1, d2] }
  | _ => none }
def QuadEmptyWrongFalsely : Prop := quadEmptyRow.holds Try.pinned (OpenSpec.ofChange quadEmptyWrong)

/- THE SECOND FORM. 'bulk': how many values and letters a reading holds, each counted each time it is reached (what is shared counts as often as it is met; a slice's spare places count too). A statement '..UptoSaid' is the law's where the arguments, and the package variables that the reading takes, are together of bulk at most 1048576: NARROWER than '..Said'. Prove '..Said' where nothing that the law and all that it calls make is longer than what came in: it says more and counts as full. Else prove '..UptoSaid'. A law counts once. -/
mutual
def uptoBulk {H : Type} : DataW H → Nat
  | .lit (.string bytes) => bytes.length + 1
  | .lit _ => 1
  | .nil => 1
  | .ptr d => uptoBulk d + 1
  | .slice elems spare => uptoBulkAll elems + uptoBulkAll spare + 1
  | .agg parts => uptoBulkAll parts + 1
  | .iface _ d => uptoBulk d + 1
  | .map entries => uptoBulkEntries entries + 1
  | .held _ => 1
def uptoBulkAll {H : Type} : List (DataW H) → Nat
  | [] => 0
  | d :: r => uptoBulk d + uptoBulkAll r
def uptoBulkEntries {H : Type} : List (Lit × DataW H) → Nat
  | [] => 0
  | x :: r => uptoBulkEntry x + uptoBulkEntries r
def uptoBulkEntry {H : Type} : Lit × DataW H → Nat
  | (.string bytes, d) => bytes.length + uptoBulk d + 1
  | (_, d) => uptoBulk d + 1
 end
def uptoSmall : (H : Type) → List (DataW H) → Bool := fun _ ds => decide (uptoBulkAll ds ≤ 1048576)
def OpenSpec.upto (s : _root_.Go.ChangeSpec) : _root_.Go.OpenSpec := { _root_.Go.OpenSpec.ofChange s with cond := some uptoSmall }

/-- 'cellularlaw25.QuadRight', WHERE WHAT IT READS IS OF BULK AT MOST 1048576: true; the input reads as it did. -/
def quadRightUptoRow : OpenClaim := { program := "ytgcompnpjpmanaa", sum := "c9742d2d6e8ae1372d7d983bedbf081924babf5168e16b2c9d46cef8943d18d6", func := "cellular/cellularlaw25.QuadRight", spec := "quadRight", plainKeys := false, apart := false, narrowed := true }
def QuadRightUptoSaid : Prop := quadRightUptoRow.holds Try.pinned (OpenSpec.upto quadRightSpec)

/-- 'cellularlaw25.QuadCalls', WHERE WHAT IT READS IS OF BULK AT MOST 1048576: true; the input reads as it did. -/
def quadCallsUptoRow : OpenClaim := { program := "ytgcompnpjpmanaa", sum := "c9742d2d6e8ae1372d7d983bedbf081924babf5168e16b2c9d46cef8943d18d6", func := "cellular/cellularlaw25.QuadCalls", spec := "quadCalls", plainKeys := false, apart := false, narrowed := true }
def QuadCallsUptoSaid : Prop := quadCallsUptoRow.holds Try.pinned (OpenSpec.upto quadCallsSpec)

/-- 'cellularlaw25.QuadLoads', WHERE WHAT IT READS IS OF BULK AT MOST 1048576: true; the input reads as it did. -/
def quadLoadsUptoRow : OpenClaim := { program := "ytgcompnpjpmanaa", sum := "c9742d2d6e8ae1372d7d983bedbf081924babf5168e16b2c9d46cef8943d18d6", func := "cellular/cellularlaw25.QuadLoads", spec := "quadLoads", plainKeys := false, apart := false, narrowed := true }
def QuadLoadsUptoSaid : Prop := quadLoadsUptoRow.holds Try.pinned (OpenSpec.upto quadLoadsSpec)

/-- 'cellularlaw25.QuadOnce', WHERE WHAT IT READS IS OF BULK AT MOST 1048576: true; the input reads as it did. -/
def quadOnceUptoRow : OpenClaim := { program := "ytgcompnpjpmanaa", sum := "c9742d2d6e8ae1372d7d983bedbf081924babf5168e16b2c9d46cef8943d18d6", func := "cellular/cellularlaw25.QuadOnce", spec := "quadOnce", plainKeys := false, apart := false, narrowed := true }
def QuadOnceUptoSaid : Prop := quadOnceUptoRow.holds Try.pinned (OpenSpec.upto quadOnceSpec)

/-- 'cellularlaw25.QuadEmpty', WHERE WHAT IT READS IS OF BULK AT MOST 1048576: true; the input reads as it did. -/
def quadEmptyUptoRow : OpenClaim := { program := "ytgcompnpjpmanaa", sum := "c9742d2d6e8ae1372d7d983bedbf081924babf5168e16b2c9d46cef8943d18d6", func := "cellular/cellularlaw25.QuadEmpty", spec := "quadEmpty", plainKeys := false, apart := false, narrowed := true }
def QuadEmptyUptoSaid : Prop := quadEmptyUptoRow.holds Try.pinned (OpenSpec.upto quadEmptySpec)

end Rows
end Go.Proofs.Ytgcompnpjpmanaa
