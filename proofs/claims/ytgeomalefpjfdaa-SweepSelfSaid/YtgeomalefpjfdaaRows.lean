/-
  No cell of these rows narrows 'for every input' (looked for: loops, veiled, ifaces, maps, wideKeys, modest, calm, conditions, laid).
  DERIVED. THE GIVEN ROWS OF THIS SEAT. 6 by the template 'for every input the law returns true; each argument reads behind the call as it read before'; 0 by the template 'total and deterministic' (their statements: YtgeomalefpjfdaaTotals.lean).
  GIVEN WITH THE SEED: the statements are not yours to turn. If you find one false, say at which input.
  Laid BY PROGRAM, IN A SANDBOX (cutbox-rows.mjs): the forced cells as the released guide's own fill.sh prints them over the translation 1b1fb3bc78a15fbb… (all of the seat's roots in one cut). By AI agents, Wed Nov 11 2026. No macro, syntax, notation, axiom, sorry.
-/
import Derived.Test.YtgeomalefpjfdaaChecked
import GoSem.Claim
import GoSem.ClaimJoined
import GoSem.ClaimMapViews
import Derived.JoinedTies
import Derived.KernelRfl
namespace Go.Proofs.Ytgeomalefpjfdaa
/- THE CELL 'sum', in the pinned program and in every row, IS THE sha256 OF THE DUMP (.gsa) THAT YtgeomalefpjfdaaProg.lean LOADS. Nothing in Lean hashes anything: it is a label: what it is worth is what the hold of that sum in a sandbox is worth. -/
noncomputable def Try.pinned : Pinned := { name := "ytgeomalefpjfdaa", sum := "1b1fb3bc78a15fbbc86ff12743999391ab8e89bcb14a07f7a18491866353a407", checked := Try.checked }
namespace Rows
def none {H : Type} : Left H := { results := [], args := [] }

/-- 'cellularlaw28.SweepNeeds': WHATEVER THE INPUT: true; the input reads as it did. -/
def sweepNeedsSpec : ChangeSpec := { name := "sweepNeeds", fn := fun _ => fun
  | [d1, d2] => { results := [.lit (.bool true)], args := [d1, d2] }
  | _ => none }
def sweepNeedsRow : OpenClaim := { program := "ytgeomalefpjfdaa", sum := "1b1fb3bc78a15fbbc86ff12743999391ab8e89bcb14a07f7a18491866353a407", func := "cellular/cellularlaw28.SweepNeeds", spec := "sweepNeeds", unfollowed := true, recurses := true, plainKeys := false, apart := false }
def SweepNeedsSaid : Prop := sweepNeedsRow.holds Try.pinned (OpenSpec.ofChange sweepNeedsSpec)

/-- ITS FALSE NEIGHBOUR: 'it returns false'. Refute it at one input. -/
def sweepNeedsWrong : ChangeSpec := { name := "sweepNeeds", fn := fun _ => fun
  | [d1, d2] => { results := [.lit (.bool false)], args := [d1, d2] }
  | _ => none }
def SweepNeedsWrongFalsely : Prop := sweepNeedsRow.holds Try.pinned (OpenSpec.ofChange sweepNeedsWrong)

/-- 'cellularlaw28.SweepCollects': WHATEVER THE INPUT: true; the input reads as it did. -/
def sweepCollectsSpec : ChangeSpec := { name := "sweepCollects", fn := fun _ => fun
  | [d1, d2] => { results := [.lit (.bool true)], args := [d1, d2] }
  | _ => none }
def sweepCollectsRow : OpenClaim := { program := "ytgeomalefpjfdaa", sum := "1b1fb3bc78a15fbbc86ff12743999391ab8e89bcb14a07f7a18491866353a407", func := "cellular/cellularlaw28.SweepCollects", spec := "sweepCollects", unfollowed := true, recurses := true, plainKeys := false, apart := false }
def SweepCollectsSaid : Prop := sweepCollectsRow.holds Try.pinned (OpenSpec.ofChange sweepCollectsSpec)

/-- ITS FALSE NEIGHBOUR: 'it returns false'. Refute it at one input. -/
def sweepCollectsWrong : ChangeSpec := { name := "sweepCollects", fn := fun _ => fun
  | [d1, d2] => { results := [.lit (.bool false)], args := [d1, d2] }
  | _ => none }
def SweepCollectsWrongFalsely : Prop := sweepCollectsRow.holds Try.pinned (OpenSpec.ofChange sweepCollectsWrong)

/-- 'cellularlaw28.SweepKeeps': WHATEVER THE INPUT: true; the input reads as it did. -/
def sweepKeepsSpec : ChangeSpec := { name := "sweepKeeps", fn := fun _ => fun
  | [d1, d2] => { results := [.lit (.bool true)], args := [d1, d2] }
  | _ => none }
def sweepKeepsRow : OpenClaim := { program := "ytgeomalefpjfdaa", sum := "1b1fb3bc78a15fbbc86ff12743999391ab8e89bcb14a07f7a18491866353a407", func := "cellular/cellularlaw28.SweepKeeps", spec := "sweepKeeps", unfollowed := true, recurses := true, plainKeys := false, apart := false }
def SweepKeepsSaid : Prop := sweepKeepsRow.holds Try.pinned (OpenSpec.ofChange sweepKeepsSpec)

/-- ITS FALSE NEIGHBOUR: 'it returns false'. Refute it at one input. -/
def sweepKeepsWrong : ChangeSpec := { name := "sweepKeeps", fn := fun _ => fun
  | [d1, d2] => { results := [.lit (.bool false)], args := [d1, d2] }
  | _ => none }
def SweepKeepsWrongFalsely : Prop := sweepKeepsRow.holds Try.pinned (OpenSpec.ofChange sweepKeepsWrong)

/-- 'cellularlaw28.SweepCopies': WHATEVER THE INPUT: true; the input reads as it did. -/
def sweepCopiesSpec : ChangeSpec := { name := "sweepCopies", fn := fun _ => fun
  | [d] => { results := [.lit (.bool true)], args := [d] }
  | _ => none }
def sweepCopiesRow : OpenClaim := { program := "ytgeomalefpjfdaa", sum := "1b1fb3bc78a15fbbc86ff12743999391ab8e89bcb14a07f7a18491866353a407", func := "cellular/cellularlaw28.SweepCopies", spec := "sweepCopies", unfollowed := true, recurses := true, plainKeys := false, apart := false }
def SweepCopiesSaid : Prop := sweepCopiesRow.holds Try.pinned (OpenSpec.ofChange sweepCopiesSpec)

/-- ITS FALSE NEIGHBOUR: 'it returns false'. Refute it at one input. -/
def sweepCopiesWrong : ChangeSpec := { name := "sweepCopies", fn := fun _ => fun
  | [d] => { results := [.lit (.bool false)], args := [d] }
  | _ => none }
def SweepCopiesWrongFalsely : Prop := sweepCopiesRow.holds Try.pinned (OpenSpec.ofChange sweepCopiesWrong)

/-- 'cellularlaw28.SweepCompares': WHATEVER THE INPUT: true; the input reads as it did. -/
def sweepComparesSpec : ChangeSpec := { name := "sweepCompares", fn := fun _ => fun
  | [d] => { results := [.lit (.bool true)], args := [d] }
  | _ => none }
def sweepComparesRow : OpenClaim := { program := "ytgeomalefpjfdaa", sum := "1b1fb3bc78a15fbbc86ff12743999391ab8e89bcb14a07f7a18491866353a407", func := "cellular/cellularlaw28.SweepCompares", spec := "sweepCompares", unfollowed := true, recurses := true, plainKeys := false, apart := false }
def SweepComparesSaid : Prop := sweepComparesRow.holds Try.pinned (OpenSpec.ofChange sweepComparesSpec)

/-- ITS FALSE NEIGHBOUR: 'it returns false'. Refute it at one input. -/
def sweepComparesWrong : ChangeSpec := { name := "sweepCompares", fn := fun _ => fun
  | [d] => { results := [.lit (.bool false)], args := [d] }
  | _ => none }
def SweepComparesWrongFalsely : Prop := sweepComparesRow.holds Try.pinned (OpenSpec.ofChange sweepComparesWrong)

/-- 'cellularlaw28.SweepSelf': WHATEVER THE INPUT: true; the input reads as it did. -/
def sweepSelfSpec : ChangeSpec := { name := "sweepSelf", fn := fun _ => fun
  | [d1, d2] => { results := [.lit (.bool true)], args := [d1, d2] }
  | _ => none }
def sweepSelfRow : OpenClaim := { program := "ytgeomalefpjfdaa", sum := "1b1fb3bc78a15fbbc86ff12743999391ab8e89bcb14a07f7a18491866353a407", func := "cellular/cellularlaw28.SweepSelf", spec := "sweepSelf", unfollowed := true, recurses := true, plainKeys := false, apart := false }
def SweepSelfSaid : Prop := sweepSelfRow.holds Try.pinned (OpenSpec.ofChange sweepSelfSpec)

/-- ITS FALSE NEIGHBOUR: 'it returns false'. Refute it at one input. -/
def sweepSelfWrong : ChangeSpec := { name := "sweepSelf", fn := fun _ => fun
  | [d1, d2] => { results := [.lit (.bool false)], args := [d1, d2] }
  | _ => none }
def SweepSelfWrongFalsely : Prop := sweepSelfRow.holds Try.pinned (OpenSpec.ofChange sweepSelfWrong)

/- THE SECOND FORM. 'bulk': how many values and letters a reading holds, each counted each time it is reached (what is shared counts as often as it is met; a slice's spare places count too). A statement '..UptoSaid' is the law's where the arguments, and the package variables that the reading takes, are together of bulk at most 1048576: NARROWER than '..Said'. Prove '..Said' where nothing that the law and all that it calls make is longer than what came in: it says more and counts as full. Else prove '..UptoSaid'. A law counts once. -/
mutual
def uptoBulk {H : Type} : DataW H → Nat
  | .lit (.string bytes) => bytes.length + 1
  | .lit _ => 1
  | .nil => 1
  | .ptr d => uptoBulk d + 1
  | .slice elems spare => uptoBulkAll elems + uptoBulkAll spare + 1
  | .agg parts => uptoBulkAll parts + 1
  | .iface _ d => uptoBulk d + 1
  | .map entries => uptoBulkEntries entries + 1
  | .held _ => 1
def uptoBulkAll {H : Type} : List (DataW H) → Nat
  | [] => 0
  | d :: r => uptoBulk d + uptoBulkAll r
def uptoBulkEntries {H : Type} : List (Lit × DataW H) → Nat
  | [] => 0
  | x :: r => uptoBulkEntry x + uptoBulkEntries r
def uptoBulkEntry {H : Type} : Lit × DataW H → Nat
  | (.string bytes, d) => bytes.length + uptoBulk d + 1
  | (_, d) => uptoBulk d + 1
 end
def uptoSmall : (H : Type) → List (DataW H) → Bool := fun _ ds => decide (uptoBulkAll ds ≤ 1048576)
def OpenSpec.upto (s : _root_.Go.ChangeSpec) : _root_.Go.OpenSpec := { _root_.Go.OpenSpec.ofChange s with cond := some uptoSmall }

/-- 'cellularlaw28.SweepNeeds', WHERE WHAT IT READS IS OF BULK AT MOST 1048576: true; the input reads as it did. -/
def sweepNeedsUptoRow : OpenClaim := { program := "ytgeomalefpjfdaa", sum := "1b1fb3bc78a15fbbc86ff12743999391ab8e89bcb14a07f7a18491866353a407", func := "cellular/cellularlaw28.SweepNeeds", spec := "sweepNeeds", unfollowed := true, recurses := true, plainKeys := false, apart := false, narrowed := true }
def SweepNeedsUptoSaid : Prop := sweepNeedsUptoRow.holds Try.pinned (OpenSpec.upto sweepNeedsSpec)

/-- 'cellularlaw28.SweepCollects', WHERE WHAT IT READS IS OF BULK AT MOST 1048576: true; the input reads as it did. -/
def sweepCollectsUptoRow : OpenClaim := { program := "ytgeomalefpjfdaa", sum := "1b1fb3bc78a15fbbc86ff12743999391ab8e89bcb14a07f7a18491866353a407", func := "cellular/cellularlaw28.SweepCollects", spec := "sweepCollects", unfollowed := true, recurses := true, plainKeys := false, apart := false, narrowed := true }
def SweepCollectsUptoSaid : Prop := sweepCollectsUptoRow.holds Try.pinned (OpenSpec.upto sweepCollectsSpec)

/-- 'cellularlaw28.SweepKeeps', WHERE WHAT IT READS IS OF BULK AT MOST 1048576: true; the input reads as it did. -/
def sweepKeepsUptoRow : OpenClaim := { program := "ytgeomalefpjfdaa", sum := "1b1fb3bc78a15fbbc86ff12743999391ab8e89bcb14a07f7a18491866353a407", func := "cellular/cellularlaw28.SweepKeeps", spec := "sweepKeeps", unfollowed := true, recurses := true, plainKeys := false, apart := false, narrowed := true }
def SweepKeepsUptoSaid : Prop := sweepKeepsUptoRow.holds Try.pinned (OpenSpec.upto sweepKeepsSpec)

/-- 'cellularlaw28.SweepCopies', WHERE WHAT IT READS IS OF BULK AT MOST 1048576: true; the input reads as it did. -/
def sweepCopiesUptoRow : OpenClaim := { program := "ytgeomalefpjfdaa", sum := "1b1fb3bc78a15fbbc86ff12743999391ab8e89bcb14a07f7a18491866353a407", func := "cellular/cellularlaw28.SweepCopies", spec := "sweepCopies", unfollowed := true, recurses := true, plainKeys := false, apart := false, narrowed := true }
def SweepCopiesUptoSaid : Prop := sweepCopiesUptoRow.holds Try.pinned (OpenSpec.upto sweepCopiesSpec)

/-- 'cellularlaw28.SweepCompares', WHERE WHAT IT READS IS OF BULK AT MOST 1048576: true; the input reads as it did. -/
def sweepComparesUptoRow : OpenClaim := { program := "ytgeomalefpjfdaa", sum := "1b1fb3bc78a15fbbc86ff12743999391ab8e89bcb14a07f7a18491866353a407", func := "cellular/cellularlaw28.SweepCompares", spec := "sweepCompares", unfollowed := true, recurses := true, plainKeys := false, apart := false, narrowed := true }
def SweepComparesUptoSaid : Prop := sweepComparesUptoRow.holds Try.pinned (OpenSpec.upto sweepComparesSpec)

/-- 'cellularlaw28.SweepSelf', WHERE WHAT IT READS IS OF BULK AT MOST 1048576: true; the input reads as it did. -/
def sweepSelfUptoRow : OpenClaim := { program := "ytgeomalefpjfdaa", sum := "1b1fb3bc78a15fbbc86ff12743999391ab8e89bcb14a07f7a18491866353a407", func := "cellular/cellularlaw28.SweepSelf", spec := "sweepSelf", unfollowed := true, recurses := true, plainKeys := false, apart := false, narrowed := true }
def SweepSelfUptoSaid : Prop := sweepSelfUptoRow.holds Try.pinned (OpenSpec.upto sweepSelfSpec)

end Rows
end Go.Proofs.Ytgeomalefpjfdaa
