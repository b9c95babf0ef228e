/-
  No cell of these rows narrows 'for every input' (looked for: loops, veiled, ifaces, maps, wideKeys, modest, calm, conditions, laid).
  DERIVED. THE GIVEN ROWS OF THIS SEAT. 4 by the template 'for every input the law returns true; each argument reads behind the call as it read before'; 0 by the template 'total and deterministic' (their statements: YtdanghnadbkhfaaGreatTotals.lean).
  GIVEN WITH THE SEED: the statements are not yours to turn. If you find one false, say at which input.
  Laid BY PROGRAM, IN A SANDBOX (cutbox-rows.mjs): the forced cells as the released guide's own fill.sh prints them over the translation 91676acb5f31b723… (all of the seat's roots in one cut). By AI agents, Wed Nov 11 2026. No macro, syntax, notation, axiom, sorry.
-/
import Derived.Test.YtdanghnadbkhfaaGreatChecked
import GoSem.Claim
import GoSem.ClaimJoined
import GoSem.ClaimMapViews
import Derived.JoinedTies
import Derived.KernelRfl
namespace Go.Proofs.YtdanghnadbkhfaaGreat
/- THE CELL 'sum', in the pinned program and in every row, IS THE sha256 OF THE DUMP (.gsa) THAT YtdanghnadbkhfaaGreatProg.lean LOADS. Nothing in Lean hashes anything: it is a label: what it is worth is what the hold of that sum in a sandbox is worth. -/
noncomputable def Tryz.pinned : Pinned := { name := "ytdanghnadbkhfaagreat", sum := "91676acb5f31b723a2074fc63f57637663dc0245072d87773a098d034428417d", checked := Tryz.checked }
namespace Rows
def none {H : Type} : Left H := { results := [], args := [] }

/-- 'cellularlaw26.QuadmapReads': WHATEVER THE INPUT: true; the input reads as it did. -/
def quadmapReadsSpec : ChangeSpec := { name := "quadmapReads", fn := fun _ => fun
  | [d] => { results := [.lit (.bool true)], args := [d] }
  | _ => none }
def quadmapReadsRow : OpenClaim := { program := "ytdanghnadbkhfaagreat", sum := "91676acb5f31b723a2074fc63f57637663dc0245072d87773a098d034428417d", func := "cellular/cellularlaw26.QuadmapReads", spec := "quadmapReads", unfollowed := true, recurses := true, plainKeys := false, apart := false }
def QuadmapReadsSaid : Prop := quadmapReadsRow.holds Tryz.pinned (OpenSpec.ofChange quadmapReadsSpec)

/-- ITS FALSE NEIGHBOUR: 'it returns false'. Refute it at one input. -/
def quadmapReadsWrong : ChangeSpec := { name := "quadmapReads", fn := fun _ => fun
  | [d] => { results := [.lit (.bool false)], args := [d] }
  | _ => none }
def QuadmapReadsWrongFalsely : Prop := quadmapReadsRow.holds Tryz.pinned (OpenSpec.ofChange quadmapReadsWrong)

/-- 'cellularlaw26.QuadmapPatterns': WHATEVER THE INPUT: true; the input reads as it did. -/
def quadmapPatternsSpec : ChangeSpec := { name := "quadmapPatterns", fn := fun _ => fun
  | [d1, d2, d3] => { results := [.lit (.bool true)], args := [d1, d2, d3] }
  | _ => none }
def quadmapPatternsRow : OpenClaim := { program := "ytdanghnadbkhfaagreat", sum := "91676acb5f31b723a2074fc63f57637663dc0245072d87773a098d034428417d", func := "cellular/cellularlaw26.QuadmapPatterns", spec := "quadmapPatterns", unfollowed := true, recurses := true, plainKeys := false, apart := false }
def QuadmapPatternsSaid : Prop := quadmapPatternsRow.holds Tryz.pinned (OpenSpec.ofChange quadmapPatternsSpec)

/-- ITS FALSE NEIGHBOUR: 'it returns false'. Refute it at one input. -/
def quadmapPatternsWrong : ChangeSpec := { name := "quadmapPatterns", fn := fun _ => fun
  | [d1, d2, d3] => { results := [.lit (.bool false)], args := [d1, d2, d3] }
  | _ => none }
def QuadmapPatternsWrongFalsely : Prop := quadmapPatternsRow.holds Tryz.pinned (OpenSpec.ofChange quadmapPatternsWrong)

/-- 'cellularlaw26.QuadmapFroms': WHATEVER THE INPUT: true; the input reads as it did. -/
def quadmapFromsSpec : ChangeSpec := { name := "quadmapFroms", fn := fun _ => fun
  | [d1, d2, d3] => { results := [.lit (.bool true)], args := [d1, d2, d3] }
  | _ => none }
def quadmapFromsRow : OpenClaim := { program := "ytdanghnadbkhfaagreat", sum := "91676acb5f31b723a2074fc63f57637663dc0245072d87773a098d034428417d", func := "cellular/cellularlaw26.QuadmapFroms", spec := "quadmapFroms", unfollowed := true, recurses := true, plainKeys := false, apart := false }
def QuadmapFromsSaid : Prop := quadmapFromsRow.holds Tryz.pinned (OpenSpec.ofChange quadmapFromsSpec)

/-- ITS FALSE NEIGHBOUR: 'it returns false'. Refute it at one input. -/
def quadmapFromsWrong : ChangeSpec := { name := "quadmapFroms", fn := fun _ => fun
  | [d1, d2, d3] => { results := [.lit (.bool false)], args := [d1, d2, d3] }
  | _ => none }
def QuadmapFromsWrongFalsely : Prop := quadmapFromsRow.holds Tryz.pinned (OpenSpec.ofChange quadmapFromsWrong)

/-- 'cellularlaw26.QuadmapSets': WHATEVER THE INPUT: true; the input reads as it did. -/
def quadmapSetsSpec : ChangeSpec := { name := "quadmapSets", fn := fun _ => fun
  | [d] => { results := [.lit (.bool true)], args := [d] }
  | _ => none }
def quadmapSetsRow : OpenClaim := { program := "ytdanghnadbkhfaagreat", sum := "91676acb5f31b723a2074fc63f57637663dc0245072d87773a098d034428417d", func := "cellular/cellularlaw26.QuadmapSets", spec := "quadmapSets", unfollowed := true, recurses := true, plainKeys := false, apart := false }
def QuadmapSetsSaid : Prop := quadmapSetsRow.holds Tryz.pinned (OpenSpec.ofChange quadmapSetsSpec)

/-- ITS FALSE NEIGHBOUR: 'it returns false'. Refute it at one input. -/
def quadmapSetsWrong : ChangeSpec := { name := "quadmapSets", fn := fun _ => fun
  | [d] => { results := [.lit (.bool false)], args := [d] }
  | _ => none }
def QuadmapSetsWrongFalsely : Prop := quadmapSetsRow.holds Tryz.pinned (OpenSpec.ofChange quadmapSetsWrong)

/- THE SECOND FORM. 'bulk': how many values and letters a reading holds, each counted each time it is reached (what is shared counts as often as it is met; a slice's spare places count too). A statement '..UptoSaid' is the law's where the arguments, and the package variables that the reading takes, are together of bulk at most 1048576: NARROWER than '..Said'. Prove '..Said' where nothing that the law and all that it calls make is longer than what came in: it says more and counts as full. Else prove '..UptoSaid'. A law counts once. -/
mutual
def uptoBulk {H : Type} : DataW H → Nat
  | .lit (.string bytes) => bytes.length + 1
  | .lit _ => 1
  | .nil => 1
  | .ptr d => uptoBulk d + 1
  | .slice elems spare => uptoBulkAll elems + uptoBulkAll spare + 1
  | .agg parts => uptoBulkAll parts + 1
  | .iface _ d => uptoBulk d + 1
  | .map entries => uptoBulkEntries entries + 1
  | .held _ => 1
def uptoBulkAll {H : Type} : List (DataW H) → Nat
  | [] => 0
  | d :: r => uptoBulk d + uptoBulkAll r
def uptoBulkEntries {H : Type} : List (Lit × DataW H) → Nat
  | [] => 0
  | x :: r => uptoBulkEntry x + uptoBulkEntries r
def uptoBulkEntry {H : Type} : Lit × DataW H → Nat
  | (.string bytes, d) => bytes.length + uptoBulk d + 1
  | (_, d) => uptoBulk d + 1
 end
def uptoSmall : (H : Type) → List (DataW H) → Bool := fun _ ds => decide (uptoBulkAll ds ≤ 1048576)
def OpenSpec.upto (s : _root_.Go.ChangeSpec) : _root_.Go.OpenSpec := { _root_.Go.OpenSpec.ofChange s with cond := some uptoSmall }

/-- 'cellularlaw26.QuadmapReads', WHERE WHAT IT READS IS OF BULK AT MOST 1048576: true; the input reads as it did. -/
def quadmapReadsUptoRow : OpenClaim := { program := "ytdanghnadbkhfaagreat", sum := "91676acb5f31b723a2074fc63f57637663dc0245072d87773a098d034428417d", func := "cellular/cellularlaw26.QuadmapReads", spec := "quadmapReads", unfollowed := true, recurses := true, plainKeys := false, apart := false, narrowed := true }
def QuadmapReadsUptoSaid : Prop := quadmapReadsUptoRow.holds Tryz.pinned (OpenSpec.upto quadmapReadsSpec)

/-- 'cellularlaw26.QuadmapPatterns', WHERE WHAT IT READS IS OF BULK AT MOST 1048576: true; the input reads as it did. -/
def quadmapPatternsUptoRow : OpenClaim := { program := "ytdanghnadbkhfaagreat", sum := "91676acb5f31b723a2074fc63f57637663dc0245072d87773a098d034428417d", func := "cellular/cellularlaw26.QuadmapPatterns", spec := "quadmapPatterns", unfollowed := true, recurses := true, plainKeys := false, apart := false, narrowed := true }
def QuadmapPatternsUptoSaid : Prop := quadmapPatternsUptoRow.holds Tryz.pinned (OpenSpec.upto quadmapPatternsSpec)

/-- 'cellularlaw26.QuadmapFroms', WHERE WHAT IT READS IS OF BULK AT MOST 1048576: true; the input reads as it did. -/
def quadmapFromsUptoRow : OpenClaim := { program := "ytdanghnadbkhfaagreat", sum := "91676acb5f31b723a2074fc63f57637663dc0245072d87773a098d034428417d", func := "cellular/cellularlaw26.QuadmapFroms", spec := "quadmapFroms", unfollowed := true, recurses := true, plainKeys := false, apart := false, narrowed := true }
def QuadmapFromsUptoSaid : Prop := quadmapFromsUptoRow.holds Tryz.pinned (OpenSpec.upto quadmapFromsSpec)

/-- 'cellularlaw26.QuadmapSets', WHERE WHAT IT READS IS OF BULK AT MOST 1048576: true; the input reads as it did. -/
def quadmapSetsUptoRow : OpenClaim := { program := "ytdanghnadbkhfaagreat", sum := "91676acb5f31b723a2074fc63f57637663dc0245072d87773a098d034428417d", func := "cellular/cellularlaw26.QuadmapSets", spec := "quadmapSets", unfollowed := true, recurses := true, plainKeys := false, apart := false, narrowed := true }
def QuadmapSetsUptoSaid : Prop := quadmapSetsUptoRow.holds Tryz.pinned (OpenSpec.upto quadmapSetsSpec)

end Rows
end Go.Proofs.YtdanghnadbkhfaaGreat
