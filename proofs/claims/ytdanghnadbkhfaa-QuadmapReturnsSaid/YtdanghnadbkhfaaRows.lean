/-
  No cell of these rows narrows 'for every input' (looked for: loops, veiled, ifaces, maps, wideKeys, modest, calm, conditions, laid).
  DERIVED. THE GIVEN ROWS OF THIS SEAT. 4 by the template 'for every input the law returns true; each argument reads behind the call as it read before'; 0 by the template 'total and deterministic' (their statements: YtdanghnadbkhfaaTotals.lean).
  GIVEN WITH THE SEED: the statements are not yours to turn. If you find one false, say at which input.
  Laid BY PROGRAM, IN A SANDBOX (cutbox-rows.mjs): the forced cells as the released guide's own fill.sh prints them over the translation 6ab3bd98f97c5921… (all of the seat's roots in one cut). By AI agents, Wed Nov 11 2026. No macro, syntax, notation, axiom, sorry.
-/
import Derived.Test.YtdanghnadbkhfaaChecked
import GoSem.Claim
import GoSem.ClaimJoined
import GoSem.ClaimMapViews
import Derived.JoinedTies
import Derived.KernelRfl
namespace Go.Proofs.Ytdanghnadbkhfaa
/- THE CELL 'sum', in the pinned program and in every row, IS THE sha256 OF THE DUMP (.gsa) THAT YtdanghnadbkhfaaProg.lean LOADS. Nothing in Lean hashes anything: it is a label: what it is worth is what the hold of that sum in a sandbox is worth. -/
noncomputable def Try.pinned : Pinned := { name := "ytdanghnadbkhfaa", sum := "6ab3bd98f97c59215b5e2f77c7a4bf1b7f7296e4852c87a018f1f29c55d9ad69", checked := Try.checked }
namespace Rows
def none {H : Type} : Left H := { results := [], args := [] }

/-- 'cellularlaw26.QuadmapReturns': WHATEVER THE INPUT: true; the input reads as it did. -/
def quadmapReturnsSpec : ChangeSpec := { name := "quadmapReturns", fn := fun _ => fun
  | [d1, d2] => { results := [.lit (.bool true)], args := [d1, d2] }
  | _ => none }
def quadmapReturnsRow : OpenClaim := { program := "ytdanghnadbkhfaa", sum := "6ab3bd98f97c59215b5e2f77c7a4bf1b7f7296e4852c87a018f1f29c55d9ad69", func := "cellular/cellularlaw26.QuadmapReturns", spec := "quadmapReturns", unfollowed := true, recurses := true, plainKeys := false, apart := false }
def QuadmapReturnsSaid : Prop := quadmapReturnsRow.holds Try.pinned (OpenSpec.ofChange quadmapReturnsSpec)

/-- ITS FALSE NEIGHBOUR: 'it returns false'. Refute it at one input. -/
def quadmapReturnsWrong : ChangeSpec := { name := "quadmapReturns", fn := fun _ => fun
  | [d1, d2] => { results := [.lit (.bool false)], args := [d1, d2] }
  | _ => none }
def QuadmapReturnsWrongFalsely : Prop := quadmapReturnsRow.holds Try.pinned (OpenSpec.ofChange quadmapReturnsWrong)

/-- 'cellularlaw26.QuadmapNobody': WHATEVER THE INPUT: true; the input reads as it did. -/
def quadmapNobodySpec : ChangeSpec := { name := "quadmapNobody", fn := fun _ => fun
  | [d1, d2, d3] => { results := [.lit (.bool true)], args := [d1, d2, d3] }
  | _ => none }
def quadmapNobodyRow : OpenClaim := { program := "ytdanghnadbkhfaa", sum := "6ab3bd98f97c59215b5e2f77c7a4bf1b7f7296e4852c87a018f1f29c55d9ad69", func := "cellular/cellularlaw26.QuadmapNobody", spec := "quadmapNobody", unfollowed := true, recurses := true, plainKeys := false, apart := false }
def QuadmapNobodySaid : Prop := quadmapNobodyRow.holds Try.pinned (OpenSpec.ofChange quadmapNobodySpec)

/-- ITS FALSE NEIGHBOUR: 'it returns false'. Refute it at one input. -/
def quadmapNobodyWrong : ChangeSpec := { name := "quadmapNobody", fn := fun _ => fun
  | [d1, d2, d3] => { results := [.lit (.bool false)], args := [d1, d2, d3] }
  | _ => none }
def QuadmapNobodyWrongFalsely : Prop := quadmapNobodyRow.holds Try.pinned (OpenSpec.ofChange quadmapNobodyWrong)

/-- 'cellularlaw26.QuadmapCells': WHATEVER THE INPUT: true; the input reads as it did. -/
def quadmapCellsSpec : ChangeSpec := { name := "quadmapCells", fn := fun _ => fun
  | [d1, d2, d3] => { results := [.lit (.bool true)], args := [d1, d2, d3] }
  | _ => none }
def quadmapCellsRow : OpenClaim := { program := "ytdanghnadbkhfaa", sum := "6ab3bd98f97c59215b5e2f77c7a4bf1b7f7296e4852c87a018f1f29c55d9ad69", func := "cellular/cellularlaw26.QuadmapCells", spec := "quadmapCells", unfollowed := true, recurses := true, plainKeys := false, apart := false }
def QuadmapCellsSaid : Prop := quadmapCellsRow.holds Try.pinned (OpenSpec.ofChange quadmapCellsSpec)

/-- ITS FALSE NEIGHBOUR: 'it returns false'. Refute it at one input. -/
def quadmapCellsWrong : ChangeSpec := { name := "quadmapCells", fn := fun _ => fun
  | [d1, d2, d3] => { results := [.lit (.bool false)], args := [d1, d2, d3] }
  | _ => none }
def QuadmapCellsWrongFalsely : Prop := quadmapCellsRow.holds Try.pinned (OpenSpec.ofChange quadmapCellsWrong)

/-- 'cellularlaw26.QuadmapFrames': WHATEVER THE INPUT: true; the input reads as it did. -/
def quadmapFramesSpec : ChangeSpec := { name := "quadmapFrames", fn := fun _ => fun
  | [d1, d2] => { results := [.lit (.bool true)], args := [d1, d2] }
  | _ => none }
def quadmapFramesRow : OpenClaim := { program := "ytdanghnadbkhfaa", sum := "6ab3bd98f97c59215b5e2f77c7a4bf1b7f7296e4852c87a018f1f29c55d9ad69", func := "cellular/cellularlaw26.QuadmapFrames", spec := "quadmapFrames", unfollowed := true, recurses := true, plainKeys := false, apart := false }
def QuadmapFramesSaid : Prop := quadmapFramesRow.holds Try.pinned (OpenSpec.ofChange quadmapFramesSpec)

/-- ITS FALSE NEIGHBOUR: 'it returns false'. Refute it at one input. -/
def quadmapFramesWrong : ChangeSpec := { name := "quadmapFrames", fn := fun _ => fun
  | [d1, d2] => { results := [.lit (.bool false)], args := [d1, d2] }
  | _ => none }
def QuadmapFramesWrongFalsely : Prop := quadmapFramesRow.holds Try.pinned (OpenSpec.ofChange quadmapFramesWrong)

/- THE SECOND FORM. 'bulk': how many values and letters a reading holds, each counted each time it is reached (what is shared counts as often as it is met; a slice's spare places count too). A statement '..UptoSaid' is the law's where the arguments, and the package variables that the reading takes, are together of bulk at most 1048576: NARROWER than '..Said'. Prove '..Said' where nothing that the law and all that it calls make is longer than what came in: it says more and counts as full. Else prove '..UptoSaid'. A law counts once. -/
mutual
def uptoBulk {H : Type} : DataW H → Nat
  | .lit (.string bytes) => bytes.length + 1
  | .lit _ => 1
  | .nil => 1
  | .ptr d => uptoBulk d + 1
  | .slice elems spare => uptoBulkAll elems + uptoBulkAll spare + 1
  | .agg parts => uptoBulkAll parts + 1
  | .iface _ d => uptoBulk d + 1
  | .map entries => uptoBulkEntries entries + 1
  | .held _ => 1
def uptoBulkAll {H : Type} : List (DataW H) → Nat
  | [] => 0
  | d :: r => uptoBulk d + uptoBulkAll r
def uptoBulkEntries {H : Type} : List (Lit × DataW H) → Nat
  | [] => 0
  | x :: r => uptoBulkEntry x + uptoBulkEntries r
def uptoBulkEntry {H : Type} : Lit × DataW H → Nat
  | (.string bytes, d) => bytes.length + uptoBulk d + 1
  | (_, d) => uptoBulk d + 1
 end
def uptoSmall : (H : Type) → List (DataW H) → Bool := fun _ ds => decide (uptoBulkAll ds ≤ 1048576)
def OpenSpec.upto (s : _root_.Go.ChangeSpec) : _root_.Go.OpenSpec := { _root_.Go.OpenSpec.ofChange s with cond := some uptoSmall }

/-- 'cellularlaw26.QuadmapReturns', WHERE WHAT IT READS IS OF BULK AT MOST 1048576: true; the input reads as it did. -/
def quadmapReturnsUptoRow : OpenClaim := { program := "ytdanghnadbkhfaa", sum := "6ab3bd98f97c59215b5e2f77c7a4bf1b7f7296e4852c87a018f1f29c55d9ad69", func := "cellular/cellularlaw26.QuadmapReturns", spec := "quadmapReturns", unfollowed := true, recurses := true, plainKeys := false, apart := false, narrowed := true }
def QuadmapReturnsUptoSaid : Prop := quadmapReturnsUptoRow.holds Try.pinned (OpenSpec.upto quadmapReturnsSpec)

/-- 'cellularlaw26.QuadmapNobody', WHERE WHAT IT READS IS OF BULK AT MOST 1048576: true; the input reads as it did. -/
def quadmapNobodyUptoRow : OpenClaim := { program := "ytdanghnadbkhfaa", sum := "6ab3bd98f97c59215b5e2f77c7a4bf1b7f7296e4852c87a018f1f29c55d9ad69", func := "cellular/cellularlaw26.QuadmapNobody", spec := "quadmapNobody", unfollowed := true, recurses := true, plainKeys := false, apart := false, narrowed := true }
def QuadmapNobodyUptoSaid : Prop := quadmapNobodyUptoRow.holds Try.pinned (OpenSpec.upto quadmapNobodySpec)

/-- 'cellularlaw26.QuadmapCells', WHERE WHAT IT READS IS OF BULK AT MOST 1048576: true; the input reads as it did. -/
def quadmapCellsUptoRow : OpenClaim := { program := "ytdanghnadbkhfaa", sum := "6ab3bd98f97c59215b5e2f77c7a4bf1b7f7296e4852c87a018f1f29c55d9ad69", func := "cellular/cellularlaw26.QuadmapCells", spec := "quadmapCells", unfollowed := true, recurses := true, plainKeys := false, apart := false, narrowed := true }
def QuadmapCellsUptoSaid : Prop := quadmapCellsUptoRow.holds Try.pinned (OpenSpec.upto quadmapCellsSpec)

/-- 'cellularlaw26.QuadmapFrames', WHERE WHAT IT READS IS OF BULK AT MOST 1048576: true; the input reads as it did. -/
def quadmapFramesUptoRow : OpenClaim := { program := "ytdanghnadbkhfaa", sum := "6ab3bd98f97c59215b5e2f77c7a4bf1b7f7296e4852c87a018f1f29c55d9ad69", func := "cellular/cellularlaw26.QuadmapFrames", spec := "quadmapFrames", unfollowed := true, recurses := true, plainKeys := false, apart := false, narrowed := true }
def QuadmapFramesUptoSaid : Prop := quadmapFramesUptoRow.holds Try.pinned (OpenSpec.upto quadmapFramesSpec)

end Rows
end Go.Proofs.Ytdanghnadbkhfaa
