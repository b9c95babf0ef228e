/-
  No cell of these rows narrows 'for every input' (looked for: loops, veiled, ifaces, maps, wideKeys, modest, calm, conditions, laid).
  DERIVED. THE GIVEN ROWS OF THIS SEAT. 4 by the template 'for every input the law returns true; each argument reads behind the call as it read before'; 0 by the template 'total and deterministic' (their statements: YtebolidfbflkmaaGreatTotals.lean).
  GIVEN WITH THE SEED: the statements are not yours to turn. If you find one false, say at which input.
  Laid BY PROGRAM, IN A SANDBOX (cutbox-rows.mjs): the forced cells as the released guide's own fill.sh prints them over the translation 51bf4bfd2df56d61… (all of the seat's roots in one cut). By AI agents, Wed Nov 11 2026. No macro, syntax, notation, axiom, sorry.
-/
import Derived.Test.YtebolidfbflkmaaGreatChecked
import GoSem.Claim
import GoSem.ClaimJoined
import GoSem.ClaimMapViews
import Derived.JoinedTies
import Derived.KernelRfl
namespace Go.Proofs.YtebolidfbflkmaaGreat
/- THE CELL 'sum', in the pinned program and in every row, IS THE sha256 OF THE DUMP (.gsa) THAT YtebolidfbflkmaaGreatProg.lean LOADS. Nothing in Lean hashes anything: it is a label: what it is worth is what the hold of that sum in a sandbox is worth. -/
noncomputable def Tryz.pinned : Pinned := { name := "ytebolidfbflkmaagreat", sum := "51bf4bfd2df56d615efb094ed8ea7197a84b274b329e9b235603f9208a25d2ca", checked := Tryz.checked }
namespace Rows
def none {H : Type} : Left H := { results := [], args := [] }

/-- 'cellularlaw29.UniverseDirect': WHATEVER THE INPUT: true; the input reads as it did. -/
def universeDirectSpec : ChangeSpec := { name := "universeDirect", fn := fun _ => fun
  | [d1, d2, d3] => { results := [.lit (.bool true)], args := [d1, d2, d3] }
  | _ => none }
def universeDirectRow : OpenClaim := { program := "ytebolidfbflkmaagreat", sum := "51bf4bfd2df56d615efb094ed8ea7197a84b274b329e9b235603f9208a25d2ca", func := "cellular/cellularlaw29.UniverseDirect", spec := "universeDirect", unfollowed := true, recurses := true, plainKeys := false, apart := false }
def UniverseDirectSaid : Prop := universeDirectRow.holds Tryz.pinned (OpenSpec.ofChange universeDirectSpec)

/-- ITS FALSE NEIGHBOUR: 'it returns false'. Refute it at one input. -/
def universeDirectWrong : ChangeSpec := { name := "universeDirect", fn := fun _ => fun
  | [d1, d2, d3] => { results := [.lit (.bool false)], args := [d1, d2, d3] }
  | _ => none }
def UniverseDirectWrongFalsely : Prop := universeDirectRow.holds Tryz.pinned (OpenSpec.ofChange universeDirectWrong)

/-- 'cellularlaw29.UniverseJumps': WHATEVER THE INPUT: true; the input reads as it did. -/
def universeJumpsSpec : ChangeSpec := { name := "universeJumps", fn := fun _ => fun
  | [d1, d2] => { results := [.lit (.bool true)], args := [d1, d2] }
  | _ => none }
def universeJumpsRow : OpenClaim := { program := "ytebolidfbflkmaagreat", sum := "51bf4bfd2df56d615efb094ed8ea7197a84b274b329e9b235603f9208a25d2ca", func := "cellular/cellularlaw29.UniverseJumps", spec := "universeJumps", unfollowed := true, recurses := true, plainKeys := false, apart := false }
def UniverseJumpsSaid : Prop := universeJumpsRow.holds Tryz.pinned (OpenSpec.ofChange universeJumpsSpec)

/-- ITS FALSE NEIGHBOUR: 'it returns false'. Refute it at one input. -/
def universeJumpsWrong : ChangeSpec := { name := "universeJumps", fn := fun _ => fun
  | [d1, d2] => { results := [.lit (.bool false)], args := [d1, d2] }
  | _ => none }
def UniverseJumpsWrongFalsely : Prop := universeJumpsRow.holds Tryz.pinned (OpenSpec.ofChange universeJumpsWrong)

/-- 'cellularlaw29.UniverseParts': WHATEVER THE INPUT: true; the input reads as it did. -/
def universePartsSpec : ChangeSpec := { name := "universeParts", fn := fun _ => fun
  | [d1, d2, d3] => { results := [.lit (.bool true)], args := [d1, d2, d3] }
  | _ => none }
def universePartsRow : OpenClaim := { program := "ytebolidfbflkmaagreat", sum := "51bf4bfd2df56d615efb094ed8ea7197a84b274b329e9b235603f9208a25d2ca", func := "cellular/cellularlaw29.UniverseParts", spec := "universeParts", unfollowed := true, recurses := true, plainKeys := false, apart := false }
def UniversePartsSaid : Prop := universePartsRow.holds Tryz.pinned (OpenSpec.ofChange universePartsSpec)

/-- ITS FALSE NEIGHBOUR: 'it returns false'. Refute it at one input. -/
def universePartsWrong : ChangeSpec := { name := "universeParts", fn := fun _ => fun
  | [d1, d2, d3] => { results := [.lit (.bool false)], args := [d1, d2, d3] }
  | _ => none }
def UniversePartsWrongFalsely : Prop := universePartsRow.holds Tryz.pinned (OpenSpec.ofChange universePartsWrong)

/-- 'cellularlaw29.UniverseNone': WHATEVER THE INPUT: true; the input reads as it did. -/
def universeNoneSpec : ChangeSpec := { name := "universeNone", fn := fun _ => fun
  | [d1, d2, d3] => { results := [.lit (.bool true)], args := [d1, d2, d3] }
  | _ => none }
def universeNoneRow : OpenClaim := { program := "ytebolidfbflkmaagreat", sum := "51bf4bfd2df56d615efb094ed8ea7197a84b274b329e9b235603f9208a25d2ca", func := "cellular/cellularlaw29.UniverseNone", spec := "universeNone", unfollowed := true, recurses := true, plainKeys := false, apart := false }
def UniverseNoneSaid : Prop := universeNoneRow.holds Tryz.pinned (OpenSpec.ofChange universeNoneSpec)

/-- ITS FALSE NEIGHBOUR: 'it returns false'. Refute it at one input. -/
def universeNoneWrong : ChangeSpec := { name := "universeNone", fn := fun _ => fun
  | [d1, d2, d3] => { results := [.lit (.bool false)], args := [d1, d2, d3] }
  | _ => none }
def UniverseNoneWrongFalsely : Prop := universeNoneRow.holds Tryz.pinned (OpenSpec.ofChange universeNoneWrong)

/- THE SECOND FORM. 'bulk': how many values and letters a reading holds, each counted each time it is reached (what is shared counts as often as it is met; a slice's spare places count too). A statement '..UptoSaid' is the law's where the arguments, and the package variables that the reading takes, are together of bulk at most 1048576: NARROWER than '..Said'. Prove '..Said' where nothing that the law and all that it calls make is longer than what came in: it says more and counts as full. Else prove '..UptoSaid'. A law counts once. -/
mutual
def uptoBulk {H : Type} : DataW H → Nat
  | .lit (.string bytes) => bytes.length + 1
  | .lit _ => 1
  | .nil => 1
  | .ptr d => uptoBulk d + 1
  | .slice elems spare => uptoBulkAll elems + uptoBulkAll spare + 1
  | .agg parts => uptoBulkAll parts + 1
  | .iface _ d => uptoBulk d + 1
  | .map entries => uptoBulkEntries entries + 1
  | .held _ => 1
def uptoBulkAll {H : Type} : List (DataW H) → Nat
  | [] => 0
  | d :: r => uptoBulk d + uptoBulkAll r
def uptoBulkEntries {H : Type} : List (Lit × DataW H) → Nat
  | [] => 0
  | x :: r => uptoBulkEntry x + uptoBulkEntries r
def uptoBulkEntry {H : Type} : Lit × DataW H → Nat
  | (.string bytes, d) => bytes.length + uptoBulk d + 1
  | (_, d) => uptoBulk d + 1
 end
def uptoSmall : (H : Type) → List (DataW H) → Bool := fun _ ds => decide (uptoBulkAll ds ≤ 1048576)
def OpenSpec.upto (s : _root_.Go.ChangeSpec) : _root_.Go.OpenSpec := { _root_.Go.OpenSpec.ofChange s with cond := some uptoSmall }

/-- 'cellularlaw29.UniverseDirect', WHERE WHAT IT READS IS OF BULK AT MOST 1048576: true; the input reads as it did. -/
def universeDirectUptoRow : OpenClaim := { program := "ytebolidfbflkmaagreat", sum := "51bf4bfd2df56d615efb094ed8ea7197a84b274b329e9b235603f9208a25d2ca", func := "cellular/cellularlaw29.UniverseDirect", spec := "universeDirect", unfollowed := true, recurses := true, plainKeys := false, apart := false, narrowed := true }
def UniverseDirectUptoSaid : Prop := universeDirectUptoRow.holds Tryz.pinned (OpenSpec.upto universeDirectSpec)

/-- 'cellularlaw29.UniverseJumps', WHERE WHAT IT READS IS OF BULK AT MOST 1048576: true; the input reads as it did. -/
def universeJumpsUptoRow : OpenClaim := { program := "ytebolidfbflkmaagreat", sum := "51bf4bfd2df56d615efb094ed8ea7197a84b274b329e9b235603f9208a25d2ca", func := "cellular/cellularlaw29.UniverseJumps", spec := "universeJumps", unfollowed := true, recurses := true, plainKeys := false, apart := false, narrowed := true }
def UniverseJumpsUptoSaid : Prop := universeJumpsUptoRow.holds Tryz.pinned (OpenSpec.upto universeJumpsSpec)

/-- 'cellularlaw29.UniverseParts', WHERE WHAT IT READS IS OF BULK AT MOST 1048576: true; the input reads as it did. -/
def universePartsUptoRow : OpenClaim := { program := "ytebolidfbflkmaagreat", sum := "51bf4bfd2df56d615efb094ed8ea7197a84b274b329e9b235603f9208a25d2ca", func := "cellular/cellularlaw29.UniverseParts", spec := "universeParts", unfollowed := true, recurses := true, plainKeys := false, apart := false, narrowed := true }
def UniversePartsUptoSaid : Prop := universePartsUptoRow.holds Tryz.pinned (OpenSpec.upto universePartsSpec)

/-- 'cellularlaw29.UniverseNone', WHERE WHAT IT READS IS OF BULK AT MOST 1048576: true; the input reads as it did. -/
def universeNoneUptoRow : OpenClaim := { program := "ytebolidfbflkmaagreat", sum := "51bf4bfd2df56d615efb094ed8ea7197a84b274b329e9b235603f9208a25d2ca", func := "cellular/cellularlaw29.UniverseNone", spec := "universeNone", unfollowed := true, recurses := true, plainKeys := false, apart := false, narrowed := true }
def UniverseNoneUptoSaid : Prop := universeNoneUptoRow.holds Tryz.pinned (OpenSpec.upto universeNoneSpec)

end Rows
end Go.Proofs.YtebolidfbflkmaaGreat
