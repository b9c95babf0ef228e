/-
  No cell of these rows narrows 'for every input' (looked for: loops, veiled, ifaces, maps, wideKeys, modest, calm, conditions, laid).
  DERIVED. THE GIVEN ROWS OF THIS SEAT. 6 by the template 'for every input the law returns true; each argument reads behind the call as it read before'; 0 by the template 'total and deterministic' (their statements: YtjidldfnlejdhaaTotals.lean).
  GIVEN WITH THE SEED: the statements are not yours to turn. If you find one false, say at which input.
  Laid BY PROGRAM, IN A SANDBOX (cutbox-rows.mjs): the forced cells as the released guide's own fill.sh prints them over the translation 395210ca665c2b9b… (all of the seat's roots in one cut). By AI agents, Wed Nov 11 2026. No macro, syntax, notation, axiom, sorry.
-/
import Derived.Test.YtjidldfnlejdhaaChecked
import GoSem.Claim
import GoSem.ClaimJoined
import GoSem.ClaimMapViews
import Derived.JoinedTies
import Derived.KernelRfl
namespace Go.Proofs.Ytjidldfnlejdhaa
/- THE CELL 'sum', in the pinned program and in every row, IS THE sha256 OF THE DUMP (.gsa) THAT YtjidldfnlejdhaaProg.lean LOADS. Nothing in Lean hashes anything: it is a label: what it is worth is what the hold of that sum in a sandbox is worth. -/
noncomputable def Try.pinned : Pinned := { name := "ytjidldfnlejdhaa", sum := "395210ca665c2b9b83afd7622482ebe96f4c4c5b225ef9934fdae881b805058a", checked := Try.checked }
namespace Rows
def none {H : Type} : Left H := { results := [], args := [] }

/-- 'cellularlaw42.SolveFirst': WHATEVER THE INPUT: true; the input reads as it did. -/
def solveFirstSpec : ChangeSpec := { name := "solveFirst", fn := fun _ => fun
  | [d1, d2, d3] => { results := [.lit (.bool true)], args := [d1, d2, d3] }
  | _ => none }
def solveFirstRow : OpenClaim := { program := "ytjidldfnlejdhaa", sum := "395210ca665c2b9b83afd7622482ebe96f4c4c5b225ef9934fdae881b805058a", func := "cellular/cellularlaw42.SolveFirst", spec := "solveFirst", unfollowed := true, recurses := true, apart := false }
def SolveFirstSaid : Prop := solveFirstRow.holds Try.pinned (OpenSpec.ofChange solveFirstSpec)

/-- ITS FALSE NEIGHBOUR: 'it returns false'. Refute it at one input. -/
def solveFirstWrong : ChangeSpec := { name := "solveFirst", fn := fun _ => fun
  | [d1, d2, d3] => { results := [.lit (.bool false)], args := [d1, d2, d3] }
  | _ => none }
def SolveFirstWrongFalsely : Prop := solveFirstRow.holds Try.pinned (OpenSpec.ofChange solveFirstWrong)

/-- 'cellularlaw42.SolveAll': WHATEVER THE INPUT: true; the input reads as it did. -/
def solveAllSpec : ChangeSpec := { name := "solveAll", fn := fun _ => fun
  | [d1, d2, d3] => { results := [.lit (.bool true)], args := [d1, d2, d3] }
  | _ => none }
def solveAllRow : OpenClaim := { program := "ytjidldfnlejdhaa", sum := "395210ca665c2b9b83afd7622482ebe96f4c4c5b225ef9934fdae881b805058a", func := "cellular/cellularlaw42.SolveAll", spec := "solveAll", unfollowed := true, recurses := true, apart := false }
def SolveAllSaid : Prop := solveAllRow.holds Try.pinned (OpenSpec.ofChange solveAllSpec)

/-- ITS FALSE NEIGHBOUR: 'it returns false'. Refute it at one input. -/
def solveAllWrong : ChangeSpec := { name := "solveAll", fn := fun _ => fun
  | [d1, d2, d3] => { results := [.lit (.bool false)], args := [d1, d2, d3] }
  | _ => none }
def SolveAllWrongFalsely : Prop := solveAllRow.holds Try.pinned (OpenSpec.ofChange solveAllWrong)

/-- 'cellularlaw42.SolveCount': WHATEVER THE INPUT: true; the input reads as it did. -/
def solveCountSpec : ChangeSpec := { name := "solveCount", fn := fun _ => fun
  | [d] => { results := [.lit (.bool true)], args := [d] }
  | _ => none }
def solveCountRow : OpenClaim := { program := "ytjidldfnlejdhaa", sum := "395210ca665c2b9b83afd7622482ebe96f4c4c5b225ef9934fdae881b805058a", func := "cellular/cellularlaw42.SolveCount", spec := "solveCount", unfollowed := true, recurses := true, apart := false }
def SolveCountSaid : Prop := solveCountRow.holds Try.pinned (OpenSpec.ofChange solveCountSpec)

/-- ITS FALSE NEIGHBOUR: 'it returns false'. Refute it at one input. -/
def solveCountWrong : ChangeSpec := { name := "solveCount", fn := fun _ => fun
  | [d] => { results := [.lit (.bool false)], args := [d] }
  | _ => none }
def SolveCountWrongFalsely : Prop := solveCountRow.holds Try.pinned (OpenSpec.ofChange solveCountWrong)

/-- 'cellularlaw42.SolveOrder': WHATEVER THE INPUT: true; the input reads as it did. -/
def solveOrderSpec : ChangeSpec := { name := "solveOrder", fn := fun _ => fun
  | [d1, d2] => { results := [.lit (.bool true)], args := [d1, d2] }
  | _ => none }
def solveOrderRow : OpenClaim := { program := "ytjidldfnlejdhaa", sum := "395210ca665c2b9b83afd7622482ebe96f4c4c5b225ef9934fdae881b805058a", func := "cellular/cellularlaw42.SolveOrder", spec := "solveOrder", unfollowed := true, recurses := true, apart := false }
def SolveOrderSaid : Prop := solveOrderRow.holds Try.pinned (OpenSpec.ofChange solveOrderSpec)

/-- ITS FALSE NEIGHBOUR: 'it returns false'. Refute it at one input. -/
def solveOrderWrong : ChangeSpec := { name := "solveOrder", fn := fun _ => fun
  | [d1, d2] => { results := [.lit (.bool false)], args := [d1, d2] }
  | _ => none }
def SolveOrderWrongFalsely : Prop := solveOrderRow.holds Try.pinned (OpenSpec.ofChange solveOrderWrong)

/-- 'cellularlaw42.SolveNumber': WHATEVER THE INPUT: true; the input reads as it did. -/
def solveNumberSpec : ChangeSpec := { name := "solveNumber", fn := fun _ => fun
  | [d] => { results := [.lit (.bool true)], args := [d] }
  | _ => none }
def solveNumberRow : OpenClaim := { program := "ytjidldfnlejdhaa", sum := "395210ca665c2b9b83afd7622482ebe96f4c4c5b225ef9934fdae881b805058a", func := "cellular/cellularlaw42.SolveNumber", spec := "solveNumber", unfollowed := true, recurses := true, apart := false }
def SolveNumberSaid : Prop := solveNumberRow.holds Try.pinned (OpenSpec.ofChange solveNumberSpec)

/-- ITS FALSE NEIGHBOUR: 'it returns false'. Refute it at one input. -/
def solveNumberWrong : ChangeSpec := { name := "solveNumber", fn := fun _ => fun
  | [d] => { results := [.lit (.bool false)], args := [d] }
  | _ => none }
def SolveNumberWrongFalsely : Prop := solveNumberRow.holds Try.pinned (OpenSpec.ofChange solveNumberWrong)

/-- 'cellularlaw42.SolveSatisfies': WHATEVER THE INPUT: true; the input reads as it did. -/
def solveSatisfiesSpec : ChangeSpec := { name := "solveSatisfies", fn := fun _ => fun
  | [d1, d2] => { results := [.lit (.bool true)], args := [d1, d2] }
  | _ => none }
def solveSatisfiesRow : OpenClaim := { program := "ytjidldfnlejdhaa", sum := "395210ca665c2b9b83afd7622482ebe96f4c4c5b225ef9934fdae881b805058a", func := "cellular/cellularlaw42.SolveSatisfies", spec := "solveSatisfies", unfollowed := true, recurses := true, apart := false }
def SolveSatisfiesSaid : Prop := solveSatisfiesRow.holds Try.pinned (OpenSpec.ofChange solveSatisfiesSpec)

/-- ITS FALSE NEIGHBOUR: 'it returns false'. Refute it at one input. -/
def solveSatisfiesWrong : ChangeSpec := { name := "solveSatisfies", fn := fun _ => fun
  | [d1, d2] => { results := [.lit (.bool false)], args := [d1, d2] }
  | _ => none }
def SolveSatisfiesWrongFalsely : Prop := solveSatisfiesRow.holds Try.pinned (OpenSpec.ofChange solveSatisfiesWrong)

/- THE SECOND FORM. 'bulk': how many values and letters a reading holds, each counted each time it is reached (what is shared counts as often as it is met; a slice's spare places count too). A statement '..UptoSaid' is the law's where the arguments, and the package variables that the reading takes, are together of bulk at most 1048576: NARROWER than '..Said'. Prove '..Said' where nothing that the law and all that it calls make is longer than what came in: it says more and counts as full. Else prove '..UptoSaid'. A law counts once. -/
mutual
def uptoBulk {H : Type} : DataW H → Nat
  | .lit (.string bytes) => bytes.length + 1
  | .lit _ => 1
  | .nil => 1
  | .ptr d => uptoBulk d + 1
  | .slice elems spare => uptoBulkAll elems + uptoBulkAll spare + 1
  | .agg parts => uptoBulkAll parts + 1
  | .iface _ d => uptoBulk d + 1
  | .map entries => uptoBulkEntries entries + 1
  | .held _ => 1
def uptoBulkAll {H : Type} : List (DataW H) → Nat
  | [] => 0
  | d :: r => uptoBulk d + uptoBulkAll r
def uptoBulkEntries {H : Type} : List (Lit × DataW H) → Nat
  | [] => 0
  | x :: r => uptoBulkEntry x + uptoBulkEntries r
def uptoBulkEntry {H : Type} : Lit × DataW H → Nat
  | (.string bytes, d) => bytes.length + uptoBulk d + 1
  | (_, d) => uptoBulk d + 1
 end
def uptoSmall : (H : Type) → List (DataW H) → Bool := fun _ ds => decide (uptoBulkAll ds ≤ 1048576)
def OpenSpec.upto (s : _root_.Go.ChangeSpec) : _root_.Go.OpenSpec := { _root_.Go.OpenSpec.ofChange s with cond := some uptoSmall }

/-- 'cellularlaw42.SolveFirst', WHERE WHAT IT READS IS OF BULK AT MOST 1048576: true; the input reads as it did. -/
def solveFirstUptoRow : OpenClaim := { program := "ytjidldfnlejdhaa", sum := "395210ca665c2b9b83afd7622482ebe96f4c4c5b225ef9934fdae881b805058a", func := "cellular/cellularlaw42.SolveFirst", spec := "solveFirst", unfollowed := true, recurses := true, apart := false, narrowed := true }
def SolveFirstUptoSaid : Prop := solveFirstUptoRow.holds Try.pinned (OpenSpec.upto solveFirstSpec)

/-- 'cellularlaw42.SolveAll', WHERE WHAT IT READS IS OF BULK AT MOST 1048576: true; the input reads as it did. -/
def solveAllUptoRow : OpenClaim := { program := "ytjidldfnlejdhaa", sum := "395210ca665c2b9b83afd7622482ebe96f4c4c5b225ef9934fdae881b805058a", func := "cellular/cellularlaw42.SolveAll", spec := "solveAll", unfollowed := true, recurses := true, apart := false, narrowed := true }
def SolveAllUptoSaid : Prop := solveAllUptoRow.holds Try.pinned (OpenSpec.upto solveAllSpec)

/-- 'cellularlaw42.SolveCount', WHERE WHAT IT READS IS OF BULK AT MOST 1048576: true; the input reads as it did. -/
def solveCountUptoRow : OpenClaim := { program := "ytjidldfnlejdhaa", sum := "395210ca665c2b9b83afd7622482ebe96f4c4c5b225ef9934fdae881b805058a", func := "cellular/cellularlaw42.SolveCount", spec := "solveCount", unfollowed := true, recurses := true, apart := false, narrowed := true }
def SolveCountUptoSaid : Prop := solveCountUptoRow.holds Try.pinned (OpenSpec.upto solveCountSpec)

/-- 'cellularlaw42.SolveOrder', WHERE WHAT IT READS IS OF BULK AT MOST 1048576: true; the input reads as it did. -/
def solveOrderUptoRow : OpenClaim := { program := "ytjidldfnlejdhaa", sum := "395210ca665c2b9b83afd7622482ebe96f4c4c5b225ef9934fdae881b805058a", func := "cellular/cellularlaw42.SolveOrder", spec := "solveOrder", unfollowed := true, recurses := true, apart := false, narrowed := true }
def SolveOrderUptoSaid : Prop := solveOrderUptoRow.holds Try.pinned (OpenSpec.upto solveOrderSpec)

/-- 'cellularlaw42.SolveNumber', WHERE WHAT IT READS IS OF BULK AT MOST 1048576: true; the input reads as it did. -/
def solveNumberUptoRow : OpenClaim := { program := "ytjidldfnlejdhaa", sum := "395210ca665c2b9b83afd7622482ebe96f4c4c5b225ef9934fdae881b805058a", func := "cellular/cellularlaw42.SolveNumber", spec := "solveNumber", unfollowed := true, recurses := true, apart := false, narrowed := true }
def SolveNumberUptoSaid : Prop := solveNumberUptoRow.holds Try.pinned (OpenSpec.upto solveNumberSpec)

/-- 'cellularlaw42.SolveSatisfies', WHERE WHAT IT READS IS OF BULK AT MOST 1048576: true; the input reads as it did. -/
def solveSatisfiesUptoRow : OpenClaim := { program := "ytjidldfnlejdhaa", sum := "395210ca665c2b9b83afd7622482ebe96f4c4c5b225ef9934fdae881b805058a", func := "cellular/cellularlaw42.SolveSatisfies", spec := "solveSatisfies", unfollowed := true, recurses := true, apart := false, narrowed := true }
def SolveSatisfiesUptoSaid : Prop := solveSatisfiesUptoRow.holds Try.pinned (OpenSpec.upto solveSatisfiesSpec)

end Rows
end Go.Proofs.Ytjidldfnlejdhaa
