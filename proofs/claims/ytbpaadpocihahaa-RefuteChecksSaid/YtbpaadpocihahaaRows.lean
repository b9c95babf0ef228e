/-
  No cell of these rows narrows 'for every input' (looked for: loops, veiled, ifaces, maps, wideKeys, modest, calm, conditions, laid).
  DERIVED. THE GIVEN ROWS OF THIS SEAT. 5 by the template 'for every input the law returns true; each argument reads behind the call as it read before'; 0 by the template 'total and deterministic' (their statements: YtbpaadpocihahaaTotals.lean).
  GIVEN WITH THE SEED: the statements are not yours to turn. If you find one false, say at which input.
  Laid BY PROGRAM, IN A SANDBOX (cutbox-rows.mjs): the forced cells as the released guide's own fill.sh prints them over the translation ebef1dc6182914a3… (all of the seat's roots in one cut). By AI agents, Wed Nov 11 2026. No macro, syntax, notation, axiom, sorry.
-/
import Derived.Test.YtbpaadpocihahaaChecked
import GoSem.Claim
import GoSem.ClaimJoined
import GoSem.ClaimMapViews
import Derived.JoinedTies
import Derived.KernelRfl
namespace Go.Proofs.Ytbpaadpocihahaa
/- THE CELL 'sum', in the pinned program and in every row, IS THE sha256 OF THE DUMP (.gsa) THAT YtbpaadpocihahaaProg.lean LOADS. Nothing in Lean hashes anything: it is a label: what it is worth is what the hold of that sum in a sandbox is worth. -/
noncomputable def Try.pinned : Pinned := { name := "ytbpaadpocihahaa", sum := "ebef1dc6182914a32e12c8aba690feeb88f35c25189208a657cb0584ee44a086", checked := Try.checked }
namespace Rows
def none {H : Type} : Left H := { results := [], args := [] }

/-- 'cellularlaw43.RefuteChecks': WHATEVER THE INPUT: true; the input reads as it did. -/
def refuteChecksSpec : ChangeSpec := { name := "refuteChecks", fn := fun _ => fun
  | [d1, d2, d3] => { results := [.lit (.bool true)], args := [d1, d2, d3] }
  | _ => none }
def refuteChecksRow : OpenClaim := { program := "ytbpaadpocihahaa", sum := "ebef1dc6182914a32e12c8aba690feeb88f35c25189208a657cb0584ee44a086", func := "cellular/cellularlaw43.RefuteChecks", spec := "refuteChecks", recurses := true, apart := false }
def RefuteChecksSaid : Prop := refuteChecksRow.holds Try.pinned (OpenSpec.ofChange refuteChecksSpec)

/-- ITS FALSE NEIGHBOUR: 'it returns false'. Refute it at one input. -/
def refuteChecksWrong : ChangeSpec := { name := "refuteChecks", fn := fun _ => fun
  | [d1, d2, d3] => { results := [.lit (.bool false)], args := [d1, d2, d3] }
  | _ => none }
def RefuteChecksWrongFalsely : Prop := refuteChecksRow.holds Try.pinned (OpenSpec.ofChange refuteChecksWrong)

/-- 'cellularlaw43.RefuteTrims': WHATEVER THE INPUT: true; the input reads as it did. -/
def refuteTrimsSpec : ChangeSpec := { name := "refuteTrims", fn := fun _ => fun
  | [d1, d2] => { results := [.lit (.bool true)], args := [d1, d2] }
  | _ => none }
def refuteTrimsRow : OpenClaim := { program := "ytbpaadpocihahaa", sum := "ebef1dc6182914a32e12c8aba690feeb88f35c25189208a657cb0584ee44a086", func := "cellular/cellularlaw43.RefuteTrims", spec := "refuteTrims", recurses := true, apart := false }
def RefuteTrimsSaid : Prop := refuteTrimsRow.holds Try.pinned (OpenSpec.ofChange refuteTrimsSpec)

/-- ITS FALSE NEIGHBOUR: 'it returns false'. Refute it at one input. -/
def refuteTrimsWrong : ChangeSpec := { name := "refuteTrims", fn := fun _ => fun
  | [d1, d2] => { results := [.lit (.bool false)], args := [d1, d2] }
  | _ => none }
def RefuteTrimsWrongFalsely : Prop := refuteTrimsRow.holds Try.pinned (OpenSpec.ofChange refuteTrimsWrong)

/-- 'cellularlaw43.RefuteProves': WHATEVER THE INPUT: true; the input reads as it did. -/
def refuteProvesSpec : ChangeSpec := { name := "refuteProves", fn := fun _ => fun
  | [d] => { results := [.lit (.bool true)], args := [d] }
  | _ => none }
def refuteProvesRow : OpenClaim := { program := "ytbpaadpocihahaa", sum := "ebef1dc6182914a32e12c8aba690feeb88f35c25189208a657cb0584ee44a086", func := "cellular/cellularlaw43.RefuteProves", spec := "refuteProves", recurses := true, apart := false }
def RefuteProvesSaid : Prop := refuteProvesRow.holds Try.pinned (OpenSpec.ofChange refuteProvesSpec)

/-- ITS FALSE NEIGHBOUR: 'it returns false'. Refute it at one input. -/
def refuteProvesWrong : ChangeSpec := { name := "refuteProves", fn := fun _ => fun
  | [d] => { results := [.lit (.bool false)], args := [d] }
  | _ => none }
def RefuteProvesWrongFalsely : Prop := refuteProvesRow.holds Try.pinned (OpenSpec.ofChange refuteProvesWrong)

/-- 'cellularlaw43.RefuteMinimal': WHATEVER THE INPUT: true; the input reads as it did. -/
def refuteMinimalSpec : ChangeSpec := { name := "refuteMinimal", fn := fun _ => fun
  | [d1, d2] => { results := [.lit (.bool true)], args := [d1, d2] }
  | _ => none }
def refuteMinimalRow : OpenClaim := { program := "ytbpaadpocihahaa", sum := "ebef1dc6182914a32e12c8aba690feeb88f35c25189208a657cb0584ee44a086", func := "cellular/cellularlaw43.RefuteMinimal", spec := "refuteMinimal", recurses := true, apart := false }
def RefuteMinimalSaid : Prop := refuteMinimalRow.holds Try.pinned (OpenSpec.ofChange refuteMinimalSpec)

/-- ITS FALSE NEIGHBOUR: 'it returns false'. Refute it at one input. -/
def refuteMinimalWrong : ChangeSpec := { name := "refuteMinimal", fn := fun _ => fun
  | [d1, d2] => { results := [.lit (.bool false)], args := [d1, d2] }
  | _ => none }
def RefuteMinimalWrongFalsely : Prop := refuteMinimalRow.holds Try.pinned (OpenSpec.ofChange refuteMinimalWrong)

/-- 'cellularlaw43.RefuteSound': WHATEVER THE INPUT: true; the input reads as it did. -/
def refuteSoundSpec : ChangeSpec := { name := "refuteSound", fn := fun _ => fun
  | [d1, d2, d3] => { results := [.lit (.bool true)], args := [d1, d2, d3] }
  | _ => none }
def refuteSoundRow : OpenClaim := { program := "ytbpaadpocihahaa", sum := "ebef1dc6182914a32e12c8aba690feeb88f35c25189208a657cb0584ee44a086", func := "cellular/cellularlaw43.RefuteSound", spec := "refuteSound", unfollowed := true, recurses := true, apart := false }
def RefuteSoundSaid : Prop := refuteSoundRow.holds Try.pinned (OpenSpec.ofChange refuteSoundSpec)

/-- ITS FALSE NEIGHBOUR: 'it returns false'. Refute it at one input. -/
def refuteSoundWrong : ChangeSpec := { name := "refuteSound", fn := fun _ => fun
  | [d1, d2, d3] => { results := [.lit (.bool false)], args := [d1, d2, d3] }
  | _ => none }
def RefuteSoundWrongFalsely : Prop := refuteSoundRow.holds Try.pinned (OpenSpec.ofChange refuteSoundWrong)

/- THE SECOND FORM. 'bulk': how many values and letters a reading holds, each counted each time it is reached (what is shared counts as often as it is met; a slice's spare places count too). A statement '..UptoSaid' is the law's where the arguments, and the package variables that the reading takes, are together of bulk at most 1048576: NARROWER than '..Said'. Prove '..Said' where nothing that the law and all that it calls make is longer than what came in: it says more and counts as full. Else prove '..UptoSaid'. A law counts once. -/
mutual
def uptoBulk {H : Type} : DataW H → Nat
  | .lit (.string bytes) => bytes.length + 1
  | .lit _ => 1
  | .nil => 1
  | .ptr d => uptoBulk d + 1
  | .slice elems spare => uptoBulkAll elems + uptoBulkAll spare + 1
  | .agg parts => uptoBulkAll parts + 1
  | .iface _ d => uptoBulk d + 1
  | .map entries => uptoBulkEntries entries + 1
  | .held _ => 1
def uptoBulkAll {H : Type} : List (DataW H) → Nat
  | [] => 0
  | d :: r => uptoBulk d + uptoBulkAll r
def uptoBulkEntries {H : Type} : List (Lit × DataW H) → Nat
  | [] => 0
  | x :: r => uptoBulkEntry x + uptoBulkEntries r
def uptoBulkEntry {H : Type} : Lit × DataW H → Nat
  | (.string bytes, d) => bytes.length + uptoBulk d + 1
  | (_, d) => uptoBulk d + 1
 end
def uptoSmall : (H : Type) → List (DataW H) → Bool := fun _ ds => decide (uptoBulkAll ds ≤ 1048576)
def OpenSpec.upto (s : _root_.Go.ChangeSpec) : _root_.Go.OpenSpec := { _root_.Go.OpenSpec.ofChange s with cond := some uptoSmall }

/-- 'cellularlaw43.RefuteChecks', WHERE WHAT IT READS IS OF BULK AT MOST 1048576: true; the input reads as it did. -/
def refuteChecksUptoRow : OpenClaim := { program := "ytbpaadpocihahaa", sum := "ebef1dc6182914a32e12c8aba690feeb88f35c25189208a657cb0584ee44a086", func := "cellular/cellularlaw43.RefuteChecks", spec := "refuteChecks", recurses := true, apart := false, narrowed := true }
def RefuteChecksUptoSaid : Prop := refuteChecksUptoRow.holds Try.pinned (OpenSpec.upto refuteChecksSpec)

/-- 'cellularlaw43.RefuteTrims', WHERE WHAT IT READS IS OF BULK AT MOST 1048576: true; the input reads as it did. -/
def refuteTrimsUptoRow : OpenClaim := { program := "ytbpaadpocihahaa", sum := "ebef1dc6182914a32e12c8aba690feeb88f35c25189208a657cb0584ee44a086", func := "cellular/cellularlaw43.RefuteTrims", spec := "refuteTrims", recurses := true, apart := false, narrowed := true }
def RefuteTrimsUptoSaid : Prop := refuteTrimsUptoRow.holds Try.pinned (OpenSpec.upto refuteTrimsSpec)

/-- 'cellularlaw43.RefuteProves', WHERE WHAT IT READS IS OF BULK AT MOST 1048576: true; the input reads as it did. -/
def refuteProvesUptoRow : OpenClaim := { program := "ytbpaadpocihahaa", sum := "ebef1dc6182914a32e12c8aba690feeb88f35c25189208a657cb0584ee44a086", func := "cellular/cellularlaw43.RefuteProves", spec := "refuteProves", recurses := true, apart := false, narrowed := true }
def RefuteProvesUptoSaid : Prop := refuteProvesUptoRow.holds Try.pinned (OpenSpec.upto refuteProvesSpec)

/-- 'cellularlaw43.RefuteMinimal', WHERE WHAT IT READS IS OF BULK AT MOST 1048576: true; the input reads as it did. -/
def refuteMinimalUptoRow : OpenClaim := { program := "ytbpaadpocihahaa", sum := "ebef1dc6182914a32e12c8aba690feeb88f35c25189208a657cb0584ee44a086", func := "cellular/cellularlaw43.RefuteMinimal", spec := "refuteMinimal", recurses := true, apart := false, narrowed := true }
def RefuteMinimalUptoSaid : Prop := refuteMinimalUptoRow.holds Try.pinned (OpenSpec.upto refuteMinimalSpec)

/-- 'cellularlaw43.RefuteSound', WHERE WHAT IT READS IS OF BULK AT MOST 1048576: true; the input reads as it did. -/
def refuteSoundUptoRow : OpenClaim := { program := "ytbpaadpocihahaa", sum := "ebef1dc6182914a32e12c8aba690feeb88f35c25189208a657cb0584ee44a086", func := "cellular/cellularlaw43.RefuteSound", spec := "refuteSound", unfollowed := true, recurses := true, apart := false, narrowed := true }
def RefuteSoundUptoSaid : Prop := refuteSoundUptoRow.holds Try.pinned (OpenSpec.upto refuteSoundSpec)

end Rows
end Go.Proofs.Ytbpaadpocihahaa
