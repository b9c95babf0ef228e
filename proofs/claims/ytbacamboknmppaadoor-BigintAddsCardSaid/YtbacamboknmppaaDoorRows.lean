/-
  NARROWER THAN 'FOR EVERY INPUT', by the rows' own cells (each row's printed sentence says how): BigintConverts: laid · BigintMultiplies: laid · BigintShifts: laid · BigintDivides: laid · BigintBits: laid · BigintTexts: laid · BigintAdds: laid.
  DERIVED. THE GIVEN ROWS OF THIS SEAT. 7 by the template 'for every input the law returns true; each argument reads behind the call as it read before'; 0 by the template 'total and deterministic' (their statements: YtbacamboknmppaaDoorTotals.lean).
  GIVEN WITH THE SEED: the statements are not yours to turn. If you find one false, say at which input.
  Laid BY PROGRAM, IN A SANDBOX (cutbox-rows.mjs): the forced cells as the released guide's own fill.sh prints them over the translation f57a3b2db69b1f3d… (all of the seat's roots in one cut). By AI agents, Wed Nov 11 2026. No macro, syntax, notation, axiom, sorry.
-/
import Derived.Test.YtbacamboknmppaaDoorChecked
import GoSem.PinnedTables
import GoSem.Claim
import GoSem.ClaimJoined
import GoSem.ClaimMapViews
import Derived.JoinedTies
import Derived.KernelRfl
namespace Go.Proofs.YtbacamboknmppaaDoor
/- THE CELL 'sum', in the pinned program and in every row, IS THE sha256 OF THE DUMP (.gsa) THAT YtbacamboknmppaaDoorProg.lean LOADS. Nothing in Lean hashes anything: it is a label: what it is worth is what the hold of that sum in a sandbox is worth. -/
noncomputable def Tryd.pinned : Pinned := { name := "ytbacamboknmppaadoor", sum := "f57a3b2db69b1f3d1b9a83c244ded2bca3fce5e4dffbd267c0cab24878893453", checked := Tryd.checked }
namespace Rows
def none {H : Type} : Left H := { results := [], args := [] }

/- WHAT THE LISTED PACKAGE-LEVEL VARIABLES READ AS WHEN THE CALL BEGINS. Each datum BY PROGRAM (the guide's laid-datum.mjs) off the statement by which the dump's own 'gosem.cut.vars' lays the variable. In a bare row this is a premise. The card (YtbacamboknmppaaDoorCards.lean) ties it to the program's text. -/
def laid_unicode_utf8_acceptRanges {H : Type} : DataW H := .agg [.agg [.lit (.int .u8 128), .lit (.int .u8 191)], .agg [.lit (.int .u8 160), .lit (.int .u8 191)], .agg [.lit (.int .u8 128), .lit (.int .u8 159)], .agg [.lit (.int .u8 144), .lit (.int .u8 191)], .agg [.lit (.int .u8 128), .lit (.int .u8 143)], .agg [.lit (.int .u8 0), .lit (.int .u8 0)], .agg [.lit (.int .u8 0), .lit (.int .u8 0)], .agg [.lit (.int .u8 0), .lit (.int .u8 0)], .agg [.lit (.int .u8 0), .lit (.int .u8 0)], .agg [.lit (.int .u8 0), .lit (.int .u8 0)], .agg [.lit (.int .u8 0), .lit (.int .u8 0)], .agg [.lit (.int .u8 0), .lit (.int .u8 0)], .agg [.lit (.int .u8 0), .lit (.int .u8 0)], .agg [.lit (.int .u8 0), .lit (.int .u8 0)], .agg [.lit (.int .u8 0), .lit (.int .u8 0)], .agg [.lit (.int .u8 0), .lit (.int .u8 0)]]
/-- One of Go's own tables, pinned by name: the form's constant. -/
def laid_unicode_utf8_first : DataW Unit := Go.Pinned.utf8First

/-- 'cellularlaw01.BigintConverts': WHATEVER THE INPUT: true; the input reads as it did. -/
def bigintConvertsSpec : ChangeSpec := { name := "bigintConverts", fn := fun _ => fun
  | [d1, d2] => { results := [.lit (.bool true)], args := [d1, d2] }
  | _ => none }
def bigintConvertsRow : OpenClaim := { program := "ytbacamboknmppaadoor", sum := "f57a3b2db69b1f3d1b9a83c244ded2bca3fce5e4dffbd267c0cab24878893453", func := "cellular/cellularlaw01.BigintConverts", spec := "bigintConverts", inPlace := ["internal/bytealg.IndexByteString", "internal/bytealg.IndexString"], unfollowed := true, recurses := true, named := ["unicode/utf8.first", "unicode/utf8.acceptRanges", "math/bits.divideError", "math/bits.overflowError", "internal/bytealg.MaxLen"], apart := false, laid := [("unicode/utf8.acceptRanges", laid_unicode_utf8_acceptRanges), ("unicode/utf8.first", laid_unicode_utf8_first)] }
def BigintConvertsSaid : Prop := bigintConvertsRow.holds Tryd.pinned (OpenSpec.ofChange bigintConvertsSpec)

/-- ITS FALSE NEIGHBOUR: 'it returns false'. Refute it at one input. -/
def bigintConvertsWrong : ChangeSpec := { name := "bigintConverts", fn := fun _ => fun
  | [d1, d2] => { results := [.lit (.bool false)], args := [d1, d2] }
  | _ => none }
def BigintConvertsWrongFalsely : Prop := bigintConvertsRow.holds Tryd.pinned (OpenSpec.ofChange bigintConvertsWrong)

/-- 'cellularlaw01.BigintMultiplies': WHATEVER THE INPUT: true; the input reads as it did. -/
def bigintMultipliesSpec : ChangeSpec := { name := "bigintMultiplies", fn := fun _ => fun
  | [d1, d2] => { results := [.lit (.bool true)], args := [d1, d2] }
  | _ => none }
def bigintMultipliesRow : OpenClaim := { program := "ytbacamboknmppaadoor", sum := "f57a3b2db69b1f3d1b9a83c244ded2bca3fce5e4dffbd267c0cab24878893453", func := "cellular/cellularlaw01.BigintMultiplies", spec := "bigintMultiplies", inPlace := ["internal/bytealg.IndexByteString", "internal/bytealg.IndexString"], unfollowed := true, recurses := true, named := ["unicode/utf8.first", "unicode/utf8.acceptRanges", "math/bits.divideError", "math/bits.overflowError", "internal/bytealg.MaxLen"], apart := false, laid := [("unicode/utf8.acceptRanges", laid_unicode_utf8_acceptRanges), ("unicode/utf8.first", laid_unicode_utf8_first)] }
def BigintMultipliesSaid : Prop := bigintMultipliesRow.holds Tryd.pinned (OpenSpec.ofChange bigintMultipliesSpec)

/-- ITS FALSE NEIGHBOUR: 'it returns false'. Refute it at one input. -/
def bigintMultipliesWrong : ChangeSpec := { name := "bigintMultiplies", fn := fun _ => fun
  | [d1, d2] => { results := [.lit (.bool false)], args := [d1, d2] }
  | _ => none }
def BigintMultipliesWrongFalsely : Prop := bigintMultipliesRow.holds Tryd.pinned (OpenSpec.ofChange bigintMultipliesWrong)

/-- 'cellularlaw01.BigintShifts': WHATEVER THE INPUT: true; the input reads as it did. -/
def bigintShiftsSpec : ChangeSpec := { name := "bigintShifts", fn := fun _ => fun
  | [d1, d2] => { results := [.lit (.bool true)], args := [d1, d2] }
  | _ => none }
def bigintShiftsRow : OpenClaim := { program := "ytbacamboknmppaadoor", sum := "f57a3b2db69b1f3d1b9a83c244ded2bca3fce5e4dffbd267c0cab24878893453", func := "cellular/cellularlaw01.BigintShifts", spec := "bigintShifts", inPlace := ["internal/bytealg.IndexByteString", "internal/bytealg.IndexString"], unfollowed := true, recurses := true, named := ["unicode/utf8.first", "unicode/utf8.acceptRanges", "math/bits.divideError", "math/bits.overflowError", "internal/bytealg.MaxLen"], apart := false, laid := [("unicode/utf8.acceptRanges", laid_unicode_utf8_acceptRanges), ("unicode/utf8.first", laid_unicode_utf8_first)] }
def BigintShiftsSaid : Prop := bigintShiftsRow.holds Tryd.pinned (OpenSpec.ofChange bigintShiftsSpec)

/-- ITS FALSE NEIGHBOUR: 'it returns false'. Refute it at one input. -/
def bigintShiftsWrong : ChangeSpec := { name := "bigintShifts", fn := fun _ => fun
  | [d1, d2] => { results := [.lit (.bool false)], args := [d1, d2] }
  | _ => none }
def BigintShiftsWrongFalsely : Prop := bigintShiftsRow.holds Tryd.pinned (OpenSpec.ofChange bigintShiftsWrong)

/-- 'cellularlaw01.BigintDivides': WHATEVER THE INPUT: true; the input reads as it did. -/
def bigintDividesSpec : ChangeSpec := { name := "bigintDivides", fn := fun _ => fun
  | [d1, d2] => { results := [.lit (.bool true)], args := [d1, d2] }
  | _ => none }
def bigintDividesRow : OpenClaim := { program := "ytbacamboknmppaadoor", sum := "f57a3b2db69b1f3d1b9a83c244ded2bca3fce5e4dffbd267c0cab24878893453", func := "cellular/cellularlaw01.BigintDivides", spec := "bigintDivides", inPlace := ["internal/bytealg.IndexByteString", "internal/bytealg.IndexString"], unfollowed := true, recurses := true, named := ["unicode/utf8.first", "unicode/utf8.acceptRanges", "math/bits.divideError", "math/bits.overflowError", "internal/bytealg.MaxLen"], apart := false, laid := [("unicode/utf8.acceptRanges", laid_unicode_utf8_acceptRanges), ("unicode/utf8.first", laid_unicode_utf8_first)] }
def BigintDividesSaid : Prop := bigintDividesRow.holds Tryd.pinned (OpenSpec.ofChange bigintDividesSpec)

/-- ITS FALSE NEIGHBOUR: 'it returns false'. Refute it at one input. -/
def bigintDividesWrong : ChangeSpec := { name := "bigintDivides", fn := fun _ => fun
  | [d1, d2] => { results := [.lit (.bool false)], args := [d1, d2] }
  | _ => none }
def BigintDividesWrongFalsely : Prop := bigintDividesRow.holds Tryd.pinned (OpenSpec.ofChange bigintDividesWrong)

/-- 'cellularlaw01.BigintBits': WHATEVER THE INPUT: true; the input reads as it did. -/
def bigintBitsSpec : ChangeSpec := { name := "bigintBits", fn := fun _ => fun
  | [d1, d2] => { results := [.lit (.bool true)], args := [d1, d2] }
  | _ => none }
def bigintBitsRow : OpenClaim := { program := "ytbacamboknmppaadoor", sum := "f57a3b2db69b1f3d1b9a83c244ded2bca3fce5e4dffbd267c0cab24878893453", func := "cellular/cellularlaw01.BigintBits", spec := "bigintBits", inPlace := ["internal/bytealg.IndexByteString", "internal/bytealg.IndexString"], unfollowed := true, recurses := true, named := ["unicode/utf8.first", "unicode/utf8.acceptRanges", "math/bits.divideError", "math/bits.overflowError", "internal/bytealg.MaxLen"], apart := false, laid := [("unicode/utf8.acceptRanges", laid_unicode_utf8_acceptRanges), ("unicode/utf8.first", laid_unicode_utf8_first)] }
def BigintBitsSaid : Prop := bigintBitsRow.holds Tryd.pinned (OpenSpec.ofChange bigintBitsSpec)

/-- ITS FALSE NEIGHBOUR: 'it returns false'. Refute it at one input. -/
def bigintBitsWrong : ChangeSpec := { name := "bigintBits", fn := fun _ => fun
  | [d1, d2] => { results := [.lit (.bool false)], args := [d1, d2] }
  | _ => none }
def BigintBitsWrongFalsely : Prop := bigintBitsRow.holds Tryd.pinned (OpenSpec.ofChange bigintBitsWrong)

/-- 'cellularlaw01.BigintTexts': WHATEVER THE INPUT: true; the input reads as it did. -/
def bigintTextsSpec : ChangeSpec := { name := "bigintTexts", fn := fun _ => fun
  | [d1, d2] => { results := [.lit (.bool true)], args := [d1, d2] }
  | _ => none }
def bigintTextsRow : OpenClaim := { program := "ytbacamboknmppaadoor", sum := "f57a3b2db69b1f3d1b9a83c244ded2bca3fce5e4dffbd267c0cab24878893453", func := "cellular/cellularlaw01.BigintTexts", spec := "bigintTexts", inPlace := ["internal/bytealg.IndexByteString", "internal/bytealg.IndexString"], unfollowed := true, recurses := true, named := ["unicode/utf8.first", "unicode/utf8.acceptRanges", "math/bits.divideError", "math/bits.overflowError", "internal/bytealg.MaxLen"], apart := false, laid := [("unicode/utf8.acceptRanges", laid_unicode_utf8_acceptRanges), ("unicode/utf8.first", laid_unicode_utf8_first)] }
def BigintTextsSaid : Prop := bigintTextsRow.holds Tryd.pinned (OpenSpec.ofChange bigintTextsSpec)

/-- ITS FALSE NEIGHBOUR: 'it returns false'. Refute it at one input. -/
def bigintTextsWrong : ChangeSpec := { name := "bigintTexts", fn := fun _ => fun
  | [d1, d2] => { results := [.lit (.bool false)], args := [d1, d2] }
  | _ => none }
def BigintTextsWrongFalsely : Prop := bigintTextsRow.holds Tryd.pinned (OpenSpec.ofChange bigintTextsWrong)

/-- 'cellularlaw01.BigintAdds': WHATEVER THE INPUT: true; the input reads as it did. -/
def bigintAddsSpec : ChangeSpec := { name := "bigintAdds", fn := fun _ => fun
  | [d1, d2] => { results := [.lit (.bool true)], args := [d1, d2] }
  | _ => none }
def bigintAddsRow : OpenClaim := { program := "ytbacamboknmppaadoor", sum := "f57a3b2db69b1f3d1b9a83c244ded2bca3fce5e4dffbd267c0cab24878893453", func := "cellular/cellularlaw01.BigintAdds", spec := "bigintAdds", inPlace := ["internal/bytealg.IndexByteString", "internal/bytealg.IndexString"], unfollowed := true, recurses := true, named := ["unicode/utf8.first", "unicode/utf8.acceptRanges", "math/bits.divideError", "math/bits.overflowError", "internal/bytealg.MaxLen"], apart := false, laid := [("unicode/utf8.acceptRanges", laid_unicode_utf8_acceptRanges), ("unicode/utf8.first", laid_unicode_utf8_first)] }
def BigintAddsSaid : Prop := bigintAddsRow.holds Tryd.pinned (OpenSpec.ofChange bigintAddsSpec)

/-- ITS FALSE NEIGHBOUR: 'it returns false'. Refute it at one input. -/
def bigintAddsWrong : ChangeSpec := { name := "bigintAdds", fn := fun _ => fun
  | [d1, d2] => { results := [.lit (.bool false)], args := [d1, d2] }
  | _ => none }
def BigintAddsWrongFalsely : Prop := bigintAddsRow.holds Tryd.pinned (OpenSpec.ofChange bigintAddsWrong)

/- THE SECOND FORM. 'bulk': how many values and letters a reading holds, each counted each time it is reached (what is shared counts as often as it is met; a slice's spare places count too). A statement '..UptoSaid' is the law's where the arguments, and the package variables that the reading takes, are together of bulk at most 1048576: NARROWER than '..Said'. Prove '..Said' where nothing that the law and all that it calls make is longer than what came in: it says more and counts as full. Else prove '..UptoSaid'. A law counts once. -/
mutual
def uptoBulk {H : Type} : DataW H → Nat
  | .lit (.string bytes) => bytes.length + 1
  | .lit _ => 1
  | .nil => 1
  | .ptr d => uptoBulk d + 1
  | .slice elems spare => uptoBulkAll elems + uptoBulkAll spare + 1
  | .agg parts => uptoBulkAll parts + 1
  | .iface _ d => uptoBulk d + 1
  | .map entries => uptoBulkEntries entries + 1
  | .held _ => 1
def uptoBulkAll {H : Type} : List (DataW H) → Nat
  | [] => 0
  | d :: r => uptoBulk d + uptoBulkAll r
def uptoBulkEntries {H : Type} : List (Lit × DataW H) → Nat
  | [] => 0
  | x :: r => uptoBulkEntry x + uptoBulkEntries r
def uptoBulkEntry {H : Type} : Lit × DataW H → Nat
  | (.string bytes, d) => bytes.length + uptoBulk d + 1
  | (_, d) => uptoBulk d + 1
 end
def uptoSmall : (H : Type) → List (DataW H) → Bool := fun _ ds => decide (uptoBulkAll ds ≤ 1048576)
def OpenSpec.upto (s : _root_.Go.ChangeSpec) : _root_.Go.OpenSpec := { _root_.Go.OpenSpec.ofChange s with cond := some uptoSmall }

/-- 'cellularlaw01.BigintConverts', WHERE WHAT IT READS IS OF BULK AT MOST 1048576: true; the input reads as it did. -/
def bigintConvertsUptoRow : OpenClaim := { program := "ytbacamboknmppaadoor", sum := "f57a3b2db69b1f3d1b9a83c244ded2bca3fce5e4dffbd267c0cab24878893453", func := "cellular/cellularlaw01.BigintConverts", spec := "bigintConverts", inPlace := ["internal/bytealg.IndexByteString", "internal/bytealg.IndexString"], unfollowed := true, recurses := true, named := ["unicode/utf8.first", "unicode/utf8.acceptRanges", "math/bits.divideError", "math/bits.overflowError", "internal/bytealg.MaxLen"], apart := false, laid := [("unicode/utf8.acceptRanges", laid_unicode_utf8_acceptRanges), ("unicode/utf8.first", laid_unicode_utf8_first)], narrowed := true }
def BigintConvertsUptoSaid : Prop := bigintConvertsUptoRow.holds Tryd.pinned (OpenSpec.upto bigintConvertsSpec)

/-- 'cellularlaw01.BigintMultiplies', WHERE WHAT IT READS IS OF BULK AT MOST 1048576: true; the input reads as it did. -/
def bigintMultipliesUptoRow : OpenClaim := { program := "ytbacamboknmppaadoor", sum := "f57a3b2db69b1f3d1b9a83c244ded2bca3fce5e4dffbd267c0cab24878893453", func := "cellular/cellularlaw01.BigintMultiplies", spec := "bigintMultiplies", inPlace := ["internal/bytealg.IndexByteString", "internal/bytealg.IndexString"], unfollowed := true, recurses := true, named := ["unicode/utf8.first", "unicode/utf8.acceptRanges", "math/bits.divideError", "math/bits.overflowError", "internal/bytealg.MaxLen"], apart := false, laid := [("unicode/utf8.acceptRanges", laid_unicode_utf8_acceptRanges), ("unicode/utf8.first", laid_unicode_utf8_first)], narrowed := true }
def BigintMultipliesUptoSaid : Prop := bigintMultipliesUptoRow.holds Tryd.pinned (OpenSpec.upto bigintMultipliesSpec)

/-- 'cellularlaw01.BigintShifts', WHERE WHAT IT READS IS OF BULK AT MOST 1048576: true; the input reads as it did. -/
def bigintShiftsUptoRow : OpenClaim := { program := "ytbacamboknmppaadoor", sum := "f57a3b2db69b1f3d1b9a83c244ded2bca3fce5e4dffbd267c0cab24878893453", func := "cellular/cellularlaw01.BigintShifts", spec := "bigintShifts", inPlace := ["internal/bytealg.IndexByteString", "internal/bytealg.IndexString"], unfollowed := true, recurses := true, named := ["unicode/utf8.first", "unicode/utf8.acceptRanges", "math/bits.divideError", "math/bits.overflowError", "internal/bytealg.MaxLen"], apart := false, laid := [("unicode/utf8.acceptRanges", laid_unicode_utf8_acceptRanges), ("unicode/utf8.first", laid_unicode_utf8_first)], narrowed := true }
def BigintShiftsUptoSaid : Prop := bigintShiftsUptoRow.holds Tryd.pinned (OpenSpec.upto bigintShiftsSpec)

/-- 'cellularlaw01.BigintDivides', WHERE WHAT IT READS IS OF BULK AT MOST 1048576: true; the input reads as it did. -/
def bigintDividesUptoRow : OpenClaim := { program := "ytbacamboknmppaadoor", sum := "f57a3b2db69b1f3d1b9a83c244ded2bca3fce5e4dffbd267c0cab24878893453", func := "cellular/cellularlaw01.BigintDivides", spec := "bigintDivides", inPlace := ["internal/bytealg.IndexByteString", "internal/bytealg.IndexString"], unfollowed := true, recurses := true, named := ["unicode/utf8.first", "unicode/utf8.acceptRanges", "math/bits.divideError", "math/bits.overflowError", "internal/bytealg.MaxLen"], apart := false, laid := [("unicode/utf8.acceptRanges", laid_unicode_utf8_acceptRanges), ("unicode/utf8.first", laid_unicode_utf8_first)], narrowed := true }
def BigintDividesUptoSaid : Prop := bigintDividesUptoRow.holds Tryd.pinned (OpenSpec.upto bigintDividesSpec)

/-- 'cellularlaw01.BigintBits', WHERE WHAT IT READS IS OF BULK AT MOST 1048576: true; the input reads as it did. -/
def bigintBitsUptoRow : OpenClaim := { program := "ytbacamboknmppaadoor", sum := "f57a3b2db69b1f3d1b9a83c244ded2bca3fce5e4dffbd267c0cab24878893453", func := "cellular/cellularlaw01.BigintBits", spec := "bigintBits", inPlace := ["internal/bytealg.IndexByteString", "internal/bytealg.IndexString"], unfollowed := true, recurses := true, named := ["unicode/utf8.first", "unicode/utf8.acceptRanges", "math/bits.divideError", "math/bits.overflowError", "internal/bytealg.MaxLen"], apart := false, laid := [("unicode/utf8.acceptRanges", laid_unicode_utf8_acceptRanges), ("unicode/utf8.first", laid_unicode_utf8_first)], narrowed := true }
def BigintBitsUptoSaid : Prop := bigintBitsUptoRow.holds Tryd.pinned (OpenSpec.upto bigintBitsSpec)

/-- 'cellularlaw01.BigintTexts', WHERE WHAT IT READS IS OF BULK AT MOST 1048576: true; the input reads as it did. -/
def bigintTextsUptoRow : OpenClaim := { program := "ytbacamboknmppaadoor", sum := "f57a3b2db69b1f3d1b9a83c244ded2bca3fce5e4dffbd267c0cab24878893453", func := "cellular/cellularlaw01.BigintTexts", spec := "bigintTexts", inPlace := ["internal/bytealg.IndexByteString", "internal/bytealg.IndexString"], unfollowed := true, recurses := true, named := ["unicode/utf8.first", "unicode/utf8.acceptRanges", "math/bits.divideError", "math/bits.overflowError", "internal/bytealg.MaxLen"], apart := false, laid := [("unicode/utf8.acceptRanges", laid_unicode_utf8_acceptRanges), ("unicode/utf8.first", laid_unicode_utf8_first)], narrowed := true }
def BigintTextsUptoSaid : Prop := bigintTextsUptoRow.holds Tryd.pinned (OpenSpec.upto bigintTextsSpec)

/-- 'cellularlaw01.BigintAdds', WHERE WHAT IT READS IS OF BULK AT MOST 1048576: true; the input reads as it did. -/
def bigintAddsUptoRow : OpenClaim := { program := "ytbacamboknmppaadoor", sum := "f57a3b2db69b1f3d1b9a83c244ded2bca3fce5e4dffbd267c0cab24878893453", func := "cellular/cellularlaw01.BigintAdds", spec := "bigintAdds", inPlace := ["internal/bytealg.IndexByteString", "internal/bytealg.IndexString"], unfollowed := true, recurses := true, named := ["unicode/utf8.first", "unicode/utf8.acceptRanges", "math/bits.divideError", "math/bits.overflowError", "internal/bytealg.MaxLen"], apart := false, laid := [("unicode/utf8.acceptRanges", laid_unicode_utf8_acceptRanges), ("unicode/utf8.first", laid_unicode_utf8_first)], narrowed := true }
def BigintAddsUptoSaid : Prop := bigintAddsUptoRow.holds Tryd.pinned (OpenSpec.upto bigintAddsSpec)

end Rows
end Go.Proofs.YtbacamboknmppaaDoor
