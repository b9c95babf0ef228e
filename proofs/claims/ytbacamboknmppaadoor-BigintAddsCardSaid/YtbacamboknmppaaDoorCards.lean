/-
  DERIVED. GIVEN WITH THE SEED: THE CARDS: each row of YtbacamboknmppaaDoorRows.lean that lists a variable, with what it lists TIED to the program's text (the seventh form; the later family's looks); each row that meets fmt, with fmt's text TOLD by the authors' own Lean function (tested against real Go, not proved from fmt's source: count such statements apart). THE CARD IS WHAT COUNTS. Prove the row's statement (the work); the ties are given (YtbacamboknmppaaDoorTie.lean); close each card by the builder's one call (the guide's Derived/Test/ToyasCard.lean, 'card_holds'). Laid BY PROGRAM, IN A SANDBOX (cutbox-door.mjs). By AI agents, Wed Nov 11 2026. No macro, syntax, notation, axiom, sorry.
-/
import Derived.Test.YtbacamboknmppaaDoorRows
import GoSem.ClaimSeven
namespace Go.Proofs.YtbacamboknmppaaDoor
namespace Rows

/-- THE TIED CARD OF 'cellularlaw01.BigintConverts'. -/
def bigintConvertsCard : Claim7 := { stood := { row := bigintConvertsRow, standIns := [], harness := (true, "34eceffe4705110cd59bf1649965ab726837464e3fdfddf9474026c8cd106fef"), looks := false }, kinds := [], alts := [], laidByText := true, laidKinds := [.data, .pinned], laidTests := true, laidLooks := .later }
def BigintConvertsCardSaid : Prop := Claim7.holds Tryd.pinned (.plain (OpenSpec.ofChange bigintConvertsSpec)) bigintConvertsCard

/-- THE TIED CARD OF 'cellularlaw01.BigintMultiplies'. -/
def bigintMultipliesCard : Claim7 := { stood := { row := bigintMultipliesRow, standIns := [], harness := (true, "34eceffe4705110cd59bf1649965ab726837464e3fdfddf9474026c8cd106fef"), looks := false }, kinds := [], alts := [], laidByText := true, laidKinds := [.data, .pinned], laidTests := true, laidLooks := .later }
def BigintMultipliesCardSaid : Prop := Claim7.holds Tryd.pinned (.plain (OpenSpec.ofChange bigintMultipliesSpec)) bigintMultipliesCard

/-- THE TIED CARD OF 'cellularlaw01.BigintShifts'. -/
def bigintShiftsCard : Claim7 := { stood := { row := bigintShiftsRow, standIns := [], harness := (true, "34eceffe4705110cd59bf1649965ab726837464e3fdfddf9474026c8cd106fef"), looks := false }, kinds := [], alts := [], laidByText := true, laidKinds := [.data, .pinned], laidTests := true, laidLooks := .later }
def BigintShiftsCardSaid : Prop := Claim7.holds Tryd.pinned (.plain (OpenSpec.ofChange bigintShiftsSpec)) bigintShiftsCard

/-- THE TIED CARD OF 'cellularlaw01.BigintDivides'. -/
def bigintDividesCard : Claim7 := { stood := { row := bigintDividesRow, standIns := [], harness := (true, "34eceffe4705110cd59bf1649965ab726837464e3fdfddf9474026c8cd106fef"), looks := false }, kinds := [], alts := [], laidByText := true, laidKinds := [.data, .pinned], laidTests := true, laidLooks := .later }
def BigintDividesCardSaid : Prop := Claim7.holds Tryd.pinned (.plain (OpenSpec.ofChange bigintDividesSpec)) bigintDividesCard

/-- THE TIED CARD OF 'cellularlaw01.BigintBits'. -/
def bigintBitsCard : Claim7 := { stood := { row := bigintBitsRow, standIns := [], harness := (true, "34eceffe4705110cd59bf1649965ab726837464e3fdfddf9474026c8cd106fef"), looks := false }, kinds := [], alts := [], laidByText := true, laidKinds := [.data, .pinned], laidTests := true, laidLooks := .later }
def BigintBitsCardSaid : Prop := Claim7.holds Tryd.pinned (.plain (OpenSpec.ofChange bigintBitsSpec)) bigintBitsCard

/-- THE TIED CARD OF 'cellularlaw01.BigintTexts'. -/
def bigintTextsCard : Claim7 := { stood := { row := bigintTextsRow, standIns := [], harness := (true, "34eceffe4705110cd59bf1649965ab726837464e3fdfddf9474026c8cd106fef"), looks := false }, kinds := [], alts := [], laidByText := true, laidKinds := [.data, .pinned], laidTests := true, laidLooks := .later }
def BigintTextsCardSaid : Prop := Claim7.holds Tryd.pinned (.plain (OpenSpec.ofChange bigintTextsSpec)) bigintTextsCard

/-- THE TIED CARD OF 'cellularlaw01.BigintAdds'. -/
def bigintAddsCard : Claim7 := { stood := { row := bigintAddsRow, standIns := [], harness := (true, "34eceffe4705110cd59bf1649965ab726837464e3fdfddf9474026c8cd106fef"), looks := false }, kinds := [], alts := [], laidByText := true, laidKinds := [.data, .pinned], laidTests := true, laidLooks := .later }
def BigintAddsCardSaid : Prop := Claim7.holds Tryd.pinned (.plain (OpenSpec.ofChange bigintAddsSpec)) bigintAddsCard

/-- THE SECOND FORM's CARD OF 'cellularlaw01.BigintConverts'. -/
def bigintConvertsUptoCard : Claim7 := { stood := { row := bigintConvertsUptoRow, standIns := [], harness := (true, "34eceffe4705110cd59bf1649965ab726837464e3fdfddf9474026c8cd106fef"), looks := false }, kinds := [], alts := [], laidByText := true, laidKinds := [.data, .pinned], laidTests := true, laidLooks := .later }
def BigintConvertsUptoCardSaid : Prop := Claim7.holds Tryd.pinned (.plain (OpenSpec.upto bigintConvertsSpec)) bigintConvertsUptoCard

/-- THE SECOND FORM's CARD OF 'cellularlaw01.BigintMultiplies'. -/
def bigintMultipliesUptoCard : Claim7 := { stood := { row := bigintMultipliesUptoRow, standIns := [], harness := (true, "34eceffe4705110cd59bf1649965ab726837464e3fdfddf9474026c8cd106fef"), looks := false }, kinds := [], alts := [], laidByText := true, laidKinds := [.data, .pinned], laidTests := true, laidLooks := .later }
def BigintMultipliesUptoCardSaid : Prop := Claim7.holds Tryd.pinned (.plain (OpenSpec.upto bigintMultipliesSpec)) bigintMultipliesUptoCard

/-- THE SECOND FORM's CARD OF 'cellularlaw01.BigintShifts'. -/
def bigintShiftsUptoCard : Claim7 := { stood := { row := bigintShiftsUptoRow, standIns := [], harness := (true, "34eceffe4705110cd59bf1649965ab726837464e3fdfddf9474026c8cd106fef"), looks := false }, kinds := [], alts := [], laidByText := true, laidKinds := [.data, .pinned], laidTests := true, laidLooks := .later }
def BigintShiftsUptoCardSaid : Prop := Claim7.holds Tryd.pinned (.plain (OpenSpec.upto bigintShiftsSpec)) bigintShiftsUptoCard

/-- THE SECOND FORM's CARD OF 'cellularlaw01.BigintDivides'. -/
def bigintDividesUptoCard : Claim7 := { stood := { row := bigintDividesUptoRow, standIns := [], harness := (true, "34eceffe4705110cd59bf1649965ab726837464e3fdfddf9474026c8cd106fef"), looks := false }, kinds := [], alts := [], laidByText := true, laidKinds := [.data, .pinned], laidTests := true, laidLooks := .later }
def BigintDividesUptoCardSaid : Prop := Claim7.holds Tryd.pinned (.plain (OpenSpec.upto bigintDividesSpec)) bigintDividesUptoCard

/-- THE SECOND FORM's CARD OF 'cellularlaw01.BigintBits'. -/
def bigintBitsUptoCard : Claim7 := { stood := { row := bigintBitsUptoRow, standIns := [], harness := (true, "34eceffe4705110cd59bf1649965ab726837464e3fdfddf9474026c8cd106fef"), looks := false }, kinds := [], alts := [], laidByText := true, laidKinds := [.data, .pinned], laidTests := true, laidLooks := .later }
def BigintBitsUptoCardSaid : Prop := Claim7.holds Tryd.pinned (.plain (OpenSpec.upto bigintBitsSpec)) bigintBitsUptoCard

/-- THE SECOND FORM's CARD OF 'cellularlaw01.BigintTexts'. -/
def bigintTextsUptoCard : Claim7 := { stood := { row := bigintTextsUptoRow, standIns := [], harness := (true, "34eceffe4705110cd59bf1649965ab726837464e3fdfddf9474026c8cd106fef"), looks := false }, kinds := [], alts := [], laidByText := true, laidKinds := [.data, .pinned], laidTests := true, laidLooks := .later }
def BigintTextsUptoCardSaid : Prop := Claim7.holds Tryd.pinned (.plain (OpenSpec.upto bigintTextsSpec)) bigintTextsUptoCard

/-- THE SECOND FORM's CARD OF 'cellularlaw01.BigintAdds'. -/
def bigintAddsUptoCard : Claim7 := { stood := { row := bigintAddsUptoRow, standIns := [], harness := (true, "34eceffe4705110cd59bf1649965ab726837464e3fdfddf9474026c8cd106fef"), looks := false }, kinds := [], alts := [], laidByText := true, laidKinds := [.data, .pinned], laidTests := true, laidLooks := .later }
def BigintAddsUptoCardSaid : Prop := Claim7.holds Tryd.pinned (.plain (OpenSpec.upto bigintAddsSpec)) bigintAddsUptoCard
end Rows
end Go.Proofs.YtbacamboknmppaaDoor
