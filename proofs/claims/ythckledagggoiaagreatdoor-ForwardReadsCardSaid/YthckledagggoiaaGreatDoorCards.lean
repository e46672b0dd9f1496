/-
  DERIVED. GIVEN WITH THE SEED: THE CARDS: each row of YthckledagggoiaaGreatDoorRows.lean that lists a variable, with what it lists TIED to the program's text (the seventh form; the later family's looks); each row that meets fmt, with fmt's text TOLD by the authors' own Lean function (tested against real Go, not proved from fmt's source: count such statements apart). THE CARD IS WHAT COUNTS. Prove the row's statement (the work); the ties are given (YthckledagggoiaaGreatDoorTie.lean); close each card by the builder's one call (the guide's Derived/Test/ToyasCard.lean, 'card_holds'). Laid BY PROGRAM, IN A SANDBOX (cutbox-door.mjs). By AI agents, Wed Nov 11 2026. No macro, syntax, notation, axiom, sorry.
-/
import Derived.Test.YthckledagggoiaaGreatDoorRows
import GoSem.ClaimSeven
namespace Go.Proofs.YthckledagggoiaaGreatDoor
namespace Rows

/-- THE TIED CARD OF 'frankinglaw36.ForwardSpec'. -/
def forwardSpecCard : Claim7 := { stood := { row := forwardSpecRow, standIns := [], harness := (true, "524a9cedd10f0b5e073c18fc7e48573207ba73c1ab2a4d298558a3ad3b8df708"), looks := true }, kinds := [], alts := [], laidByText := true, laidKinds := [.data, .data], laidTests := true, laidLooks := .later }
def ForwardSpecCardSaid : Prop := Claim7.holds Tryz.pinned (.plain (OpenSpec.ofChange forwardSpecSpec)) forwardSpecCard

/-- THE TIED CARD OF 'frankinglaw36.ForwardSame'. -/
def forwardSameCard : Claim7 := { stood := { row := forwardSameRow, standIns := [], harness := (true, "524a9cedd10f0b5e073c18fc7e48573207ba73c1ab2a4d298558a3ad3b8df708"), looks := true }, kinds := [], alts := [], laidByText := true, laidKinds := [.data, .data], laidTests := true, laidLooks := .later }
def ForwardSameCardSaid : Prop := Claim7.holds Tryz.pinned (.plain (OpenSpec.ofChange forwardSameSpec)) forwardSameCard

/-- THE TIED CARD OF 'frankinglaw36.ForwardHidden'. -/
def forwardHiddenCard : Claim7 := { stood := { row := forwardHiddenRow, standIns := [], harness := (true, "524a9cedd10f0b5e073c18fc7e48573207ba73c1ab2a4d298558a3ad3b8df708"), looks := true }, kinds := [], alts := [], laidByText := true, laidKinds := [.data, .data], laidTests := true, laidLooks := .later }
def ForwardHiddenCardSaid : Prop := Claim7.holds Tryz.pinned (.plain (OpenSpec.ofChange forwardHiddenSpec)) forwardHiddenCard

/-- THE TIED CARD OF 'frankinglaw36.ForwardReads'. -/
def forwardReadsCard : Claim7 := { stood := { row := forwardReadsRow, standIns := [], harness := (true, "524a9cedd10f0b5e073c18fc7e48573207ba73c1ab2a4d298558a3ad3b8df708"), looks := true }, kinds := [], alts := [], laidByText := true, laidKinds := [.data, .data], laidTests := true, laidLooks := .later }
def ForwardReadsCardSaid : Prop := Claim7.holds Tryz.pinned (.plain (OpenSpec.ofChange forwardReadsSpec)) forwardReadsCard

/-- THE TIED CARD OF 'frankinglaw35.AliasesSpec'. -/
def aliasesSpecCard : Claim7 := { stood := { row := aliasesSpecRow, standIns := [], harness := (true, "524a9cedd10f0b5e073c18fc7e48573207ba73c1ab2a4d298558a3ad3b8df708"), looks := true }, kinds := [], alts := [], laidByText := true, laidKinds := [.data, .data], laidTests := true, laidLooks := .later }
def AliasesSpecCardSaid : Prop := Claim7.holds Tryz.pinned (.plain (OpenSpec.ofChange aliasesSpecSpec)) aliasesSpecCard

/-- THE TIED CARD OF 'frankinglaw35.AliasesBookSpec'. -/
def aliasesBookSpecCard : Claim7 := { stood := { row := aliasesBookSpecRow, standIns := [], harness := (true, "524a9cedd10f0b5e073c18fc7e48573207ba73c1ab2a4d298558a3ad3b8df708"), looks := true }, kinds := [], alts := [], laidByText := true, laidKinds := [.data, .data], laidTests := true, laidLooks := .later }
def AliasesBookSpecCardSaid : Prop := Claim7.holds Tryz.pinned (.plain (OpenSpec.ofChange aliasesBookSpecSpec)) aliasesBookSpecCard

/-- THE SECOND FORM's CARD OF 'frankinglaw36.ForwardSpec'. -/
def forwardSpecUptoCard : Claim7 := { stood := { row := forwardSpecUptoRow, standIns := [], harness := (true, "524a9cedd10f0b5e073c18fc7e48573207ba73c1ab2a4d298558a3ad3b8df708"), looks := true }, kinds := [], alts := [], laidByText := true, laidKinds := [.data, .data], laidTests := true, laidLooks := .later }
def ForwardSpecUptoCardSaid : Prop := Claim7.holds Tryz.pinned (.plain (OpenSpec.upto forwardSpecSpec)) forwardSpecUptoCard

/-- THE SECOND FORM's CARD OF 'frankinglaw36.ForwardSame'. -/
def forwardSameUptoCard : Claim7 := { stood := { row := forwardSameUptoRow, standIns := [], harness := (true, "524a9cedd10f0b5e073c18fc7e48573207ba73c1ab2a4d298558a3ad3b8df708"), looks := true }, kinds := [], alts := [], laidByText := true, laidKinds := [.data, .data], laidTests := true, laidLooks := .later }
def ForwardSameUptoCardSaid : Prop := Claim7.holds Tryz.pinned (.plain (OpenSpec.upto forwardSameSpec)) forwardSameUptoCard

/-- THE SECOND FORM's CARD OF 'frankinglaw36.ForwardHidden'. -/
def forwardHiddenUptoCard : Claim7 := { stood := { row := forwardHiddenUptoRow, standIns := [], harness := (true, "524a9cedd10f0b5e073c18fc7e48573207ba73c1ab2a4d298558a3ad3b8df708"), looks := true }, kinds := [], alts := [], laidByText := true, laidKinds := [.data, .data], laidTests := true, laidLooks := .later }
def ForwardHiddenUptoCardSaid : Prop := Claim7.holds Tryz.pinned (.plain (OpenSpec.upto forwardHiddenSpec)) forwardHiddenUptoCard

/-- THE SECOND FORM's CARD OF 'frankinglaw36.ForwardReads'. -/
def forwardReadsUptoCard : Claim7 := { stood := { row := forwardReadsUptoRow, standIns := [], harness := (true, "524a9cedd10f0b5e073c18fc7e48573207ba73c1ab2a4d298558a3ad3b8df708"), looks := true }, kinds := [], alts := [], laidByText := true, laidKinds := [.data, .data], laidTests := true, laidLooks := .later }
def ForwardReadsUptoCardSaid : Prop := Claim7.holds Tryz.pinned (.plain (OpenSpec.upto forwardReadsSpec)) forwardReadsUptoCard

/-- THE SECOND FORM's CARD OF 'frankinglaw35.AliasesSpec'. -/
def aliasesSpecUptoCard : Claim7 := { stood := { row := aliasesSpecUptoRow, standIns := [], harness := (true, "524a9cedd10f0b5e073c18fc7e48573207ba73c1ab2a4d298558a3ad3b8df708"), looks := true }, kinds := [], alts := [], laidByText := true, laidKinds := [.data, .data], laidTests := true, laidLooks := .later }
def AliasesSpecUptoCardSaid : Prop := Claim7.holds Tryz.pinned (.plain (OpenSpec.upto aliasesSpecSpec)) aliasesSpecUptoCard

/-- THE SECOND FORM's CARD OF 'frankinglaw35.AliasesBookSpec'. -/
def aliasesBookSpecUptoCard : Claim7 := { stood := { row := aliasesBookSpecUptoRow, standIns := [], harness := (true, "524a9cedd10f0b5e073c18fc7e48573207ba73c1ab2a4d298558a3ad3b8df708"), looks := true }, kinds := [], alts := [], laidByText := true, laidKinds := [.data, .data], laidTests := true, laidLooks := .later }
def AliasesBookSpecUptoCardSaid : Prop := Claim7.holds Tryz.pinned (.plain (OpenSpec.upto aliasesBookSpecSpec)) aliasesBookSpecUptoCard
end Rows
end Go.Proofs.YthckledagggoiaaGreatDoor
