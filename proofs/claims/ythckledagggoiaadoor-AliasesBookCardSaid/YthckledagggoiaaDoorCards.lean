/-
  DERIVED. GIVEN WITH THE SEED: THE CARDS: each row of YthckledagggoiaaDoorRows.lean that lists a variable, with what it lists TIED to the program's text (the seventh form; the later family's looks); each row that meets fmt, with fmt's text TOLD by the authors' own Lean function (tested against real Go, not proved from fmt's source: count such statements apart). THE CARD IS WHAT COUNTS. Prove the row's statement (the work); the ties are given (YthckledagggoiaaDoorTie.lean); close each card by the builder's one call (the guide's Derived/Test/ToyasCard.lean, 'card_holds'). Laid BY PROGRAM, IN A SANDBOX (cutbox-door.mjs). By AI agents, Wed Nov 11 2026. No macro, syntax, notation, axiom, sorry.
-/
import Derived.Test.YthckledagggoiaaDoorRows
import GoSem.ClaimSeven
namespace Go.Proofs.YthckledagggoiaaDoor
namespace Rows

/-- THE TIED CARD OF 'frankinglaw35.AliasesMeans'. -/
def aliasesMeansCard : Claim7 := { stood := { row := aliasesMeansRow, standIns := [], harness := (true, "7a1c13b96a0cbc87df5e3c33d823b9fb8f9116caf5b115d8e38a2cd12eb65c54"), looks := false }, kinds := [], alts := [], laidByText := true, laidKinds := [.data, .data], laidTests := true, laidLooks := .later }
def AliasesMeansCardSaid : Prop := Claim7.holds Tryd.pinned (.plain (OpenSpec.ofChange aliasesMeansSpec)) aliasesMeansCard

/-- THE TIED CARD OF 'frankinglaw35.AliasesBook'. -/
def aliasesBookCard : Claim7 := { stood := { row := aliasesBookRow, standIns := [], harness := (true, "7a1c13b96a0cbc87df5e3c33d823b9fb8f9116caf5b115d8e38a2cd12eb65c54"), looks := false }, kinds := [], alts := [], laidByText := true, laidKinds := [.data, .data], laidTests := true, laidLooks := .later }
def AliasesBookCardSaid : Prop := Claim7.holds Tryd.pinned (.plain (OpenSpec.ofChange aliasesBookSpec)) aliasesBookCard

/-- THE TIED CARD OF 'frankinglaw35.AliasesHidden'. -/
def aliasesHiddenCard : Claim7 := { stood := { row := aliasesHiddenRow, standIns := [], harness := (true, "7a1c13b96a0cbc87df5e3c33d823b9fb8f9116caf5b115d8e38a2cd12eb65c54"), looks := false }, kinds := [], alts := [], laidByText := true, laidKinds := [.data, .data], laidTests := true, laidLooks := .later }
def AliasesHiddenCardSaid : Prop := Claim7.holds Tryd.pinned (.plain (OpenSpec.ofChange aliasesHiddenSpec)) aliasesHiddenCard

/-- THE TIED CARD OF 'frankinglaw35.AliasesFound'. -/
def aliasesFoundCard : Claim7 := { stood := { row := aliasesFoundRow, standIns := [], harness := (true, "7a1c13b96a0cbc87df5e3c33d823b9fb8f9116caf5b115d8e38a2cd12eb65c54"), looks := false }, kinds := [], alts := [], laidByText := true, laidKinds := [.data, .data], laidTests := true, laidLooks := .later }
def AliasesFoundCardSaid : Prop := Claim7.holds Tryd.pinned (.plain (OpenSpec.ofChange aliasesFoundSpec)) aliasesFoundCard

/-- THE SECOND FORM's CARD OF 'frankinglaw35.AliasesMeans'. -/
def aliasesMeansUptoCard : Claim7 := { stood := { row := aliasesMeansUptoRow, standIns := [], harness := (true, "7a1c13b96a0cbc87df5e3c33d823b9fb8f9116caf5b115d8e38a2cd12eb65c54"), looks := false }, kinds := [], alts := [], laidByText := true, laidKinds := [.data, .data], laidTests := true, laidLooks := .later }
def AliasesMeansUptoCardSaid : Prop := Claim7.holds Tryd.pinned (.plain (OpenSpec.upto aliasesMeansSpec)) aliasesMeansUptoCard

/-- THE SECOND FORM's CARD OF 'frankinglaw35.AliasesBook'. -/
def aliasesBookUptoCard : Claim7 := { stood := { row := aliasesBookUptoRow, standIns := [], harness := (true, "7a1c13b96a0cbc87df5e3c33d823b9fb8f9116caf5b115d8e38a2cd12eb65c54"), looks := false }, kinds := [], alts := [], laidByText := true, laidKinds := [.data, .data], laidTests := true, laidLooks := .later }
def AliasesBookUptoCardSaid : Prop := Claim7.holds Tryd.pinned (.plain (OpenSpec.upto aliasesBookSpec)) aliasesBookUptoCard

/-- THE SECOND FORM's CARD OF 'frankinglaw35.AliasesHidden'. -/
def aliasesHiddenUptoCard : Claim7 := { stood := { row := aliasesHiddenUptoRow, standIns := [], harness := (true, "7a1c13b96a0cbc87df5e3c33d823b9fb8f9116caf5b115d8e38a2cd12eb65c54"), looks := false }, kinds := [], alts := [], laidByText := true, laidKinds := [.data, .data], laidTests := true, laidLooks := .later }
def AliasesHiddenUptoCardSaid : Prop := Claim7.holds Tryd.pinned (.plain (OpenSpec.upto aliasesHiddenSpec)) aliasesHiddenUptoCard

/-- THE SECOND FORM's CARD OF 'frankinglaw35.AliasesFound'. -/
def aliasesFoundUptoCard : Claim7 := { stood := { row := aliasesFoundUptoRow, standIns := [], harness := (true, "7a1c13b96a0cbc87df5e3c33d823b9fb8f9116caf5b115d8e38a2cd12eb65c54"), looks := false }, kinds := [], alts := [], laidByText := true, laidKinds := [.data, .data], laidTests := true, laidLooks := .later }
def AliasesFoundUptoCardSaid : Prop := Claim7.holds Tryd.pinned (.plain (OpenSpec.upto aliasesFoundSpec)) aliasesFoundUptoCard
end Rows
end Go.Proofs.YthckledagggoiaaDoor
