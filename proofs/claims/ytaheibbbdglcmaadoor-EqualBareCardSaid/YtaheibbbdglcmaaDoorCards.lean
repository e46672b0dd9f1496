/-
  DERIVED. GIVEN WITH THE SEED: THE CARDS: each row of YtaheibbbdglcmaaDoorRows.lean that lists a variable, with what it lists TIED to the program's text (the seventh form; the later family's looks); each row that meets fmt, with fmt's text TOLD by the authors' own Lean function (tested against real Go, not proved from fmt's source: count such statements apart). THE CARD IS WHAT COUNTS. Prove the row's statement (the work); the ties are given (YtaheibbbdglcmaaDoorTie.lean); close each card by the builder's one call (the guide's Derived/Test/ToyasCard.lean, 'card_holds'). Laid BY PROGRAM, IN A SANDBOX (cutbox-door.mjs). By AI agents, Wed Nov 11 2026. No macro, syntax, notation, axiom, sorry.
-/
import Derived.Test.YtaheibbbdglcmaaDoorRows
import GoSem.ClaimSeven
namespace Go.Proofs.YtaheibbbdglcmaaDoor
namespace Rows

/-- THE TIED CARD OF 'frankinglaw09.GroupNumbersSpec'. -/
def groupNumbersSpecCard : Claim7 := { stood := { row := groupNumbersSpecRow, standIns := [], harness := (true, "2f56669d26dcadb51365e291e8251efc06a44d067cc54a8496ebfe1471600e4a"), looks := false }, kinds := [], alts := [], laidByText := true, laidKinds := [.data, .data], laidTests := true, laidLooks := .later }
def GroupNumbersSpecCardSaid : Prop := Claim7.holds Tryd.pinned (.plain (OpenSpec.ofChange groupNumbersSpecSpec)) groupNumbersSpecCard

/-- THE TIED CARD OF 'frankinglaw09.GroupHash'. -/
def groupHashCard : Claim7 := { stood := { row := groupHashRow, standIns := [], harness := (true, "2f56669d26dcadb51365e291e8251efc06a44d067cc54a8496ebfe1471600e4a"), looks := false }, kinds := [], alts := [], laidByText := true, laidKinds := [.data, .data], laidTests := true, laidLooks := .later }
def GroupHashCardSaid : Prop := Claim7.holds Tryd.pinned (.plain (OpenSpec.ofChange groupHashSpec)) groupHashCard

/-- THE TIED CARD OF 'frankinglaw12.EqualSpec'. -/
def equalSpecCard : Claim7 := { stood := { row := equalSpecRow, standIns := [], harness := (true, "2f56669d26dcadb51365e291e8251efc06a44d067cc54a8496ebfe1471600e4a"), looks := false }, kinds := [], alts := [], laidByText := true, laidKinds := [.data, .data], laidTests := true, laidLooks := .later }
def EqualSpecCardSaid : Prop := Claim7.holds Tryd.pinned (.plain (OpenSpec.ofChange equalSpecSpec)) equalSpecCard

/-- THE TIED CARD OF 'frankinglaw12.EqualSound'. -/
def equalSoundCard : Claim7 := { stood := { row := equalSoundRow, standIns := [], harness := (true, "2f56669d26dcadb51365e291e8251efc06a44d067cc54a8496ebfe1471600e4a"), looks := false }, kinds := [], alts := [], laidByText := true, laidKinds := [.data, .data], laidTests := true, laidLooks := .later }
def EqualSoundCardSaid : Prop := Claim7.holds Tryd.pinned (.plain (OpenSpec.ofChange equalSoundSpec)) equalSoundCard

/-- THE TIED CARD OF 'frankinglaw12.EqualProves'. -/
def equalProvesCard : Claim7 := { stood := { row := equalProvesRow, standIns := [], harness := (true, "2f56669d26dcadb51365e291e8251efc06a44d067cc54a8496ebfe1471600e4a"), looks := false }, kinds := [], alts := [], laidByText := true, laidKinds := [.data, .data], laidTests := true, laidLooks := .later }
def EqualProvesCardSaid : Prop := Claim7.holds Tryd.pinned (.plain (OpenSpec.ofChange equalProvesSpec)) equalProvesCard

/-- THE TIED CARD OF 'frankinglaw12.EqualParts'. -/
def equalPartsCard : Claim7 := { stood := { row := equalPartsRow, standIns := [], harness := (true, "2f56669d26dcadb51365e291e8251efc06a44d067cc54a8496ebfe1471600e4a"), looks := false }, kinds := [], alts := [], laidByText := true, laidKinds := [.data, .data], laidTests := true, laidLooks := .later }
def EqualPartsCardSaid : Prop := Claim7.holds Tryd.pinned (.plain (OpenSpec.ofChange equalPartsSpec)) equalPartsCard

/-- THE TIED CARD OF 'frankinglaw12.EqualBare'. -/
def equalBareCard : Claim7 := { stood := { row := equalBareRow, standIns := [], harness := (true, "2f56669d26dcadb51365e291e8251efc06a44d067cc54a8496ebfe1471600e4a"), looks := false }, kinds := [], alts := [], laidByText := true, laidKinds := [.data, .data], laidTests := true, laidLooks := .later }
def EqualBareCardSaid : Prop := Claim7.holds Tryd.pinned (.plain (OpenSpec.ofChange equalBareSpec)) equalBareCard

/-- THE SECOND FORM's CARD OF 'frankinglaw09.GroupNumbersSpec'. -/
def groupNumbersSpecUptoCard : Claim7 := { stood := { row := groupNumbersSpecUptoRow, standIns := [], harness := (true, "2f56669d26dcadb51365e291e8251efc06a44d067cc54a8496ebfe1471600e4a"), looks := false }, kinds := [], alts := [], laidByText := true, laidKinds := [.data, .data], laidTests := true, laidLooks := .later }
def GroupNumbersSpecUptoCardSaid : Prop := Claim7.holds Tryd.pinned (.plain (OpenSpec.upto groupNumbersSpecSpec)) groupNumbersSpecUptoCard

/-- THE SECOND FORM's CARD OF 'frankinglaw09.GroupHash'. -/
def groupHashUptoCard : Claim7 := { stood := { row := groupHashUptoRow, standIns := [], harness := (true, "2f56669d26dcadb51365e291e8251efc06a44d067cc54a8496ebfe1471600e4a"), looks := false }, kinds := [], alts := [], laidByText := true, laidKinds := [.data, .data], laidTests := true, laidLooks := .later }
def GroupHashUptoCardSaid : Prop := Claim7.holds Tryd.pinned (.plain (OpenSpec.upto groupHashSpec)) groupHashUptoCard

/-- THE SECOND FORM's CARD OF 'frankinglaw12.EqualSpec'. -/
def equalSpecUptoCard : Claim7 := { stood := { row := equalSpecUptoRow, standIns := [], harness := (true, "2f56669d26dcadb51365e291e8251efc06a44d067cc54a8496ebfe1471600e4a"), looks := false }, kinds := [], alts := [], laidByText := true, laidKinds := [.data, .data], laidTests := true, laidLooks := .later }
def EqualSpecUptoCardSaid : Prop := Claim7.holds Tryd.pinned (.plain (OpenSpec.upto equalSpecSpec)) equalSpecUptoCard

/-- THE SECOND FORM's CARD OF 'frankinglaw12.EqualSound'. -/
def equalSoundUptoCard : Claim7 := { stood := { row := equalSoundUptoRow, standIns := [], harness := (true, "2f56669d26dcadb51365e291e8251efc06a44d067cc54a8496ebfe1471600e4a"), looks := false }, kinds := [], alts := [], laidByText := true, laidKinds := [.data, .data], laidTests := true, laidLooks := .later }
def EqualSoundUptoCardSaid : Prop := Claim7.holds Tryd.pinned (.plain (OpenSpec.upto equalSoundSpec)) equalSoundUptoCard

/-- THE SECOND FORM's CARD OF 'frankinglaw12.EqualProves'. -/
def equalProvesUptoCard : Claim7 := { stood := { row := equalProvesUptoRow, standIns := [], harness := (true, "2f56669d26dcadb51365e291e8251efc06a44d067cc54a8496ebfe1471600e4a"), looks := false }, kinds := [], alts := [], laidByText := true, laidKinds := [.data, .data], laidTests := true, laidLooks := .later }
def EqualProvesUptoCardSaid : Prop := Claim7.holds Tryd.pinned (.plain (OpenSpec.upto equalProvesSpec)) equalProvesUptoCard

/-- THE SECOND FORM's CARD OF 'frankinglaw12.EqualParts'. -/
def equalPartsUptoCard : Claim7 := { stood := { row := equalPartsUptoRow, standIns := [], harness := (true, "2f56669d26dcadb51365e291e8251efc06a44d067cc54a8496ebfe1471600e4a"), looks := false }, kinds := [], alts := [], laidByText := true, laidKinds := [.data, .data], laidTests := true, laidLooks := .later }
def EqualPartsUptoCardSaid : Prop := Claim7.holds Tryd.pinned (.plain (OpenSpec.upto equalPartsSpec)) equalPartsUptoCard

/-- THE SECOND FORM's CARD OF 'frankinglaw12.EqualBare'. -/
def equalBareUptoCard : Claim7 := { stood := { row := equalBareUptoRow, standIns := [], harness := (true, "2f56669d26dcadb51365e291e8251efc06a44d067cc54a8496ebfe1471600e4a"), looks := false }, kinds := [], alts := [], laidByText := true, laidKinds := [.data, .data], laidTests := true, laidLooks := .later }
def EqualBareUptoCardSaid : Prop := Claim7.holds Tryd.pinned (.plain (OpenSpec.upto equalBareSpec)) equalBareUptoCard
end Rows
end Go.Proofs.YtaheibbbdglcmaaDoor
