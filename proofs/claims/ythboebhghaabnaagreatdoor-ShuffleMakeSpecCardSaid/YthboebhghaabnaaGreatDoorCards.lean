/-
  DERIVED. GIVEN WITH THE SEED: THE CARDS: each row of YthboebhghaabnaaGreatDoorRows.lean that lists a variable, with what it lists TIED to the program's text (the seventh form; the later family's looks); each row that meets fmt, with fmt's text TOLD by the authors' own Lean function (tested against real Go, not proved from fmt's source: count such statements apart). THE CARD IS WHAT COUNTS. Prove the row's statement (the work); the ties are given (YthboebhghaabnaaGreatDoorTie.lean); close each card by the builder's one call (the guide's Derived/Test/ToyasCard.lean, 'card_holds'). Laid BY PROGRAM, IN A SANDBOX (cutbox-door.mjs). By AI agents, Wed Nov 11 2026. No macro, syntax, notation, axiom, sorry.
-/
import Derived.Test.YthboebhghaabnaaGreatDoorRows
import GoSem.ClaimSeven
namespace Go.Proofs.YthboebhghaabnaaGreatDoor
namespace Rows

/-- THE TIED CARD OF 'frankinglaw14.ShuffleMakeSpec'. -/
def shuffleMakeSpecCard : Claim7 := { stood := { row := shuffleMakeSpecRow, standIns := [], harness := (true, "cc50dfce7c08cd9d20d314f6db2fb502c8d7a4e553bb96d87ea0562b6d879595"), looks := false }, kinds := [], alts := [], laidByText := true, laidKinds := [.data, .data], laidTests := true, laidLooks := .later }
def ShuffleMakeSpecCardSaid : Prop := Claim7.holds Tryz.pinned (.plain (OpenSpec.ofChange shuffleMakeSpecSpec)) shuffleMakeSpecCard

/-- THE TIED CARD OF 'frankinglaw14.ShuffleCheckSpec'. -/
def shuffleCheckSpecCard : Claim7 := { stood := { row := shuffleCheckSpecRow, standIns := [], harness := (true, "cc50dfce7c08cd9d20d314f6db2fb502c8d7a4e553bb96d87ea0562b6d879595"), looks := false }, kinds := [], alts := [], laidByText := true, laidKinds := [.data, .data], laidTests := true, laidLooks := .later }
def ShuffleCheckSpecCardSaid : Prop := Claim7.holds Tryz.pinned (.plain (OpenSpec.ofChange shuffleCheckSpecSpec)) shuffleCheckSpecCard

/-- THE SECOND FORM's CARD OF 'frankinglaw14.ShuffleMakeSpec'. -/
def shuffleMakeSpecUptoCard : Claim7 := { stood := { row := shuffleMakeSpecUptoRow, standIns := [], harness := (true, "cc50dfce7c08cd9d20d314f6db2fb502c8d7a4e553bb96d87ea0562b6d879595"), looks := false }, kinds := [], alts := [], laidByText := true, laidKinds := [.data, .data], laidTests := true, laidLooks := .later }
def ShuffleMakeSpecUptoCardSaid : Prop := Claim7.holds Tryz.pinned (.plain (OpenSpec.upto shuffleMakeSpecSpec)) shuffleMakeSpecUptoCard

/-- THE SECOND FORM's CARD OF 'frankinglaw14.ShuffleCheckSpec'. -/
def shuffleCheckSpecUptoCard : Claim7 := { stood := { row := shuffleCheckSpecUptoRow, standIns := [], harness := (true, "cc50dfce7c08cd9d20d314f6db2fb502c8d7a4e553bb96d87ea0562b6d879595"), looks := false }, kinds := [], alts := [], laidByText := true, laidKinds := [.data, .data], laidTests := true, laidLooks := .later }
def ShuffleCheckSpecUptoCardSaid : Prop := Claim7.holds Tryz.pinned (.plain (OpenSpec.upto shuffleCheckSpecSpec)) shuffleCheckSpecUptoCard
end Rows
end Go.Proofs.YthboebhghaabnaaGreatDoor
