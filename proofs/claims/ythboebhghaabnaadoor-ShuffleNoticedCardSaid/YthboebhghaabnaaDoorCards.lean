/-
  DERIVED. GIVEN WITH THE SEED: THE CARDS: each row of YthboebhghaabnaaDoorRows.lean that lists a variable, with what it lists TIED to the program's text (the seventh form; the later family's looks); each row that meets fmt, with fmt's text TOLD by the authors' own Lean function (tested against real Go, not proved from fmt's source: count such statements apart). THE CARD IS WHAT COUNTS. Prove the row's statement (the work); the ties are given (YthboebhghaabnaaDoorTie.lean); close each card by the builder's one call (the guide's Derived/Test/ToyasCard.lean, 'card_holds'). Laid BY PROGRAM, IN A SANDBOX (cutbox-door.mjs). By AI agents, Wed Nov 11 2026. No macro, syntax, notation, axiom, sorry.
-/
import Derived.Test.YthboebhghaabnaaDoorRows
import GoSem.ClaimSeven
namespace Go.Proofs.YthboebhghaabnaaDoor
namespace Rows

/-- THE TIED CARD OF 'frankinglaw14.ShuffleOpenSpec'. -/
def shuffleOpenSpecCard : Claim7 := { stood := { row := shuffleOpenSpecRow, standIns := [], harness := (true, "f54b76d8489915e68b80f926e480ce10606e90b2484d691f225d02333209d2e2"), looks := false }, kinds := [], alts := [], laidByText := true, laidKinds := [.data, .data], laidTests := true, laidLooks := .later }
def ShuffleOpenSpecCardSaid : Prop := Claim7.holds Tryd.pinned (.plain (OpenSpec.ofChange shuffleOpenSpecSpec)) shuffleOpenSpecCard

/-- THE TIED CARD OF 'frankinglaw14.ShuffleWholeSpec'. -/
def shuffleWholeSpecCard : Claim7 := { stood := { row := shuffleWholeSpecRow, standIns := [], harness := (true, "f54b76d8489915e68b80f926e480ce10606e90b2484d691f225d02333209d2e2"), looks := false }, kinds := [], alts := [], laidByText := true, laidKinds := [.data, .data], laidTests := true, laidLooks := .later }
def ShuffleWholeSpecCardSaid : Prop := Claim7.holds Tryd.pinned (.plain (OpenSpec.ofChange shuffleWholeSpecSpec)) shuffleWholeSpecCard

/-- THE TIED CARD OF 'frankinglaw14.ShuffleSound'. -/
def shuffleSoundCard : Claim7 := { stood := { row := shuffleSoundRow, standIns := [], harness := (true, "f54b76d8489915e68b80f926e480ce10606e90b2484d691f225d02333209d2e2"), looks := false }, kinds := [], alts := [], laidByText := true, laidKinds := [.data, .data], laidTests := true, laidLooks := .later }
def ShuffleSoundCardSaid : Prop := Claim7.holds Tryd.pinned (.plain (OpenSpec.ofChange shuffleSoundSpec)) shuffleSoundCard

/-- THE TIED CARD OF 'frankinglaw14.ShuffleEither'. -/
def shuffleEitherCard : Claim7 := { stood := { row := shuffleEitherRow, standIns := [], harness := (true, "f54b76d8489915e68b80f926e480ce10606e90b2484d691f225d02333209d2e2"), looks := false }, kinds := [], alts := [], laidByText := true, laidKinds := [.data, .data], laidTests := true, laidLooks := .later }
def ShuffleEitherCardSaid : Prop := Claim7.holds Tryd.pinned (.plain (OpenSpec.ofChange shuffleEitherSpec)) shuffleEitherCard

/-- THE TIED CARD OF 'frankinglaw14.ShuffleBound'. -/
def shuffleBoundCard : Claim7 := { stood := { row := shuffleBoundRow, standIns := [], harness := (true, "f54b76d8489915e68b80f926e480ce10606e90b2484d691f225d02333209d2e2"), looks := false }, kinds := [], alts := [], laidByText := true, laidKinds := [.data, .data], laidTests := true, laidLooks := .later }
def ShuffleBoundCardSaid : Prop := Claim7.holds Tryd.pinned (.plain (OpenSpec.ofChange shuffleBoundSpec)) shuffleBoundCard

/-- THE TIED CARD OF 'frankinglaw14.ShuffleNoticed'. -/
def shuffleNoticedCard : Claim7 := { stood := { row := shuffleNoticedRow, standIns := [], harness := (true, "f54b76d8489915e68b80f926e480ce10606e90b2484d691f225d02333209d2e2"), looks := false }, kinds := [], alts := [], laidByText := true, laidKinds := [.data, .data], laidTests := true, laidLooks := .later }
def ShuffleNoticedCardSaid : Prop := Claim7.holds Tryd.pinned (.plain (OpenSpec.ofChange shuffleNoticedSpec)) shuffleNoticedCard

/-- THE TIED CARD OF 'frankinglaw14.ShuffleHonest'. -/
def shuffleHonestCard : Claim7 := { stood := { row := shuffleHonestRow, standIns := [], harness := (true, "f54b76d8489915e68b80f926e480ce10606e90b2484d691f225d02333209d2e2"), looks := false }, kinds := [], alts := [], laidByText := true, laidKinds := [.data, .data], laidTests := true, laidLooks := .later }
def ShuffleHonestCardSaid : Prop := Claim7.holds Tryd.pinned (.plain (OpenSpec.ofChange shuffleHonestSpec)) shuffleHonestCard

/-- THE SECOND FORM's CARD OF 'frankinglaw14.ShuffleOpenSpec'. -/
def shuffleOpenSpecUptoCard : Claim7 := { stood := { row := shuffleOpenSpecUptoRow, standIns := [], harness := (true, "f54b76d8489915e68b80f926e480ce10606e90b2484d691f225d02333209d2e2"), looks := false }, kinds := [], alts := [], laidByText := true, laidKinds := [.data, .data], laidTests := true, laidLooks := .later }
def ShuffleOpenSpecUptoCardSaid : Prop := Claim7.holds Tryd.pinned (.plain (OpenSpec.upto shuffleOpenSpecSpec)) shuffleOpenSpecUptoCard

/-- THE SECOND FORM's CARD OF 'frankinglaw14.ShuffleWholeSpec'. -/
def shuffleWholeSpecUptoCard : Claim7 := { stood := { row := shuffleWholeSpecUptoRow, standIns := [], harness := (true, "f54b76d8489915e68b80f926e480ce10606e90b2484d691f225d02333209d2e2"), looks := false }, kinds := [], alts := [], laidByText := true, laidKinds := [.data, .data], laidTests := true, laidLooks := .later }
def ShuffleWholeSpecUptoCardSaid : Prop := Claim7.holds Tryd.pinned (.plain (OpenSpec.upto shuffleWholeSpecSpec)) shuffleWholeSpecUptoCard

/-- THE SECOND FORM's CARD OF 'frankinglaw14.ShuffleSound'. -/
def shuffleSoundUptoCard : Claim7 := { stood := { row := shuffleSoundUptoRow, standIns := [], harness := (true, "f54b76d8489915e68b80f926e480ce10606e90b2484d691f225d02333209d2e2"), looks := false }, kinds := [], alts := [], laidByText := true, laidKinds := [.data, .data], laidTests := true, laidLooks := .later }
def ShuffleSoundUptoCardSaid : Prop := Claim7.holds Tryd.pinned (.plain (OpenSpec.upto shuffleSoundSpec)) shuffleSoundUptoCard

/-- THE SECOND FORM's CARD OF 'frankinglaw14.ShuffleEither'. -/
def shuffleEitherUptoCard : Claim7 := { stood := { row := shuffleEitherUptoRow, standIns := [], harness := (true, "f54b76d8489915e68b80f926e480ce10606e90b2484d691f225d02333209d2e2"), looks := false }, kinds := [], alts := [], laidByText := true, laidKinds := [.data, .data], laidTests := true, laidLooks := .later }
def ShuffleEitherUptoCardSaid : Prop := Claim7.holds Tryd.pinned (.plain (OpenSpec.upto shuffleEitherSpec)) shuffleEitherUptoCard

/-- THE SECOND FORM's CARD OF 'frankinglaw14.ShuffleBound'. -/
def shuffleBoundUptoCard : Claim7 := { stood := { row := shuffleBoundUptoRow, standIns := [], harness := (true, "f54b76d8489915e68b80f926e480ce10606e90b2484d691f225d02333209d2e2"), looks := false }, kinds := [], alts := [], laidByText := true, laidKinds := [.data, .data], laidTests := true, laidLooks := .later }
def ShuffleBoundUptoCardSaid : Prop := Claim7.holds Tryd.pinned (.plain (OpenSpec.upto shuffleBoundSpec)) shuffleBoundUptoCard

/-- THE SECOND FORM's CARD OF 'frankinglaw14.ShuffleNoticed'. -/
def shuffleNoticedUptoCard : Claim7 := { stood := { row := shuffleNoticedUptoRow, standIns := [], harness := (true, "f54b76d8489915e68b80f926e480ce10606e90b2484d691f225d02333209d2e2"), looks := false }, kinds := [], alts := [], laidByText := true, laidKinds := [.data, .data], laidTests := true, laidLooks := .later }
def ShuffleNoticedUptoCardSaid : Prop := Claim7.holds Tryd.pinned (.plain (OpenSpec.upto shuffleNoticedSpec)) shuffleNoticedUptoCard

/-- THE SECOND FORM's CARD OF 'frankinglaw14.ShuffleHonest'. -/
def shuffleHonestUptoCard : Claim7 := { stood := { row := shuffleHonestUptoRow, standIns := [], harness := (true, "f54b76d8489915e68b80f926e480ce10606e90b2484d691f225d02333209d2e2"), looks := false }, kinds := [], alts := [], laidByText := true, laidKinds := [.data, .data], laidTests := true, laidLooks := .later }
def ShuffleHonestUptoCardSaid : Prop := Claim7.holds Tryd.pinned (.plain (OpenSpec.upto shuffleHonestSpec)) shuffleHonestUptoCard
end Rows
end Go.Proofs.YthboebhghaabnaaDoor
