/-
  No cell of these rows narrows 'for every input' (looked for: loops, veiled, ifaces, maps, wideKeys, modest, calm, conditions, laid).
  DERIVED. THE GIVEN ROWS OF THIS SEAT. 10 by the template 'for every input the law returns true; each argument reads behind the call as it read before'; 0 by the template 'total and deterministic' (their statements: YtlenfjpogmmfhaaTotals.lean).
  GIVEN WITH THE SEED: the statements are not yours to turn. If you find one false, say at which input.
  Laid BY PROGRAM, IN A SANDBOX (cutbox-rows.mjs): the forced cells as the released guide's own fill.sh prints them over the translation 57d330efa6b79c10… (all of the seat's roots in one cut). By AI agents, Wed Nov 11 2026. No macro, syntax, notation, axiom, sorry.
-/
import Derived.Test.YtlenfjpogmmfhaaChecked
import GoSem.Claim
import GoSem.ClaimJoined
import GoSem.ClaimMapViews
import Derived.JoinedTies
import Derived.KernelRfl
namespace Go.Proofs.Ytlenfjpogmmfhaa
/- THE CELL 'sum', in the pinned program and in every row, IS THE sha256 OF THE DUMP (.gsa) THAT YtlenfjpogmmfhaaProg.lean LOADS. Nothing in Lean hashes anything: it is a label: what it is worth is what the hold of that sum in a sandbox is worth. -/
noncomputable def Try.pinned : Pinned := { name := "ytlenfjpogmmfhaa", sum := "57d330efa6b79c10846aaa9e998d4e5a2b6fc31e195dafa785756d4b55759232", checked := Try.checked }
namespace Rows
def none {H : Type} : Left H := { results := [], args := [] }

/-- 'frankinglaw09.GroupSpec': WHATEVER THE INPUT: true; the input reads as it did. -/
def groupSpecSpec : ChangeSpec := { name := "groupSpec", fn := fun _ => fun
  | [d1, d2, d3] => { results := [.lit (.bool true)], args := [d1, d2, d3] }
  | _ => none }
def groupSpecRow : OpenClaim := { program := "ytlenfjpogmmfhaa", sum := "57d330efa6b79c10846aaa9e998d4e5a2b6fc31e195dafa785756d4b55759232", func := "franking/frankinglaw09.GroupSpec", spec := "groupSpec", unfollowed := true, recurses := true, apart := false }
def GroupSpecSaid : Prop := groupSpecRow.holds Try.pinned (OpenSpec.ofChange groupSpecSpec)

/-- ITS FALSE NEIGHBOUR: 'it returns false'. Refute it at one input. -/
def groupSpecWrong : ChangeSpec := { name := "groupSpec", fn := fun _ => fun
  | [d1, d2, d3] => { results := [.lit (.bool false)], args := [d1, d2, d3] }
  | _ => none }
def GroupSpecWrongFalsely : Prop := groupSpecRow.holds Try.pinned (OpenSpec.ofChange groupSpecWrong)

/-- 'frankinglaw09.GroupLaws': WHATEVER THE INPUT: true; the input reads as it did. -/
def groupLawsSpec : ChangeSpec := { name := "groupLaws", fn := fun _ => fun
  | [d1, d2, d3] => { results := [.lit (.bool true)], args := [d1, d2, d3] }
  | _ => none }
def groupLawsRow : OpenClaim := { program := "ytlenfjpogmmfhaa", sum := "57d330efa6b79c10846aaa9e998d4e5a2b6fc31e195dafa785756d4b55759232", func := "franking/frankinglaw09.GroupLaws", spec := "groupLaws", unfollowed := true, recurses := true, apart := false }
def GroupLawsSaid : Prop := groupLawsRow.holds Try.pinned (OpenSpec.ofChange groupLawsSpec)

/-- ITS FALSE NEIGHBOUR: 'it returns false'. Refute it at one input. -/
def groupLawsWrong : ChangeSpec := { name := "groupLaws", fn := fun _ => fun
  | [d1, d2, d3] => { results := [.lit (.bool false)], args := [d1, d2, d3] }
  | _ => none }
def GroupLawsWrongFalsely : Prop := groupLawsRow.holds Try.pinned (OpenSpec.ofChange groupLawsWrong)

/-- 'frankinglaw09.GroupPowers': WHATEVER THE INPUT: true; the input reads as it did. -/
def groupPowersSpec : ChangeSpec := { name := "groupPowers", fn := fun _ => fun
  | [d1, d2, d3, d4] => { results := [.lit (.bool true)], args := [d1, d2, d3, d4] }
  | _ => none }
def groupPowersRow : OpenClaim := { program := "ytlenfjpogmmfhaa", sum := "57d330efa6b79c10846aaa9e998d4e5a2b6fc31e195dafa785756d4b55759232", func := "franking/frankinglaw09.GroupPowers", spec := "groupPowers", unfollowed := true, recurses := true, apart := false }
def GroupPowersSaid : Prop := groupPowersRow.holds Try.pinned (OpenSpec.ofChange groupPowersSpec)

/-- ITS FALSE NEIGHBOUR: 'it returns false'. Refute it at one input. -/
def groupPowersWrong : ChangeSpec := { name := "groupPowers", fn := fun _ => fun
  | [d1, d2, d3, d4] => { results := [.lit (.bool false)], args := [d1, d2, d3, d4] }
  | _ => none }
def GroupPowersWrongFalsely : Prop := groupPowersRow.holds Try.pinned (OpenSpec.ofChange groupPowersWrong)

/-- 'frankinglaw09.GroupSquares': WHATEVER THE INPUT: true; the input reads as it did. -/
def groupSquaresSpec : ChangeSpec := { name := "groupSquares", fn := fun _ => fun
  | [d] => { results := [.lit (.bool true)], args := [d] }
  | _ => none }
def groupSquaresRow : OpenClaim := { program := "ytlenfjpogmmfhaa", sum := "57d330efa6b79c10846aaa9e998d4e5a2b6fc31e195dafa785756d4b55759232", func := "franking/frankinglaw09.GroupSquares", spec := "groupSquares", unfollowed := true, recurses := true, apart := false }
def GroupSquaresSaid : Prop := groupSquaresRow.holds Try.pinned (OpenSpec.ofChange groupSquaresSpec)

/-- ITS FALSE NEIGHBOUR: 'it returns false'. Refute it at one input. -/
def groupSquaresWrong : ChangeSpec := { name := "groupSquares", fn := fun _ => fun
  | [d] => { results := [.lit (.bool false)], args := [d] }
  | _ => none }
def GroupSquaresWrongFalsely : Prop := groupSquaresRow.holds Try.pinned (OpenSpec.ofChange groupSquaresWrong)

/-- 'frankinglaw09.GroupInverse': WHATEVER THE INPUT: true; the input reads as it did. -/
def groupInverseSpec : ChangeSpec := { name := "groupInverse", fn := fun _ => fun
  | [d1, d2] => { results := [.lit (.bool true)], args := [d1, d2] }
  | _ => none }
def groupInverseRow : OpenClaim := { program := "ytlenfjpogmmfhaa", sum := "57d330efa6b79c10846aaa9e998d4e5a2b6fc31e195dafa785756d4b55759232", func := "franking/frankinglaw09.GroupInverse", spec := "groupInverse", unfollowed := true, recurses := true, apart := false }
def GroupInverseSaid : Prop := groupInverseRow.holds Try.pinned (OpenSpec.ofChange groupInverseSpec)

/-- ITS FALSE NEIGHBOUR: 'it returns false'. Refute it at one input. -/
def groupInverseWrong : ChangeSpec := { name := "groupInverse", fn := fun _ => fun
  | [d1, d2] => { results := [.lit (.bool false)], args := [d1, d2] }
  | _ => none }
def GroupInverseWrongFalsely : Prop := groupInverseRow.holds Try.pinned (OpenSpec.ofChange groupInverseWrong)

/-- 'frankinglaw47.EpochsSpec': WHATEVER THE INPUT: true; the input reads as it did. -/
def epochsSpecSpec : ChangeSpec := { name := "epochsSpec", fn := fun _ => fun
  | [d1, d2, d3] => { results := [.lit (.bool true)], args := [d1, d2, d3] }
  | _ => none }
def epochsSpecRow : OpenClaim := { program := "ytlenfjpogmmfhaa", sum := "57d330efa6b79c10846aaa9e998d4e5a2b6fc31e195dafa785756d4b55759232", func := "franking/frankinglaw47.EpochsSpec", spec := "epochsSpec", unfollowed := true, recurses := true, apart := false }
def EpochsSpecSaid : Prop := epochsSpecRow.holds Try.pinned (OpenSpec.ofChange epochsSpecSpec)

/-- ITS FALSE NEIGHBOUR: 'it returns false'. Refute it at one input. -/
def epochsSpecWrong : ChangeSpec := { name := "epochsSpec", fn := fun _ => fun
  | [d1, d2, d3] => { results := [.lit (.bool false)], args := [d1, d2, d3] }
  | _ => none }
def EpochsSpecWrongFalsely : Prop := epochsSpecRow.holds Try.pinned (OpenSpec.ofChange epochsSpecWrong)

/-- 'frankinglaw47.EpochsSharesSpec': WHATEVER THE INPUT: true; the input reads as it did. -/
def epochsSharesSpecSpec : ChangeSpec := { name := "epochsSharesSpec", fn := fun _ => fun
  | [d1, d2, d3, d4, d5] => { results := [.lit (.bool true)], args := [d1, d2, d3, d4, d5] }
  | _ => none }
def epochsSharesSpecRow : OpenClaim := { program := "ytlenfjpogmmfhaa", sum := "57d330efa6b79c10846aaa9e998d4e5a2b6fc31e195dafa785756d4b55759232", func := "franking/frankinglaw47.EpochsSharesSpec", spec := "epochsSharesSpec", unfollowed := true, recurses := true, apart := false }
def EpochsSharesSpecSaid : Prop := epochsSharesSpecRow.holds Try.pinned (OpenSpec.ofChange epochsSharesSpecSpec)

/-- ITS FALSE NEIGHBOUR: 'it returns false'. Refute it at one input. -/
def epochsSharesSpecWrong : ChangeSpec := { name := "epochsSharesSpec", fn := fun _ => fun
  | [d1, d2, d3, d4, d5] => { results := [.lit (.bool false)], args := [d1, d2, d3, d4, d5] }
  | _ => none }
def EpochsSharesSpecWrongFalsely : Prop := epochsSharesSpecRow.holds Try.pinned (OpenSpec.ofChange epochsSharesSpecWrong)

/-- 'frankinglaw47.EpochsLater': WHATEVER THE INPUT: true; the input reads as it did. -/
def epochsLaterSpec : ChangeSpec := { name := "epochsLater", fn := fun _ => fun
  | [d1, d2, d3] => { results := [.lit (.bool true)], args := [d1, d2, d3] }
  | _ => none }
def epochsLaterRow : OpenClaim := { program := "ytlenfjpogmmfhaa", sum := "57d330efa6b79c10846aaa9e998d4e5a2b6fc31e195dafa785756d4b55759232", func := "franking/frankinglaw47.EpochsLater", spec := "epochsLater", unfollowed := true, recurses := true, apart := false }
def EpochsLaterSaid : Prop := epochsLaterRow.holds Try.pinned (OpenSpec.ofChange epochsLaterSpec)

/-- ITS FALSE NEIGHBOUR: 'it returns false'. Refute it at one input. -/
def epochsLaterWrong : ChangeSpec := { name := "epochsLater", fn := fun _ => fun
  | [d1, d2, d3] => { results := [.lit (.bool false)], args := [d1, d2, d3] }
  | _ => none }
def EpochsLaterWrongFalsely : Prop := epochsLaterRow.holds Try.pinned (OpenSpec.ofChange epochsLaterWrong)

/-- 'frankinglaw47.EpochsShares': WHATEVER THE INPUT: true; the input reads as it did. -/
def epochsSharesSpec : ChangeSpec := { name := "epochsShares", fn := fun _ => fun
  | [d1, d2, d3, d4, d5] => { results := [.lit (.bool true)], args := [d1, d2, d3, d4, d5] }
  | _ => none }
def epochsSharesRow : OpenClaim := { program := "ytlenfjpogmmfhaa", sum := "57d330efa6b79c10846aaa9e998d4e5a2b6fc31e195dafa785756d4b55759232", func := "franking/frankinglaw47.EpochsShares", spec := "epochsShares", unfollowed := true, recurses := true, apart := false }
def EpochsSharesSaid : Prop := epochsSharesRow.holds Try.pinned (OpenSpec.ofChange epochsSharesSpec)

/-- ITS FALSE NEIGHBOUR: 'it returns false'. Refute it at one input. -/
def epochsSharesWrong : ChangeSpec := { name := "epochsShares", fn := fun _ => fun
  | [d1, d2, d3, d4, d5] => { results := [.lit (.bool false)], args := [d1, d2, d3, d4, d5] }
  | _ => none }
def EpochsSharesWrongFalsely : Prop := epochsSharesRow.holds Try.pinned (OpenSpec.ofChange epochsSharesWrong)

/-- 'frankinglaw47.EpochsHidden': WHATEVER THE INPUT: true; the input reads as it did. -/
def epochsHiddenSpec : ChangeSpec := { name := "epochsHidden", fn := fun _ => fun
  | [d1, d2, d3, d4, d5] => { results := [.lit (.bool true)], args := [d1, d2, d3, d4, d5] }
  | _ => none }
def epochsHiddenRow : OpenClaim := { program := "ytlenfjpogmmfhaa", sum := "57d330efa6b79c10846aaa9e998d4e5a2b6fc31e195dafa785756d4b55759232", func := "franking/frankinglaw47.EpochsHidden", spec := "epochsHidden", unfollowed := true, recurses := true, apart := false }
def EpochsHiddenSaid : Prop := epochsHiddenRow.holds Try.pinned (OpenSpec.ofChange epochsHiddenSpec)

/-- ITS FALSE NEIGHBOUR: 'it returns false'. Refute it at one input. -/
def epochsHiddenWrong : ChangeSpec := { name := "epochsHidden", fn := fun _ => fun
  | [d1, d2, d3, d4, d5] => { results := [.lit (.bool false)], args := [d1, d2, d3, d4, d5] }
  | _ => none }
def EpochsHiddenWrongFalsely : Prop := epochsHiddenRow.holds Try.pinned (OpenSpec.ofChange epochsHiddenWrong)

/- THE SECOND FORM. 'bulk': how many values and letters a reading holds, each counted each time it is reached (what is shared counts as often as it is met; a slice's spare places count too). A statement '..UptoSaid' is the law's where the arguments, and the package variables that the reading takes, are together of bulk at most 1048576: NARROWER than '..Said'. Prove '..Said' where nothing that the law and all that it calls make is longer than what came in: it says more and counts as full. Else prove '..UptoSaid'. A law counts once. -/
mutual
def uptoBulk {H : Type} : DataW H → Nat
  | .lit (.string bytes) => bytes.length + 1
  | .lit _ => 1
  | .nil => 1
  | .ptr d => uptoBulk d + 1
  | .slice elems spare => uptoBulkAll elems + uptoBulkAll spare + 1
  | .agg parts => uptoBulkAll parts + 1
  | .iface _ d => uptoBulk d + 1
  | .map entries => uptoBulkEntries entries + 1
  | .held _ => 1
def uptoBulkAll {H : Type} : List (DataW H) → Nat
  | [] => 0
  | d :: r => uptoBulk d + uptoBulkAll r
def uptoBulkEntries {H : Type} : List (Lit × DataW H) → Nat
  | [] => 0
  | x :: r => uptoBulkEntry x + uptoBulkEntries r
def uptoBulkEntry {H : Type} : Lit × DataW H → Nat
  | (.string bytes, d) => bytes.length + uptoBulk d + 1
  | (_, d) => uptoBulk d + 1
 end
def uptoSmall : (H : Type) → List (DataW H) → Bool := fun _ ds => decide (uptoBulkAll ds ≤ 1048576)
def OpenSpec.upto (s : _root_.Go.ChangeSpec) : _root_.Go.OpenSpec := { _root_.Go.OpenSpec.ofChange s with cond := some uptoSmall }

/-- 'frankinglaw09.GroupSpec', WHERE WHAT IT READS IS OF BULK AT MOST 1048576: true; the input reads as it did. -/
def groupSpecUptoRow : OpenClaim := { program := "ytlenfjpogmmfhaa", sum := "57d330efa6b79c10846aaa9e998d4e5a2b6fc31e195dafa785756d4b55759232", func := "franking/frankinglaw09.GroupSpec", spec := "groupSpec", unfollowed := true, recurses := true, apart := false, narrowed := true }
def GroupSpecUptoSaid : Prop := groupSpecUptoRow.holds Try.pinned (OpenSpec.upto groupSpecSpec)

/-- 'frankinglaw09.GroupLaws', WHERE WHAT IT READS IS OF BULK AT MOST 1048576: true; the input reads as it did. -/
def groupLawsUptoRow : OpenClaim := { program := "ytlenfjpogmmfhaa", sum := "57d330efa6b79c10846aaa9e998d4e5a2b6fc31e195dafa785756d4b55759232", func := "franking/frankinglaw09.GroupLaws", spec := "groupLaws", unfollowed := true, recurses := true, apart := false, narrowed := true }
def GroupLawsUptoSaid : Prop := groupLawsUptoRow.holds Try.pinned (OpenSpec.upto groupLawsSpec)

/-- 'frankinglaw09.GroupPowers', WHERE WHAT IT READS IS OF BULK AT MOST 1048576: true; the input reads as it did. -/
def groupPowersUptoRow : OpenClaim := { program := "ytlenfjpogmmfhaa", sum := "57d330efa6b79c10846aaa9e998d4e5a2b6fc31e195dafa785756d4b55759232", func := "franking/frankinglaw09.GroupPowers", spec := "groupPowers", unfollowed := true, recurses := true, apart := false, narrowed := true }
def GroupPowersUptoSaid : Prop := groupPowersUptoRow.holds Try.pinned (OpenSpec.upto groupPowersSpec)

/-- 'frankinglaw09.GroupSquares', WHERE WHAT IT READS IS OF BULK AT MOST 1048576: true; the input reads as it did. -/
def groupSquaresUptoRow : OpenClaim := { program := "ytlenfjpogmmfhaa", sum := "57d330efa6b79c10846aaa9e998d4e5a2b6fc31e195dafa785756d4b55759232", func := "franking/frankinglaw09.GroupSquares", spec := "groupSquares", unfollowed := true, recurses := true, apart := false, narrowed := true }
def GroupSquaresUptoSaid : Prop := groupSquaresUptoRow.holds Try.pinned (OpenSpec.upto groupSquaresSpec)

/-- 'frankinglaw09.GroupInverse', WHERE WHAT IT READS IS OF BULK AT MOST 1048576: true; the input reads as it did. -/
def groupInverseUptoRow : OpenClaim := { program := "ytlenfjpogmmfhaa", sum := "57d330efa6b79c10846aaa9e998d4e5a2b6fc31e195dafa785756d4b55759232", func := "franking/frankinglaw09.GroupInverse", spec := "groupInverse", unfollowed := true, recurses := true, apart := false, narrowed := true }
def GroupInverseUptoSaid : Prop := groupInverseUptoRow.holds Try.pinned (OpenSpec.upto groupInverseSpec)

/-- 'frankinglaw47.EpochsSpec', WHERE WHAT IT READS IS OF BULK AT MOST 1048576: true; the input reads as it did. -/
def epochsSpecUptoRow : OpenClaim := { program := "ytlenfjpogmmfhaa", sum := "57d330efa6b79c10846aaa9e998d4e5a2b6fc31e195dafa785756d4b55759232", func := "franking/frankinglaw47.EpochsSpec", spec := "epochsSpec", unfollowed := true, recurses := true, apart := false, narrowed := true }
def EpochsSpecUptoSaid : Prop := epochsSpecUptoRow.holds Try.pinned (OpenSpec.upto epochsSpecSpec)

/-- 'frankinglaw47.EpochsSharesSpec', WHERE WHAT IT READS IS OF BULK AT MOST 1048576: true; the input reads as it did. -/
def epochsSharesSpecUptoRow : OpenClaim := { program := "ytlenfjpogmmfhaa", sum := "57d330efa6b79c10846aaa9e998d4e5a2b6fc31e195dafa785756d4b55759232", func := "franking/frankinglaw47.EpochsSharesSpec", spec := "epochsSharesSpec", unfollowed := true, recurses := true, apart := false, narrowed := true }
def EpochsSharesSpecUptoSaid : Prop := epochsSharesSpecUptoRow.holds Try.pinned (OpenSpec.upto epochsSharesSpecSpec)

/-- 'frankinglaw47.EpochsLater', WHERE WHAT IT READS IS OF BULK AT MOST 1048576: true; the input reads as it did. -/
def epochsLaterUptoRow : OpenClaim := { program := "ytlenfjpogmmfhaa", sum := "57d330efa6b79c10846aaa9e998d4e5a2b6fc31e195dafa785756d4b55759232", func := "franking/frankinglaw47.EpochsLater", spec := "epochsLater", unfollowed := true, recurses := true, apart := false, narrowed := true }
def EpochsLaterUptoSaid : Prop := epochsLaterUptoRow.holds Try.pinned (OpenSpec.upto epochsLaterSpec)

/-- 'frankinglaw47.EpochsShares', WHERE WHAT IT READS IS OF BULK AT MOST 1048576: true; the input reads as it did. -/
def epochsSharesUptoRow : OpenClaim := { program := "ytlenfjpogmmfhaa", sum := "57d330efa6b79c10846aaa9e998d4e5a2b6fc31e195dafa785756d4b55759232", func := "franking/frankinglaw47.EpochsShares", spec := "epochsShares", unfollowed := true, recurses := true, apart := false, narrowed := true }
def EpochsSharesUptoSaid : Prop := epochsSharesUptoRow.holds Try.pinned (OpenSpec.upto epochsSharesSpec)

/-- 'frankinglaw47.EpochsHidden', WHERE WHAT IT READS IS OF BULK AT MOST 1048576: true; the input reads as it did. -/
def epochsHiddenUptoRow : OpenClaim := { program := "ytlenfjpogmmfhaa", sum := "57d330efa6b79c10846aaa9e998d4e5a2b6fc31e195dafa785756d4b55759232", func := "franking/frankinglaw47.EpochsHidden", spec := "epochsHidden", unfollowed := true, recurses := true, apart := false, narrowed := true }
def EpochsHiddenUptoSaid : Prop := epochsHiddenUptoRow.holds Try.pinned (OpenSpec.upto epochsHiddenSpec)

end Rows
end Go.Proofs.Ytlenfjpogmmfhaa
