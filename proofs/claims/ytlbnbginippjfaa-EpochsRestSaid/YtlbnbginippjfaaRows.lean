/-
  No cell of these rows narrows 'for every input' (looked for: loops, veiled, ifaces, maps, wideKeys, modest, calm, conditions, laid).
  DERIVED. THE GIVEN ROWS OF THIS SEAT. 8 by the template 'for every input the law returns true; each argument reads behind the call as it read before'; 0 by the template 'total and deterministic' (their statements: YtlbnbginippjfaaTotals.lean).
  GIVEN WITH THE SEED: the statements are not yours to turn. If you find one false, say at which input.
  Laid BY PROGRAM, IN A SANDBOX (cutbox-rows.mjs): the forced cells as the released guide's own fill.sh prints them over the translation 86beb76fa079ecb2… (all of the seat's roots in one cut). By AI agents, Wed Nov 11 2026. No macro, syntax, notation, axiom, sorry.
-/
import Derived.Test.YtlbnbginippjfaaChecked
import GoSem.Claim
import GoSem.ClaimJoined
import GoSem.ClaimMapViews
import Derived.JoinedTies
import Derived.KernelRfl
namespace Go.Proofs.Ytlbnbginippjfaa
/- THE CELL 'sum', in the pinned program and in every row, IS THE sha256 OF THE DUMP (.gsa) THAT YtlbnbginippjfaaProg.lean LOADS. Nothing in Lean hashes anything: it is a label: what it is worth is what the hold of that sum in a sandbox is worth. -/
noncomputable def Try.pinned : Pinned := { name := "ytlbnbginippjfaa", sum := "86beb76fa079ecb2e94dca35576a9666b53eaef3b6f95450784be767515a861b", checked := Try.checked }
namespace Rows
def none {H : Type} : Left H := { results := [], args := [] }

/-- 'frankinglaw10.ElgamalKeySpec': WHATEVER THE INPUT: true; the input reads as it did. -/
def elgamalKeySpecSpec : ChangeSpec := { name := "elgamalKeySpec", fn := fun _ => fun
  | [d1, d2] => { results := [.lit (.bool true)], args := [d1, d2] }
  | _ => none }
def elgamalKeySpecRow : OpenClaim := { program := "ytlbnbginippjfaa", sum := "86beb76fa079ecb2e94dca35576a9666b53eaef3b6f95450784be767515a861b", func := "franking/frankinglaw10.ElgamalKeySpec", spec := "elgamalKeySpec", unfollowed := true, recurses := true, apart := false }
def ElgamalKeySpecSaid : Prop := elgamalKeySpecRow.holds Try.pinned (OpenSpec.ofChange elgamalKeySpecSpec)

/-- ITS FALSE NEIGHBOUR: 'it returns false'. Refute it at one input. -/
def elgamalKeySpecWrong : ChangeSpec := { name := "elgamalKeySpec", fn := fun _ => fun
  | [d1, d2] => { results := [.lit (.bool false)], args := [d1, d2] }
  | _ => none }
def ElgamalKeySpecWrongFalsely : Prop := elgamalKeySpecRow.holds Try.pinned (OpenSpec.ofChange elgamalKeySpecWrong)

/-- 'frankinglaw10.ElgamalSealSpec': WHATEVER THE INPUT: true; the input reads as it did. -/
def elgamalSealSpecSpec : ChangeSpec := { name := "elgamalSealSpec", fn := fun _ => fun
  | [d1, d2, d3, d4] => { results := [.lit (.bool true)], args := [d1, d2, d3, d4] }
  | _ => none }
def elgamalSealSpecRow : OpenClaim := { program := "ytlbnbginippjfaa", sum := "86beb76fa079ecb2e94dca35576a9666b53eaef3b6f95450784be767515a861b", func := "franking/frankinglaw10.ElgamalSealSpec", spec := "elgamalSealSpec", unfollowed := true, recurses := true, apart := false }
def ElgamalSealSpecSaid : Prop := elgamalSealSpecRow.holds Try.pinned (OpenSpec.ofChange elgamalSealSpecSpec)

/-- ITS FALSE NEIGHBOUR: 'it returns false'. Refute it at one input. -/
def elgamalSealSpecWrong : ChangeSpec := { name := "elgamalSealSpec", fn := fun _ => fun
  | [d1, d2, d3, d4] => { results := [.lit (.bool false)], args := [d1, d2, d3, d4] }
  | _ => none }
def ElgamalSealSpecWrongFalsely : Prop := elgamalSealSpecRow.holds Try.pinned (OpenSpec.ofChange elgamalSealSpecWrong)

/-- 'frankinglaw10.ElgamalOpens': WHATEVER THE INPUT: true; the input reads as it did. -/
def elgamalOpensSpec : ChangeSpec := { name := "elgamalOpens", fn := fun _ => fun
  | [d1, d2, d3, d4, d5] => { results := [.lit (.bool true)], args := [d1, d2, d3, d4, d5] }
  | _ => none }
def elgamalOpensRow : OpenClaim := { program := "ytlbnbginippjfaa", sum := "86beb76fa079ecb2e94dca35576a9666b53eaef3b6f95450784be767515a861b", func := "franking/frankinglaw10.ElgamalOpens", spec := "elgamalOpens", unfollowed := true, recurses := true, apart := false }
def ElgamalOpensSaid : Prop := elgamalOpensRow.holds Try.pinned (OpenSpec.ofChange elgamalOpensSpec)

/-- ITS FALSE NEIGHBOUR: 'it returns false'. Refute it at one input. -/
def elgamalOpensWrong : ChangeSpec := { name := "elgamalOpens", fn := fun _ => fun
  | [d1, d2, d3, d4, d5] => { results := [.lit (.bool false)], args := [d1, d2, d3, d4, d5] }
  | _ => none }
def ElgamalOpensWrongFalsely : Prop := elgamalOpensRow.holds Try.pinned (OpenSpec.ofChange elgamalOpensWrong)

/-- 'frankinglaw10.ElgamalPart': WHATEVER THE INPUT: true; the input reads as it did. -/
def elgamalPartSpec : ChangeSpec := { name := "elgamalPart", fn := fun _ => fun
  | [d1, d2, d3, d4] => { results := [.lit (.bool true)], args := [d1, d2, d3, d4] }
  | _ => none }
def elgamalPartRow : OpenClaim := { program := "ytlbnbginippjfaa", sum := "86beb76fa079ecb2e94dca35576a9666b53eaef3b6f95450784be767515a861b", func := "franking/frankinglaw10.ElgamalPart", spec := "elgamalPart", unfollowed := true, recurses := true, apart := false }
def ElgamalPartSaid : Prop := elgamalPartRow.holds Try.pinned (OpenSpec.ofChange elgamalPartSpec)

/-- ITS FALSE NEIGHBOUR: 'it returns false'. Refute it at one input. -/
def elgamalPartWrong : ChangeSpec := { name := "elgamalPart", fn := fun _ => fun
  | [d1, d2, d3, d4] => { results := [.lit (.bool false)], args := [d1, d2, d3, d4] }
  | _ => none }
def ElgamalPartWrongFalsely : Prop := elgamalPartRow.holds Try.pinned (OpenSpec.ofChange elgamalPartWrong)

/-- 'frankinglaw10.ElgamalTwice': WHATEVER THE INPUT: true; the input reads as it did. -/
def elgamalTwiceSpec : ChangeSpec := { name := "elgamalTwice", fn := fun _ => fun
  | [d1, d2, d3, d4, d5] => { results := [.lit (.bool true)], args := [d1, d2, d3, d4, d5] }
  | _ => none }
def elgamalTwiceRow : OpenClaim := { program := "ytlbnbginippjfaa", sum := "86beb76fa079ecb2e94dca35576a9666b53eaef3b6f95450784be767515a861b", func := "franking/frankinglaw10.ElgamalTwice", spec := "elgamalTwice", unfollowed := true, recurses := true, apart := false }
def ElgamalTwiceSaid : Prop := elgamalTwiceRow.holds Try.pinned (OpenSpec.ofChange elgamalTwiceSpec)

/-- ITS FALSE NEIGHBOUR: 'it returns false'. Refute it at one input. -/
def elgamalTwiceWrong : ChangeSpec := { name := "elgamalTwice", fn := fun _ => fun
  | [d1, d2, d3, d4, d5] => { results := [.lit (.bool false)], args := [d1, d2, d3, d4, d5] }
  | _ => none }
def ElgamalTwiceWrongFalsely : Prop := elgamalTwiceRow.holds Try.pinned (OpenSpec.ofChange elgamalTwiceWrong)

/-- 'frankinglaw10.ElgamalHides': WHATEVER THE INPUT: true; the input reads as it did. -/
def elgamalHidesSpec : ChangeSpec := { name := "elgamalHides", fn := fun _ => fun
  | [d1, d2, d3, d4, d5] => { results := [.lit (.bool true)], args := [d1, d2, d3, d4, d5] }
  | _ => none }
def elgamalHidesRow : OpenClaim := { program := "ytlbnbginippjfaa", sum := "86beb76fa079ecb2e94dca35576a9666b53eaef3b6f95450784be767515a861b", func := "franking/frankinglaw10.ElgamalHides", spec := "elgamalHides", unfollowed := true, recurses := true, apart := false }
def ElgamalHidesSaid : Prop := elgamalHidesRow.holds Try.pinned (OpenSpec.ofChange elgamalHidesSpec)

/-- ITS FALSE NEIGHBOUR: 'it returns false'. Refute it at one input. -/
def elgamalHidesWrong : ChangeSpec := { name := "elgamalHides", fn := fun _ => fun
  | [d1, d2, d3, d4, d5] => { results := [.lit (.bool false)], args := [d1, d2, d3, d4, d5] }
  | _ => none }
def ElgamalHidesWrongFalsely : Prop := elgamalHidesRow.holds Try.pinned (OpenSpec.ofChange elgamalHidesWrong)

/-- 'frankinglaw10.ElgamalForm': WHATEVER THE INPUT: true; the input reads as it did. -/
def elgamalFormSpec : ChangeSpec := { name := "elgamalForm", fn := fun _ => fun
  | [d1, d2, d3, d4] => { results := [.lit (.bool true)], args := [d1, d2, d3, d4] }
  | _ => none }
def elgamalFormRow : OpenClaim := { program := "ytlbnbginippjfaa", sum := "86beb76fa079ecb2e94dca35576a9666b53eaef3b6f95450784be767515a861b", func := "franking/frankinglaw10.ElgamalForm", spec := "elgamalForm", unfollowed := true, recurses := true, apart := false }
def ElgamalFormSaid : Prop := elgamalFormRow.holds Try.pinned (OpenSpec.ofChange elgamalFormSpec)

/-- ITS FALSE NEIGHBOUR: 'it returns false'. Refute it at one input. -/
def elgamalFormWrong : ChangeSpec := { name := "elgamalForm", fn := fun _ => fun
  | [d1, d2, d3, d4] => { results := [.lit (.bool false)], args := [d1, d2, d3, d4] }
  | _ => none }
def ElgamalFormWrongFalsely : Prop := elgamalFormRow.holds Try.pinned (OpenSpec.ofChange elgamalFormWrong)

/-- 'frankinglaw47.EpochsRest': WHATEVER THE INPUT: true; the input reads as it did. -/
def epochsRestSpec : ChangeSpec := { name := "epochsRest", fn := fun _ => fun
  | [d1, d2, d3, d4] => { results := [.lit (.bool true)], args := [d1, d2, d3, d4] }
  | _ => none }
def epochsRestRow : OpenClaim := { program := "ytlbnbginippjfaa", sum := "86beb76fa079ecb2e94dca35576a9666b53eaef3b6f95450784be767515a861b", func := "franking/frankinglaw47.EpochsRest", spec := "epochsRest", unfollowed := true, recurses := true, apart := false }
def EpochsRestSaid : Prop := epochsRestRow.holds Try.pinned (OpenSpec.ofChange epochsRestSpec)

/-- ITS FALSE NEIGHBOUR: 'it returns false'. Refute it at one input. -/
def epochsRestWrong : ChangeSpec := { name := "epochsRest", fn := fun _ => fun
  | [d1, d2, d3, d4] => { results := [.lit (.bool false)], args := [d1, d2, d3, d4] }
  | _ => none }
def EpochsRestWrongFalsely : Prop := epochsRestRow.holds Try.pinned (OpenSpec.ofChange epochsRestWrong)

/- THE SECOND FORM. 'bulk': how many values and letters a reading holds, each counted each time it is reached (what is shared counts as often as it is met; a slice's spare places count too). A statement '..UptoSaid' is the law's where the arguments, and the package variables that the reading takes, are together of bulk at most 1048576: NARROWER than '..Said'. Prove '..Said' where nothing that the law and all that it calls make is longer than what came in: it says more and counts as full. Else prove '..UptoSaid'. A law counts once. -/
mutual
def uptoBulk {H : Type} : DataW H → Nat
  | .lit (.string bytes) => bytes.length + 1
  | .lit _ => 1
  | .nil => 1
  | .ptr d => uptoBulk d + 1
  | .slice elems spare => uptoBulkAll elems + uptoBulkAll spare + 1
  | .agg parts => uptoBulkAll parts + 1
  | .iface _ d => uptoBulk d + 1
  | .map entries => uptoBulkEntries entries + 1
  | .held _ => 1
def uptoBulkAll {H : Type} : List (DataW H) → Nat
  | [] => 0
  | d :: r => uptoBulk d + uptoBulkAll r
def uptoBulkEntries {H : Type} : List (Lit × DataW H) → Nat
  | [] => 0
  | x :: r => uptoBulkEntry x + uptoBulkEntries r
def uptoBulkEntry {H : Type} : Lit × DataW H → Nat
  | (.string bytes, d) => bytes.length + uptoBulk d + 1
  | (_, d) => uptoBulk d + 1
 end
def uptoSmall : (H : Type) → List (DataW H) → Bool := fun _ ds => decide (uptoBulkAll ds ≤ 1048576)
def OpenSpec.upto (s : _root_.Go.ChangeSpec) : _root_.Go.OpenSpec := { _root_.Go.OpenSpec.ofChange s with cond := some uptoSmall }

/-- 'frankinglaw10.ElgamalKeySpec', WHERE WHAT IT READS IS OF BULK AT MOST 1048576: true; the input reads as it did. -/
def elgamalKeySpecUptoRow : OpenClaim := { program := "ytlbnbginippjfaa", sum := "86beb76fa079ecb2e94dca35576a9666b53eaef3b6f95450784be767515a861b", func := "franking/frankinglaw10.ElgamalKeySpec", spec := "elgamalKeySpec", unfollowed := true, recurses := true, apart := false, narrowed := true }
def ElgamalKeySpecUptoSaid : Prop := elgamalKeySpecUptoRow.holds Try.pinned (OpenSpec.upto elgamalKeySpecSpec)

/-- 'frankinglaw10.ElgamalSealSpec', WHERE WHAT IT READS IS OF BULK AT MOST 1048576: true; the input reads as it did. -/
def elgamalSealSpecUptoRow : OpenClaim := { program := "ytlbnbginippjfaa", sum := "86beb76fa079ecb2e94dca35576a9666b53eaef3b6f95450784be767515a861b", func := "franking/frankinglaw10.ElgamalSealSpec", spec := "elgamalSealSpec", unfollowed := true, recurses := true, apart := false, narrowed := true }
def ElgamalSealSpecUptoSaid : Prop := elgamalSealSpecUptoRow.holds Try.pinned (OpenSpec.upto elgamalSealSpecSpec)

/-- 'frankinglaw10.ElgamalOpens', WHERE WHAT IT READS IS OF BULK AT MOST 1048576: true; the input reads as it did. -/
def elgamalOpensUptoRow : OpenClaim := { program := "ytlbnbginippjfaa", sum := "86beb76fa079ecb2e94dca35576a9666b53eaef3b6f95450784be767515a861b", func := "franking/frankinglaw10.ElgamalOpens", spec := "elgamalOpens", unfollowed := true, recurses := true, apart := false, narrowed := true }
def ElgamalOpensUptoSaid : Prop := elgamalOpensUptoRow.holds Try.pinned (OpenSpec.upto elgamalOpensSpec)

/-- 'frankinglaw10.ElgamalPart', WHERE WHAT IT READS IS OF BULK AT MOST 1048576: true; the input reads as it did. -/
def elgamalPartUptoRow : OpenClaim := { program := "ytlbnbginippjfaa", sum := "86beb76fa079ecb2e94dca35576a9666b53eaef3b6f95450784be767515a861b", func := "franking/frankinglaw10.ElgamalPart", spec := "elgamalPart", unfollowed := true, recurses := true, apart := false, narrowed := true }
def ElgamalPartUptoSaid : Prop := elgamalPartUptoRow.holds Try.pinned (OpenSpec.upto elgamalPartSpec)

/-- 'frankinglaw10.ElgamalTwice', WHERE WHAT IT READS IS OF BULK AT MOST 1048576: true; the input reads as it did. -/
def elgamalTwiceUptoRow : OpenClaim := { program := "ytlbnbginippjfaa", sum := "86beb76fa079ecb2e94dca35576a9666b53eaef3b6f95450784be767515a861b", func := "franking/frankinglaw10.ElgamalTwice", spec := "elgamalTwice", unfollowed := true, recurses := true, apart := false, narrowed := true }
def ElgamalTwiceUptoSaid : Prop := elgamalTwiceUptoRow.holds Try.pinned (OpenSpec.upto elgamalTwiceSpec)

/-- 'frankinglaw10.ElgamalHides', WHERE WHAT IT READS IS OF BULK AT MOST 1048576: true; the input reads as it did. -/
def elgamalHidesUptoRow : OpenClaim := { program := "ytlbnbginippjfaa", sum := "86beb76fa079ecb2e94dca35576a9666b53eaef3b6f95450784be767515a861b", func := "franking/frankinglaw10.ElgamalHides", spec := "elgamalHides", unfollowed := true, recurses := true, apart := false, narrowed := true }
def ElgamalHidesUptoSaid : Prop := elgamalHidesUptoRow.holds Try.pinned (OpenSpec.upto elgamalHidesSpec)

/-- 'frankinglaw10.ElgamalForm', WHERE WHAT IT READS IS OF BULK AT MOST 1048576: true; the input reads as it did. -/
def elgamalFormUptoRow : OpenClaim := { program := "ytlbnbginippjfaa", sum := "86beb76fa079ecb2e94dca35576a9666b53eaef3b6f95450784be767515a861b", func := "franking/frankinglaw10.ElgamalForm", spec := "elgamalForm", unfollowed := true, recurses := true, apart := false, narrowed := true }
def ElgamalFormUptoSaid : Prop := elgamalFormUptoRow.holds Try.pinned (OpenSpec.upto elgamalFormSpec)

/-- 'frankinglaw47.EpochsRest', WHERE WHAT IT READS IS OF BULK AT MOST 1048576: true; the input reads as it did. -/
def epochsRestUptoRow : OpenClaim := { program := "ytlbnbginippjfaa", sum := "86beb76fa079ecb2e94dca35576a9666b53eaef3b6f95450784be767515a861b", func := "franking/frankinglaw47.EpochsRest", spec := "epochsRest", unfollowed := true, recurses := true, apart := false, narrowed := true }
def EpochsRestUptoSaid : Prop := epochsRestUptoRow.holds Try.pinned (OpenSpec.upto epochsRestSpec)

end Rows
end Go.Proofs.Ytlbnbginippjfaa
