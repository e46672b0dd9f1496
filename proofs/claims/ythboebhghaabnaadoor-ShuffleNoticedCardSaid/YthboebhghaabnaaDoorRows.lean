/-
  NARROWER THAN 'FOR EVERY INPUT', by the rows' own cells (each row's printed sentence says how): ShuffleOpenSpec: laid · ShuffleWholeSpec: laid · ShuffleSound: laid · ShuffleEither: laid · ShuffleBound: laid · ShuffleNoticed: laid · ShuffleHonest: laid.
  DERIVED. THE GIVEN ROWS OF THIS SEAT. 7 by the template 'for every input the law returns true; each argument reads behind the call as it read before'; 0 by the template 'total and deterministic' (their statements: YthboebhghaabnaaDoorTotals.lean).
  GIVEN WITH THE SEED: the statements are not yours to turn. If you find one false, say at which input.
  Laid BY PROGRAM, IN A SANDBOX (cutbox-rows.mjs): the forced cells as the released guide's own fill.sh prints them over the translation 52ca25d82b2c2369… (all of the seat's roots in one cut). By AI agents, Wed Nov 11 2026. No macro, syntax, notation, axiom, sorry.
-/
import Derived.Test.YthboebhghaabnaaDoorChecked
import GoSem.Claim
import GoSem.ClaimJoined
import GoSem.ClaimMapViews
import Derived.JoinedTies
import Derived.KernelRfl
namespace Go.Proofs.YthboebhghaabnaaDoor
/- THE CELL 'sum', in the pinned program and in every row, IS THE sha256 OF THE DUMP (.gsa) THAT YthboebhghaabnaaDoorProg.lean LOADS. Nothing in Lean hashes anything: it is a label: what it is worth is what the hold of that sum in a sandbox is worth. -/
noncomputable def Tryd.pinned : Pinned := { name := "ythboebhghaabnaadoor", sum := "52ca25d82b2c23694dbbf481f56238d8d4e1330d59bb28bf950ca96666e33c00", checked := Tryd.checked }
namespace Rows
def none {H : Type} : Left H := { results := [], args := [] }

/- WHAT THE LISTED PACKAGE-LEVEL VARIABLES READ AS WHEN THE CALL BEGINS. Each datum BY PROGRAM (the guide's laid-datum.mjs) off the statement by which the dump's own 'gosem.cut.vars' lays the variable. In a bare row this is a premise. The card (YthboebhghaabnaaDoorCards.lean) ties it to the program's text. -/
def laid_franking_digest_start {H : Type} : DataW H := .agg [.lit (.int .u32 1779033703), .lit (.int .u32 3144134277), .lit (.int .u32 1013904242), .lit (.int .u32 2773480762), .lit (.int .u32 1359893119), .lit (.int .u32 2600822924), .lit (.int .u32 528734635), .lit (.int .u32 1541459225)]
def laid_franking_digest_numbers {H : Type} : DataW H := .agg [.lit (.int .u32 1116352408), .lit (.int .u32 1899447441), .lit (.int .u32 3049323471), .lit (.int .u32 3921009573), .lit (.int .u32 961987163), .lit (.int .u32 1508970993), .lit (.int .u32 2453635748), .lit (.int .u32 2870763221), .lit (.int .u32 3624381080), .lit (.int .u32 310598401), .lit (.int .u32 607225278), .lit (.int .u32 1426881987), .lit (.int .u32 1925078388), .lit (.int .u32 2162078206), .lit (.int .u32 2614888103), .lit (.int .u32 3248222580), .lit (.int .u32 3835390401), .lit (.int .u32 4022224774), .lit (.int .u32 264347078), .lit (.int .u32 604807628), .lit (.int .u32 770255983), .lit (.int .u32 1249150122), .lit (.int .u32 1555081692), .lit (.int .u32 1996064986), .lit (.int .u32 2554220882), .lit (.int .u32 2821834349), .lit (.int .u32 2952996808), .lit (.int .u32 3210313671), .lit (.int .u32 3336571891), .lit (.int .u32 3584528711), .lit (.int .u32 113926993), .lit (.int .u32 338241895), .lit (.int .u32 666307205), .lit (.int .u32 773529912), .lit (.int .u32 1294757372), .lit (.int .u32 1396182291), .lit (.int .u32 1695183700), .lit (.int .u32 1986661051), .lit (.int .u32 2177026350), .lit (.int .u32 2456956037), .lit (.int .u32 2730485921), .lit (.int .u32 2820302411), .lit (.int .u32 3259730800), .lit (.int .u32 3345764771), .lit (.int .u32 3516065817), .lit (.int .u32 3600352804), .lit (.int .u32 4094571909), .lit (.int .u32 275423344), .lit (.int .u32 430227734), .lit (.int .u32 506948616), .lit (.int .u32 659060556), .lit (.int .u32 883997877), .lit (.int .u32 958139571), .lit (.int .u32 1322822218), .lit (.int .u32 1537002063), .lit (.int .u32 1747873779), .lit (.int .u32 1955562222), .lit (.int .u32 2024104815), .lit (.int .u32 2227730452), .lit (.int .u32 2361852424), .lit (.int .u32 2428436474), .lit (.int .u32 2756734187), .lit (.int .u32 3204031479), .lit (.int .u32 3329325298)]

/-- 'frankinglaw14.ShuffleOpenSpec': WHATEVER THE INPUT: true; the input reads as it did. -/
def shuffleOpenSpecSpec : ChangeSpec := { name := "shuffleOpenSpec", fn := fun _ => fun
  | [d1, d2] => { results := [.lit (.bool true)], args := [d1, d2] }
  | _ => none }
def shuffleOpenSpecRow : OpenClaim := { program := "ythboebhghaabnaadoor", sum := "52ca25d82b2c23694dbbf481f56238d8d4e1330d59bb28bf950ca96666e33c00", func := "franking/frankinglaw14.ShuffleOpenSpec", spec := "shuffleOpenSpec", unfollowed := true, recurses := true, named := ["franking/digest.start", "franking/digest.numbers"], plainKeys := false, apart := false, laid := [("franking/digest.start", laid_franking_digest_start), ("franking/digest.numbers", laid_franking_digest_numbers)] }
def ShuffleOpenSpecSaid : Prop := shuffleOpenSpecRow.holds Tryd.pinned (OpenSpec.ofChange shuffleOpenSpecSpec)

/-- ITS FALSE NEIGHBOUR: 'it returns false'. Refute it at one input. -/
def shuffleOpenSpecWrong : ChangeSpec := { name := "shuffleOpenSpec", fn := fun _ => fun
  | [d1, d2] => { results := [.lit (.bool false)], args := [d1, d2] }
  | _ => none }
def ShuffleOpenSpecWrongFalsely : Prop := shuffleOpenSpecRow.holds Tryd.pinned (OpenSpec.ofChange shuffleOpenSpecWrong)

/-- 'frankinglaw14.ShuffleWholeSpec': WHATEVER THE INPUT: true; the input reads as it did. -/
def shuffleWholeSpecSpec : ChangeSpec := { name := "shuffleWholeSpec", fn := fun _ => fun
  | [d1, d2, d3] => { results := [.lit (.bool true)], args := [d1, d2, d3] }
  | _ => none }
def shuffleWholeSpecRow : OpenClaim := { program := "ythboebhghaabnaadoor", sum := "52ca25d82b2c23694dbbf481f56238d8d4e1330d59bb28bf950ca96666e33c00", func := "franking/frankinglaw14.ShuffleWholeSpec", spec := "shuffleWholeSpec", unfollowed := true, recurses := true, named := ["franking/digest.start", "franking/digest.numbers"], plainKeys := false, apart := false, laid := [("franking/digest.start", laid_franking_digest_start), ("franking/digest.numbers", laid_franking_digest_numbers)] }
def ShuffleWholeSpecSaid : Prop := shuffleWholeSpecRow.holds Tryd.pinned (OpenSpec.ofChange shuffleWholeSpecSpec)

/-- ITS FALSE NEIGHBOUR: 'it returns false'. Refute it at one input. -/
def shuffleWholeSpecWrong : ChangeSpec := { name := "shuffleWholeSpec", fn := fun _ => fun
  | [d1, d2, d3] => { results := [.lit (.bool false)], args := [d1, d2, d3] }
  | _ => none }
def ShuffleWholeSpecWrongFalsely : Prop := shuffleWholeSpecRow.holds Tryd.pinned (OpenSpec.ofChange shuffleWholeSpecWrong)

/-- 'frankinglaw14.ShuffleSound': WHATEVER THE INPUT: true; the input reads as it did. -/
def shuffleSoundSpec : ChangeSpec := { name := "shuffleSound", fn := fun _ => fun
  | [d1, d2, d3, d4] => { results := [.lit (.bool true)], args := [d1, d2, d3, d4] }
  | _ => none }
def shuffleSoundRow : OpenClaim := { program := "ythboebhghaabnaadoor", sum := "52ca25d82b2c23694dbbf481f56238d8d4e1330d59bb28bf950ca96666e33c00", func := "franking/frankinglaw14.ShuffleSound", spec := "shuffleSound", unfollowed := true, recurses := true, named := ["franking/digest.start", "franking/digest.numbers"], plainKeys := false, apart := false, laid := [("franking/digest.start", laid_franking_digest_start), ("franking/digest.numbers", laid_franking_digest_numbers)] }
def ShuffleSoundSaid : Prop := shuffleSoundRow.holds Tryd.pinned (OpenSpec.ofChange shuffleSoundSpec)

/-- ITS FALSE NEIGHBOUR: 'it returns false'. Refute it at one input. -/
def shuffleSoundWrong : ChangeSpec := { name := "shuffleSound", fn := fun _ => fun
  | [d1, d2, d3, d4] => { results := [.lit (.bool false)], args := [d1, d2, d3, d4] }
  | _ => none }
def ShuffleSoundWrongFalsely : Prop := shuffleSoundRow.holds Tryd.pinned (OpenSpec.ofChange shuffleSoundWrong)

/-- 'frankinglaw14.ShuffleEither': WHATEVER THE INPUT: true; the input reads as it did. -/
def shuffleEitherSpec : ChangeSpec := { name := "shuffleEither", fn := fun _ => fun
  | [d1, d2, d3, d4, d5] => { results := [.lit (.bool true)], args := [d1, d2, d3, d4, d5] }
  | _ => none }
def shuffleEitherRow : OpenClaim := { program := "ythboebhghaabnaadoor", sum := "52ca25d82b2c23694dbbf481f56238d8d4e1330d59bb28bf950ca96666e33c00", func := "franking/frankinglaw14.ShuffleEither", spec := "shuffleEither", unfollowed := true, recurses := true, named := ["franking/digest.start", "franking/digest.numbers"], plainKeys := false, apart := false, laid := [("franking/digest.start", laid_franking_digest_start), ("franking/digest.numbers", laid_franking_digest_numbers)] }
def ShuffleEitherSaid : Prop := shuffleEitherRow.holds Tryd.pinned (OpenSpec.ofChange shuffleEitherSpec)

/-- ITS FALSE NEIGHBOUR: 'it returns false'. Refute it at one input. -/
def shuffleEitherWrong : ChangeSpec := { name := "shuffleEither", fn := fun _ => fun
  | [d1, d2, d3, d4, d5] => { results := [.lit (.bool false)], args := [d1, d2, d3, d4, d5] }
  | _ => none }
def ShuffleEitherWrongFalsely : Prop := shuffleEitherRow.holds Tryd.pinned (OpenSpec.ofChange shuffleEitherWrong)

/-- 'frankinglaw14.ShuffleBound': WHATEVER THE INPUT: true; the input reads as it did. -/
def shuffleBoundSpec : ChangeSpec := { name := "shuffleBound", fn := fun _ => fun
  | [d1, d2, d3, d4, d5] => { results := [.lit (.bool true)], args := [d1, d2, d3, d4, d5] }
  | _ => none }
def shuffleBoundRow : OpenClaim := { program := "ythboebhghaabnaadoor", sum := "52ca25d82b2c23694dbbf481f56238d8d4e1330d59bb28bf950ca96666e33c00", func := "franking/frankinglaw14.ShuffleBound", spec := "shuffleBound", unfollowed := true, recurses := true, named := ["franking/digest.start", "franking/digest.numbers"], plainKeys := false, apart := false, laid := [("franking/digest.start", laid_franking_digest_start), ("franking/digest.numbers", laid_franking_digest_numbers)] }
def ShuffleBoundSaid : Prop := shuffleBoundRow.holds Tryd.pinned (OpenSpec.ofChange shuffleBoundSpec)

/-- ITS FALSE NEIGHBOUR: 'it returns false'. Refute it at one input. -/
def shuffleBoundWrong : ChangeSpec := { name := "shuffleBound", fn := fun _ => fun
  | [d1, d2, d3, d4, d5] => { results := [.lit (.bool false)], args := [d1, d2, d3, d4, d5] }
  | _ => none }
def ShuffleBoundWrongFalsely : Prop := shuffleBoundRow.holds Tryd.pinned (OpenSpec.ofChange shuffleBoundWrong)

/-- 'frankinglaw14.ShuffleNoticed': WHATEVER THE INPUT: true; the input reads as it did. -/
def shuffleNoticedSpec : ChangeSpec := { name := "shuffleNoticed", fn := fun _ => fun
  | [d1, d2, d3, d4, d5, d6] => { results := [.lit (.bool true)], args := [d1, d2, d3, d4, d5, d6] }
  | _ => none }
def shuffleNoticedRow : OpenClaim := { program := "ythboebhghaabnaadoor", sum := "52ca25d82b2c23694dbbf481f56238d8d4e1330d59bb28bf950ca96666e33c00", func := "franking/frankinglaw14.ShuffleNoticed", spec := "shuffleNoticed", unfollowed := true, recurses := true, named := ["franking/digest.start", "franking/digest.numbers"], plainKeys := false, apart := false, laid := [("franking/digest.start", laid_franking_digest_start), ("franking/digest.numbers", laid_franking_digest_numbers)] }
def ShuffleNoticedSaid : Prop := shuffleNoticedRow.holds Tryd.pinned (OpenSpec.ofChange shuffleNoticedSpec)

/-- ITS FALSE NEIGHBOUR: 'it returns false'. Refute it at one input. -/
def shuffleNoticedWrong : ChangeSpec := { name := "shuffleNoticed", fn := fun _ => fun
  | [d1, d2, d3, d4, d5, d6] => { results := [.lit (.bool false)], args := [d1, d2, d3, d4, d5, d6] }
  | _ => none }
def ShuffleNoticedWrongFalsely : Prop := shuffleNoticedRow.holds Tryd.pinned (OpenSpec.ofChange shuffleNoticedWrong)

/-- 'frankinglaw14.ShuffleHonest': WHATEVER THE INPUT: true; the input reads as it did. -/
def shuffleHonestSpec : ChangeSpec := { name := "shuffleHonest", fn := fun _ => fun
  | [d1, d2, d3, d4, d5] => { results := [.lit (.bool true)], args := [d1, d2, d3, d4, d5] }
  | _ => none }
def shuffleHonestRow : OpenClaim := { program := "ythboebhghaabnaadoor", sum := "52ca25d82b2c23694dbbf481f56238d8d4e1330d59bb28bf950ca96666e33c00", func := "franking/frankinglaw14.ShuffleHonest", spec := "shuffleHonest", unfollowed := true, recurses := true, named := ["franking/digest.start", "franking/digest.numbers"], plainKeys := false, apart := false, laid := [("franking/digest.start", laid_franking_digest_start), ("franking/digest.numbers", laid_franking_digest_numbers)] }
def ShuffleHonestSaid : Prop := shuffleHonestRow.holds Tryd.pinned (OpenSpec.ofChange shuffleHonestSpec)

/-- ITS FALSE NEIGHBOUR: 'it returns false'. Refute it at one input. -/
def shuffleHonestWrong : ChangeSpec := { name := "shuffleHonest", fn := fun _ => fun
  | [d1, d2, d3, d4, d5] => { results := [.lit (.bool false)], args := [d1, d2, d3, d4, d5] }
  | _ => none }
def ShuffleHonestWrongFalsely : Prop := shuffleHonestRow.holds Tryd.pinned (OpenSpec.ofChange shuffleHonestWrong)

/- THE SECOND FORM. 'bulk': how many values and letters a reading holds, each counted each time it is reached (what is shared counts as often as it is met; a slice's spare places count too). A statement '..UptoSaid' is the law's where the arguments, and the package variables that the reading takes, are together of bulk at most 1048576: NARROWER than '..Said'. Prove '..Said' where nothing that the law and all that it calls make is longer than what came in: it says more and counts as full. Else prove '..UptoSaid'. A law counts once. -/
mutual
def uptoBulk {H : Type} : DataW H → Nat
  | .lit (.string bytes) => bytes.length + 1
  | .lit _ => 1
  | .nil => 1
  | .ptr d => uptoBulk d + 1
  | .slice elems spare => uptoBulkAll elems + uptoBulkAll spare + 1
  | .agg parts => uptoBulkAll parts + 1
  | .iface _ d => uptoBulk d + 1
  | .map entries => uptoBulkEntries entries + 1
  | .held _ => 1
def uptoBulkAll {H : Type} : List (DataW H) → Nat
  | [] => 0
  | d :: r => uptoBulk d + uptoBulkAll r
def uptoBulkEntries {H : Type} : List (Lit × DataW H) → Nat
  | [] => 0
  | x :: r => uptoBulkEntry x + uptoBulkEntries r
def uptoBulkEntry {H : Type} : Lit × DataW H → Nat
  | (.string bytes, d) => bytes.length + uptoBulk d + 1
  | (_, d) => uptoBulk d + 1
 end
def uptoSmall : (H : Type) → List (DataW H) → Bool := fun _ ds => decide (uptoBulkAll ds ≤ 1048576)
def OpenSpec.upto (s : _root_.Go.ChangeSpec) : _root_.Go.OpenSpec := { _root_.Go.OpenSpec.ofChange s with cond := some uptoSmall }

/-- 'frankinglaw14.ShuffleOpenSpec', WHERE WHAT IT READS IS OF BULK AT MOST 1048576: true; the input reads as it did. -/
def shuffleOpenSpecUptoRow : OpenClaim := { program := "ythboebhghaabnaadoor", sum := "52ca25d82b2c23694dbbf481f56238d8d4e1330d59bb28bf950ca96666e33c00", func := "franking/frankinglaw14.ShuffleOpenSpec", spec := "shuffleOpenSpec", unfollowed := true, recurses := true, named := ["franking/digest.start", "franking/digest.numbers"], plainKeys := false, apart := false, laid := [("franking/digest.start", laid_franking_digest_start), ("franking/digest.numbers", laid_franking_digest_numbers)], narrowed := true }
def ShuffleOpenSpecUptoSaid : Prop := shuffleOpenSpecUptoRow.holds Tryd.pinned (OpenSpec.upto shuffleOpenSpecSpec)

/-- 'frankinglaw14.ShuffleWholeSpec', WHERE WHAT IT READS IS OF BULK AT MOST 1048576: true; the input reads as it did. -/
def shuffleWholeSpecUptoRow : OpenClaim := { program := "ythboebhghaabnaadoor", sum := "52ca25d82b2c23694dbbf481f56238d8d4e1330d59bb28bf950ca96666e33c00", func := "franking/frankinglaw14.ShuffleWholeSpec", spec := "shuffleWholeSpec", unfollowed := true, recurses := true, named := ["franking/digest.start", "franking/digest.numbers"], plainKeys := false, apart := false, laid := [("franking/digest.start", laid_franking_digest_start), ("franking/digest.numbers", laid_franking_digest_numbers)], narrowed := true }
def ShuffleWholeSpecUptoSaid : Prop := shuffleWholeSpecUptoRow.holds Tryd.pinned (OpenSpec.upto shuffleWholeSpecSpec)

/-- 'frankinglaw14.ShuffleSound', WHERE WHAT IT READS IS OF BULK AT MOST 1048576: true; the input reads as it did. -/
def shuffleSoundUptoRow : OpenClaim := { program := "ythboebhghaabnaadoor", sum := "52ca25d82b2c23694dbbf481f56238d8d4e1330d59bb28bf950ca96666e33c00", func := "franking/frankinglaw14.ShuffleSound", spec := "shuffleSound", unfollowed := true, recurses := true, named := ["franking/digest.start", "franking/digest.numbers"], plainKeys := false, apart := false, laid := [("franking/digest.start", laid_franking_digest_start), ("franking/digest.numbers", laid_franking_digest_numbers)], narrowed := true }
def ShuffleSoundUptoSaid : Prop := shuffleSoundUptoRow.holds Tryd.pinned (OpenSpec.upto shuffleSoundSpec)

/-- 'frankinglaw14.ShuffleEither', WHERE WHAT IT READS IS OF BULK AT MOST 1048576: true; the input reads as it did. -/
def shuffleEitherUptoRow : OpenClaim := { program := "ythboebhghaabnaadoor", sum := "52ca25d82b2c23694dbbf481f56238d8d4e1330d59bb28bf950ca96666e33c00", func := "franking/frankinglaw14.ShuffleEither", spec := "shuffleEither", unfollowed := true, recurses := true, named := ["franking/digest.start", "franking/digest.numbers"], plainKeys := false, apart := false, laid := [("franking/digest.start", laid_franking_digest_start), ("franking/digest.numbers", laid_franking_digest_numbers)], narrowed := true }
def ShuffleEitherUptoSaid : Prop := shuffleEitherUptoRow.holds Tryd.pinned (OpenSpec.upto shuffleEitherSpec)

/-- 'frankinglaw14.ShuffleBound', WHERE WHAT IT READS IS OF BULK AT MOST 1048576: true; the input reads as it did. -/
def shuffleBoundUptoRow : OpenClaim := { program := "ythboebhghaabnaadoor", sum := "52ca25d82b2c23694dbbf481f56238d8d4e1330d59bb28bf950ca96666e33c00", func := "franking/frankinglaw14.ShuffleBound", spec := "shuffleBound", unfollowed := true, recurses := true, named := ["franking/digest.start", "franking/digest.numbers"], plainKeys := false, apart := false, laid := [("franking/digest.start", laid_franking_digest_start), ("franking/digest.numbers", laid_franking_digest_numbers)], narrowed := true }
def ShuffleBoundUptoSaid : Prop := shuffleBoundUptoRow.holds Tryd.pinned (OpenSpec.upto shuffleBoundSpec)

/-- 'frankinglaw14.ShuffleNoticed', WHERE WHAT IT READS IS OF BULK AT MOST 1048576: true; the input reads as it did. -/
def shuffleNoticedUptoRow : OpenClaim := { program := "ythboebhghaabnaadoor", sum := "52ca25d82b2c23694dbbf481f56238d8d4e1330d59bb28bf950ca96666e33c00", func := "franking/frankinglaw14.ShuffleNoticed", spec := "shuffleNoticed", unfollowed := true, recurses := true, named := ["franking/digest.start", "franking/digest.numbers"], plainKeys := false, apart := false, laid := [("franking/digest.start", laid_franking_digest_start), ("franking/digest.numbers", laid_franking_digest_numbers)], narrowed := true }
def ShuffleNoticedUptoSaid : Prop := shuffleNoticedUptoRow.holds Tryd.pinned (OpenSpec.upto shuffleNoticedSpec)

/-- 'frankinglaw14.ShuffleHonest', WHERE WHAT IT READS IS OF BULK AT MOST 1048576: true; the input reads as it did. -/
def shuffleHonestUptoRow : OpenClaim := { program := "ythboebhghaabnaadoor", sum := "52ca25d82b2c23694dbbf481f56238d8d4e1330d59bb28bf950ca96666e33c00", func := "franking/frankinglaw14.ShuffleHonest", spec := "shuffleHonest", unfollowed := true, recurses := true, named := ["franking/digest.start", "franking/digest.numbers"], plainKeys := false, apart := false, laid := [("franking/digest.start", laid_franking_digest_start), ("franking/digest.numbers", laid_franking_digest_numbers)], narrowed := true }
def ShuffleHonestUptoSaid : Prop := shuffleHonestUptoRow.holds Tryd.pinned (OpenSpec.upto shuffleHonestSpec)

end Rows
end Go.Proofs.YthboebhghaabnaaDoor
