/-
  NARROWER THAN 'FOR EVERY INPUT', by the rows' own cells (each row's printed sentence says how): FactMatchesReference: laid · FactEncodeMatchesReference: laid · FactDecodeMatchesReference: laid · FactRoundTrip: laid · FactDecodedAgain: laid · FactPrefixes: laid · FactOrder: laid · FactIdentified: laid · FactVersions: laid.
  DERIVED. THE GIVEN ROWS OF THIS SEAT. 9 by the template 'for every input the law returns true; each argument reads behind the call as it read before'; 0 by the template 'total and deterministic' (their statements: YtpihhjpgdbcifaaDoorTotals.lean).
  GIVEN WITH THE SEED: the statements are not yours to turn. If you find one false, say at which input.
  Laid BY PROGRAM, IN A SANDBOX (cutbox-rows.mjs): the forced cells as the released guide's own fill.sh prints them over the translation a881d86d22b38392… (all of the seat's roots in one cut). By AI agents, Wed Nov 11 2026. No macro, syntax, notation, axiom, sorry.
-/
import Derived.Test.YtpihhjpgdbcifaaDoorChecked
import GoSem.Claim
import GoSem.ClaimJoined
import GoSem.ClaimMapViews
import Derived.JoinedTies
import Derived.KernelRfl
namespace Go.Proofs.YtpihhjpgdbcifaaDoor
/- THE CELL 'sum', in the pinned program and in every row, IS THE sha256 OF THE DUMP (.gsa) THAT YtpihhjpgdbcifaaDoorProg.lean LOADS. Nothing in Lean hashes anything: it is a label: what it is worth is what the hold of that sum in a sandbox is worth. -/
noncomputable def Tryd.pinned : Pinned := { name := "ytpihhjpgdbcifaadoor", sum := "a881d86d22b383929238dd9f46d1abc2d4b8f9abd65d40be7ad9e9c6c90ed3c4", checked := Tryd.checked }
namespace Rows
def none {H : Type} : Left H := { results := [], args := [] }

/- WHAT THE LISTED PACKAGE-LEVEL VARIABLES READ AS WHEN THE CALL BEGINS. Each datum BY PROGRAM (the guide's laid-datum.mjs) off the statement by which the dump's own 'gosem.cut.vars' lays the variable. In a bare row this is a premise. The card (YtpihhjpgdbcifaaDoorCards.lean) ties it to the program's text. -/
def laid_royalty_digest_round {H : Type} : DataW H := .agg [.lit (.int .u32 1116352408), .lit (.int .u32 1899447441), .lit (.int .u32 3049323471), .lit (.int .u32 3921009573), .lit (.int .u32 961987163), .lit (.int .u32 1508970993), .lit (.int .u32 2453635748), .lit (.int .u32 2870763221), .lit (.int .u32 3624381080), .lit (.int .u32 310598401), .lit (.int .u32 607225278), .lit (.int .u32 1426881987), .lit (.int .u32 1925078388), .lit (.int .u32 2162078206), .lit (.int .u32 2614888103), .lit (.int .u32 3248222580), .lit (.int .u32 3835390401), .lit (.int .u32 4022224774), .lit (.int .u32 264347078), .lit (.int .u32 604807628), .lit (.int .u32 770255983), .lit (.int .u32 1249150122), .lit (.int .u32 1555081692), .lit (.int .u32 1996064986), .lit (.int .u32 2554220882), .lit (.int .u32 2821834349), .lit (.int .u32 2952996808), .lit (.int .u32 3210313671), .lit (.int .u32 3336571891), .lit (.int .u32 3584528711), .lit (.int .u32 113926993), .lit (.int .u32 338241895), .lit (.int .u32 666307205), .lit (.int .u32 773529912), .lit (.int .u32 1294757372), .lit (.int .u32 1396182291), .lit (.int .u32 1695183700), .lit (.int .u32 1986661051), .lit (.int .u32 2177026350), .lit (.int .u32 2456956037), .lit (.int .u32 2730485921), .lit (.int .u32 2820302411), .lit (.int .u32 3259730800), .lit (.int .u32 3345764771), .lit (.int .u32 3516065817), .lit (.int .u32 3600352804), .lit (.int .u32 4094571909), .lit (.int .u32 275423344), .lit (.int .u32 430227734), .lit (.int .u32 506948616), .lit (.int .u32 659060556), .lit (.int .u32 883997877), .lit (.int .u32 958139571), .lit (.int .u32 1322822218), .lit (.int .u32 1537002063), .lit (.int .u32 1747873779), .lit (.int .u32 1955562222), .lit (.int .u32 2024104815), .lit (.int .u32 2227730452), .lit (.int .u32 2361852424), .lit (.int .u32 2428436474), .lit (.int .u32 2756734187), .lit (.int .u32 3204031479), .lit (.int .u32 3329325298)]
def laid_royalty_fact_errWire {H : Type} : DataW H := .iface "*errors.errorString" (.ptr (.agg [.lit (.string [109, 97, 108, 102, 111, 114, 109, 101, 100])]))

/-- 'royaltylaw05.FactMatchesReference': WHATEVER THE INPUT: true; the input reads as it did. -/
def factMatchesReferenceSpec : ChangeSpec := { name := "factMatchesReference", fn := fun _ => fun
  | [d1, d2] => { results := [.lit (.bool true)], args := [d1, d2] }
  | _ => none }
def factMatchesReferenceRow : OpenClaim := { program := "ytpihhjpgdbcifaadoor", sum := "a881d86d22b383929238dd9f46d1abc2d4b8f9abd65d40be7ad9e9c6c90ed3c4", func := "royalty/royaltylaw05.FactMatchesReference", spec := "factMatchesReference", inPlace := ["internal/abi.NoEscape", "internal/reflectlite.TypeOf", "internal/bytealg.abigen_runtime_cmpstring"], unfollowed := true, recurses := true, named := ["royalty/fact.errWire", "royalty/digest.round"], apart := false, laid := [("royalty/digest.round", laid_royalty_digest_round), ("royalty/fact.errWire", laid_royalty_fact_errWire)] }
def FactMatchesReferenceSaid : Prop := factMatchesReferenceRow.holds Tryd.pinned (OpenSpec.ofChange factMatchesReferenceSpec)

/-- ITS FALSE NEIGHBOUR: 'it returns false'. Refute it at one input. -/
def factMatchesReferenceWrong : ChangeSpec := { name := "factMatchesReference", fn := fun _ => fun
  | [d1, d2] => { results := [.lit (.bool false)], args := [d1, d2] }
  | _ => none }
def FactMatchesReferenceWrongFalsely : Prop := factMatchesReferenceRow.holds Tryd.pinned (OpenSpec.ofChange factMatchesReferenceWrong)

/-- 'royaltylaw05.FactEncodeMatchesReference': WHATEVER THE INPUT: true; the input reads as it did. -/
def factEncodeMatchesReferenceSpec : ChangeSpec := { name := "factEncodeMatchesReference", fn := fun _ => fun
  | [d] => { results := [.lit (.bool true)], args := [d] }
  | _ => none }
def factEncodeMatchesReferenceRow : OpenClaim := { program := "ytpihhjpgdbcifaadoor", sum := "a881d86d22b383929238dd9f46d1abc2d4b8f9abd65d40be7ad9e9c6c90ed3c4", func := "royalty/royaltylaw05.FactEncodeMatchesReference", spec := "factEncodeMatchesReference", inPlace := ["internal/abi.NoEscape", "internal/reflectlite.TypeOf", "internal/bytealg.abigen_runtime_cmpstring"], unfollowed := true, recurses := true, named := ["royalty/fact.errWire", "royalty/digest.round"], apart := false, laid := [("royalty/digest.round", laid_royalty_digest_round), ("royalty/fact.errWire", laid_royalty_fact_errWire)] }
def FactEncodeMatchesReferenceSaid : Prop := factEncodeMatchesReferenceRow.holds Tryd.pinned (OpenSpec.ofChange factEncodeMatchesReferenceSpec)

/-- ITS FALSE NEIGHBOUR: 'it returns false'. Refute it at one input. -/
def factEncodeMatchesReferenceWrong : ChangeSpec := { name := "factEncodeMatchesReference", fn := fun _ => fun
  | [d] => { results := [.lit (.bool false)], args := [d] }
  | _ => none }
def FactEncodeMatchesReferenceWrongFalsely : Prop := factEncodeMatchesReferenceRow.holds Tryd.pinned (OpenSpec.ofChange factEncodeMatchesReferenceWrong)

/-- 'royaltylaw05.FactDecodeMatchesReference': WHATEVER THE INPUT: true; the input reads as it did. -/
def factDecodeMatchesReferenceSpec : ChangeSpec := { name := "factDecodeMatchesReference", fn := fun _ => fun
  | [d] => { results := [.lit (.bool true)], args := [d] }
  | _ => none }
def factDecodeMatchesReferenceRow : OpenClaim := { program := "ytpihhjpgdbcifaadoor", sum := "a881d86d22b383929238dd9f46d1abc2d4b8f9abd65d40be7ad9e9c6c90ed3c4", func := "royalty/royaltylaw05.FactDecodeMatchesReference", spec := "factDecodeMatchesReference", inPlace := ["internal/abi.NoEscape", "internal/reflectlite.TypeOf", "internal/bytealg.abigen_runtime_cmpstring"], unfollowed := true, recurses := true, named := ["royalty/fact.errWire", "royalty/digest.round"], apart := false, laid := [("royalty/digest.round", laid_royalty_digest_round), ("royalty/fact.errWire", laid_royalty_fact_errWire)] }
def FactDecodeMatchesReferenceSaid : Prop := factDecodeMatchesReferenceRow.holds Tryd.pinned (OpenSpec.ofChange factDecodeMatchesReferenceSpec)

/-- ITS FALSE NEIGHBOUR: 'it returns false'. Refute it at one input. -/
def factDecodeMatchesReferenceWrong : ChangeSpec := { name := "factDecodeMatchesReference", fn := fun _ => fun
  | [d] => { results := [.lit (.bool false)], args := [d] }
  | _ => none }
def FactDecodeMatchesReferenceWrongFalsely : Prop := factDecodeMatchesReferenceRow.holds Tryd.pinned (OpenSpec.ofChange factDecodeMatchesReferenceWrong)

/-- 'royaltylaw05.FactRoundTrip': WHATEVER THE INPUT: true; the input reads as it did. -/
def factRoundTripSpec : ChangeSpec := { name := "factRoundTrip", fn := fun _ => fun
  | [d1, d2] => { results := [.lit (.bool true)], args := [d1, d2] }
  | _ => none }
def factRoundTripRow : OpenClaim := { program := "ytpihhjpgdbcifaadoor", sum := "a881d86d22b383929238dd9f46d1abc2d4b8f9abd65d40be7ad9e9c6c90ed3c4", func := "royalty/royaltylaw05.FactRoundTrip", spec := "factRoundTrip", inPlace := ["internal/abi.NoEscape", "internal/reflectlite.TypeOf", "internal/bytealg.abigen_runtime_cmpstring"], unfollowed := true, recurses := true, named := ["royalty/fact.errWire", "royalty/digest.round"], apart := false, laid := [("royalty/digest.round", laid_royalty_digest_round), ("royalty/fact.errWire", laid_royalty_fact_errWire)] }
def FactRoundTripSaid : Prop := factRoundTripRow.holds Tryd.pinned (OpenSpec.ofChange factRoundTripSpec)

/-- ITS FALSE NEIGHBOUR: 'it returns false'. Refute it at one input. -/
def factRoundTripWrong : ChangeSpec := { name := "factRoundTrip", fn := fun _ => fun
  | [d1, d2] => { results := [.lit (.bool false)], args := [d1, d2] }
  | _ => none }
def FactRoundTripWrongFalsely : Prop := factRoundTripRow.holds Tryd.pinned (OpenSpec.ofChange factRoundTripWrong)

/-- 'royaltylaw05.FactDecodedAgain': WHATEVER THE INPUT: true; the input reads as it did. -/
def factDecodedAgainSpec : ChangeSpec := { name := "factDecodedAgain", fn := fun _ => fun
  | [d] => { results := [.lit (.bool true)], args := [d] }
  | _ => none }
def factDecodedAgainRow : OpenClaim := { program := "ytpihhjpgdbcifaadoor", sum := "a881d86d22b383929238dd9f46d1abc2d4b8f9abd65d40be7ad9e9c6c90ed3c4", func := "royalty/royaltylaw05.FactDecodedAgain", spec := "factDecodedAgain", inPlace := ["internal/abi.NoEscape", "internal/reflectlite.TypeOf", "internal/bytealg.abigen_runtime_cmpstring"], unfollowed := true, recurses := true, named := ["royalty/fact.errWire", "royalty/digest.round"], apart := false, laid := [("royalty/digest.round", laid_royalty_digest_round), ("royalty/fact.errWire", laid_royalty_fact_errWire)] }
def FactDecodedAgainSaid : Prop := factDecodedAgainRow.holds Tryd.pinned (OpenSpec.ofChange factDecodedAgainSpec)

/-- ITS FALSE NEIGHBOUR: 'it returns false'. Refute it at one input. -/
def factDecodedAgainWrong : ChangeSpec := { name := "factDecodedAgain", fn := fun _ => fun
  | [d] => { results := [.lit (.bool false)], args := [d] }
  | _ => none }
def FactDecodedAgainWrongFalsely : Prop := factDecodedAgainRow.holds Tryd.pinned (OpenSpec.ofChange factDecodedAgainWrong)

/-- 'royaltylaw05.FactPrefixes': WHATEVER THE INPUT: true; the input reads as it did. -/
def factPrefixesSpec : ChangeSpec := { name := "factPrefixes", fn := fun _ => fun
  | [d1, d2, d3] => { results := [.lit (.bool true)], args := [d1, d2, d3] }
  | _ => none }
def factPrefixesRow : OpenClaim := { program := "ytpihhjpgdbcifaadoor", sum := "a881d86d22b383929238dd9f46d1abc2d4b8f9abd65d40be7ad9e9c6c90ed3c4", func := "royalty/royaltylaw05.FactPrefixes", spec := "factPrefixes", inPlace := ["internal/abi.NoEscape", "internal/reflectlite.TypeOf", "internal/bytealg.abigen_runtime_cmpstring"], unfollowed := true, recurses := true, named := ["royalty/fact.errWire", "royalty/digest.round"], apart := false, laid := [("royalty/digest.round", laid_royalty_digest_round), ("royalty/fact.errWire", laid_royalty_fact_errWire)] }
def FactPrefixesSaid : Prop := factPrefixesRow.holds Tryd.pinned (OpenSpec.ofChange factPrefixesSpec)

/-- ITS FALSE NEIGHBOUR: 'it returns false'. Refute it at one input. -/
def factPrefixesWrong : ChangeSpec := { name := "factPrefixes", fn := fun _ => fun
  | [d1, d2, d3] => { results := [.lit (.bool false)], args := [d1, d2, d3] }
  | _ => none }
def FactPrefixesWrongFalsely : Prop := factPrefixesRow.holds Tryd.pinned (OpenSpec.ofChange factPrefixesWrong)

/-- 'royaltylaw05.FactOrder': WHATEVER THE INPUT: true; the input reads as it did. -/
def factOrderSpec : ChangeSpec := { name := "factOrder", fn := fun _ => fun
  | [d1, d2, d3] => { results := [.lit (.bool true)], args := [d1, d2, d3] }
  | _ => none }
def factOrderRow : OpenClaim := { program := "ytpihhjpgdbcifaadoor", sum := "a881d86d22b383929238dd9f46d1abc2d4b8f9abd65d40be7ad9e9c6c90ed3c4", func := "royalty/royaltylaw05.FactOrder", spec := "factOrder", inPlace := ["internal/abi.NoEscape", "internal/reflectlite.TypeOf", "internal/bytealg.abigen_runtime_cmpstring"], unfollowed := true, recurses := true, named := ["royalty/fact.errWire", "royalty/digest.round"], apart := false, laid := [("royalty/digest.round", laid_royalty_digest_round), ("royalty/fact.errWire", laid_royalty_fact_errWire)] }
def FactOrderSaid : Prop := factOrderRow.holds Tryd.pinned (OpenSpec.ofChange factOrderSpec)

/-- ITS FALSE NEIGHBOUR: 'it returns false'. Refute it at one input. -/
def factOrderWrong : ChangeSpec := { name := "factOrder", fn := fun _ => fun
  | [d1, d2, d3] => { results := [.lit (.bool false)], args := [d1, d2, d3] }
  | _ => none }
def FactOrderWrongFalsely : Prop := factOrderRow.holds Tryd.pinned (OpenSpec.ofChange factOrderWrong)

/-- 'royaltylaw05.FactIdentified': WHATEVER THE INPUT: true; the input reads as it did. -/
def factIdentifiedSpec : ChangeSpec := { name := "factIdentified", fn := fun _ => fun
  | [d1, d2] => { results := [.lit (.bool true)], args := [d1, d2] }
  | _ => none }
def factIdentifiedRow : OpenClaim := { program := "ytpihhjpgdbcifaadoor", sum := "a881d86d22b383929238dd9f46d1abc2d4b8f9abd65d40be7ad9e9c6c90ed3c4", func := "royalty/royaltylaw05.FactIdentified", spec := "factIdentified", inPlace := ["internal/abi.NoEscape", "internal/reflectlite.TypeOf", "internal/bytealg.abigen_runtime_cmpstring"], unfollowed := true, recurses := true, named := ["royalty/fact.errWire", "royalty/digest.round"], apart := false, laid := [("royalty/digest.round", laid_royalty_digest_round), ("royalty/fact.errWire", laid_royalty_fact_errWire)] }
def FactIdentifiedSaid : Prop := factIdentifiedRow.holds Tryd.pinned (OpenSpec.ofChange factIdentifiedSpec)

/-- ITS FALSE NEIGHBOUR: 'it returns false'. Refute it at one input. -/
def factIdentifiedWrong : ChangeSpec := { name := "factIdentified", fn := fun _ => fun
  | [d1, d2] => { results := [.lit (.bool false)], args := [d1, d2] }
  | _ => none }
def FactIdentifiedWrongFalsely : Prop := factIdentifiedRow.holds Tryd.pinned (OpenSpec.ofChange factIdentifiedWrong)

/-- 'royaltylaw05.FactVersions': WHATEVER THE INPUT: true; the input reads as it did. -/
def factVersionsSpec : ChangeSpec := { name := "factVersions", fn := fun _ => fun
  | [d1, d2, d3] => { results := [.lit (.bool true)], args := [d1, d2, d3] }
  | _ => none }
def factVersionsRow : OpenClaim := { program := "ytpihhjpgdbcifaadoor", sum := "a881d86d22b383929238dd9f46d1abc2d4b8f9abd65d40be7ad9e9c6c90ed3c4", func := "royalty/royaltylaw05.FactVersions", spec := "factVersions", inPlace := ["internal/abi.NoEscape", "internal/reflectlite.TypeOf", "internal/bytealg.abigen_runtime_cmpstring"], unfollowed := true, recurses := true, named := ["royalty/fact.errWire", "royalty/digest.round"], apart := false, laid := [("royalty/digest.round", laid_royalty_digest_round), ("royalty/fact.errWire", laid_royalty_fact_errWire)] }
def FactVersionsSaid : Prop := factVersionsRow.holds Tryd.pinned (OpenSpec.ofChange factVersionsSpec)

/-- ITS FALSE NEIGHBOUR: 'it returns false'. Refute it at one input. -/
def factVersionsWrong : ChangeSpec := { name := "factVersions", fn := fun _ => fun
  | [d1, d2, d3] => { results := [.lit (.bool false)], args := [d1, d2, d3] }
  | _ => none }
def FactVersionsWrongFalsely : Prop := factVersionsRow.holds Tryd.pinned (OpenSpec.ofChange factVersionsWrong)

/- THE SECOND FORM. 'bulk': how many values and letters a reading holds, each counted each time it is reached (what is shared counts as often as it is met; a slice's spare places count too). A statement '..UptoSaid' is the law's where the arguments, and the package variables that the reading takes, are together of bulk at most 1048576: NARROWER than '..Said'. Prove '..Said' where nothing that the law and all that it calls make is longer than what came in: it says more and counts as full. Else prove '..UptoSaid'. A law counts once. -/
mutual
def uptoBulk {H : Type} : DataW H → Nat
  | .lit (.string bytes) => bytes.length + 1
  | .lit _ => 1
  | .nil => 1
  | .ptr d => uptoBulk d + 1
  | .slice elems spare => uptoBulkAll elems + uptoBulkAll spare + 1
  | .agg parts => uptoBulkAll parts + 1
  | .iface _ d => uptoBulk d + 1
  | .map entries => uptoBulkEntries entries + 1
  | .held _ => 1
def uptoBulkAll {H : Type} : List (DataW H) → Nat
  | [] => 0
  | d :: r => uptoBulk d + uptoBulkAll r
def uptoBulkEntries {H : Type} : List (Lit × DataW H) → Nat
  | [] => 0
  | x :: r => uptoBulkEntry x + uptoBulkEntries r
def uptoBulkEntry {H : Type} : Lit × DataW H → Nat
  | (.string bytes, d) => bytes.length + uptoBulk d + 1
  | (_, d) => uptoBulk d + 1
 end
def uptoSmall : (H : Type) → List (DataW H) → Bool := fun _ ds => decide (uptoBulkAll ds ≤ 1048576)
def OpenSpec.upto (s : _root_.Go.ChangeSpec) : _root_.Go.OpenSpec := { _root_.Go.OpenSpec.ofChange s with cond := some uptoSmall }

/-- 'royaltylaw05.FactMatchesReference', WHERE WHAT IT READS IS OF BULK AT MOST 1048576: true; the input reads as it did. -/
def factMatchesReferenceUptoRow : OpenClaim := { program := "ytpihhjpgdbcifaadoor", sum := "a881d86d22b383929238dd9f46d1abc2d4b8f9abd65d40be7ad9e9c6c90ed3c4", func := "royalty/royaltylaw05.FactMatchesReference", spec := "factMatchesReference", inPlace := ["internal/abi.NoEscape", "internal/reflectlite.TypeOf", "internal/bytealg.abigen_runtime_cmpstring"], unfollowed := true, recurses := true, named := ["royalty/fact.errWire", "royalty/digest.round"], apart := false, laid := [("royalty/digest.round", laid_royalty_digest_round), ("royalty/fact.errWire", laid_royalty_fact_errWire)], narrowed := true }
def FactMatchesReferenceUptoSaid : Prop := factMatchesReferenceUptoRow.holds Tryd.pinned (OpenSpec.upto factMatchesReferenceSpec)

/-- 'royaltylaw05.FactEncodeMatchesReference', WHERE WHAT IT READS IS OF BULK AT MOST 1048576: true; the input reads as it did. -/
def factEncodeMatchesReferenceUptoRow : OpenClaim := { program := "ytpihhjpgdbcifaadoor", sum := "a881d86d22b383929238dd9f46d1abc2d4b8f9abd65d40be7ad9e9c6c90ed3c4", func := "royalty/royaltylaw05.FactEncodeMatchesReference", spec := "factEncodeMatchesReference", inPlace := ["internal/abi.NoEscape", "internal/reflectlite.TypeOf", "internal/bytealg.abigen_runtime_cmpstring"], unfollowed := true, recurses := true, named := ["royalty/fact.errWire", "royalty/digest.round"], apart := false, laid := [("royalty/digest.round", laid_royalty_digest_round), ("royalty/fact.errWire", laid_royalty_fact_errWire)], narrowed := true }
def FactEncodeMatchesReferenceUptoSaid : Prop := factEncodeMatchesReferenceUptoRow.holds Tryd.pinned (OpenSpec.upto factEncodeMatchesReferenceSpec)

/-- 'royaltylaw05.FactDecodeMatchesReference', WHERE WHAT IT READS IS OF BULK AT MOST 1048576: true; the input reads as it did. -/
def factDecodeMatchesReferenceUptoRow : OpenClaim := { program := "ytpihhjpgdbcifaadoor", sum := "a881d86d22b383929238dd9f46d1abc2d4b8f9abd65d40be7ad9e9c6c90ed3c4", func := "royalty/royaltylaw05.FactDecodeMatchesReference", spec := "factDecodeMatchesReference", inPlace := ["internal/abi.NoEscape", "internal/reflectlite.TypeOf", "internal/bytealg.abigen_runtime_cmpstring"], unfollowed := true, recurses := true, named := ["royalty/fact.errWire", "royalty/digest.round"], apart := false, laid := [("royalty/digest.round", laid_royalty_digest_round), ("royalty/fact.errWire", laid_royalty_fact_errWire)], narrowed := true }
def FactDecodeMatchesReferenceUptoSaid : Prop := factDecodeMatchesReferenceUptoRow.holds Tryd.pinned (OpenSpec.upto factDecodeMatchesReferenceSpec)

/-- 'royaltylaw05.FactRoundTrip', WHERE WHAT IT READS IS OF BULK AT MOST 1048576: true; the input reads as it did. -/
def factRoundTripUptoRow : OpenClaim := { program := "ytpihhjpgdbcifaadoor", sum := "a881d86d22b383929238dd9f46d1abc2d4b8f9abd65d40be7ad9e9c6c90ed3c4", func := "royalty/royaltylaw05.FactRoundTrip", spec := "factRoundTrip", inPlace := ["internal/abi.NoEscape", "internal/reflectlite.TypeOf", "internal/bytealg.abigen_runtime_cmpstring"], unfollowed := true, recurses := true, named := ["royalty/fact.errWire", "royalty/digest.round"], apart := false, laid := [("royalty/digest.round", laid_royalty_digest_round), ("royalty/fact.errWire", laid_royalty_fact_errWire)], narrowed := true }
def FactRoundTripUptoSaid : Prop := factRoundTripUptoRow.holds Tryd.pinned (OpenSpec.upto factRoundTripSpec)

/-- 'royaltylaw05.FactDecodedAgain', WHERE WHAT IT READS IS OF BULK AT MOST 1048576: true; the input reads as it did. -/
def factDecodedAgainUptoRow : OpenClaim := { program := "ytpihhjpgdbcifaadoor", sum := "a881d86d22b383929238dd9f46d1abc2d4b8f9abd65d40be7ad9e9c6c90ed3c4", func := "royalty/royaltylaw05.FactDecodedAgain", spec := "factDecodedAgain", inPlace := ["internal/abi.NoEscape", "internal/reflectlite.TypeOf", "internal/bytealg.abigen_runtime_cmpstring"], unfollowed := true, recurses := true, named := ["royalty/fact.errWire", "royalty/digest.round"], apart := false, laid := [("royalty/digest.round", laid_royalty_digest_round), ("royalty/fact.errWire", laid_royalty_fact_errWire)], narrowed := true }
def FactDecodedAgainUptoSaid : Prop := factDecodedAgainUptoRow.holds Tryd.pinned (OpenSpec.upto factDecodedAgainSpec)

/-- 'royaltylaw05.FactPrefixes', WHERE WHAT IT READS IS OF BULK AT MOST 1048576: true; the input reads as it did. -/
def factPrefixesUptoRow : OpenClaim := { program := "ytpihhjpgdbcifaadoor", sum := "a881d86d22b383929238dd9f46d1abc2d4b8f9abd65d40be7ad9e9c6c90ed3c4", func := "royalty/royaltylaw05.FactPrefixes", spec := "factPrefixes", inPlace := ["internal/abi.NoEscape", "internal/reflectlite.TypeOf", "internal/bytealg.abigen_runtime_cmpstring"], unfollowed := true, recurses := true, named := ["royalty/fact.errWire", "royalty/digest.round"], apart := false, laid := [("royalty/digest.round", laid_royalty_digest_round), ("royalty/fact.errWire", laid_royalty_fact_errWire)], narrowed := true }
def FactPrefixesUptoSaid : Prop := factPrefixesUptoRow.holds Tryd.pinned (OpenSpec.upto factPrefixesSpec)

/-- 'royaltylaw05.FactOrder', WHERE WHAT IT READS IS OF BULK AT MOST 1048576: true; the input reads as it did. -/
def factOrderUptoRow : OpenClaim := { program := "ytpihhjpgdbcifaadoor", sum := "a881d86d22b383929238dd9f46d1abc2d4b8f9abd65d40be7ad9e9c6c90ed3c4", func := "royalty/royaltylaw05.FactOrder", spec := "factOrder", inPlace := ["internal/abi.NoEscape", "internal/reflectlite.TypeOf", "internal/bytealg.abigen_runtime_cmpstring"], unfollowed := true, recurses := true, named := ["royalty/fact.errWire", "royalty/digest.round"], apart := false, laid := [("royalty/digest.round", laid_royalty_digest_round), ("royalty/fact.errWire", laid_royalty_fact_errWire)], narrowed := true }
def FactOrderUptoSaid : Prop := factOrderUptoRow.holds Tryd.pinned (OpenSpec.upto factOrderSpec)

/-- 'royaltylaw05.FactIdentified', WHERE WHAT IT READS IS OF BULK AT MOST 1048576: true; the input reads as it did. -/
def factIdentifiedUptoRow : OpenClaim := { program := "ytpihhjpgdbcifaadoor", sum := "a881d86d22b383929238dd9f46d1abc2d4b8f9abd65d40be7ad9e9c6c90ed3c4", func := "royalty/royaltylaw05.FactIdentified", spec := "factIdentified", inPlace := ["internal/abi.NoEscape", "internal/reflectlite.TypeOf", "internal/bytealg.abigen_runtime_cmpstring"], unfollowed := true, recurses := true, named := ["royalty/fact.errWire", "royalty/digest.round"], apart := false, laid := [("royalty/digest.round", laid_royalty_digest_round), ("royalty/fact.errWire", laid_royalty_fact_errWire)], narrowed := true }
def FactIdentifiedUptoSaid : Prop := factIdentifiedUptoRow.holds Tryd.pinned (OpenSpec.upto factIdentifiedSpec)

/-- 'royaltylaw05.FactVersions', WHERE WHAT IT READS IS OF BULK AT MOST 1048576: true; the input reads as it did. -/
def factVersionsUptoRow : OpenClaim := { program := "ytpihhjpgdbcifaadoor", sum := "a881d86d22b383929238dd9f46d1abc2d4b8f9abd65d40be7ad9e9c6c90ed3c4", func := "royalty/royaltylaw05.FactVersions", spec := "factVersions", inPlace := ["internal/abi.NoEscape", "internal/reflectlite.TypeOf", "internal/bytealg.abigen_runtime_cmpstring"], unfollowed := true, recurses := true, named := ["royalty/fact.errWire", "royalty/digest.round"], apart := false, laid := [("royalty/digest.round", laid_royalty_digest_round), ("royalty/fact.errWire", laid_royalty_fact_errWire)], narrowed := true }
def FactVersionsUptoSaid : Prop := factVersionsUptoRow.holds Tryd.pinned (OpenSpec.upto factVersionsSpec)

end Rows
end Go.Proofs.YtpihhjpgdbcifaaDoor
