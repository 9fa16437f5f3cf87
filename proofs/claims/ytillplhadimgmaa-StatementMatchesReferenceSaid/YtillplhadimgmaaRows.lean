/-
  No cell of these rows narrows 'for every input' (looked for: loops, veiled, ifaces, maps, wideKeys, modest, calm, conditions, laid).
  DERIVED. THE GIVEN ROWS OF THIS SEAT. 5 by the template 'for every input the law returns true; each argument reads behind the call as it read before'; 0 by the template 'total and deterministic' (their statements: YtillplhadimgmaaTotals.lean).
  GIVEN WITH THE SEED: the statements are not yours to turn. If you find one false, say at which input.
  Laid BY PROGRAM, IN A SANDBOX (cutbox-rows.mjs): the forced cells as the released guide's own fill.sh prints them over the translation 37453700ebf95f68… (all of the seat's roots in one cut). By AI agents, Wed Nov 11 2026. No macro, syntax, notation, axiom, sorry.
-/
import Derived.Test.YtillplhadimgmaaChecked
import GoSem.Claim
import GoSem.ClaimJoined
import GoSem.ClaimMapViews
import Derived.JoinedTies
import Derived.KernelRfl
namespace Go.Proofs.Ytillplhadimgmaa
/- THE CELL 'sum', in the pinned program and in every row, IS THE sha256 OF THE DUMP (.gsa) THAT YtillplhadimgmaaProg.lean LOADS. Nothing in Lean hashes anything: it is a label: what it is worth is what the hold of that sum in a sandbox is worth. -/
noncomputable def Try.pinned : Pinned := { name := "ytillplhadimgmaa", sum := "37453700ebf95f68eb585402ef8b47044fb0781f66d5e247a55ac2604e2ea927", checked := Try.checked }
namespace Rows
def none {H : Type} : Left H := { results := [], args := [] }

/-- 'royaltylaw19.StatementMatchesReference': WHATEVER THE INPUT: true; the input reads as it did. -/
def statementMatchesReferenceSpec : ChangeSpec := { name := "statementMatchesReference", fn := fun _ => fun
  | [d1, d2, d3, d4, d5, d6] => { results := [.lit (.bool true)], args := [d1, d2, d3, d4, d5, d6] }
  | _ => none }
def statementMatchesReferenceRow : OpenClaim := { program := "ytillplhadimgmaa", sum := "37453700ebf95f68eb585402ef8b47044fb0781f66d5e247a55ac2604e2ea927", func := "royalty/royaltylaw19.StatementMatchesReference", spec := "statementMatchesReference", inPlace := ["internal/abi.NoEscape"], unfollowed := true, recurses := true, apart := false }
def StatementMatchesReferenceSaid : Prop := statementMatchesReferenceRow.holds Try.pinned (OpenSpec.ofChange statementMatchesReferenceSpec)

/-- ITS FALSE NEIGHBOUR: 'it returns false'. Refute it at one input. -/
def statementMatchesReferenceWrong : ChangeSpec := { name := "statementMatchesReference", fn := fun _ => fun
  | [d1, d2, d3, d4, d5, d6] => { results := [.lit (.bool false)], args := [d1, d2, d3, d4, d5, d6] }
  | _ => none }
def StatementMatchesReferenceWrongFalsely : Prop := statementMatchesReferenceRow.holds Try.pinned (OpenSpec.ofChange statementMatchesReferenceWrong)

/-- 'royaltylaw19.StatementCodeMatchesReference': WHATEVER THE INPUT: true; the input reads as it did. -/
def statementCodeMatchesReferenceSpec : ChangeSpec := { name := "statementCodeMatchesReference", fn := fun _ => fun
  | [d1, d2, d3] => { results := [.lit (.bool true)], args := [d1, d2, d3] }
  | _ => none }
def statementCodeMatchesReferenceRow : OpenClaim := { program := "ytillplhadimgmaa", sum := "37453700ebf95f68eb585402ef8b47044fb0781f66d5e247a55ac2604e2ea927", func := "royalty/royaltylaw19.StatementCodeMatchesReference", spec := "statementCodeMatchesReference", inPlace := ["internal/abi.NoEscape"], unfollowed := true, recurses := true, apart := false }
def StatementCodeMatchesReferenceSaid : Prop := statementCodeMatchesReferenceRow.holds Try.pinned (OpenSpec.ofChange statementCodeMatchesReferenceSpec)

/-- ITS FALSE NEIGHBOUR: 'it returns false'. Refute it at one input. -/
def statementCodeMatchesReferenceWrong : ChangeSpec := { name := "statementCodeMatchesReference", fn := fun _ => fun
  | [d1, d2, d3] => { results := [.lit (.bool false)], args := [d1, d2, d3] }
  | _ => none }
def StatementCodeMatchesReferenceWrongFalsely : Prop := statementCodeMatchesReferenceRow.holds Try.pinned (OpenSpec.ofChange statementCodeMatchesReferenceWrong)

/-- 'royaltylaw19.StatementTelescopes': WHATEVER THE INPUT: true; the input reads as it did. -/
def statementTelescopesSpec : ChangeSpec := { name := "statementTelescopes", fn := fun _ => fun
  | [d1, d2] => { results := [.lit (.bool true)], args := [d1, d2] }
  | _ => none }
def statementTelescopesRow : OpenClaim := { program := "ytillplhadimgmaa", sum := "37453700ebf95f68eb585402ef8b47044fb0781f66d5e247a55ac2604e2ea927", func := "royalty/royaltylaw19.StatementTelescopes", spec := "statementTelescopes", inPlace := ["internal/abi.NoEscape"], unfollowed := true, recurses := true, apart := false }
def StatementTelescopesSaid : Prop := statementTelescopesRow.holds Try.pinned (OpenSpec.ofChange statementTelescopesSpec)

/-- ITS FALSE NEIGHBOUR: 'it returns false'. Refute it at one input. -/
def statementTelescopesWrong : ChangeSpec := { name := "statementTelescopes", fn := fun _ => fun
  | [d1, d2] => { results := [.lit (.bool false)], args := [d1, d2] }
  | _ => none }
def StatementTelescopesWrongFalsely : Prop := statementTelescopesRow.holds Try.pinned (OpenSpec.ofChange statementTelescopesWrong)

/-- 'royaltylaw19.StatementOwn': WHATEVER THE INPUT: true; the input reads as it did. -/
def statementOwnSpec : ChangeSpec := { name := "statementOwn", fn := fun _ => fun
  | [d1, d2, d3] => { results := [.lit (.bool true)], args := [d1, d2, d3] }
  | _ => none }
def statementOwnRow : OpenClaim := { program := "ytillplhadimgmaa", sum := "37453700ebf95f68eb585402ef8b47044fb0781f66d5e247a55ac2604e2ea927", func := "royalty/royaltylaw19.StatementOwn", spec := "statementOwn", inPlace := ["internal/abi.NoEscape"], unfollowed := true, recurses := true, apart := false }
def StatementOwnSaid : Prop := statementOwnRow.holds Try.pinned (OpenSpec.ofChange statementOwnSpec)

/-- ITS FALSE NEIGHBOUR: 'it returns false'. Refute it at one input. -/
def statementOwnWrong : ChangeSpec := { name := "statementOwn", fn := fun _ => fun
  | [d1, d2, d3] => { results := [.lit (.bool false)], args := [d1, d2, d3] }
  | _ => none }
def StatementOwnWrongFalsely : Prop := statementOwnRow.holds Try.pinned (OpenSpec.ofChange statementOwnWrong)

/-- 'royaltylaw19.StatementRoundTrip': WHATEVER THE INPUT: true; the input reads as it did. -/
def statementRoundTripSpec : ChangeSpec := { name := "statementRoundTrip", fn := fun _ => fun
  | [d1, d2, d3, d4, d5, d6] => { results := [.lit (.bool true)], args := [d1, d2, d3, d4, d5, d6] }
  | _ => none }
def statementRoundTripRow : OpenClaim := { program := "ytillplhadimgmaa", sum := "37453700ebf95f68eb585402ef8b47044fb0781f66d5e247a55ac2604e2ea927", func := "royalty/royaltylaw19.StatementRoundTrip", spec := "statementRoundTrip", inPlace := ["internal/abi.NoEscape"], unfollowed := true, recurses := true, apart := false }
def StatementRoundTripSaid : Prop := statementRoundTripRow.holds Try.pinned (OpenSpec.ofChange statementRoundTripSpec)

/-- ITS FALSE NEIGHBOUR: 'it returns false'. Refute it at one input. -/
def statementRoundTripWrong : ChangeSpec := { name := "statementRoundTrip", fn := fun _ => fun
  | [d1, d2, d3, d4, d5, d6] => { results := [.lit (.bool false)], args := [d1, d2, d3, d4, d5, d6] }
  | _ => none }
def StatementRoundTripWrongFalsely : Prop := statementRoundTripRow.holds Try.pinned (OpenSpec.ofChange statementRoundTripWrong)

/- THE SECOND FORM. 'bulk': how many values and letters a reading holds, each counted each time it is reached (what is shared counts as often as it is met; a slice's spare places count too). A statement '..UptoSaid' is the law's where the arguments, and the package variables that the reading takes, are together of bulk at most 1048576: NARROWER than '..Said'. Prove '..Said' where nothing that the law and all that it calls make is longer than what came in: it says more and counts as full. Else prove '..UptoSaid'. A law counts once. -/
mutual
def uptoBulk {H : Type} : DataW H → Nat
  | .lit (.string bytes) => bytes.length + 1
  | .lit _ => 1
  | .nil => 1
  | .ptr d => uptoBulk d + 1
  | .slice elems spare => uptoBulkAll elems + uptoBulkAll spare + 1
  | .agg parts => uptoBulkAll parts + 1
  | .iface _ d => uptoBulk d + 1
  | .map entries => uptoBulkEntries entries + 1
  | .held _ => 1
def uptoBulkAll {H : Type} : List (DataW H) → Nat
  | [] => 0
  | d :: r => uptoBulk d + uptoBulkAll r
def uptoBulkEntries {H : Type} : List (Lit × DataW H) → Nat
  | [] => 0
  | x :: r => uptoBulkEntry x + uptoBulkEntries r
def uptoBulkEntry {H : Type} : Lit × DataW H → Nat
  | (.string bytes, d) => bytes.length + uptoBulk d + 1
  | (_, d) => uptoBulk d + 1
 end
def uptoSmall : (H : Type) → List (DataW H) → Bool := fun _ ds => decide (uptoBulkAll ds ≤ 1048576)
def OpenSpec.upto (s : _root_.Go.ChangeSpec) : _root_.Go.OpenSpec := { _root_.Go.OpenSpec.ofChange s with cond := some uptoSmall }

/-- 'royaltylaw19.StatementMatchesReference', WHERE WHAT IT READS IS OF BULK AT MOST 1048576: true; the input reads as it did. -/
def statementMatchesReferenceUptoRow : OpenClaim := { program := "ytillplhadimgmaa", sum := "37453700ebf95f68eb585402ef8b47044fb0781f66d5e247a55ac2604e2ea927", func := "royalty/royaltylaw19.StatementMatchesReference", spec := "statementMatchesReference", inPlace := ["internal/abi.NoEscape"], unfollowed := true, recurses := true, apart := false, narrowed := true }
def StatementMatchesReferenceUptoSaid : Prop := statementMatchesReferenceUptoRow.holds Try.pinned (OpenSpec.upto statementMatchesReferenceSpec)

/-- 'royaltylaw19.StatementCodeMatchesReference', WHERE WHAT IT READS IS OF BULK AT MOST 1048576: true; the input reads as it did. -/
def statementCodeMatchesReferenceUptoRow : OpenClaim := { program := "ytillplhadimgmaa", sum := "37453700ebf95f68eb585402ef8b47044fb0781f66d5e247a55ac2604e2ea927", func := "royalty/royaltylaw19.StatementCodeMatchesReference", spec := "statementCodeMatchesReference", inPlace := ["internal/abi.NoEscape"], unfollowed := true, recurses := true, apart := false, narrowed := true }
def StatementCodeMatchesReferenceUptoSaid : Prop := statementCodeMatchesReferenceUptoRow.holds Try.pinned (OpenSpec.upto statementCodeMatchesReferenceSpec)

/-- 'royaltylaw19.StatementTelescopes', WHERE WHAT IT READS IS OF BULK AT MOST 1048576: true; the input reads as it did. -/
def statementTelescopesUptoRow : OpenClaim := { program := "ytillplhadimgmaa", sum := "37453700ebf95f68eb585402ef8b47044fb0781f66d5e247a55ac2604e2ea927", func := "royalty/royaltylaw19.StatementTelescopes", spec := "statementTelescopes", inPlace := ["internal/abi.NoEscape"], unfollowed := true, recurses := true, apart := false, narrowed := true }
def StatementTelescopesUptoSaid : Prop := statementTelescopesUptoRow.holds Try.pinned (OpenSpec.upto statementTelescopesSpec)

/-- 'royaltylaw19.StatementOwn', WHERE WHAT IT READS IS OF BULK AT MOST 1048576: true; the input reads as it did. -/
def statementOwnUptoRow : OpenClaim := { program := "ytillplhadimgmaa", sum := "37453700ebf95f68eb585402ef8b47044fb0781f66d5e247a55ac2604e2ea927", func := "royalty/royaltylaw19.StatementOwn", spec := "statementOwn", inPlace := ["internal/abi.NoEscape"], unfollowed := true, recurses := true, apart := false, narrowed := true }
def StatementOwnUptoSaid : Prop := statementOwnUptoRow.holds Try.pinned (OpenSpec.upto statementOwnSpec)

/-- 'royaltylaw19.StatementRoundTrip', WHERE WHAT IT READS IS OF BULK AT MOST 1048576: true; the input reads as it did. -/
def statementRoundTripUptoRow : OpenClaim := { program := "ytillplhadimgmaa", sum := "37453700ebf95f68eb585402ef8b47044fb0781f66d5e247a55ac2604e2ea927", func := "royalty/royaltylaw19.StatementRoundTrip", spec := "statementRoundTrip", inPlace := ["internal/abi.NoEscape"], unfollowed := true, recurses := true, apart := false, narrowed := true }
def StatementRoundTripUptoSaid : Prop := statementRoundTripUptoRow.holds Try.pinned (OpenSpec.upto statementRoundTripSpec)

end Rows
end Go.Proofs.Ytillplhadimgmaa
