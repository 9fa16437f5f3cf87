/-
  No cell of these rows narrows 'for every input' (looked for: loops, veiled, ifaces, maps, wideKeys, modest, calm, conditions, laid).
  DERIVED. THE GIVEN ROWS OF THIS SEAT. 5 by the template 'for every input the law returns true; each argument reads behind the call as it read before'; 0 by the template 'total and deterministic' (their statements: YtbmlfejlmedmgaaTotals.lean).
  GIVEN WITH THE SEED: the statements are not yours to turn. If you find one false, say at which input.
  Laid BY PROGRAM, IN A SANDBOX (cutbox-rows.mjs): the forced cells as the released guide's own fill.sh prints them over the translation d25bbb5e9d599355… (all of the seat's roots in one cut). By AI agents, Wed Nov 11 2026. No macro, syntax, notation, axiom, sorry.
-/
import Derived.Test.YtbmlfejlmedmgaaChecked
import GoSem.Claim
import GoSem.ClaimJoined
import GoSem.ClaimMapViews
import Derived.JoinedTies
import Derived.KernelRfl
namespace Go.Proofs.Ytbmlfejlmedmgaa
/- THE CELL 'sum', in the pinned program and in every row, IS THE sha256 OF THE DUMP (.gsa) THAT YtbmlfejlmedmgaaProg.lean LOADS. Nothing in Lean hashes anything: it is a label: what it is worth is what the hold of that sum in a sandbox is worth. -/
noncomputable def Try.pinned : Pinned := { name := "ytbmlfejlmedmgaa", sum := "d25bbb5e9d59935557260465c27ca017d5cda4af36c42248d9a2647ff201fbe8", checked := Try.checked }
namespace Rows
def none {H : Type} : Left H := { results := [], args := [] }

/-- 'royaltylaw10.GraphMatchesReference': WHATEVER THE INPUT: true; the input reads as it did. -/
def graphMatchesReferenceSpec : ChangeSpec := { name := "graphMatchesReference", fn := fun _ => fun
  | [d1, d2, d3, d4] => { results := [.lit (.bool true)], args := [d1, d2, d3, d4] }
  | _ => none }
def graphMatchesReferenceRow : OpenClaim := { program := "ytbmlfejlmedmgaa", sum := "d25bbb5e9d59935557260465c27ca017d5cda4af36c42248d9a2647ff201fbe8", func := "royalty/royaltylaw10.GraphMatchesReference", spec := "graphMatchesReference", unfollowed := true, recurses := true, plainKeys := false, apart := false }
def GraphMatchesReferenceSaid : Prop := graphMatchesReferenceRow.holds Try.pinned (OpenSpec.ofChange graphMatchesReferenceSpec)

/-- ITS FALSE NEIGHBOUR: 'it returns false'. Refute it at one input. -/
def graphMatchesReferenceWrong : ChangeSpec := { name := "graphMatchesReference", fn := fun _ => fun
  | [d1, d2, d3, d4] => { results := [.lit (.bool false)], args := [d1, d2, d3, d4] }
  | _ => none }
def GraphMatchesReferenceWrongFalsely : Prop := graphMatchesReferenceRow.holds Try.pinned (OpenSpec.ofChange graphMatchesReferenceWrong)

/-- 'royaltylaw10.GraphPartition': WHATEVER THE INPUT: true; the input reads as it did. -/
def graphPartitionSpec : ChangeSpec := { name := "graphPartition", fn := fun _ => fun
  | [d1, d2, d3] => { results := [.lit (.bool true)], args := [d1, d2, d3] }
  | _ => none }
def graphPartitionRow : OpenClaim := { program := "ytbmlfejlmedmgaa", sum := "d25bbb5e9d59935557260465c27ca017d5cda4af36c42248d9a2647ff201fbe8", func := "royalty/royaltylaw10.GraphPartition", spec := "graphPartition", unfollowed := true, recurses := true, plainKeys := false, apart := false }
def GraphPartitionSaid : Prop := graphPartitionRow.holds Try.pinned (OpenSpec.ofChange graphPartitionSpec)

/-- ITS FALSE NEIGHBOUR: 'it returns false'. Refute it at one input. -/
def graphPartitionWrong : ChangeSpec := { name := "graphPartition", fn := fun _ => fun
  | [d1, d2, d3] => { results := [.lit (.bool false)], args := [d1, d2, d3] }
  | _ => none }
def GraphPartitionWrongFalsely : Prop := graphPartitionRow.holds Try.pinned (OpenSpec.ofChange graphPartitionWrong)

/-- 'royaltylaw10.GraphAdd': WHATEVER THE INPUT: true; the input reads as it did. -/
def graphAddSpec : ChangeSpec := { name := "graphAdd", fn := fun _ => fun
  | [d1, d2, d3, d4] => { results := [.lit (.bool true)], args := [d1, d2, d3, d4] }
  | _ => none }
def graphAddRow : OpenClaim := { program := "ytbmlfejlmedmgaa", sum := "d25bbb5e9d59935557260465c27ca017d5cda4af36c42248d9a2647ff201fbe8", func := "royalty/royaltylaw10.GraphAdd", spec := "graphAdd", unfollowed := true, recurses := true, plainKeys := false, apart := false }
def GraphAddSaid : Prop := graphAddRow.holds Try.pinned (OpenSpec.ofChange graphAddSpec)

/-- ITS FALSE NEIGHBOUR: 'it returns false'. Refute it at one input. -/
def graphAddWrong : ChangeSpec := { name := "graphAdd", fn := fun _ => fun
  | [d1, d2, d3, d4] => { results := [.lit (.bool false)], args := [d1, d2, d3, d4] }
  | _ => none }
def GraphAddWrongFalsely : Prop := graphAddRow.holds Try.pinned (OpenSpec.ofChange graphAddWrong)

/-- 'royaltylaw10.GraphOrder': WHATEVER THE INPUT: true; the input reads as it did. -/
def graphOrderSpec : ChangeSpec := { name := "graphOrder", fn := fun _ => fun
  | [d1, d2, d3] => { results := [.lit (.bool true)], args := [d1, d2, d3] }
  | _ => none }
def graphOrderRow : OpenClaim := { program := "ytbmlfejlmedmgaa", sum := "d25bbb5e9d59935557260465c27ca017d5cda4af36c42248d9a2647ff201fbe8", func := "royalty/royaltylaw10.GraphOrder", spec := "graphOrder", unfollowed := true, recurses := true, plainKeys := false, apart := false }
def GraphOrderSaid : Prop := graphOrderRow.holds Try.pinned (OpenSpec.ofChange graphOrderSpec)

/-- ITS FALSE NEIGHBOUR: 'it returns false'. Refute it at one input. -/
def graphOrderWrong : ChangeSpec := { name := "graphOrder", fn := fun _ => fun
  | [d1, d2, d3] => { results := [.lit (.bool false)], args := [d1, d2, d3] }
  | _ => none }
def GraphOrderWrongFalsely : Prop := graphOrderRow.holds Try.pinned (OpenSpec.ofChange graphOrderWrong)

/-- 'royaltylaw10.GraphDevices': WHATEVER THE INPUT: true; the input reads as it did. -/
def graphDevicesSpec : ChangeSpec := { name := "graphDevices", fn := fun _ => fun
  | [d1, d2] => { results := [.lit (.bool true)], args := [d1, d2] }
  | _ => none }
def graphDevicesRow : OpenClaim := { program := "ytbmlfejlmedmgaa", sum := "d25bbb5e9d59935557260465c27ca017d5cda4af36c42248d9a2647ff201fbe8", func := "royalty/royaltylaw10.GraphDevices", spec := "graphDevices", unfollowed := true, recurses := true, plainKeys := false, apart := false }
def GraphDevicesSaid : Prop := graphDevicesRow.holds Try.pinned (OpenSpec.ofChange graphDevicesSpec)

/-- ITS FALSE NEIGHBOUR: 'it returns false'. Refute it at one input. -/
def graphDevicesWrong : ChangeSpec := { name := "graphDevices", fn := fun _ => fun
  | [d1, d2] => { results := [.lit (.bool false)], args := [d1, d2] }
  | _ => none }
def GraphDevicesWrongFalsely : Prop := graphDevicesRow.holds Try.pinned (OpenSpec.ofChange graphDevicesWrong)

/- THE SECOND FORM. 'bulk': how many values and letters a reading holds, each counted each time it is reached (what is shared counts as often as it is met; a slice's spare places count too). A statement '..UptoSaid' is the law's where the arguments, and the package variables that the reading takes, are together of bulk at most 1048576: NARROWER than '..Said'. Prove '..Said' where nothing that the law and all that it calls make is longer than what came in: it says more and counts as full. Else prove '..UptoSaid'. A law counts once. -/
mutual
def uptoBulk {H : Type} : DataW H → Nat
  | .lit (.string bytes) => bytes.length + 1
  | .lit _ => 1
  | .nil => 1
  | .ptr d => uptoBulk d + 1
  | .slice elems spare => uptoBulkAll elems + uptoBulkAll spare + 1
  | .agg parts => uptoBulkAll parts + 1
  | .iface _ d => uptoBulk d + 1
  | .map entries => uptoBulkEntries entries + 1
  | .held _ => 1
def uptoBulkAll {H : Type} : List (DataW H) → Nat
  | [] => 0
  | d :: r => uptoBulk d + uptoBulkAll r
def uptoBulkEntries {H : Type} : List (Lit × DataW H) → Nat
  | [] => 0
  | x :: r => uptoBulkEntry x + uptoBulkEntries r
def uptoBulkEntry {H : Type} : Lit × DataW H → Nat
  | (.string bytes, d) => bytes.length + uptoBulk d + 1
  | (_, d) => uptoBulk d + 1
 end
def uptoSmall : (H : Type) → List (DataW H) → Bool := fun _ ds => decide (uptoBulkAll ds ≤ 1048576)
def OpenSpec.upto (s : _root_.Go.ChangeSpec) : _root_.Go.OpenSpec := { _root_.Go.OpenSpec.ofChange s with cond := some uptoSmall }

/-- 'royaltylaw10.GraphMatchesReference', WHERE WHAT IT READS IS OF BULK AT MOST 1048576: true; the input reads as it did. -/
def graphMatchesReferenceUptoRow : OpenClaim := { program := "ytbmlfejlmedmgaa", sum := "d25bbb5e9d59935557260465c27ca017d5cda4af36c42248d9a2647ff201fbe8", func := "royalty/royaltylaw10.GraphMatchesReference", spec := "graphMatchesReference", unfollowed := true, recurses := true, plainKeys := false, apart := false, narrowed := true }
def GraphMatchesReferenceUptoSaid : Prop := graphMatchesReferenceUptoRow.holds Try.pinned (OpenSpec.upto graphMatchesReferenceSpec)

/-- 'royaltylaw10.GraphPartition', WHERE WHAT IT READS IS OF BULK AT MOST 1048576: true; the input reads as it did. -/
def graphPartitionUptoRow : OpenClaim := { program := "ytbmlfejlmedmgaa", sum := "d25bbb5e9d59935557260465c27ca017d5cda4af36c42248d9a2647ff201fbe8", func := "royalty/royaltylaw10.GraphPartition", spec := "graphPartition", unfollowed := true, recurses := true, plainKeys := false, apart := false, narrowed := true }
def GraphPartitionUptoSaid : Prop := graphPartitionUptoRow.holds Try.pinned (OpenSpec.upto graphPartitionSpec)

/-- 'royaltylaw10.GraphAdd', WHERE WHAT IT READS IS OF BULK AT MOST 1048576: true; the input reads as it did. -/
def graphAddUptoRow : OpenClaim := { program := "ytbmlfejlmedmgaa", sum := "d25bbb5e9d59935557260465c27ca017d5cda4af36c42248d9a2647ff201fbe8", func := "royalty/royaltylaw10.GraphAdd", spec := "graphAdd", unfollowed := true, recurses := true, plainKeys := false, apart := false, narrowed := true }
def GraphAddUptoSaid : Prop := graphAddUptoRow.holds Try.pinned (OpenSpec.upto graphAddSpec)

/-- 'royaltylaw10.GraphOrder', WHERE WHAT IT READS IS OF BULK AT MOST 1048576: true; the input reads as it did. -/
def graphOrderUptoRow : OpenClaim := { program := "ytbmlfejlmedmgaa", sum := "d25bbb5e9d59935557260465c27ca017d5cda4af36c42248d9a2647ff201fbe8", func := "royalty/royaltylaw10.GraphOrder", spec := "graphOrder", unfollowed := true, recurses := true, plainKeys := false, apart := false, narrowed := true }
def GraphOrderUptoSaid : Prop := graphOrderUptoRow.holds Try.pinned (OpenSpec.upto graphOrderSpec)

/-- 'royaltylaw10.GraphDevices', WHERE WHAT IT READS IS OF BULK AT MOST 1048576: true; the input reads as it did. -/
def graphDevicesUptoRow : OpenClaim := { program := "ytbmlfejlmedmgaa", sum := "d25bbb5e9d59935557260465c27ca017d5cda4af36c42248d9a2647ff201fbe8", func := "royalty/royaltylaw10.GraphDevices", spec := "graphDevices", unfollowed := true, recurses := true, plainKeys := false, apart := false, narrowed := true }
def GraphDevicesUptoSaid : Prop := graphDevicesUptoRow.holds Try.pinned (OpenSpec.upto graphDevicesSpec)

end Rows
end Go.Proofs.Ytbmlfejlmedmgaa
