/-
  No cell of these rows narrows 'for every input' (looked for: loops, veiled, ifaces, maps, wideKeys, modest, calm, conditions, laid).
  DERIVED. THE GIVEN ROWS OF THIS SEAT. 8 by the template 'for every input the law returns true; each argument reads behind the call as it read before'; 0 by the template 'total and deterministic' (their statements: YtnkdpfkmellpcaaTotals.lean).
  GIVEN WITH THE SEED: the statements are not yours to turn. If you find one false, say at which input.
  Laid BY PROGRAM, IN A SANDBOX (cutbox-rows.mjs): the forced cells as the released guide's own fill.sh prints them over the translation a31d62f68d0fc1cd… (all of the seat's roots in one cut). By AI agents, Wed Nov 11 2026. No macro, syntax, notation, axiom, sorry.
-/
import Derived.Test.YtnkdpfkmellpcaaChecked
import GoSem.Claim
import GoSem.ClaimJoined
import GoSem.ClaimMapViews
import Derived.JoinedTies
import Derived.KernelRfl
namespace Go.Proofs.Ytnkdpfkmellpcaa
/- THE CELL 'sum', in the pinned program and in every row, IS THE sha256 OF THE DUMP (.gsa) THAT YtnkdpfkmellpcaaProg.lean LOADS. Nothing in Lean hashes anything: it is a label: what it is worth is what the hold of that sum in a sandbox is worth. -/
noncomputable def Try.pinned : Pinned := { name := "ytnkdpfkmellpcaa", sum := "a31d62f68d0fc1cd98ea32b8f205aecc7f0e8c5bd9d2acad409cddef4f2b83ac", checked := Try.checked }
namespace Rows
def none {H : Type} : Left H := { results := [], args := [] }

/-- 'royaltylaw12.SplitMatchesReference': WHATEVER THE INPUT: true; the input reads as it did. -/
def splitMatchesReferenceSpec : ChangeSpec := { name := "splitMatchesReference", fn := fun _ => fun
  | [d1, d2, d3, d4, d5] => { results := [.lit (.bool true)], args := [d1, d2, d3, d4, d5] }
  | _ => none }
def splitMatchesReferenceRow : OpenClaim := { program := "ytnkdpfkmellpcaa", sum := "a31d62f68d0fc1cd98ea32b8f205aecc7f0e8c5bd9d2acad409cddef4f2b83ac", func := "royalty/royaltylaw12.SplitMatchesReference", spec := "splitMatchesReference", unfollowed := true, recurses := true, apart := false }
def SplitMatchesReferenceSaid : Prop := splitMatchesReferenceRow.holds Try.pinned (OpenSpec.ofChange splitMatchesReferenceSpec)

/-- ITS FALSE NEIGHBOUR: 'it returns false'. Refute it at one input. -/
def splitMatchesReferenceWrong : ChangeSpec := { name := "splitMatchesReference", fn := fun _ => fun
  | [d1, d2, d3, d4, d5] => { results := [.lit (.bool false)], args := [d1, d2, d3, d4, d5] }
  | _ => none }
def SplitMatchesReferenceWrongFalsely : Prop := splitMatchesReferenceRow.holds Try.pinned (OpenSpec.ofChange splitMatchesReferenceWrong)

/-- 'royaltylaw12.SplitResolveMatchesReference': WHATEVER THE INPUT: true; the input reads as it did. -/
def splitResolveMatchesReferenceSpec : ChangeSpec := { name := "splitResolveMatchesReference", fn := fun _ => fun
  | [d1, d2, d3] => { results := [.lit (.bool true)], args := [d1, d2, d3] }
  | _ => none }
def splitResolveMatchesReferenceRow : OpenClaim := { program := "ytnkdpfkmellpcaa", sum := "a31d62f68d0fc1cd98ea32b8f205aecc7f0e8c5bd9d2acad409cddef4f2b83ac", func := "royalty/royaltylaw12.SplitResolveMatchesReference", spec := "splitResolveMatchesReference", unfollowed := true, recurses := true, apart := false }
def SplitResolveMatchesReferenceSaid : Prop := splitResolveMatchesReferenceRow.holds Try.pinned (OpenSpec.ofChange splitResolveMatchesReferenceSpec)

/-- ITS FALSE NEIGHBOUR: 'it returns false'. Refute it at one input. -/
def splitResolveMatchesReferenceWrong : ChangeSpec := { name := "splitResolveMatchesReference", fn := fun _ => fun
  | [d1, d2, d3] => { results := [.lit (.bool false)], args := [d1, d2, d3] }
  | _ => none }
def SplitResolveMatchesReferenceWrongFalsely : Prop := splitResolveMatchesReferenceRow.holds Try.pinned (OpenSpec.ofChange splitResolveMatchesReferenceWrong)

/-- 'royaltylaw12.SplitWhole': WHATEVER THE INPUT: true; the input reads as it did. -/
def splitWholeSpec : ChangeSpec := { name := "splitWhole", fn := fun _ => fun
  | [d] => { results := [.lit (.bool true)], args := [d] }
  | _ => none }
def splitWholeRow : OpenClaim := { program := "ytnkdpfkmellpcaa", sum := "a31d62f68d0fc1cd98ea32b8f205aecc7f0e8c5bd9d2acad409cddef4f2b83ac", func := "royalty/royaltylaw12.SplitWhole", spec := "splitWhole", unfollowed := true, recurses := true, apart := false }
def SplitWholeSaid : Prop := splitWholeRow.holds Try.pinned (OpenSpec.ofChange splitWholeSpec)

/-- ITS FALSE NEIGHBOUR: 'it returns false'. Refute it at one input. -/
def splitWholeWrong : ChangeSpec := { name := "splitWhole", fn := fun _ => fun
  | [d] => { results := [.lit (.bool false)], args := [d] }
  | _ => none }
def SplitWholeWrongFalsely : Prop := splitWholeRow.holds Try.pinned (OpenSpec.ofChange splitWholeWrong)

/-- 'royaltylaw12.SplitFurther': WHATEVER THE INPUT: true; the input reads as it did. -/
def splitFurtherSpec : ChangeSpec := { name := "splitFurther", fn := fun _ => fun
  | [d1, d2, d3, d4, d5, d6] => { results := [.lit (.bool true)], args := [d1, d2, d3, d4, d5, d6] }
  | _ => none }
def splitFurtherRow : OpenClaim := { program := "ytnkdpfkmellpcaa", sum := "a31d62f68d0fc1cd98ea32b8f205aecc7f0e8c5bd9d2acad409cddef4f2b83ac", func := "royalty/royaltylaw12.SplitFurther", spec := "splitFurther", unfollowed := true, recurses := true, apart := false }
def SplitFurtherSaid : Prop := splitFurtherRow.holds Try.pinned (OpenSpec.ofChange splitFurtherSpec)

/-- ITS FALSE NEIGHBOUR: 'it returns false'. Refute it at one input. -/
def splitFurtherWrong : ChangeSpec := { name := "splitFurther", fn := fun _ => fun
  | [d1, d2, d3, d4, d5, d6] => { results := [.lit (.bool false)], args := [d1, d2, d3, d4, d5, d6] }
  | _ => none }
def SplitFurtherWrongFalsely : Prop := splitFurtherRow.holds Try.pinned (OpenSpec.ofChange splitFurtherWrong)

/-- 'royaltylaw12.SplitFrozen': WHATEVER THE INPUT: true; the input reads as it did. -/
def splitFrozenSpec : ChangeSpec := { name := "splitFrozen", fn := fun _ => fun
  | [d1, d2] => { results := [.lit (.bool true)], args := [d1, d2] }
  | _ => none }
def splitFrozenRow : OpenClaim := { program := "ytnkdpfkmellpcaa", sum := "a31d62f68d0fc1cd98ea32b8f205aecc7f0e8c5bd9d2acad409cddef4f2b83ac", func := "royalty/royaltylaw12.SplitFrozen", spec := "splitFrozen", unfollowed := true, recurses := true, apart := false }
def SplitFrozenSaid : Prop := splitFrozenRow.holds Try.pinned (OpenSpec.ofChange splitFrozenSpec)

/-- ITS FALSE NEIGHBOUR: 'it returns false'. Refute it at one input. -/
def splitFrozenWrong : ChangeSpec := { name := "splitFrozen", fn := fun _ => fun
  | [d1, d2] => { results := [.lit (.bool false)], args := [d1, d2] }
  | _ => none }
def SplitFrozenWrongFalsely : Prop := splitFrozenRow.holds Try.pinned (OpenSpec.ofChange splitFrozenWrong)

/-- 'royaltylaw12.SplitOrder': WHATEVER THE INPUT: true; the input reads as it did. -/
def splitOrderSpec : ChangeSpec := { name := "splitOrder", fn := fun _ => fun
  | [d1, d2, d3, d4, d5, d6] => { results := [.lit (.bool true)], args := [d1, d2, d3, d4, d5, d6] }
  | _ => none }
def splitOrderRow : OpenClaim := { program := "ytnkdpfkmellpcaa", sum := "a31d62f68d0fc1cd98ea32b8f205aecc7f0e8c5bd9d2acad409cddef4f2b83ac", func := "royalty/royaltylaw12.SplitOrder", spec := "splitOrder", unfollowed := true, recurses := true, apart := false }
def SplitOrderSaid : Prop := splitOrderRow.holds Try.pinned (OpenSpec.ofChange splitOrderSpec)

/-- ITS FALSE NEIGHBOUR: 'it returns false'. Refute it at one input. -/
def splitOrderWrong : ChangeSpec := { name := "splitOrder", fn := fun _ => fun
  | [d1, d2, d3, d4, d5, d6] => { results := [.lit (.bool false)], args := [d1, d2, d3, d4, d5, d6] }
  | _ => none }
def SplitOrderWrongFalsely : Prop := splitOrderRow.holds Try.pinned (OpenSpec.ofChange splitOrderWrong)

/-- 'royaltylaw12.SplitOthers': WHATEVER THE INPUT: true; the input reads as it did. -/
def splitOthersSpec : ChangeSpec := { name := "splitOthers", fn := fun _ => fun
  | [d1, d2, d3, d4, d5, d6] => { results := [.lit (.bool true)], args := [d1, d2, d3, d4, d5, d6] }
  | _ => none }
def splitOthersRow : OpenClaim := { program := "ytnkdpfkmellpcaa", sum := "a31d62f68d0fc1cd98ea32b8f205aecc7f0e8c5bd9d2acad409cddef4f2b83ac", func := "royalty/royaltylaw12.SplitOthers", spec := "splitOthers", unfollowed := true, recurses := true, apart := false }
def SplitOthersSaid : Prop := splitOthersRow.holds Try.pinned (OpenSpec.ofChange splitOthersSpec)

/-- ITS FALSE NEIGHBOUR: 'it returns false'. Refute it at one input. -/
def splitOthersWrong : ChangeSpec := { name := "splitOthers", fn := fun _ => fun
  | [d1, d2, d3, d4, d5, d6] => { results := [.lit (.bool false)], args := [d1, d2, d3, d4, d5, d6] }
  | _ => none }
def SplitOthersWrongFalsely : Prop := splitOthersRow.holds Try.pinned (OpenSpec.ofChange splitOthersWrong)

/-- 'royaltylaw12.SplitWithdrawn': WHATEVER THE INPUT: true; the input reads as it did. -/
def splitWithdrawnSpec : ChangeSpec := { name := "splitWithdrawn", fn := fun _ => fun
  | [d1, d2, d3, d4] => { results := [.lit (.bool true)], args := [d1, d2, d3, d4] }
  | _ => none }
def splitWithdrawnRow : OpenClaim := { program := "ytnkdpfkmellpcaa", sum := "a31d62f68d0fc1cd98ea32b8f205aecc7f0e8c5bd9d2acad409cddef4f2b83ac", func := "royalty/royaltylaw12.SplitWithdrawn", spec := "splitWithdrawn", unfollowed := true, recurses := true, apart := false }
def SplitWithdrawnSaid : Prop := splitWithdrawnRow.holds Try.pinned (OpenSpec.ofChange splitWithdrawnSpec)

/-- ITS FALSE NEIGHBOUR: 'it returns false'. Refute it at one input. -/
def splitWithdrawnWrong : ChangeSpec := { name := "splitWithdrawn", fn := fun _ => fun
  | [d1, d2, d3, d4] => { results := [.lit (.bool false)], args := [d1, d2, d3, d4] }
  | _ => none }
def SplitWithdrawnWrongFalsely : Prop := splitWithdrawnRow.holds Try.pinned (OpenSpec.ofChange splitWithdrawnWrong)

/- THE SECOND FORM. 'bulk': how many values and letters a reading holds, each counted each time it is reached (what is shared counts as often as it is met; a slice's spare places count too). A statement '..UptoSaid' is the law's where the arguments, and the package variables that the reading takes, are together of bulk at most 1048576: NARROWER than '..Said'. Prove '..Said' where nothing that the law and all that it calls make is longer than what came in: it says more and counts as full. Else prove '..UptoSaid'. A law counts once. -/
mutual
def uptoBulk {H : Type} : DataW H → Nat
  | .lit (.string bytes) => bytes.length + 1
  | .lit _ => 1
  | .nil => 1
  | .ptr d => uptoBulk d + 1
  | .slice elems spare => uptoBulkAll elems + uptoBulkAll spare + 1
  | .agg parts => uptoBulkAll parts + 1
  | .iface _ d => uptoBulk d + 1
  | .map entries => uptoBulkEntries entries + 1
  | .held _ => 1
def uptoBulkAll {H : Type} : List (DataW H) → Nat
  | [] => 0
  | d :: r => uptoBulk d + uptoBulkAll r
def uptoBulkEntries {H : Type} : List (Lit × DataW H) → Nat
  | [] => 0
  | x :: r => uptoBulkEntry x + uptoBulkEntries r
def uptoBulkEntry {H : Type} : Lit × DataW H → Nat
  | (.string bytes, d) => bytes.length + uptoBulk d + 1
  | (_, d) => uptoBulk d + 1
 end
def uptoSmall : (H : Type) → List (DataW H) → Bool := fun _ ds => decide (uptoBulkAll ds ≤ 1048576)
def OpenSpec.upto (s : _root_.Go.ChangeSpec) : _root_.Go.OpenSpec := { _root_.Go.OpenSpec.ofChange s with cond := some uptoSmall }

/-- 'royaltylaw12.SplitMatchesReference', WHERE WHAT IT READS IS OF BULK AT MOST 1048576: true; the input reads as it did. -/
def splitMatchesReferenceUptoRow : OpenClaim := { program := "ytnkdpfkmellpcaa", sum := "a31d62f68d0fc1cd98ea32b8f205aecc7f0e8c5bd9d2acad409cddef4f2b83ac", func := "royalty/royaltylaw12.SplitMatchesReference", spec := "splitMatchesReference", unfollowed := true, recurses := true, apart := false, narrowed := true }
def SplitMatchesReferenceUptoSaid : Prop := splitMatchesReferenceUptoRow.holds Try.pinned (OpenSpec.upto splitMatchesReferenceSpec)

/-- 'royaltylaw12.SplitResolveMatchesReference', WHERE WHAT IT READS IS OF BULK AT MOST 1048576: true; the input reads as it did. -/
def splitResolveMatchesReferenceUptoRow : OpenClaim := { program := "ytnkdpfkmellpcaa", sum := "a31d62f68d0fc1cd98ea32b8f205aecc7f0e8c5bd9d2acad409cddef4f2b83ac", func := "royalty/royaltylaw12.SplitResolveMatchesReference", spec := "splitResolveMatchesReference", unfollowed := true, recurses := true, apart := false, narrowed := true }
def SplitResolveMatchesReferenceUptoSaid : Prop := splitResolveMatchesReferenceUptoRow.holds Try.pinned (OpenSpec.upto splitResolveMatchesReferenceSpec)

/-- 'royaltylaw12.SplitWhole', WHERE WHAT IT READS IS OF BULK AT MOST 1048576: true; the input reads as it did. -/
def splitWholeUptoRow : OpenClaim := { program := "ytnkdpfkmellpcaa", sum := "a31d62f68d0fc1cd98ea32b8f205aecc7f0e8c5bd9d2acad409cddef4f2b83ac", func := "royalty/royaltylaw12.SplitWhole", spec := "splitWhole", unfollowed := true, recurses := true, apart := false, narrowed := true }
def SplitWholeUptoSaid : Prop := splitWholeUptoRow.holds Try.pinned (OpenSpec.upto splitWholeSpec)

/-- 'royaltylaw12.SplitFurther', WHERE WHAT IT READS IS OF BULK AT MOST 1048576: true; the input reads as it did. -/
def splitFurtherUptoRow : OpenClaim := { program := "ytnkdpfkmellpcaa", sum := "a31d62f68d0fc1cd98ea32b8f205aecc7f0e8c5bd9d2acad409cddef4f2b83ac", func := "royalty/royaltylaw12.SplitFurther", spec := "splitFurther", unfollowed := true, recurses := true, apart := false, narrowed := true }
def SplitFurtherUptoSaid : Prop := splitFurtherUptoRow.holds Try.pinned (OpenSpec.upto splitFurtherSpec)

/-- 'royaltylaw12.SplitFrozen', WHERE WHAT IT READS IS OF BULK AT MOST 1048576: true; the input reads as it did. -/
def splitFrozenUptoRow : OpenClaim := { program := "ytnkdpfkmellpcaa", sum := "a31d62f68d0fc1cd98ea32b8f205aecc7f0e8c5bd9d2acad409cddef4f2b83ac", func := "royalty/royaltylaw12.SplitFrozen", spec := "splitFrozen", unfollowed := true, recurses := true, apart := false, narrowed := true }
def SplitFrozenUptoSaid : Prop := splitFrozenUptoRow.holds Try.pinned (OpenSpec.upto splitFrozenSpec)

/-- 'royaltylaw12.SplitOrder', WHERE WHAT IT READS IS OF BULK AT MOST 1048576: true; the input reads as it did. -/
def splitOrderUptoRow : OpenClaim := { program := "ytnkdpfkmellpcaa", sum := "a31d62f68d0fc1cd98ea32b8f205aecc7f0e8c5bd9d2acad409cddef4f2b83ac", func := "royalty/royaltylaw12.SplitOrder", spec := "splitOrder", unfollowed := true, recurses := true, apart := false, narrowed := true }
def SplitOrderUptoSaid : Prop := splitOrderUptoRow.holds Try.pinned (OpenSpec.upto splitOrderSpec)

/-- 'royaltylaw12.SplitOthers', WHERE WHAT IT READS IS OF BULK AT MOST 1048576: true; the input reads as it did. -/
def splitOthersUptoRow : OpenClaim := { program := "ytnkdpfkmellpcaa", sum := "a31d62f68d0fc1cd98ea32b8f205aecc7f0e8c5bd9d2acad409cddef4f2b83ac", func := "royalty/royaltylaw12.SplitOthers", spec := "splitOthers", unfollowed := true, recurses := true, apart := false, narrowed := true }
def SplitOthersUptoSaid : Prop := splitOthersUptoRow.holds Try.pinned (OpenSpec.upto splitOthersSpec)

/-- 'royaltylaw12.SplitWithdrawn', WHERE WHAT IT READS IS OF BULK AT MOST 1048576: true; the input reads as it did. -/
def splitWithdrawnUptoRow : OpenClaim := { program := "ytnkdpfkmellpcaa", sum := "a31d62f68d0fc1cd98ea32b8f205aecc7f0e8c5bd9d2acad409cddef4f2b83ac", func := "royalty/royaltylaw12.SplitWithdrawn", spec := "splitWithdrawn", unfollowed := true, recurses := true, apart := false, narrowed := true }
def SplitWithdrawnUptoSaid : Prop := splitWithdrawnUptoRow.holds Try.pinned (OpenSpec.upto splitWithdrawnSpec)

end Rows
end Go.Proofs.Ytnkdpfkmellpcaa
