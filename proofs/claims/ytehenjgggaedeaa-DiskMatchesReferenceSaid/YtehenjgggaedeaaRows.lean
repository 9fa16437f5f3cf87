/-
  No cell of these rows narrows 'for every input' (looked for: loops, veiled, ifaces, maps, wideKeys, modest, calm, conditions, laid).
  DERIVED. THE GIVEN ROWS OF THIS SEAT. 9 by the template 'for every input the law returns true; each argument reads behind the call as it read before'; 0 by the template 'total and deterministic' (their statements: YtehenjgggaedeaaTotals.lean).
  GIVEN WITH THE SEED: the statements are not yours to turn. If you find one false, say at which input.
  Laid BY PROGRAM, IN A SANDBOX (cutbox-rows.mjs): the forced cells as the released guide's own fill.sh prints them over the translation 7434a34aa47da49a… (all of the seat's roots in one cut). By AI agents, Wed Nov 11 2026. No macro, syntax, notation, axiom, sorry.
-/
import Derived.Test.YtehenjgggaedeaaChecked
import GoSem.Claim
import GoSem.ClaimJoined
import GoSem.ClaimMapViews
import Derived.JoinedTies
import Derived.KernelRfl
namespace Go.Proofs.Ytehenjgggaedeaa
/- THE CELL 'sum', in the pinned program and in every row, IS THE sha256 OF THE DUMP (.gsa) THAT YtehenjgggaedeaaProg.lean LOADS. Nothing in Lean hashes anything: it is a label: what it is worth is what the hold of that sum in a sandbox is worth. -/
noncomputable def Try.pinned : Pinned := { name := "ytehenjgggaedeaa", sum := "7434a34aa47da49ae9e50a92f9a332917411d13d94f140c0a35f61078e118247", checked := Try.checked }
namespace Rows
def none {H : Type} : Left H := { results := [], args := [] }

/-- 'royaltylaw22.DiskNewMatches': WHATEVER THE INPUT: true; the input reads as it did. -/
def diskNewMatchesSpec : ChangeSpec := { name := "diskNewMatches", fn := fun _ => fun
  | [d1, d2] => { results := [.lit (.bool true)], args := [d1, d2] }
  | _ => none }
def diskNewMatchesRow : OpenClaim := { program := "ytehenjgggaedeaa", sum := "7434a34aa47da49ae9e50a92f9a332917411d13d94f140c0a35f61078e118247", func := "royalty/royaltylaw22.DiskNewMatches", spec := "diskNewMatches", unfollowed := true, recurses := true, apart := false }
def DiskNewMatchesSaid : Prop := diskNewMatchesRow.holds Try.pinned (OpenSpec.ofChange diskNewMatchesSpec)

/-- ITS FALSE NEIGHBOUR: 'it returns false'. Refute it at one input. -/
def diskNewMatchesWrong : ChangeSpec := { name := "diskNewMatches", fn := fun _ => fun
  | [d1, d2] => { results := [.lit (.bool false)], args := [d1, d2] }
  | _ => none }
def DiskNewMatchesWrongFalsely : Prop := diskNewMatchesRow.holds Try.pinned (OpenSpec.ofChange diskNewMatchesWrong)

/-- 'royaltylaw22.DiskMatchesReference': WHATEVER THE INPUT: true; the input reads as it did. -/
def diskMatchesReferenceSpec : ChangeSpec := { name := "diskMatchesReference", fn := fun _ => fun
  | [d1, d2] => { results := [.lit (.bool true)], args := [d1, d2] }
  | _ => none }
def diskMatchesReferenceRow : OpenClaim := { program := "ytehenjgggaedeaa", sum := "7434a34aa47da49ae9e50a92f9a332917411d13d94f140c0a35f61078e118247", func := "royalty/royaltylaw22.DiskMatchesReference", spec := "diskMatchesReference", unfollowed := true, recurses := true, apart := false }
def DiskMatchesReferenceSaid : Prop := diskMatchesReferenceRow.holds Try.pinned (OpenSpec.ofChange diskMatchesReferenceSpec)

/-- ITS FALSE NEIGHBOUR: 'it returns false'. Refute it at one input. -/
def diskMatchesReferenceWrong : ChangeSpec := { name := "diskMatchesReference", fn := fun _ => fun
  | [d1, d2] => { results := [.lit (.bool false)], args := [d1, d2] }
  | _ => none }
def DiskMatchesReferenceWrongFalsely : Prop := diskMatchesReferenceRow.holds Try.pinned (OpenSpec.ofChange diskMatchesReferenceWrong)

/-- 'royaltylaw22.DiskNil': WHATEVER THE INPUT: true; the input reads as it did. -/
def diskNilSpec : ChangeSpec := { name := "diskNil", fn := fun _ => fun
  | [d1, d2, d3, d4] => { results := [.lit (.bool true)], args := [d1, d2, d3, d4] }
  | _ => none }
def diskNilRow : OpenClaim := { program := "ytehenjgggaedeaa", sum := "7434a34aa47da49ae9e50a92f9a332917411d13d94f140c0a35f61078e118247", func := "royalty/royaltylaw22.DiskNil", spec := "diskNil", unfollowed := true, recurses := true, apart := false }
def DiskNilSaid : Prop := diskNilRow.holds Try.pinned (OpenSpec.ofChange diskNilSpec)

/-- ITS FALSE NEIGHBOUR: 'it returns false'. Refute it at one input. -/
def diskNilWrong : ChangeSpec := { name := "diskNil", fn := fun _ => fun
  | [d1, d2, d3, d4] => { results := [.lit (.bool false)], args := [d1, d2, d3, d4] }
  | _ => none }
def DiskNilWrongFalsely : Prop := diskNilRow.holds Try.pinned (OpenSpec.ofChange diskNilWrong)

/-- 'royaltylaw22.DiskReadsBack': WHATEVER THE INPUT: true; the input reads as it did. -/
def diskReadsBackSpec : ChangeSpec := { name := "diskReadsBack", fn := fun _ => fun
  | [d1, d2] => { results := [.lit (.bool true)], args := [d1, d2] }
  | _ => none }
def diskReadsBackRow : OpenClaim := { program := "ytehenjgggaedeaa", sum := "7434a34aa47da49ae9e50a92f9a332917411d13d94f140c0a35f61078e118247", func := "royalty/royaltylaw22.DiskReadsBack", spec := "diskReadsBack", unfollowed := true, recurses := true, apart := false }
def DiskReadsBackSaid : Prop := diskReadsBackRow.holds Try.pinned (OpenSpec.ofChange diskReadsBackSpec)

/-- ITS FALSE NEIGHBOUR: 'it returns false'. Refute it at one input. -/
def diskReadsBackWrong : ChangeSpec := { name := "diskReadsBack", fn := fun _ => fun
  | [d1, d2] => { results := [.lit (.bool false)], args := [d1, d2] }
  | _ => none }
def DiskReadsBackWrongFalsely : Prop := diskReadsBackRow.holds Try.pinned (OpenSpec.ofChange diskReadsBackWrong)

/-- 'royaltylaw22.DiskSynced': WHATEVER THE INPUT: true; the input reads as it did. -/
def diskSyncedSpec : ChangeSpec := { name := "diskSynced", fn := fun _ => fun
  | [d1, d2, d3] => { results := [.lit (.bool true)], args := [d1, d2, d3] }
  | _ => none }
def diskSyncedRow : OpenClaim := { program := "ytehenjgggaedeaa", sum := "7434a34aa47da49ae9e50a92f9a332917411d13d94f140c0a35f61078e118247", func := "royalty/royaltylaw22.DiskSynced", spec := "diskSynced", unfollowed := true, recurses := true, apart := false }
def DiskSyncedSaid : Prop := diskSyncedRow.holds Try.pinned (OpenSpec.ofChange diskSyncedSpec)

/-- ITS FALSE NEIGHBOUR: 'it returns false'. Refute it at one input. -/
def diskSyncedWrong : ChangeSpec := { name := "diskSynced", fn := fun _ => fun
  | [d1, d2, d3] => { results := [.lit (.bool false)], args := [d1, d2, d3] }
  | _ => none }
def DiskSyncedWrongFalsely : Prop := diskSyncedRow.holds Try.pinned (OpenSpec.ofChange diskSyncedWrong)

/-- 'royaltylaw22.DiskCrashBytes': WHATEVER THE INPUT: true; the input reads as it did. -/
def diskCrashBytesSpec : ChangeSpec := { name := "diskCrashBytes", fn := fun _ => fun
  | [d1, d2, d3, d4] => { results := [.lit (.bool true)], args := [d1, d2, d3, d4] }
  | _ => none }
def diskCrashBytesRow : OpenClaim := { program := "ytehenjgggaedeaa", sum := "7434a34aa47da49ae9e50a92f9a332917411d13d94f140c0a35f61078e118247", func := "royalty/royaltylaw22.DiskCrashBytes", spec := "diskCrashBytes", unfollowed := true, recurses := true, apart := false }
def DiskCrashBytesSaid : Prop := diskCrashBytesRow.holds Try.pinned (OpenSpec.ofChange diskCrashBytesSpec)

/-- ITS FALSE NEIGHBOUR: 'it returns false'. Refute it at one input. -/
def diskCrashBytesWrong : ChangeSpec := { name := "diskCrashBytes", fn := fun _ => fun
  | [d1, d2, d3, d4] => { results := [.lit (.bool false)], args := [d1, d2, d3, d4] }
  | _ => none }
def DiskCrashBytesWrongFalsely : Prop := diskCrashBytesRow.holds Try.pinned (OpenSpec.ofChange diskCrashBytesWrong)

/-- 'royaltylaw22.DiskAllSurvive': WHATEVER THE INPUT: true; the input reads as it did. -/
def diskAllSurviveSpec : ChangeSpec := { name := "diskAllSurvive", fn := fun _ => fun
  | [d1, d2] => { results := [.lit (.bool true)], args := [d1, d2] }
  | _ => none }
def diskAllSurviveRow : OpenClaim := { program := "ytehenjgggaedeaa", sum := "7434a34aa47da49ae9e50a92f9a332917411d13d94f140c0a35f61078e118247", func := "royalty/royaltylaw22.DiskAllSurvive", spec := "diskAllSurvive", unfollowed := true, recurses := true, apart := false }
def DiskAllSurviveSaid : Prop := diskAllSurviveRow.holds Try.pinned (OpenSpec.ofChange diskAllSurviveSpec)

/-- ITS FALSE NEIGHBOUR: 'it returns false'. Refute it at one input. -/
def diskAllSurviveWrong : ChangeSpec := { name := "diskAllSurvive", fn := fun _ => fun
  | [d1, d2] => { results := [.lit (.bool false)], args := [d1, d2] }
  | _ => none }
def DiskAllSurviveWrongFalsely : Prop := diskAllSurviveRow.holds Try.pinned (OpenSpec.ofChange diskAllSurviveWrong)

/-- 'royaltylaw22.DiskCut': WHATEVER THE INPUT: true; the input reads as it did. -/
def diskCutSpec : ChangeSpec := { name := "diskCut", fn := fun _ => fun
  | [d1, d2, d3] => { results := [.lit (.bool true)], args := [d1, d2, d3] }
  | _ => none }
def diskCutRow : OpenClaim := { program := "ytehenjgggaedeaa", sum := "7434a34aa47da49ae9e50a92f9a332917411d13d94f140c0a35f61078e118247", func := "royalty/royaltylaw22.DiskCut", spec := "diskCut", unfollowed := true, recurses := true, apart := false }
def DiskCutSaid : Prop := diskCutRow.holds Try.pinned (OpenSpec.ofChange diskCutSpec)

/-- ITS FALSE NEIGHBOUR: 'it returns false'. Refute it at one input. -/
def diskCutWrong : ChangeSpec := { name := "diskCut", fn := fun _ => fun
  | [d1, d2, d3] => { results := [.lit (.bool false)], args := [d1, d2, d3] }
  | _ => none }
def DiskCutWrongFalsely : Prop := diskCutRow.holds Try.pinned (OpenSpec.ofChange diskCutWrong)

/-- 'royaltylaw22.DiskTwins': WHATEVER THE INPUT: true; the input reads as it did. -/
def diskTwinsSpec : ChangeSpec := { name := "diskTwins", fn := fun _ => fun
  | [d1, d2] => { results := [.lit (.bool true)], args := [d1, d2] }
  | _ => none }
def diskTwinsRow : OpenClaim := { program := "ytehenjgggaedeaa", sum := "7434a34aa47da49ae9e50a92f9a332917411d13d94f140c0a35f61078e118247", func := "royalty/royaltylaw22.DiskTwins", spec := "diskTwins", unfollowed := true, recurses := true, apart := false }
def DiskTwinsSaid : Prop := diskTwinsRow.holds Try.pinned (OpenSpec.ofChange diskTwinsSpec)

/-- ITS FALSE NEIGHBOUR: 'it returns false'. Refute it at one input. -/
def diskTwinsWrong : ChangeSpec := { name := "diskTwins", fn := fun _ => fun
  | [d1, d2] => { results := [.lit (.bool false)], args := [d1, d2] }
  | _ => none }
def DiskTwinsWrongFalsely : Prop := diskTwinsRow.holds Try.pinned (OpenSpec.ofChange diskTwinsWrong)

/- THE SECOND FORM. 'bulk': how many values and letters a reading holds, each counted each time it is reached (what is shared counts as often as it is met; a slice's spare places count too). A statement '..UptoSaid' is the law's where the arguments, and the package variables that the reading takes, are together of bulk at most 1048576: NARROWER than '..Said'. Prove '..Said' where nothing that the law and all that it calls make is longer than what came in: it says more and counts as full. Else prove '..UptoSaid'. A law counts once. -/
mutual
def uptoBulk {H : Type} : DataW H → Nat
  | .lit (.string bytes) => bytes.length + 1
  | .lit _ => 1
  | .nil => 1
  | .ptr d => uptoBulk d + 1
  | .slice elems spare => uptoBulkAll elems + uptoBulkAll spare + 1
  | .agg parts => uptoBulkAll parts + 1
  | .iface _ d => uptoBulk d + 1
  | .map entries => uptoBulkEntries entries + 1
  | .held _ => 1
def uptoBulkAll {H : Type} : List (DataW H) → Nat
  | [] => 0
  | d :: r => uptoBulk d + uptoBulkAll r
def uptoBulkEntries {H : Type} : List (Lit × DataW H) → Nat
  | [] => 0
  | x :: r => uptoBulkEntry x + uptoBulkEntries r
def uptoBulkEntry {H : Type} : Lit × DataW H → Nat
  | (.string bytes, d) => bytes.length + uptoBulk d + 1
  | (_, d) => uptoBulk d + 1
 end
def uptoSmall : (H : Type) → List (DataW H) → Bool := fun _ ds => decide (uptoBulkAll ds ≤ 1048576)
def OpenSpec.upto (s : _root_.Go.ChangeSpec) : _root_.Go.OpenSpec := { _root_.Go.OpenSpec.ofChange s with cond := some uptoSmall }

/-- 'royaltylaw22.DiskNewMatches', WHERE WHAT IT READS IS OF BULK AT MOST 1048576: true; the input reads as it did. -/
def diskNewMatchesUptoRow : OpenClaim := { program := "ytehenjgggaedeaa", sum := "7434a34aa47da49ae9e50a92f9a332917411d13d94f140c0a35f61078e118247", func := "royalty/royaltylaw22.DiskNewMatches", spec := "diskNewMatches", unfollowed := true, recurses := true, apart := false, narrowed := true }
def DiskNewMatchesUptoSaid : Prop := diskNewMatchesUptoRow.holds Try.pinned (OpenSpec.upto diskNewMatchesSpec)

/-- 'royaltylaw22.DiskMatchesReference', WHERE WHAT IT READS IS OF BULK AT MOST 1048576: true; the input reads as it did. -/
def diskMatchesReferenceUptoRow : OpenClaim := { program := "ytehenjgggaedeaa", sum := "7434a34aa47da49ae9e50a92f9a332917411d13d94f140c0a35f61078e118247", func := "royalty/royaltylaw22.DiskMatchesReference", spec := "diskMatchesReference", unfollowed := true, recurses := true, apart := false, narrowed := true }
def DiskMatchesReferenceUptoSaid : Prop := diskMatchesReferenceUptoRow.holds Try.pinned (OpenSpec.upto diskMatchesReferenceSpec)

/-- 'royaltylaw22.DiskNil', WHERE WHAT IT READS IS OF BULK AT MOST 1048576: true; the input reads as it did. -/
def diskNilUptoRow : OpenClaim := { program := "ytehenjgggaedeaa", sum := "7434a34aa47da49ae9e50a92f9a332917411d13d94f140c0a35f61078e118247", func := "royalty/royaltylaw22.DiskNil", spec := "diskNil", unfollowed := true, recurses := true, apart := false, narrowed := true }
def DiskNilUptoSaid : Prop := diskNilUptoRow.holds Try.pinned (OpenSpec.upto diskNilSpec)

/-- 'royaltylaw22.DiskReadsBack', WHERE WHAT IT READS IS OF BULK AT MOST 1048576: true; the input reads as it did. -/
def diskReadsBackUptoRow : OpenClaim := { program := "ytehenjgggaedeaa", sum := "7434a34aa47da49ae9e50a92f9a332917411d13d94f140c0a35f61078e118247", func := "royalty/royaltylaw22.DiskReadsBack", spec := "diskReadsBack", unfollowed := true, recurses := true, apart := false, narrowed := true }
def DiskReadsBackUptoSaid : Prop := diskReadsBackUptoRow.holds Try.pinned (OpenSpec.upto diskReadsBackSpec)

/-- 'royaltylaw22.DiskSynced', WHERE WHAT IT READS IS OF BULK AT MOST 1048576: true; the input reads as it did. -/
def diskSyncedUptoRow : OpenClaim := { program := "ytehenjgggaedeaa", sum := "7434a34aa47da49ae9e50a92f9a332917411d13d94f140c0a35f61078e118247", func := "royalty/royaltylaw22.DiskSynced", spec := "diskSynced", unfollowed := true, recurses := true, apart := false, narrowed := true }
def DiskSyncedUptoSaid : Prop := diskSyncedUptoRow.holds Try.pinned (OpenSpec.upto diskSyncedSpec)

/-- 'royaltylaw22.DiskCrashBytes', WHERE WHAT IT READS IS OF BULK AT MOST 1048576: true; the input reads as it did. -/
def diskCrashBytesUptoRow : OpenClaim := { program := "ytehenjgggaedeaa", sum := "7434a34aa47da49ae9e50a92f9a332917411d13d94f140c0a35f61078e118247", func := "royalty/royaltylaw22.DiskCrashBytes", spec := "diskCrashBytes", unfollowed := true, recurses := true, apart := false, narrowed := true }
def DiskCrashBytesUptoSaid : Prop := diskCrashBytesUptoRow.holds Try.pinned (OpenSpec.upto diskCrashBytesSpec)

/-- 'royaltylaw22.DiskAllSurvive', WHERE WHAT IT READS IS OF BULK AT MOST 1048576: true; the input reads as it did. -/
def diskAllSurviveUptoRow : OpenClaim := { program := "ytehenjgggaedeaa", sum := "7434a34aa47da49ae9e50a92f9a332917411d13d94f140c0a35f61078e118247", func := "royalty/royaltylaw22.DiskAllSurvive", spec := "diskAllSurvive", unfollowed := true, recurses := true, apart := false, narrowed := true }
def DiskAllSurviveUptoSaid : Prop := diskAllSurviveUptoRow.holds Try.pinned (OpenSpec.upto diskAllSurviveSpec)

/-- 'royaltylaw22.DiskCut', WHERE WHAT IT READS IS OF BULK AT MOST 1048576: true; the input reads as it did. -/
def diskCutUptoRow : OpenClaim := { program := "ytehenjgggaedeaa", sum := "7434a34aa47da49ae9e50a92f9a332917411d13d94f140c0a35f61078e118247", func := "royalty/royaltylaw22.DiskCut", spec := "diskCut", unfollowed := true, recurses := true, apart := false, narrowed := true }
def DiskCutUptoSaid : Prop := diskCutUptoRow.holds Try.pinned (OpenSpec.upto diskCutSpec)

/-- 'royaltylaw22.DiskTwins', WHERE WHAT IT READS IS OF BULK AT MOST 1048576: true; the input reads as it did. -/
def diskTwinsUptoRow : OpenClaim := { program := "ytehenjgggaedeaa", sum := "7434a34aa47da49ae9e50a92f9a332917411d13d94f140c0a35f61078e118247", func := "royalty/royaltylaw22.DiskTwins", spec := "diskTwins", unfollowed := true, recurses := true, apart := false, narrowed := true }
def DiskTwinsUptoSaid : Prop := diskTwinsUptoRow.holds Try.pinned (OpenSpec.upto diskTwinsSpec)

end Rows
end Go.Proofs.Ytehenjgggaedeaa
