/-
  What the rows' list of package variables gives a walk (the digest's table, the journal's error), and one world that holds them so.
-/
import Derived.Test.YtllbphanfahkkaaGreatDoorJn12
import Derived.Test.YtllbphanfahkkaaGreatDoorCards
import Derived.Test.YtllbphanfahkkaaGreatDoorTie
import Derived.WalkKit
import Derived.ProofKit
import Derived.OpenShut
import Derived.Deep.DeepHandedRow
import Derived.Deep.DeepWitnessRowRef
import Derived.Lib.LaidTab
import Derived.Lib.LaidIn
import Derived.Stop.LaidErr
namespace Go.Proofs.YtllbphanfahkkaaGreatDoor
open Go.ChangeShapes Go.WideShapes Go.ChangeAt Go.RowKit
theorem own : ownKnob Tryz.prog.godebug = none := by kernel_rfl
theorem gK : Tryz.prog.globalNamed "royalty/digest.round" = some 4 := by kernel_rfl
theorem gKType : (Tryz.prog.globals[4]?).map (·.type) = some 262 := by kernel_rfl
theorem gE : Tryz.prog.globalNamed "royalty/journal.errDamaged" = some 1 := by kernel_rfl
theorem gEType : (Tryz.prog.globals[1]?).map (·.type) = some 91 := by kernel_rfl
theorem cellsK : Tryz.prog.cellsOf 262 = 64 := by kernel_rfl
theorem cellsU : Tryz.prog.cellsOf 119 = 1 := by kernel_rfl
theorem cellsS : Tryz.prog.cellsOf 9 = 1 := by kernel_rfl
theorem cellsES : Tryz.prog.cellsOf 304 = 1 := by kernel_rfl
theorem star : "*" ++ "errors.errorString" = "*errors.errorString" := by decide
theorem rowES (u : TypeId) (h : Tryz.prog.typeName? 3 u = some "*errors.errorString") : u = 282 :=
  typeName_ptr_named (nm := "errors.errorString") (by rw [star]; kernel_rfl) (by kernel_rfl) (by decide) u (by rw [star]; exact h)
namespace RW
def numOf : DataW Unit → Int
  | .lit (.int _ z) => z
  | _ => 0
def numsOf : DataW Unit → List Int
  | .agg l => l.map numOf
  | _ => []
def leaf : DataW Unit → List Value
  | .lit (.int k z) => [.int k z]
  | _ => []
def leafs : DataW Unit → List Value
  | .agg l => l.flatMap fun d => match d with
    | .agg m => m.flatMap leaf
    | d => leaf d
  | _ => []
def kNums : List Int := numsOf Rows.laid_royalty_digest_round
def kFun (i : Nat) : Int := kNums.getD i 0
def kCells : Array Value := (kNums.map fun z => Value.int .u32 z).toArray
theorem kNums_len : kNums.length = 64 := by kernel_rfl
theorem k_data : (Rows.laid_royalty_digest_round : DataW Unit) = Lib.tabData .u32 kNums := by kernel_rfl
theorem k_ok : WsOk kCells kFun := by
  refine ⟨by simp [kCells, kNums_len], fun i hi => ?_⟩
  have h : i < kNums.length := by rw [kNums_len]; exact hi
  simp [kCells, kFun, List.getD, List.getElem?_eq_getElem h]
end RW
/-- what each row lists -/
def laidL : List (String × DataW Unit) := [("unicode/utf8.acceptRanges", Rows.laid_unicode_utf8_acceptRanges), ("royalty/digest.round", Rows.laid_royalty_digest_round), ("royalty/journal.errDamaged", Rows.laid_royalty_journal_errDamaged), ("unicode/utf8.first", Rows.laid_unicode_utf8_first)]
theorem laid_met_of {W : World} (h : laidMetH Tryz.prog laidL W) : KLaid W RW.kCells ∧ ∃ a, W.cell? ⟨1, 0, none⟩ = some (RW.jeW a) := by
  have h1 : laidMet Tryz.prog laidL W := h
  have h1t := laidMet.tail h1
  constructor
  · have h2 : laidMet Tryz.prog (("royalty/digest.round", Lib.tabData .u32 RW.kNums) :: [("royalty/journal.errDamaged", Rows.laid_royalty_journal_errDamaged), ("unicode/utf8.first", Rows.laid_unicode_utf8_first)]) W := by rw [← RW.k_data]; exact h1t
    have h3 : W.var? Tryz.prog "royalty/digest.round" = some RW.kCells := Lib.tabIs_of_head gK gKType Tryz.underlying262 Tryz.underlying119 cellsU cellsK h2
    unfold World.var? at h3
    rw [gK] at h3
    simp only [Option.bind_some] at h3
    split at h3
    · rename_i cs t fr hh
      cases h3
      exact ⟨_, _, hh⟩
    · cases h3
  · obtain ⟨a, s, hv, _⟩ := laid_sentinel (laidMet.tail h1t) gE gEType Tryz.underlying91 rowES Tryz.underlying282 Tryz.underlying304 rfl rfl Tryz.underlying9 cellsES cellsS
    exact ⟨a, by simpa [RW.jeW] using World.var?_cell gE hv 0⟩
noncomputable def low : Nat := (World.holding Tryz.prog default ⟨#[], #[], []⟩).heap.size
/-- a world that holds them so -/
noncomputable def laidWorld (os : Os) : World :=
  let w0 := World.holding Tryz.prog os ⟨#[.cells #[.string ⟨#[100, 97, 109, 97, 103, 101, 100]⟩] 304], #[], []⟩
  { w0 with heap := (((w0.heap.modify 1 fun
      | .cells _ t frozen => .cells #[.iface 282 (.pointer (some ⟨low, 0, none⟩))] t frozen
      | o => o).modify 4 fun
      | .cells _ t frozen => .cells RW.kCells t frozen
      | o => o).modify 3 fun
      | .cells _ t frozen => .cells (RW.leafs Rows.laid_unicode_utf8_acceptRanges).toArray t frozen
      | o => o).modify 2 fun
      | .cells _ t frozen => .cells (RW.leafs Rows.laid_unicode_utf8_first).toArray t frozen
      | o => o }
theorem laid_met (os : Os) (args : Array Value) : laidMet Tryz.prog laidL ((laidWorld os).forCall (fun _ _ => 0) ⟨#[], args, []⟩).memory :=
  laidMet_of_run' 8 (by kernel_rfl) (by kernel_rfl)
end Go.Proofs.YtllbphanfahkkaaGreatDoor
