/-
  What the rows' list of package variables gives a walk (the digest's table), and one world that holds it.
-/
import Derived.Test.YtnlphbfjeekooaaGreatDoorFact8
import Derived.Test.YtnlphbfjeekooaaGreatDoorCards
import Derived.Test.YtnlphbfjeekooaaGreatDoorTie
import Derived.WalkKit
import Derived.ProofKit
import Derived.OpenShut
import Derived.Deep.DeepHandedRow
import Derived.Deep.DeepWitnessRowRef
import Derived.Lib.LaidTab
import Derived.Lib.LaidIn
namespace Go.Proofs.YtnlphbfjeekooaaGreatDoor
open Go.ChangeShapes Go.WideShapes Go.ChangeAt Go.RowKit
theorem own : ownKnob Tryz.prog.godebug = none := by kernel_rfl
theorem gK : Tryz.prog.globalNamed "royalty/digest.round" = some 0 := by kernel_rfl
theorem gKType : (Tryz.prog.globals[0]?).map (·.type) = some 163 := by kernel_rfl
theorem cellsK : Tryz.prog.cellsOf 163 = 64 := by kernel_rfl
theorem cellsU : Tryz.prog.cellsOf 119 = 1 := by kernel_rfl
namespace RW
def numOf : DataW Unit → Int
  | .lit (.int _ z) => z
  | _ => 0
def numsOf : DataW Unit → List Int
  | .agg l => l.map numOf
  | _ => []
def kNums : List Int := numsOf Rows.laid_royalty_digest_round
def kFun (i : Nat) : Int := kNums.getD i 0
def kCells : Array Value := (kNums.map fun z => Value.int .u32 z).toArray
theorem kNums_len : kNums.length = 64 := by kernel_rfl
theorem k_data : (Rows.laid_royalty_digest_round : DataW Unit) = Lib.tabData .u32 kNums := by kernel_rfl
theorem k_ok : WsOk kCells kFun := by
  refine ⟨by simp [kCells, kNums_len], fun i hi => ?_⟩
  have h : i < kNums.length := by rw [kNums_len]; exact hi
  simp [kCells, kFun, List.getD, List.getElem?_eq_getElem h]
end RW
/-- what each row lists -/
def laidL : List (String × DataW Unit) := [("royalty/digest.round", Rows.laid_royalty_digest_round)]
theorem laid_met_of {W : World} (h : laidMetH Tryz.prog laidL W) : KLaid W RW.kCells := by
  have h1 : laidMet Tryz.prog laidL W := h
  have h2 : laidMet Tryz.prog (("royalty/digest.round", Lib.tabData .u32 RW.kNums) :: []) W := by rw [← RW.k_data]; exact h1
  have h3 : W.var? Tryz.prog "royalty/digest.round" = some RW.kCells := Lib.tabIs_of_head gK gKType Tryz.underlying163 Tryz.underlying119 cellsU cellsK h2
  unfold World.var? at h3
  rw [gK] at h3
  simp only [Option.bind_some] at h3
  split at h3
  · rename_i cs t fr hh
    cases h3
    exact ⟨_, _, hh⟩
  · cases h3
/-- a world that holds it -/
noncomputable def laidWorld (os : Os) : World :=
  let w0 := World.holding Tryz.prog os ⟨#[], #[], []⟩
  { w0 with heap := w0.heap.modify 0 fun
      | .cells _ t frozen => .cells RW.kCells t frozen
      | o => o }
theorem laid_met (os : Os) (args : Array Value) : laidMet Tryz.prog laidL ((laidWorld os).forCall (fun _ _ => 0) ⟨#[], args, []⟩).memory :=
  laidMet_of_run' 8 (by kernel_rfl) (by kernel_rfl)
end Go.Proofs.YtnlphbfjeekooaaGreatDoor
