/-
  What the rows' list of package variables gives a walk (the table, the error), and one world that holds them so.
-/
import Derived.Test.YtpihhjpgdbcifaaDoorLaw2
import Derived.Test.YtpihhjpgdbcifaaDoorCards
import Derived.Test.YtpihhjpgdbcifaaDoorTie
import Derived.WalkKit
import Derived.ProofKit
import Derived.OpenShut
import Derived.Deep.DeepHandedRow
import Derived.Deep.DeepWitnessRowRef
import Derived.Lib.LaidTab
import Derived.Lib.LaidIn
import Derived.Stop.LaidErr
namespace Go.Proofs.YtpihhjpgdbcifaaDoor
open Go.ChangeShapes Go.WideShapes Go.ChangeAt Go.RowKit
theorem own : ownKnob Tryd.prog.godebug = none := by kernel_rfl
theorem gK : Tryd.prog.globalNamed "royalty/digest.round" = some 2 := by kernel_rfl
theorem gKType : (Tryd.prog.globals[2]?).map (·.type) = some 114 := by kernel_rfl
theorem gE : Tryd.prog.globalNamed "royalty/fact.errWire" = some 0 := by kernel_rfl
theorem gEType : (Tryd.prog.globals[0]?).map (·.type) = some 68 := by kernel_rfl
theorem cellsK : Tryd.prog.cellsOf 114 = 64 := by kernel_rfl
theorem cellsU : Tryd.prog.cellsOf 94 = 1 := by kernel_rfl
theorem cellsS : Tryd.prog.cellsOf 9 = 1 := by kernel_rfl
theorem cellsES : Tryd.prog.cellsOf 155 = 1 := by kernel_rfl
theorem star : "*" ++ "errors.errorString" = "*errors.errorString" := by decide
theorem rowES (u : TypeId) (h : Tryd.prog.typeName? 3 u = some "*errors.errorString") : u = 132 :=
  typeName_ptr_named (nm := "errors.errorString") (by rw [star]; kernel_rfl) (by kernel_rfl) (by decide) u (by rw [star]; exact h)
namespace RW
def numOf : DataW Unit → Int
  | .lit (.int _ z) => z
  | _ => 0
def numsOf : DataW Unit → List Int
  | .agg l => l.map numOf
  | _ => []
def kNums : List Int := numsOf Rows.laid_royalty_digest_round
def kFun (i : Nat) : Int := kNums.getD i 0
def kCells : Array Value := (kNums.map fun z => Value.int .u32 z).toArray
theorem kNums_len : kNums.length = 64 := by kernel_rfl
theorem k_data : (Rows.laid_royalty_digest_round : DataW Unit) = Lib.tabData .u32 kNums := by kernel_rfl
theorem k_ok : WsOk kCells kFun := by
  refine ⟨by simp [kCells, kNums_len], fun i hi => ?_⟩
  have h : i < kNums.length := by rw [kNums_len]; exact hi
  simp [kCells, kFun, List.getD, List.getElem?_eq_getElem h]
end RW
/-- what each row lists -/
def laidL : List (String × DataW Unit) := [("royalty/digest.round", Rows.laid_royalty_digest_round), ("royalty/fact.errWire", Rows.laid_royalty_fact_errWire)]
theorem laid_met_of {W : World} (h : laidMetH Tryd.prog laidL W) : KLaid W RW.kCells ∧ ∃ a, W.cell? ⟨0, 0, none⟩ = some (RW.eW a) := by
  have h1 : laidMet Tryd.prog laidL W := h
  constructor
  · have h2 : laidMet Tryd.prog (("royalty/digest.round", Lib.tabData .u32 RW.kNums) :: [("royalty/fact.errWire", Rows.laid_royalty_fact_errWire)]) W := by rw [← RW.k_data]; exact h1
    have h3 : W.var? Tryd.prog "royalty/digest.round" = some RW.kCells := Lib.tabIs_of_head gK gKType Tryd.underlying114 Tryd.underlying94 cellsU cellsK h2
    unfold World.var? at h3
    rw [gK] at h3
    simp only [Option.bind_some] at h3
    split at h3
    · rename_i cs t fr hh
      cases h3
      exact ⟨_, _, hh⟩
    · cases h3
  · obtain ⟨a, s, hv, _⟩ := laid_sentinel (laidMet.tail h1) gE gEType Tryd.underlying68 rowES Tryd.underlying132 Tryd.underlying155 rfl rfl Tryd.underlying9 cellsES cellsS
    exact ⟨a, by simpa [RW.eW] using World.var?_cell gE hv 0⟩
noncomputable def low : Nat := (World.holding Tryd.prog default ⟨#[], #[], []⟩).heap.size
/-- a world that holds them so -/
noncomputable def laidWorld (os : Os) : World :=
  let w0 := World.holding Tryd.prog os ⟨#[.cells #[.string ⟨#[109, 97, 108, 102, 111, 114, 109, 101, 100]⟩] 155], #[], []⟩
  { w0 with heap := (w0.heap.modify 0 fun
      | .cells _ t frozen => .cells #[.iface 132 (.pointer (some ⟨low, 0, none⟩))] t frozen
      | o => o).modify 2 fun
      | .cells _ t frozen => .cells RW.kCells t frozen
      | o => o }
theorem laid_met (os : Os) (args : Array Value) : laidMet Tryd.prog laidL ((laidWorld os).forCall (fun _ _ => 0) ⟨#[], args, []⟩).memory :=
  laidMet_of_run' 8 (by kernel_rfl) (by kernel_rfl)
end Go.Proofs.YtpihhjpgdbcifaaDoor
