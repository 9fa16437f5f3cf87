/-
  Two facts written to one row: no condition beyond each theorem's own premises.
-/
import Derived.Test.YtnkdpfkmellpcaaSp15
namespace Go.Proofs.Ytnkdpfkmellpcaa
open Go.RowKit
set_option maxRecDepth 10000 in
theorem fold_two1 (f : RW.Fc) : Array.foldl (fun (cs : Array Value) (x : Value × Nat) => cs.setIfInBounds x.snd x.fst) #[.int .i64 0, .int .i64 0, .int .i64 0, .int .i64 0, .int .i64 0, .int .i64 0, .int .i64 0, .int .i64 0, .int .i64 0, .int .i64 0, .int .i64 0, .int .i64 0, .int .i64 0, .int .i64 0, .int .i64 0, .int .i64 0, .int .i64 0, .string ⟨#[]⟩, .int .i64 0, .int .i64 0, .int .i64 0, .int .i64 0, .int .i64 0, .int .i64 0, .int .i64 0, .int .i64 0, .int .i64 0, .int .i64 0, .int .i64 0, .int .i64 0, .int .i64 0, .int .i64 0, .int .i64 0, .int .i64 0, .int .i64 0, .string ⟨#[]⟩] (RW.fce f).toArray.zipIdx 0 18 = (RW.fce f ++ ([.int .i64 0, .int .i64 0, .int .i64 0, .int .i64 0, .int .i64 0, .int .i64 0, .int .i64 0, .int .i64 0, .int .i64 0, .int .i64 0, .int .i64 0, .int .i64 0, .int .i64 0, .int .i64 0, .int .i64 0, .int .i64 0, .int .i64 0, .string ⟨#[]⟩] : List Value)).toArray := by
  unfold RW.fce RW.fcl
  simp
set_option maxRecDepth 10000 in
theorem fold_two2 (f g : RW.Fc) : Array.foldl (fun (cs : Array Value) (x : Value × Nat) => cs.setIfInBounds (18 + x.snd) x.fst) (RW.fce f ++ ([.int .i64 0, .int .i64 0, .int .i64 0, .int .i64 0, .int .i64 0, .int .i64 0, .int .i64 0, .int .i64 0, .int .i64 0, .int .i64 0, .int .i64 0, .int .i64 0, .int .i64 0, .int .i64 0, .int .i64 0, .int .i64 0, .int .i64 0, .string ⟨#[]⟩] : List Value)).toArray (RW.fce g).toArray.zipIdx 0 18 = (rowCells RW.fce [f, g]).toArray := by
  unfold RW.fce RW.fcl
  simp [rowCells]
end Go.Proofs.Ytnkdpfkmellpcaa
