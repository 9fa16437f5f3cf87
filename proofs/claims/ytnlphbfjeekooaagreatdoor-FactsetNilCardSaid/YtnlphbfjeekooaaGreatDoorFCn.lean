/-
  The table that the program lays is the one that the reference reckons.
-/
import Derived.Test.YtnlphbfjeekooaaGreatDoorFCard
import Derived.Test.YtnlphbfjeekooaaGreatDoorMF
namespace Go.Proofs.YtnlphbfjeekooaaGreatDoor
theorem k_nums : RW.kFun = RW.k0F := by
  have h : RW.kNums = RW.k0 := by kernel_rfl
  unfold RW.kFun RW.k0F
  rw [h]
theorem k_ok0 : RW.WsOk RW.kCells RW.k0F := k_nums ▸ RW.k_ok
end Go.Proofs.YtnlphbfjeekooaaGreatDoor
