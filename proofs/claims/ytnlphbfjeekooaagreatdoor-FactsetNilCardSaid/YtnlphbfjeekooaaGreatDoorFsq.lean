/-
  The digests of the first 64 plays are different: reckoned: no program in sight.
-/
import Derived.Test.YtnlphbfjeekooaaGreatDoorMF
namespace Go.Proofs.YtnlphbfjeekooaaGreatDoor.RW
open Go Go.RowKit
set_option maxRecDepth 1000000 in
theorem plays_64 : checkP 0 = true := by decide +kernel
end Go.Proofs.YtnlphbfjeekooaaGreatDoor.RW
