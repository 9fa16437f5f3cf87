/-
  The digests of the first 4006 plays are different: reckoned: no program in sight.
-/
import Derived.Test.YtnlphbfjeekooaaGreatDoorMF
namespace Go.Proofs.YtnlphbfjeekooaaGreatDoor.RW
open Go Go.RowKit
set_option maxRecDepth 1000000 in
theorem plays_4006 : checkP 3942 = true := by decide +kernel
end Go.Proofs.YtnlphbfjeekooaaGreatDoor.RW
