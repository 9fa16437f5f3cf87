/-
  Rows of strings of the call's own, what may change: no condition beyond each theorem's own premises.
-/
import Derived.Maps.AppendAt
import Derived.Test.YtllbphanfahkkaaGreatDoorMY0
import Derived.Test.YtllbphanfahkkaaGreatDoorOps
import Derived.Test.YtllbphanfahkkaaGreatDoorMS
import Derived.Test.YtllbphanfahkkaaGreatDoorRj1
namespace Go.Proofs.YtllbphanfahkkaaGreatDoor
open Go.RowKit RG
end Go.Proofs.YtllbphanfahkkaaGreatDoor
