/-
  Package fact: check, and the closure that Decode defers, in a frame that returns and in one that panics: what they do; only the two named results are written.
-/
import Derived.Recover
import Derived.WalkLawsBesides
import Derived.Test.YtnlphbfjeekooaaGreatDoorFact8
import Derived.Test.YtnlphbfjeekooaaGreatDoorErr
namespace Go.Proofs.YtnlphbfjeekooaaGreatDoor
open Go.RowKit Go.Stop
namespace RW
def zeroF : Nat → Int := fun _ => 0
end RW
theorem ta_nil (w : World) : (Instr.typeAssert .nilIface 20 115 true).run Tryz.prog w = .ok (.tuple #[.nilIface, .bool false]) w := by kernel_rfl
theorem fzero : RW.fcells RW.zeroF ⟨#[]⟩ = #[.int .i64 0, .int .i64 0, .int .i64 0, .int .i64 0, .int .i64 0, .int .i64 0, .int .i64 0, .int .i64 0, .int .i64 0, .int .i64 0, .int .i64 0, .int .i64 0, .int .i64 0, .int .i64 0, .int .i64 0, .int .i64 0, .int .i64 0, .string ⟨#[]⟩] := rfl
end Go.Proofs.YtnlphbfjeekooaaGreatDoor
