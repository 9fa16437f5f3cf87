/-
  Package fact: the keys: what each returns; only new memory is written.
-/
import Derived.Deep.QuietTactic
import Derived.BigQuiet
import Derived.Test.YtnlphbfjeekooaaGreatDoorMA
namespace Go.Proofs.YtnlphbfjeekooaaGreatDoor
open Go.RowKit
namespace RW
/-- a fact's numbers and text, as cells -/
def fcells (f : Nat → Int) (s : ByteArray) : Array Value := #[.int .i64 (f 0), .int .i64 (f 1), .int .i64 (f 2), .int .i64 (f 3), .int .i64 (f 4), .int .i64 (f 5), .int .i64 (f 6), .int .i64 (f 7), .int .i64 (f 8), .int .i64 (f 9), .int .i64 (f 10), .int .i64 (f 11), .int .i64 (f 12), .int .i64 (f 13), .int .i64 (f 14), .int .i64 (f 15), .int .i64 (f 16), .string s]
theorem below_drewN {B : Nat} {a w : World} {n : Nat} (h : Below B a w) : Below B a (w.drewN n) := ⟨h.os, h.tape, h.output, h.size, h.block⟩
end RW
set_option maxHeartbeats 1000000 in
theorem byDevice_any (f : Nat → Int) (s : ByteArray) (w : World) :
    Calls Tryz.prog 128 #[.agg (RW.fcells f s)] w fun e w' => e = .returned (.tuple #[.int .i64 (f 6), .int .i64 (f 1)]) ∧ Below w.heap.size w w' := by
  show Calls _ _ #[.agg #[.int .i64 (f 0), .int .i64 (f 1), .int .i64 (f 2), .int .i64 (f 3), .int .i64 (f 4), .int .i64 (f 5), .int .i64 (f 6), .int .i64 (f 7), .int .i64 (f 8), .int .i64 (f 9), .int .i64 (f 10), .int .i64 (f 11), .int .i64 (f 12), .int .i64 (f 13), .int .i64 (f 14), .int .i64 (f 15), .int .i64 (f 16), .string s]] w _
  go_enter Tryz.func128, Tryz.ntmps128
  go_wp2
  go_quiet (fail)
  go_wp2
  go_ret2
  exact ⟨rfl, RW.below_drewN ((Below.refl _ _).alloc (Nat.le_refl _) _)⟩
set_option maxHeartbeats 1000000 in
theorem byID_any (f : Nat → Int) (s : ByteArray) (w : World) :
    Calls Tryz.prog 131 #[.agg (RW.fcells f s)] w fun e w' => e = .returned (.tuple #[.int .i64 (f 1), .int .i64 (0)]) ∧ Below w.heap.size w w' := by
  show Calls _ _ #[.agg #[.int .i64 (f 0), .int .i64 (f 1), .int .i64 (f 2), .int .i64 (f 3), .int .i64 (f 4), .int .i64 (f 5), .int .i64 (f 6), .int .i64 (f 7), .int .i64 (f 8), .int .i64 (f 9), .int .i64 (f 10), .int .i64 (f 11), .int .i64 (f 12), .int .i64 (f 13), .int .i64 (f 14), .int .i64 (f 15), .int .i64 (f 16), .string s]] w _
  go_enter Tryz.func131, Tryz.ntmps131
  go_wp2
  go_ret2
  exact ⟨rfl, (Below.refl _ _).alloc (Nat.le_refl _) _⟩
set_option maxHeartbeats 1000000 in
theorem byHolder_any (f : Nat → Int) (s : ByteArray) (w : World) :
    Calls Tryz.prog 133 #[.agg (RW.fcells f s)] w fun e w' => e = .returned (.tuple #[.int .i64 (f 9), .int .i64 (f 11)]) ∧ Below w.heap.size w w' := by
  show Calls _ _ #[.agg #[.int .i64 (f 0), .int .i64 (f 1), .int .i64 (f 2), .int .i64 (f 3), .int .i64 (f 4), .int .i64 (f 5), .int .i64 (f 6), .int .i64 (f 7), .int .i64 (f 8), .int .i64 (f 9), .int .i64 (f 10), .int .i64 (f 11), .int .i64 (f 12), .int .i64 (f 13), .int .i64 (f 14), .int .i64 (f 15), .int .i64 (f 16), .string s]] w _
  go_enter Tryz.func133, Tryz.ntmps133
  go_wp2
  go_quiet (fail)
  go_wp2
  go_ret2
  exact ⟨rfl, RW.below_drewN ((Below.refl _ _).alloc (Nat.le_refl _) _)⟩
set_option maxHeartbeats 1000000 in
theorem byAccount_any (f : Nat → Int) (s : ByteArray) (w : World) :
    Calls Tryz.prog 136 #[.agg (RW.fcells f s)] w fun e w' => e = .returned (.tuple #[.int .i64 (f 5), .int .i64 (f 3)]) ∧ Below w.heap.size w w' := by
  show Calls _ _ #[.agg #[.int .i64 (f 0), .int .i64 (f 1), .int .i64 (f 2), .int .i64 (f 3), .int .i64 (f 4), .int .i64 (f 5), .int .i64 (f 6), .int .i64 (f 7), .int .i64 (f 8), .int .i64 (f 9), .int .i64 (f 10), .int .i64 (f 11), .int .i64 (f 12), .int .i64 (f 13), .int .i64 (f 14), .int .i64 (f 15), .int .i64 (f 16), .string s]] w _
  go_enter Tryz.func136, Tryz.ntmps136
  go_wp2
  go_quiet (fail)
  go_wp2
  go_ret2
  exact ⟨rfl, RW.below_drewN ((Below.refl _ _).alloc (Nat.le_refl _) _)⟩
set_option maxHeartbeats 1000000 in
theorem byCurrency_any (f : Nat → Int) (s : ByteArray) (w : World) :
    Calls Tryz.prog 138 #[.agg (RW.fcells f s)] w fun e w' => e = .returned (.tuple #[.int .i64 (f 15), .int .i64 (f 3)]) ∧ Below w.heap.size w w' := by
  show Calls _ _ #[.agg #[.int .i64 (f 0), .int .i64 (f 1), .int .i64 (f 2), .int .i64 (f 3), .int .i64 (f 4), .int .i64 (f 5), .int .i64 (f 6), .int .i64 (f 7), .int .i64 (f 8), .int .i64 (f 9), .int .i64 (f 10), .int .i64 (f 11), .int .i64 (f 12), .int .i64 (f 13), .int .i64 (f 14), .int .i64 (f 15), .int .i64 (f 16), .string s]] w _
  go_enter Tryz.func138, Tryz.ntmps138
  go_wp2
  go_quiet (fail)
  go_wp2
  go_ret2
  exact ⟨rfl, RW.below_drewN ((Below.refl _ _).alloc (Nat.le_refl _) _)⟩
set_option maxHeartbeats 1000000 in
theorem byFrom_any (f : Nat → Int) (s : ByteArray) (w : World) :
    Calls Tryz.prog 141 #[.agg (RW.fcells f s)] w fun e w' => e = .returned (.tuple #[.int .i64 (f 11), .int .i64 (0)]) ∧ Below w.heap.size w w' := by
  show Calls _ _ #[.agg #[.int .i64 (f 0), .int .i64 (f 1), .int .i64 (f 2), .int .i64 (f 3), .int .i64 (f 4), .int .i64 (f 5), .int .i64 (f 6), .int .i64 (f 7), .int .i64 (f 8), .int .i64 (f 9), .int .i64 (f 10), .int .i64 (f 11), .int .i64 (f 12), .int .i64 (f 13), .int .i64 (f 14), .int .i64 (f 15), .int .i64 (f 16), .string s]] w _
  go_enter Tryz.func141, Tryz.ntmps141
  go_wp2
  go_ret2
  exact ⟨rfl, (Below.refl _ _).alloc (Nat.le_refl _) _⟩
set_option maxHeartbeats 1000000 in
theorem byTerritory_any (f : Nat → Int) (s : ByteArray) (w : World) :
    Calls Tryz.prog 143 #[.agg (RW.fcells f s)] w fun e w' => e = .returned (.tuple #[.int .i64 (f 8), .int .i64 (f 11)]) ∧ Below w.heap.size w w' := by
  show Calls _ _ #[.agg #[.int .i64 (f 0), .int .i64 (f 1), .int .i64 (f 2), .int .i64 (f 3), .int .i64 (f 4), .int .i64 (f 5), .int .i64 (f 6), .int .i64 (f 7), .int .i64 (f 8), .int .i64 (f 9), .int .i64 (f 10), .int .i64 (f 11), .int .i64 (f 12), .int .i64 (f 13), .int .i64 (f 14), .int .i64 (f 15), .int .i64 (f 16), .string s]] w _
  go_enter Tryz.func143, Tryz.ntmps143
  go_wp2
  go_quiet (fail)
  go_wp2
  go_ret2
  exact ⟨rfl, RW.below_drewN ((Below.refl _ _).alloc (Nat.le_refl _) _)⟩
end Go.Proofs.YtnlphbfjeekooaaGreatDoor
