/-
  Package fact: Same and Key: what they return; only new memory is written.
-/
import Derived.Test.YtnlphbfjeekooaaGreatDoorFact5
namespace Go.Proofs.YtnlphbfjeekooaaGreatDoor
open Go.RowKit
namespace RW
def feq (f g : Nat → Int) (s u : ByteArray) : Prop := (∀ i, i < 17 → f i = g i) ∧ s = u
/-- what a fact is about, beside its kind -/
def keyK (f : Nat → Int) : Nat → Int × Int
  | 1 => (f 6, f 1)
  | 2 => (f 6, f 1)
  | 3 => (f 1, 0)
  | 4 => (f 9, f 11)
  | 5 => (f 1, 0)
  | 6 => (f 5, f 3)
  | 7 => (f 15, f 3)
  | 8 => (f 1, 0)
  | 9 => (f 11, 0)
  | 10 => (f 8, f 11)
  | _ => (0, 0)
def keyV (f : Nat → Int) : Int × Int := if 1 ≤ f 0 ∧ f 0 ≤ 10 then keyK f (f 0).toNat else (0, 0)
end RW
theorem keys_all (f : Nat → Int) (s : ByteArray) (k : Nat) (hk : k < 10) : ∃ (fk kk : Nat) (tx : Bool), RW.kv (k + 1) = .agg #[.func (.func fk) #[] #[], .bool tx, .func (.func kk) #[] #[]] ∧
    (∀ (args : Array Value) (W : World), (callFunc kk args).run Tryz.prog W = .ok (.enter kk args) W) ∧
    ∀ W : World, Calls Tryz.prog kk #[.agg (RW.fcells f s)] W fun e w' => e = .returned (.tuple #[.int .i64 (RW.keyK f (k + 1)).1, .int .i64 (RW.keyK f (k + 1)).2]) ∧ Below W.heap.size W w' := by
  match k, hk with
  | 0, _ => exact ⟨_, _, _, rfl, enters_of Tryz.func128 (by kernel_rfl) rfl, fun W => byDevice_any f s W⟩
  | 1, _ => exact ⟨_, _, _, rfl, enters_of Tryz.func128 (by kernel_rfl) rfl, fun W => byDevice_any f s W⟩
  | 2, _ => exact ⟨_, _, _, rfl, enters_of Tryz.func131 (by kernel_rfl) rfl, fun W => byID_any f s W⟩
  | 3, _ => exact ⟨_, _, _, rfl, enters_of Tryz.func133 (by kernel_rfl) rfl, fun W => byHolder_any f s W⟩
  | 4, _ => exact ⟨_, _, _, rfl, enters_of Tryz.func131 (by kernel_rfl) rfl, fun W => byID_any f s W⟩
  | 5, _ => exact ⟨_, _, _, rfl, enters_of Tryz.func136 (by kernel_rfl) rfl, fun W => byAccount_any f s W⟩
  | 6, _ => exact ⟨_, _, _, rfl, enters_of Tryz.func138 (by kernel_rfl) rfl, fun W => byCurrency_any f s W⟩
  | 7, _ => exact ⟨_, _, _, rfl, enters_of Tryz.func131 (by kernel_rfl) rfl, fun W => byID_any f s W⟩
  | 8, _ => exact ⟨_, _, _, rfl, enters_of Tryz.func141 (by kernel_rfl) rfl, fun W => byFrom_any f s W⟩
  | 9, _ => exact ⟨_, _, _, rfl, enters_of Tryz.func143 (by kernel_rfl) rfl, fun W => byTerritory_any f s W⟩
end Go.Proofs.YtnlphbfjeekooaaGreatDoor
