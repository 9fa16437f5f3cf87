/-
  errors.Is at one and the same error of errors.New's make: true; the world as it was. (Turned from the guide's worked text on errors.Is.)
-/
import Derived.WalkKit
import Derived.LaidEql
import Derived.Stop.Asserts
import Derived.RowKitTokens
import Derived.Test.YtllbphanfahkkaaGreatDoorProg
namespace Go.Proofs.YtllbphanfahkkaaGreatDoor
open Go.RowKit Go.Extern.Stop Go.Stop Go.Extern Go
theorem ER.isTypeOf (v : Value) (w : World) : (Extern.ReflectliteType.typeOf #[.iface 282 v]).run Tryz.prog w = .ok (.iface 208 (.agg #[.pointer (some ⟨6, 282, none⟩)])) w := by kernel_rfl
def ER.entry : Array Value → Sem Value := Extern.ReflectliteType.method fun t => do Go.Extern.Rtype.noPackHeld "Comparable" t; pure (.bool (← typeInfo t).comparable)
theorem ER.isComparable (w : World) : (ER.entry #[.agg #[.pointer (some ⟨6, 282, none⟩)]]).run Tryz.prog w = .ok (.bool true) w := by kernel_rfl
theorem ER.isMethodComparable (v : Value) (w : World) : (Go.method 415 208 v "Comparable").run Tryz.prog w = .ok (235, v) w := by kernel_rfl
theorem ER.isComp : (Tryz.prog.info? 282).map (·.comparable) = some true := by kernel_rfl
theorem ER.isSize : (Tryz.prog.info? 304).map (·.size) = some 1 := by kernel_rfl
set_option maxRecDepth 100000 in
set_option maxHeartbeats 1000000 in
theorem is_same (a : Addr) (w : World) :
    Calls Tryz.prog 79 #[.iface 282 (.pointer (some a)), .iface 282 (.pointer (some a))] w fun e w' => e = .returned (.bool true) ∧ w' = w := by
  obtain ⟨i, hi, hcmp⟩ := Option.map_eq_some_iff.1 ER.isComp
  obtain ⟨j, hj, hjs⟩ := Option.map_eq_some_iff.1 ER.isSize
  have h8 := @run_callFunc_extern Tryz.prog 129 _ Extern.ReflectliteType.typeOf Tryz.func129 (by kernel_rfl) (by kernel_rfl) (by kernel_rfl) (by kernel_rfl)
  have h32 := @run_callFunc_extern Tryz.prog 235 _ ER.entry Tryz.func235 (by kernel_rfl) (by kernel_rfl) (by kernel_rfl) (by kernel_rfl)
  have tT := ER.isTypeOf
  have cT := ER.isComparable
  have mR := ER.isMethodComparable
  have heq := run_eql_iface_ptr_same (P := Tryz.prog) w a Tryz.underlying91 Tryz.underlying282 hi hcmp hj
  go_enter Tryz.func79, Tryz.ntmps79
  go_wp2
  refine wp_loop_rounds 1 ?_
  rw [rounds_succ]
  go_wp2
  go_ret
  exact ⟨rfl, rfl⟩
end Go.Proofs.YtllbphanfahkkaaGreatDoor
