/-
  errors.Is at one and the same error of errors.New's make: true; the world as it was. (Turned from the guide's worked text on errors.Is.)
-/
import Derived.WalkKit
import Derived.LaidEql
import Derived.Stop.Asserts
import Derived.RowKitTokens
import Derived.Test.YtllbphanfahkkaaDoorProg
namespace Go.Proofs.YtllbphanfahkkaaDoor
open Go.RowKit Go.Extern.Stop Go.Stop Go.Extern Go
theorem ER.isTypeOf (v : Value) (w : World) : (Extern.ReflectliteType.typeOf #[.iface 155 v]).run Tryd.prog w = .ok (.iface 112 (.agg #[.pointer (some ⟨5, 155, none⟩)])) w := by kernel_rfl
def ER.entry : Array Value → Sem Value := Extern.ReflectliteType.method fun t => do Go.Extern.Rtype.noPackHeld "Comparable" t; pure (.bool (← typeInfo t).comparable)
theorem ER.isComparable (w : World) : (ER.entry #[.agg #[.pointer (some ⟨5, 155, none⟩)]]).run Tryd.prog w = .ok (.bool true) w := by kernel_rfl
theorem ER.isMethodComparable (v : Value) (w : World) : (Go.method 288 112 v "Comparable").run Tryd.prog w = .ok (110, v) w := by kernel_rfl
theorem ER.isComp : (Tryd.prog.info? 155).map (·.comparable) = some true := by kernel_rfl
theorem ER.isSize : (Tryd.prog.info? 177).map (·.size) = some 1 := by kernel_rfl
set_option maxRecDepth 100000 in
set_option maxHeartbeats 1000000 in
theorem is_same (a : Addr) (w : World) :
    Calls Tryd.prog 39 #[.iface 155 (.pointer (some a)), .iface 155 (.pointer (some a))] w fun e w' => e = .returned (.bool true) ∧ w' = w := by
  obtain ⟨i, hi, hcmp⟩ := Option.map_eq_some_iff.1 ER.isComp
  obtain ⟨j, hj, hjs⟩ := Option.map_eq_some_iff.1 ER.isSize
  have h8 := @run_callFunc_extern Tryd.prog 55 _ Extern.ReflectliteType.typeOf Tryd.func55 (by kernel_rfl) (by kernel_rfl) (by kernel_rfl) (by kernel_rfl)
  have h32 := @run_callFunc_extern Tryd.prog 110 _ ER.entry Tryd.func110 (by kernel_rfl) (by kernel_rfl) (by kernel_rfl) (by kernel_rfl)
  have tT := ER.isTypeOf
  have cT := ER.isComparable
  have mR := ER.isMethodComparable
  have heq := run_eql_iface_ptr_same (P := Tryd.prog) w a Tryd.underlying69 Tryd.underlying155 hi hcmp hj
  go_enter Tryd.func39, Tryd.ntmps39
  go_wp2
  refine wp_loop_rounds 1 ?_
  rw [rounds_succ]
  go_wp2
  go_ret
  exact ⟨rfl, rfl⟩
end Go.Proofs.YtllbphanfahkkaaDoor
