/-
  Package fact: isWithin, numbers, the table of kinds, the keys: what each returns; only new memory is written.
-/
import Derived.Deep.OwnRows
import Derived.Deep.RegionHeld3
import Derived.Deep.RegionWith
import Derived.StillTailTactics
import Derived.Deep.QuietTactic
import Derived.BigQuiet
import Derived.BigRegion
import Derived.Maps.AppendAt
import Derived.Test.YtnlphbfjeekooaaGreatDoorMA
import Derived.Test.YtnlphbfjeekooaaGreatDoorMapP
import Derived.Test.YtnlphbfjeekooaaGreatDoorMB
namespace Go.Proofs.YtnlphbfjeekooaaGreatDoor
open Go.RowKit
set_option maxHeartbeats 1000000 in
theorem within_any (r i : Nat) (lo hi x : Int) (w : World) (hc : w.cell? ⟨r, i, none⟩ = some (.int .i64 x)) (hr : r < w.heap.size) :
    Calls Tryz.prog 107 #[.agg #[.pointer (some ⟨r, i, none⟩), .int .i64 lo, .int .i64 hi]] w fun e w' => e = .returned (.bool (decide (lo ≤ x ∧ x ≤ hi))) ∧
      ∃ k, (w.alloc (.cells #[.pointer (some ⟨r, i, none⟩), .int .i64 lo, .int .i64 hi] 156)).drewN k = w' := by
  have ha : ∀ o, (w.alloc o).cell? ⟨r, i, none⟩ = some (.int .i64 x) := fun o => (World.cell?_of_block (Below.heap_alloc w o r hr)).trans hc
  by_cases h1 : lo ≤ x
  · go_enter Tryz.func107, Tryz.ntmps107
    go_wp2
    go_quiet (fail)
    go_wp2
    go_ret
    exact ⟨by simp [h1], _, rfl⟩
  · have hd : decide (lo ≤ x) = false := by simpa using h1
    go_enter Tryz.func107, Tryz.ntmps107
    go_wp2
    go_quiet (fail)
    go_wp2
    go_ret
    exact ⟨by simp; omega, _, rfl⟩
namespace RW
def ptr (r i : Nat) : Value := .pointer (some ⟨r, i, none⟩)
def ptrs (r : Nat) : Array Value := #[ptr r 0, ptr r 1, ptr r 2, ptr r 3, ptr r 4, ptr r 5, ptr r 6, ptr r 7, ptr r 8, ptr r 9, ptr r 10, ptr r 11, ptr r 12, ptr r 13, ptr r 14, ptr r 15, ptr r 16]
end RW
set_option maxRecDepth 100000 in
set_option maxHeartbeats 4000000 in
theorem numbers_any (r : Nat) (w : World) :
    Calls Tryz.prog 76 #[.pointer (some ⟨r, 0, none⟩)] w fun e w' => e = .returned (.agg (RW.ptrs r)) ∧ Below w.heap.size w w' := by
  have hi1 : (Tryz.prog.info? 111).map (·.size) = some (17 : Nat) := by kernel_rfl
  obtain ⟨w0, hw0⟩ : ∃ w0, w0 = w.alloc (.cells #[.pointer none, .pointer none, .pointer none, .pointer none, .pointer none, .pointer none, .pointer none, .pointer none, .pointer none, .pointer none, .pointer none, .pointer none, .pointer none, .pointer none, .pointer none, .pointer none, .pointer none] 111) := ⟨_, rfl⟩
  have hcs : w0.drew.heap[w.heap.size]? = some (.cells #[.pointer none, .pointer none, .pointer none, .pointer none, .pointer none, .pointer none, .pointer none, .pointer none, .pointer none, .pointer none, .pointer none, .pointer none, .pointer none, .pointer none, .pointer none, .pointer none, .pointer none] 111 (0, 0)) := hw0 ▸ heap_alloc_new w _
  have hB : Below w.heap.size w w0 := hw0 ▸ (Below.refl _ _).alloc (Nat.le_refl _) _
  go_enter Tryz.func76, Tryz.ntmps76
  go_wp2
  rw [← hw0]
  clear hw0
  simp only [List.append_eq, List.cons_append, List.nil_append]
  go_still_tail 69, (by kernel_rfl)
  change wpList _ _ _ _ _ w0.drew
  refine wpList_store_row rfl 111 (.tmp 2) (.tmp 71) rfl w.heap.size (RW.ptrs r) rfl rfl 111 _ hcs hi1 rfl (by simp [RW.ptrs, RW.ptr, Value.oneCell']) ?_
  go_wp2
  refine bodyPost_ret (results_cell_row rfl _ _ w.heap.size 111 (RW.ptrs r) (0, 0) _ rfl (setRow_heap _ _ _ _ _ _ hcs) Tryz.underlying111 rfl hi1) rfl ⟨rfl, RW.below_setRow hB.drew (Nat.le_refl _) _⟩
namespace RW
/-- what the table holds of each kind -/
def kv : Nat → Value
  | 1 => .agg #[.func (.func 127) #[] #[], .bool false, .func (.func 128) #[] #[]]
  | 2 => .agg #[.func (.func 129) #[] #[], .bool false, .func (.func 128) #[] #[]]
  | 3 => .agg #[.func (.func 130) #[] #[], .bool false, .func (.func 131) #[] #[]]
  | 4 => .agg #[.func (.func 132) #[] #[], .bool true, .func (.func 133) #[] #[]]
  | 5 => .agg #[.func (.func 134) #[] #[], .bool false, .func (.func 131) #[] #[]]
  | 6 => .agg #[.func (.func 135) #[] #[], .bool false, .func (.func 136) #[] #[]]
  | 7 => .agg #[.func (.func 137) #[] #[], .bool false, .func (.func 138) #[] #[]]
  | 8 => .agg #[.func (.func 139) #[] #[], .bool false, .func (.func 131) #[] #[]]
  | 9 => .agg #[.func (.func 140) #[] #[], .bool true, .func (.func 141) #[] #[]]
  | 10 => .agg #[.func (.func 142) #[] #[], .bool false, .func (.func 143) #[] #[]]
  | _ => .agg #[.nilFunc, .bool false, .nilFunc]
def kes : Nat → Array MapEntry
  | 0 => #[]
  | i + 1 => (kes i).push { key := .int .i64 ((i + 1 : Nat) : Int), val := kv (i + 1), born := i }
end RW
theorem kins (w : World) (i : Nat) (x : Int) (v : Value) (hx : x = ((i + 1 : Nat) : Int)) (hv : v = RW.kv (i + 1)) (hno : Instr.findNow (.int .i64) (.int .i64 x) (RW.kes i).toList 0 = some none) :
    (Instr.mapUpdate 152 (.map (some w.heap.size)) (.int .i64 x) v).run Tryz.prog (w.alloc (.map (RW.kes i) i)) = .ok () (w.alloc (.map (RW.kes (i + 1)) (i + 1))) := by
  rw [MP.run_update_new (clock := i) (es := RW.kes i) Tryz.underlying152 Tryz.underlying3 (heap_alloc_new w _) hno, MP.set_alloc, hx, hv]
  rfl
set_option maxRecDepth 100000 in
set_option maxHeartbeats 1000000 in
theorem kinds_any (w : World) :
    Calls Tryz.prog 106 #[] w fun e w' => e = .returned (.map (some w.heap.size)) ∧ w.alloc (.map (RW.kes 10) 10) = w' := by
  have hmm := @run_makeMap Tryz.prog
  have e0 : (Instr.mapUpdate 152 (.map (some w.heap.size)) (.int .i64 1) (.agg #[.func (.func 127) #[] #[], .bool false, .func (.func 128) #[] #[]])).run Tryz.prog (w.alloc (.map (#[]) 0)) = .ok () (w.alloc (.map (RW.kes 1) 1)) := kins w 0 1 _ rfl rfl rfl
  have e1 : (Instr.mapUpdate 152 (.map (some w.heap.size)) (.int .i64 2) (.agg #[.func (.func 129) #[] #[], .bool false, .func (.func 128) #[] #[]])).run Tryz.prog (w.alloc (.map (RW.kes 1) 1)) = .ok () (w.alloc (.map (RW.kes 2) 2)) := kins w 1 2 _ rfl rfl rfl
  have e2 : (Instr.mapUpdate 152 (.map (some w.heap.size)) (.int .i64 3) (.agg #[.func (.func 130) #[] #[], .bool false, .func (.func 131) #[] #[]])).run Tryz.prog (w.alloc (.map (RW.kes 2) 2)) = .ok () (w.alloc (.map (RW.kes 3) 3)) := kins w 2 3 _ rfl rfl rfl
  have e3 : (Instr.mapUpdate 152 (.map (some w.heap.size)) (.int .i64 4) (.agg #[.func (.func 132) #[] #[], .bool true, .func (.func 133) #[] #[]])).run Tryz.prog (w.alloc (.map (RW.kes 3) 3)) = .ok () (w.alloc (.map (RW.kes 4) 4)) := kins w 3 4 _ rfl rfl rfl
  have e4 : (Instr.mapUpdate 152 (.map (some w.heap.size)) (.int .i64 5) (.agg #[.func (.func 134) #[] #[], .bool false, .func (.func 131) #[] #[]])).run Tryz.prog (w.alloc (.map (RW.kes 4) 4)) = .ok () (w.alloc (.map (RW.kes 5) 5)) := kins w 4 5 _ rfl rfl rfl
  have e5 : (Instr.mapUpdate 152 (.map (some w.heap.size)) (.int .i64 6) (.agg #[.func (.func 135) #[] #[], .bool false, .func (.func 136) #[] #[]])).run Tryz.prog (w.alloc (.map (RW.kes 5) 5)) = .ok () (w.alloc (.map (RW.kes 6) 6)) := kins w 5 6 _ rfl rfl rfl
  have e6 : (Instr.mapUpdate 152 (.map (some w.heap.size)) (.int .i64 7) (.agg #[.func (.func 137) #[] #[], .bool false, .func (.func 138) #[] #[]])).run Tryz.prog (w.alloc (.map (RW.kes 6) 6)) = .ok () (w.alloc (.map (RW.kes 7) 7)) := kins w 6 7 _ rfl rfl rfl
  have e7 : (Instr.mapUpdate 152 (.map (some w.heap.size)) (.int .i64 8) (.agg #[.func (.func 139) #[] #[], .bool false, .func (.func 131) #[] #[]])).run Tryz.prog (w.alloc (.map (RW.kes 7) 7)) = .ok () (w.alloc (.map (RW.kes 8) 8)) := kins w 7 8 _ rfl rfl rfl
  have e8 : (Instr.mapUpdate 152 (.map (some w.heap.size)) (.int .i64 9) (.agg #[.func (.func 140) #[] #[], .bool true, .func (.func 141) #[] #[]])).run Tryz.prog (w.alloc (.map (RW.kes 8) 8)) = .ok () (w.alloc (.map (RW.kes 9) 9)) := kins w 8 9 _ rfl rfl rfl
  have e9 : (Instr.mapUpdate 152 (.map (some w.heap.size)) (.int .i64 10) (.agg #[.func (.func 142) #[] #[], .bool false, .func (.func 143) #[] #[]])).run Tryz.prog (w.alloc (.map (RW.kes 9) 9)) = .ok () (w.alloc (.map (RW.kes 10) 10)) := kins w 9 10 _ rfl rfl rfl
  go_enter Tryz.func106, Tryz.ntmps106
  go_wp2
  go_ret
  exact ⟨rfl, rfl⟩
end Go.Proofs.YtnlphbfjeekooaaGreatDoor
