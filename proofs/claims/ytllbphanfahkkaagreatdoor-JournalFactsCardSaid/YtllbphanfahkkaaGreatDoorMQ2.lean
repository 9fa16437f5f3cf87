/-
  Package fact: isWithin, numbers, the table of kinds, the keys: what each returns; only new memory is written.
-/
import Derived.Deep.OwnRows
import Derived.Deep.RegionHeld3
import Derived.Deep.RegionWith
import Derived.StillTailTactics
import Derived.Deep.QuietTactic
import Derived.BigQuiet
import Derived.BigRegion
import Derived.Maps.AppendAt
import Derived.Test.YtllbphanfahkkaaGreatDoorMA
import Derived.Test.YtllbphanfahkkaaGreatDoorMF1
import Derived.Test.YtllbphanfahkkaaGreatDoorMB
import Derived.Deep.DeepCutAuto
import Derived.Laws.EntriesVeiled
import Derived.Shelf.Small.Strs
import Derived.Test.YtllbphanfahkkaaGreatDoorProg
namespace Go.Proofs.YtllbphanfahkkaaGreatDoor
open Go.RowKit
set_option maxHeartbeats 1000000 in
theorem within_any (r i : Nat) (lo hi x : Int) (w : World) (hc : w.cell? ⟨r, i, none⟩ = some (.int .i64 x)) (hr : r < w.heap.size) :
    Calls Tryz.prog 74 #[.agg #[.pointer (some ⟨r, i, none⟩), .int .i64 lo, .int .i64 hi]] w fun e w' => e = .returned (.bool (decide (lo ≤ x ∧ x ≤ hi))) ∧
      ∃ k, (w.alloc (.cells #[.pointer (some ⟨r, i, none⟩), .int .i64 lo, .int .i64 hi] 146)).drewN k = w' := by
  have ha : ∀ o, (w.alloc o).cell? ⟨r, i, none⟩ = some (.int .i64 x) := fun o => (World.cell?_of_block (Below.heap_alloc w o r hr)).trans hc
  by_cases h1 : lo ≤ x
  · go_enter Tryz.func74, Tryz.ntmps74
    go_wp2
    go_quiet (fail)
    go_wp2
    go_ret
    exact ⟨by simp [h1], _, rfl⟩
  · have hd : decide (lo ≤ x) = false := by simpa using h1
    go_enter Tryz.func74, Tryz.ntmps74
    go_wp2
    go_quiet (fail)
    go_wp2
    go_ret
    exact ⟨by simp; omega, _, rfl⟩
namespace RW
def ptr (r i : Nat) : Value := .pointer (some ⟨r, i, none⟩)
def ptrs (r : Nat) : Array Value := #[ptr r 0, ptr r 1, ptr r 2, ptr r 3, ptr r 4, ptr r 5, ptr r 6, ptr r 7, ptr r 8, ptr r 9, ptr r 10, ptr r 11, ptr r 12, ptr r 13, ptr r 14, ptr r 15, ptr r 16]
end RW
set_option maxRecDepth 100000 in
set_option maxHeartbeats 4000000 in
theorem numbers_any (r : Nat) (w : World) :
    Calls Tryz.prog 75 #[.pointer (some ⟨r, 0, none⟩)] w fun e w' => e = .returned (.agg (RW.ptrs r)) ∧ Below w.heap.size w w' := by
  have hi1 : (Tryz.prog.info? 147).map (·.size) = some (17 : Nat) := by kernel_rfl
  obtain ⟨w0, hw0⟩ : ∃ w0, w0 = w.alloc (.cells #[.pointer none, .pointer none, .pointer none, .pointer none, .pointer none, .pointer none, .pointer none, .pointer none, .pointer none, .pointer none, .pointer none, .pointer none, .pointer none, .pointer none, .pointer none, .pointer none, .pointer none] 147) := ⟨_, rfl⟩
  have hcs : w0.drew.heap[w.heap.size]? = some (.cells #[.pointer none, .pointer none, .pointer none, .pointer none, .pointer none, .pointer none, .pointer none, .pointer none, .pointer none, .pointer none, .pointer none, .pointer none, .pointer none, .pointer none, .pointer none, .pointer none, .pointer none] 147 (0, 0)) := hw0 ▸ heap_alloc_new w _
  have hB : Below w.heap.size w w0 := hw0 ▸ (Below.refl _ _).alloc (Nat.le_refl _) _
  go_enter Tryz.func75, Tryz.ntmps75
  go_wp2
  rw [← hw0]
  clear hw0
  simp only [List.append_eq, List.cons_append, List.nil_append]
  go_still_tail 69, (by kernel_rfl)
  change wpList _ _ _ _ _ w0.drew
  refine wpList_store_row rfl 147 (.tmp 2) (.tmp 71) rfl w.heap.size (RW.ptrs r) rfl rfl 147 _ hcs hi1 rfl (by simp [RW.ptrs, RW.ptr, Value.oneCell']) ?_
  go_wp2
  refine bodyPost_ret (results_cell_row rfl _ _ w.heap.size 147 (RW.ptrs r) (0, 0) _ rfl (setRow_heap _ _ _ _ _ _ hcs) Tryz.underlying147 rfl hi1) rfl ⟨rfl, RW.below_setRow hB.drew (Nat.le_refl _) _⟩
namespace RW
/-- what the table holds of each kind -/
def kv : Nat → Value
  | 1 => .agg #[.func (.func 111) #[] #[], .bool false, .func (.func 112) #[] #[]]
  | 2 => .agg #[.func (.func 113) #[] #[], .bool false, .func (.func 112) #[] #[]]
  | 3 => .agg #[.func (.func 114) #[] #[], .bool false, .func (.func 115) #[] #[]]
  | 4 => .agg #[.func (.func 116) #[] #[], .bool true, .func (.func 117) #[] #[]]
  | 5 => .agg #[.func (.func 118) #[] #[], .bool false, .func (.func 115) #[] #[]]
  | 6 => .agg #[.func (.func 119) #[] #[], .bool false, .func (.func 120) #[] #[]]
  | 7 => .agg #[.func (.func 121) #[] #[], .bool false, .func (.func 122) #[] #[]]
  | 8 => .agg #[.func (.func 123) #[] #[], .bool false, .func (.func 115) #[] #[]]
  | 9 => .agg #[.func (.func 124) #[] #[], .bool true, .func (.func 125) #[] #[]]
  | 10 => .agg #[.func (.func 126) #[] #[], .bool false, .func (.func 127) #[] #[]]
  | _ => .agg #[.nilFunc, .bool false, .nilFunc]
def kes : Nat → Array MapEntry
  | 0 => #[]
  | i + 1 => (kes i).push { key := .int .i64 ((i + 1 : Nat) : Int), val := kv (i + 1), born := i }
end RW
theorem kins (w : World) (i : Nat) (x : Int) (v : Value) (hx : x = ((i + 1 : Nat) : Int)) (hv : v = RW.kv (i + 1)) (hno : Instr.findNow (.int .i64) (.int .i64 x) (RW.kes i).toList 0 = some none) :
    (Instr.mapUpdate 138 (.map (some w.heap.size)) (.int .i64 x) v).run Tryz.prog (w.alloc (.map (RW.kes i) i)) = .ok () (w.alloc (.map (RW.kes (i + 1)) (i + 1))) := by
  rw [MP.run_update_new (clock := i) (es := RW.kes i) Tryz.underlying138 Tryz.underlying3 (heap_alloc_new w _) hno, MP.set_alloc, hx, hv]
  rfl
set_option maxRecDepth 100000 in
set_option maxHeartbeats 1000000 in
theorem kinds_any (w : World) :
    Calls Tryz.prog 73 #[] w fun e w' => e = .returned (.map (some w.heap.size)) ∧ w.alloc (.map (RW.kes 10) 10) = w' := by
  have hmm := @run_makeMap Tryz.prog
  have e0 : (Instr.mapUpdate 138 (.map (some w.heap.size)) (.int .i64 1) (.agg #[.func (.func 111) #[] #[], .bool false, .func (.func 112) #[] #[]])).run Tryz.prog (w.alloc (.map (#[]) 0)) = .ok () (w.alloc (.map (RW.kes 1) 1)) := kins w 0 1 _ rfl rfl rfl
  have e1 : (Instr.mapUpdate 138 (.map (some w.heap.size)) (.int .i64 2) (.agg #[.func (.func 113) #[] #[], .bool false, .func (.func 112) #[] #[]])).run Tryz.prog (w.alloc (.map (RW.kes 1) 1)) = .ok () (w.alloc (.map (RW.kes 2) 2)) := kins w 1 2 _ rfl rfl rfl
  have e2 : (Instr.mapUpdate 138 (.map (some w.heap.size)) (.int .i64 3) (.agg #[.func (.func 114) #[] #[], .bool false, .func (.func 115) #[] #[]])).run Tryz.prog (w.alloc (.map (RW.kes 2) 2)) = .ok () (w.alloc (.map (RW.kes 3) 3)) := kins w 2 3 _ rfl rfl rfl
  have e3 : (Instr.mapUpdate 138 (.map (some w.heap.size)) (.int .i64 4) (.agg #[.func (.func 116) #[] #[], .bool true, .func (.func 117) #[] #[]])).run Tryz.prog (w.alloc (.map (RW.kes 3) 3)) = .ok () (w.alloc (.map (RW.kes 4) 4)) := kins w 3 4 _ rfl rfl rfl
  have e4 : (Instr.mapUpdate 138 (.map (some w.heap.size)) (.int .i64 5) (.agg #[.func (.func 118) #[] #[], .bool false, .func (.func 115) #[] #[]])).run Tryz.prog (w.alloc (.map (RW.kes 4) 4)) = .ok () (w.alloc (.map (RW.kes 5) 5)) := kins w 4 5 _ rfl rfl rfl
  have e5 : (Instr.mapUpdate 138 (.map (some w.heap.size)) (.int .i64 6) (.agg #[.func (.func 119) #[] #[], .bool false, .func (.func 120) #[] #[]])).run Tryz.prog (w.alloc (.map (RW.kes 5) 5)) = .ok () (w.alloc (.map (RW.kes 6) 6)) := kins w 5 6 _ rfl rfl rfl
  have e6 : (Instr.mapUpdate 138 (.map (some w.heap.size)) (.int .i64 7) (.agg #[.func (.func 121) #[] #[], .bool false, .func (.func 122) #[] #[]])).run Tryz.prog (w.alloc (.map (RW.kes 6) 6)) = .ok () (w.alloc (.map (RW.kes 7) 7)) := kins w 6 7 _ rfl rfl rfl
  have e7 : (Instr.mapUpdate 138 (.map (some w.heap.size)) (.int .i64 8) (.agg #[.func (.func 123) #[] #[], .bool false, .func (.func 115) #[] #[]])).run Tryz.prog (w.alloc (.map (RW.kes 7) 7)) = .ok () (w.alloc (.map (RW.kes 8) 8)) := kins w 7 8 _ rfl rfl rfl
  have e8 : (Instr.mapUpdate 138 (.map (some w.heap.size)) (.int .i64 9) (.agg #[.func (.func 124) #[] #[], .bool true, .func (.func 125) #[] #[]])).run Tryz.prog (w.alloc (.map (RW.kes 8) 8)) = .ok () (w.alloc (.map (RW.kes 9) 9)) := kins w 8 9 _ rfl rfl rfl
  have e9 : (Instr.mapUpdate 138 (.map (some w.heap.size)) (.int .i64 10) (.agg #[.func (.func 126) #[] #[], .bool false, .func (.func 127) #[] #[]])).run Tryz.prog (w.alloc (.map (RW.kes 9) 9)) = .ok () (w.alloc (.map (RW.kes 10) 10)) := kins w 9 10 _ rfl rfl rfl
  go_enter Tryz.func73, Tryz.ntmps73
  go_wp2
  go_ret
  exact ⟨rfl, rfl⟩
end Go.Proofs.YtllbphanfahkkaaGreatDoor

/-
  Package fact: the keys: what each returns; only new memory is written.
-/
namespace Go.Proofs.YtllbphanfahkkaaGreatDoor
open Go.RowKit
namespace RW
/-- a fact's numbers and text, as cells -/
def fcells (f : Nat → Int) (s : ByteArray) : Array Value := #[.int .i64 (f 0), .int .i64 (f 1), .int .i64 (f 2), .int .i64 (f 3), .int .i64 (f 4), .int .i64 (f 5), .int .i64 (f 6), .int .i64 (f 7), .int .i64 (f 8), .int .i64 (f 9), .int .i64 (f 10), .int .i64 (f 11), .int .i64 (f 12), .int .i64 (f 13), .int .i64 (f 14), .int .i64 (f 15), .int .i64 (f 16), .string s]
theorem below_drewN {B : Nat} {a w : World} {n : Nat} (h : Below B a w) : Below B a (w.drewN n) := ⟨h.os, h.tape, h.output, h.size, h.block⟩
end RW
set_option maxHeartbeats 1000000 in
theorem byDevice_any (f : Nat → Int) (s : ByteArray) (w : World) :
    Calls Tryz.prog 112 #[.agg (RW.fcells f s)] w fun e w' => e = .returned (.tuple #[.int .i64 (f 6), .int .i64 (f 1)]) ∧ Below w.heap.size w w' := by
  show Calls _ _ #[.agg #[.int .i64 (f 0), .int .i64 (f 1), .int .i64 (f 2), .int .i64 (f 3), .int .i64 (f 4), .int .i64 (f 5), .int .i64 (f 6), .int .i64 (f 7), .int .i64 (f 8), .int .i64 (f 9), .int .i64 (f 10), .int .i64 (f 11), .int .i64 (f 12), .int .i64 (f 13), .int .i64 (f 14), .int .i64 (f 15), .int .i64 (f 16), .string s]] w _
  go_enter Tryz.func112, Tryz.ntmps112
  go_wp2
  go_quiet (fail)
  go_wp2
  go_ret2
  exact ⟨rfl, RW.below_drewN ((Below.refl _ _).alloc (Nat.le_refl _) _)⟩
set_option maxHeartbeats 1000000 in
theorem byID_any (f : Nat → Int) (s : ByteArray) (w : World) :
    Calls Tryz.prog 115 #[.agg (RW.fcells f s)] w fun e w' => e = .returned (.tuple #[.int .i64 (f 1), .int .i64 (0)]) ∧ Below w.heap.size w w' := by
  show Calls _ _ #[.agg #[.int .i64 (f 0), .int .i64 (f 1), .int .i64 (f 2), .int .i64 (f 3), .int .i64 (f 4), .int .i64 (f 5), .int .i64 (f 6), .int .i64 (f 7), .int .i64 (f 8), .int .i64 (f 9), .int .i64 (f 10), .int .i64 (f 11), .int .i64 (f 12), .int .i64 (f 13), .int .i64 (f 14), .int .i64 (f 15), .int .i64 (f 16), .string s]] w _
  go_enter Tryz.func115, Tryz.ntmps115
  go_wp2
  go_ret2
  exact ⟨rfl, (Below.refl _ _).alloc (Nat.le_refl _) _⟩
set_option maxHeartbeats 1000000 in
theorem byHolder_any (f : Nat → Int) (s : ByteArray) (w : World) :
    Calls Tryz.prog 117 #[.agg (RW.fcells f s)] w fun e w' => e = .returned (.tuple #[.int .i64 (f 9), .int .i64 (f 11)]) ∧ Below w.heap.size w w' := by
  show Calls _ _ #[.agg #[.int .i64 (f 0), .int .i64 (f 1), .int .i64 (f 2), .int .i64 (f 3), .int .i64 (f 4), .int .i64 (f 5), .int .i64 (f 6), .int .i64 (f 7), .int .i64 (f 8), .int .i64 (f 9), .int .i64 (f 10), .int .i64 (f 11), .int .i64 (f 12), .int .i64 (f 13), .int .i64 (f 14), .int .i64 (f 15), .int .i64 (f 16), .string s]] w _
  go_enter Tryz.func117, Tryz.ntmps117
  go_wp2
  go_quiet (fail)
  go_wp2
  go_ret2
  exact ⟨rfl, RW.below_drewN ((Below.refl _ _).alloc (Nat.le_refl _) _)⟩
set_option maxHeartbeats 1000000 in
theorem byAccount_any (f : Nat → Int) (s : ByteArray) (w : World) :
    Calls Tryz.prog 120 #[.agg (RW.fcells f s)] w fun e w' => e = .returned (.tuple #[.int .i64 (f 5), .int .i64 (f 3)]) ∧ Below w.heap.size w w' := by
  show Calls _ _ #[.agg #[.int .i64 (f 0), .int .i64 (f 1), .int .i64 (f 2), .int .i64 (f 3), .int .i64 (f 4), .int .i64 (f 5), .int .i64 (f 6), .int .i64 (f 7), .int .i64 (f 8), .int .i64 (f 9), .int .i64 (f 10), .int .i64 (f 11), .int .i64 (f 12), .int .i64 (f 13), .int .i64 (f 14), .int .i64 (f 15), .int .i64 (f 16), .string s]] w _
  go_enter Tryz.func120, Tryz.ntmps120
  go_wp2
  go_quiet (fail)
  go_wp2
  go_ret2
  exact ⟨rfl, RW.below_drewN ((Below.refl _ _).alloc (Nat.le_refl _) _)⟩
set_option maxHeartbeats 1000000 in
theorem byCurrency_any (f : Nat → Int) (s : ByteArray) (w : World) :
    Calls Tryz.prog 122 #[.agg (RW.fcells f s)] w fun e w' => e = .returned (.tuple #[.int .i64 (f 15), .int .i64 (f 3)]) ∧ Below w.heap.size w w' := by
  show Calls _ _ #[.agg #[.int .i64 (f 0), .int .i64 (f 1), .int .i64 (f 2), .int .i64 (f 3), .int .i64 (f 4), .int .i64 (f 5), .int .i64 (f 6), .int .i64 (f 7), .int .i64 (f 8), .int .i64 (f 9), .int .i64 (f 10), .int .i64 (f 11), .int .i64 (f 12), .int .i64 (f 13), .int .i64 (f 14), .int .i64 (f 15), .int .i64 (f 16), .string s]] w _
  go_enter Tryz.func122, Tryz.ntmps122
  go_wp2
  go_quiet (fail)
  go_wp2
  go_ret2
  exact ⟨rfl, RW.below_drewN ((Below.refl _ _).alloc (Nat.le_refl _) _)⟩
set_option maxHeartbeats 1000000 in
theorem byFrom_any (f : Nat → Int) (s : ByteArray) (w : World) :
    Calls Tryz.prog 125 #[.agg (RW.fcells f s)] w fun e w' => e = .returned (.tuple #[.int .i64 (f 11), .int .i64 (0)]) ∧ Below w.heap.size w w' := by
  show Calls _ _ #[.agg #[.int .i64 (f 0), .int .i64 (f 1), .int .i64 (f 2), .int .i64 (f 3), .int .i64 (f 4), .int .i64 (f 5), .int .i64 (f 6), .int .i64 (f 7), .int .i64 (f 8), .int .i64 (f 9), .int .i64 (f 10), .int .i64 (f 11), .int .i64 (f 12), .int .i64 (f 13), .int .i64 (f 14), .int .i64 (f 15), .int .i64 (f 16), .string s]] w _
  go_enter Tryz.func125, Tryz.ntmps125
  go_wp2
  go_ret2
  exact ⟨rfl, (Below.refl _ _).alloc (Nat.le_refl _) _⟩
set_option maxHeartbeats 1000000 in
theorem byTerritory_any (f : Nat → Int) (s : ByteArray) (w : World) :
    Calls Tryz.prog 127 #[.agg (RW.fcells f s)] w fun e w' => e = .returned (.tuple #[.int .i64 (f 8), .int .i64 (f 11)]) ∧ Below w.heap.size w w' := by
  show Calls _ _ #[.agg #[.int .i64 (f 0), .int .i64 (f 1), .int .i64 (f 2), .int .i64 (f 3), .int .i64 (f 4), .int .i64 (f 5), .int .i64 (f 6), .int .i64 (f 7), .int .i64 (f 8), .int .i64 (f 9), .int .i64 (f 10), .int .i64 (f 11), .int .i64 (f 12), .int .i64 (f 13), .int .i64 (f 14), .int .i64 (f 15), .int .i64 (f 16), .string s]] w _
  go_enter Tryz.func127, Tryz.ntmps127
  go_wp2
  go_quiet (fail)
  go_wp2
  go_ret2
  exact ⟨rfl, RW.below_drewN ((Below.refl _ _).alloc (Nat.le_refl _) _)⟩
end Go.Proofs.YtllbphanfahkkaaGreatDoor

/-
  Package fact: equality of facts, rows that are loaded whole, what Valid's loop keeps; the plain side of Valid: no condition beyond each theorem's own premises.
-/
namespace Go.Proofs.YtllbphanfahkkaaGreatDoor
open Go.RowKit
theorem look_known (W : World) (m k : Nat) (hk : k < 10) (h : W.heap[m]? = some (.map (RW.kes 10) 10)) :
    (Instr.lookup 138 (.map (some m)) (.int .i64 ((k + 1 : Nat) : Int)) true).run Tryz.prog W = .ok (.tuple #[RW.kv (k + 1), .bool true]) W := by
  refine MP.run_lookup_ok (es := RW.kes 10) (i := k) Tryz.underlying138 Tryz.underlying3 h ?_
  match k, hk with
  | 0, _ => rfl
  | 1, _ => rfl
  | 2, _ => rfl
  | 3, _ => rfl
  | 4, _ => rfl
  | 5, _ => rfl
  | 6, _ => rfl
  | 7, _ => rfl
  | 8, _ => rfl
  | 9, _ => rfl
theorem fcells_size (f : Nat → Int) (s : ByteArray) : (RW.fcells f s).size = 18 := rfl
theorem fcells_get (f : Nat → Int) (s : ByteArray) (i : Nat) (h : i < 17) : (RW.fcells f s)[i]? = some (.int .i64 (f i)) := by
  have h' : i = 0 ∨ i = 1 ∨ i = 2 ∨ i = 3 ∨ i = 4 ∨ i = 5 ∨ i = 6 ∨ i = 7 ∨ i = 8 ∨ i = 9 ∨ i = 10 ∨ i = 11 ∨ i = 12 ∨ i = 13 ∨ i = 14 ∨ i = 15 ∨ i = 16 := by omega
  rcases h' with rfl | rfl | rfl | rfl | rfl | rfl | rfl | rfl | rfl | rfl | rfl | rfl | rfl | rfl | rfl | rfl | rfl <;> rfl
theorem fcells_text (f : Nat → Int) (s : ByteArray) : (RW.fcells f s)[17]? = some (.string s) := rfl
theorem cell_of_heap {w : World} {g : Nat} {cs : Array Value} {t : TypeId} {fr : Nat × Nat} (h : w.heap[g]? = some (.cells cs t fr)) (i : Nat) : w.cell? ⟨g, i, none⟩ = cs[i]? := by simp [World.cell?, h]
theorem fcells_fold (f : Nat → Int) (s : ByteArray) : Array.foldl (fun (cs : Array Value) (x : Value × Nat) => cs.setIfInBounds x.snd x.fst) #[.int .i64 0, .int .i64 0, .int .i64 0, .int .i64 0, .int .i64 0, .int .i64 0, .int .i64 0, .int .i64 0, .int .i64 0, .int .i64 0, .int .i64 0, .int .i64 0, .int .i64 0, .int .i64 0, .int .i64 0, .int .i64 0, .int .i64 0, .string ⟨#[]⟩] (RW.fcells f s).zipIdx 0 18 = RW.fcells f s := by
  unfold RW.fcells
  simp
namespace RW
/-- the cells of a record whose fields of a list were set to 0 -/
def zc (cs : Array Value) (l : List (Nat × Int × Int)) : Array Value := l.foldl (fun c x => c.setIfInBounds x.1 (.int .i64 0)) cs
theorem zc_snoc (cs : Array Value) (l : List (Nat × Int × Int)) (x : Nat × Int × Int) : zc cs (l ++ [x]) = (zc cs l).setIfInBounds x.1 (.int .i64 0) := by simp [zc]
theorem zc_size (l : List (Nat × Int × Int)) : ∀ cs : Array Value, (zc cs l).size = cs.size := by
  induction l with
  | nil => intro cs; rfl
  | cons x l ih => intro cs; show (zc (cs.setIfInBounds x.1 _) l).size = _; rw [ih]; simp
theorem zc_get (l : List (Nat × Int × Int)) : ∀ (cs : Array Value) (i : Nat), (∀ x ∈ l, x.1 ≠ i) → (zc cs l)[i]? = cs[i]? := by
  induction l with
  | nil => intro cs i _; rfl
  | cons x l ih =>
    intro cs i h
    show (zc (cs.setIfInBounds x.1 _) l)[i]? = _
    rw [ih _ _ (fun y hy => h y (by simp [hy])), Array.getElem?_setIfInBounds, if_neg (h x (by simp))]
theorem fldsV_get (r : Nat) : ∀ (l : List (Nat × Int × Int)) (i : Nat) (x : Nat × Int × Int), l[i]? = some x →
    (fldsV r l)[i * 3]? = some (.pointer (some ⟨r, x.1, none⟩)) ∧ (fldsV r l)[i * 3 + 1]? = some (.int .i64 x.2.1) ∧ (fldsV r l)[i * 3 + 2]? = some (.int .i64 x.2.2) := by
  intro l
  induction l with
  | nil => intro i x h; simp at h
  | cons y l ih =>
    intro i x h
    cases i with
    | zero => simp at h; subst h; exact ⟨rfl, rfl, rfl⟩
    | succ i =>
      have := ih i x (by simpa using h)
      have e : fldsV r (y :: l) = fld r y.1 y.2.1 y.2.2 ++ fldsV r l := rfl
      rw [e, show (i + 1) * 3 = 3 + i * 3 by omega]
      have hl : (fld r y.1 y.2.1 y.2.2).length = 3 := rfl
      refine ⟨?_, ?_, ?_⟩
      · rw [List.getElem?_append_right (by omega), hl, show 3 + i * 3 - 3 = i * 3 by omega]; exact this.1
      · rw [List.getElem?_append_right (by omega), hl, show 3 + i * 3 + 1 - 3 = i * 3 + 1 by omega]; exact this.2.1
      · rw [List.getElem?_append_right (by omega), hl, show 3 + i * 3 + 2 - 3 = i * 3 + 2 by omega]; exact this.2.2
/-- what Valid's loop keeps -/
structure VInv (B kb r g : Nat) (T23 T44 T50 T54 : Nat) (cs cs' kc fl : Array Value) (w W : World) : Prop where
  below : Below B w W
  fact : W.heap[B]? = some (.cells cs T23 (0, 0))
  kind : W.heap[kb]? = some (.cells kc T44 (0, 0))
  rcd : W.heap[r]? = some (.cells cs' T50 (0, 0))
  flds : W.heap[g]? = some (.cells fl T54 (0, 0))
  o1 : B < kb
  o2 : kb < r
  o3 : r < g
  o4 : g < W.heap.size
theorem VInv.grown {B kb r g T23 T44 T50 T54 : Nat} {cs cs' kc fl : Array Value} {w W W' : World} (h : VInv B kb r g T23 T44 T50 T54 cs cs' kc fl w W) (hB : Below W.heap.size W W') : VInv B kb r g T23 T44 T50 T54 cs cs' kc fl w W' := by
  have h1 := h.o1; have h2 := h.o2; have h3 := h.o3; have h4 := h.o4
  exact ⟨h.below.trans (hB.mono (by omega)), (hB.block _ (by omega)).trans h.fact, (hB.block _ (by omega)).trans h.kind, (hB.block _ (by omega)).trans h.rcd, (hB.block _ (by omega)).trans h.flds, h1, h2, h3, by have := hB.size; omega⟩
theorem VInv.set {B kb r g T23 T44 T50 T54 : Nat} {cs cs' kc fl : Array Value} {w W : World} (h : VInv B kb r g T23 T44 T50 T54 cs cs' kc fl w W) (i : Nat) (v : Value) : VInv B kb r g T23 T44 T50 T54 cs (cs'.setIfInBounds i v) kc fl w (W.setCell ⟨r, i, none⟩ v) := by
  have h1 := h.o1; have h2 := h.o2; have h3 := h.o3; have h4 := h.o4
  have ho : ∀ k, k ≠ r → (W.setCell ⟨r, i, none⟩ v).heap[k]? = W.heap[k]? := fun k hk => Below.heap_setCell _ _ _ _ hk
  exact ⟨h.below.setCell (by show B ≤ r; omega) _, (ho _ (by omega)).trans h.fact, (ho _ (by omega)).trans h.kind, heap_setCell_same _ _ _ _ _ _ h.rcd, (ho _ (by omega)).trans h.flds, h1, h2, h3, by simpa using h4⟩
end RW
theorem wpQuiet_load_row {P : Program} {ops : Array Oper} {C : World → Prop} {Q : Act → Prop} {rest : List Oper} {o : Oper} {a : Act} (hgd : o.guard = none) (ty : TypeId) (x : Operand) (ho : o.op = .load ty x)
    (g : Nat) (hx : a.eval x = .pointer (some ⟨g, 0, none⟩)) (cs : Array Value) (h : ∀ w, C w → (Instr.loadAt ty (.pointer (some ⟨g, 0, none⟩))).run P w = .ok (.agg cs) w)
    (hk : wpQuiet P ops C Q rest (a.put o.dst (.agg cs))) : wpQuiet P ops C Q (o :: rest) a := by
  unfold wpQuiet
  rw [if_pos (by simp [Region.wanted, hgd])]
  refine ⟨.agg cs, fun w hw => ?_, hk⟩
  unfold Oper.quietAt
  simp [execOp, ho, hx, h w hw, Oper.quietUpon]
/-- a whole row, loaded: folded so that the walk does not open it -/
def rowLoad (P : Program) (T : TypeId) (w : World) (g : Nat) := (Instr.loadAt T (.pointer (some ⟨g, 0, none⟩))).run P w
theorem rowLoad_fact (w : World) (g : Nat) : (Instr.loadAt 70 (.pointer (some ⟨g, 0, none⟩))).run Tryz.prog w = rowLoad Tryz.prog 70 w g := rfl
theorem rowLoad_eq {P : Program} (w : World) (g : Nat) (t ty : TypeId) (cs : Array Value) (fr : Nat × Nat) (d : TypeDesc) (hg : w.heap[g]? = some (.cells cs t fr))
    (hu : P.underlying ty = some d) (hd : (match d with | .struct _ | .array _ _ => true | _ => false) = true) (hi : (P.info? ty).map (·.size) = some cs.size) :
    rowLoad P ty w g = .ok (.agg cs) w := by
  unfold rowLoad
  simp only [Instr.loadAt, Instr.sureAddr, Sem.run_bind, Sem.run_pure, Result.andThen_ok, run_loadVar_row w g t ty cs fr d hg hu hd hi]
namespace RW
noncomputable def dec (p : Prop) : Bool := @decide p (Classical.propDecidable p)
theorem dec_iff (p : Prop) : dec p = true ↔ p := by unfold dec; exact @decide_eq_true_iff p (Classical.propDecidable p)
theorem dec_true {p : Prop} (h : p) : dec p = true := (dec_iff p).2 h
theorem dec_false {p : Prop} (h : ¬ p) : dec p = false := by
  cases e : dec p
  · rfl
  · exact absurd ((dec_iff p).1 e) h
theorem dec_eq {b : Bool} {p : Prop} (h : b = true ↔ p) : b = dec p := by
  cases b
  · exact (dec_false (fun hp => by simpa using h.2 hp)).symm
  · exact (dec_true (h.1 rfl)).symm
/-- a fact of a known kind is valid, its version and its text's length being within their limits -/
noncomputable def validK (l : List (Nat × Int × Int)) (tx : Bool) (f : Nat → Int) (n : Nat) : Bool :=
  dec ((∀ x ∈ l, x.2.1 ≤ f x.1 ∧ f x.1 ≤ x.2.2) ∧ (tx = true ∨ n = 0) ∧ ∀ i, i < 17 → i ≠ 0 → i ≠ 2 → (∀ x ∈ l, x.1 ≠ i) → f i = 0)
/-- the numbers, those of the list's fields set to 0 -/
def zf (f : Nat → Int) (l : List (Nat × Int × Int)) (i : Nat) : Int := if ∀ x ∈ l, x.1 ≠ i then f i else 0
theorem zc_zero (l : List (Nat × Int × Int)) : ∀ (cs : Array Value) (i : Nat), i < cs.size → (∃ x ∈ l, x.1 = i) → (zc cs l)[i]? = some (.int .i64 0) := by
  induction l with
  | nil => intro cs i _ ⟨x, hx, _⟩; cases hx
  | cons y l ih =>
    intro cs i hi ⟨x, hx, hxi⟩
    show (zc (cs.setIfInBounds y.1 _) l)[i]? = _
    by_cases h : ∃ z ∈ l, z.1 = i
    · exact ih _ _ (by simpa using hi) h
    · have hy : y.1 = i := by
        rcases List.mem_cons.1 hx with rfl | hx
        · exact hxi
        · exact absurd ⟨x, hx, hxi⟩ h
      rw [zc_get _ _ _ (fun z hz e => h ⟨z, hz, e⟩), hy]
      rw [Array.getElem?_setIfInBounds, if_pos rfl, if_pos hi]
end RW
namespace RW
/-- a fact with its kind and version alone -/
def yf (f : Nat → Int) (i : Nat) : Int := if i = 0 then f 0 else if i = 2 then f 2 else 0
theorem zf_yf (f : Nat → Int) (l : List (Nat × Int × Int)) (h : ∀ x ∈ l, x.1 ≠ 0 ∧ x.1 ≠ 2) :
    (∀ i, i < 17 → zf f l i = yf f i) ↔ ∀ i, i < 17 → i ≠ 0 → i ≠ 2 → (∀ x ∈ l, x.1 ≠ i) → f i = 0 := by
  constructor
  · intro h1 i hi h0 h2 hx
    have := h1 i hi
    unfold zf yf at this
    rwa [if_pos hx, if_neg h0, if_neg h2] at this
  · intro h1 i hi
    unfold zf yf
    by_cases h0 : i = 0
    · subst h0; rw [if_pos (fun x hx => (h x hx).1), if_pos rfl]
    · by_cases h2 : i = 2
      · subst h2; rw [if_pos (fun x hx => (h x hx).2), if_neg h0, if_pos rfl]
      · rw [if_neg h0, if_neg h2]
        by_cases hx : ∀ x ∈ l, x.1 ≠ i
        · rw [if_pos hx]; exact h1 i hi h0 h2 hx
        · rw [if_neg hx]
theorem bytes_nil (s : ByteArray) : s = ⟨#[]⟩ ↔ s.size = 0 := by
  constructor
  · rintro rfl; rfl
  · intro h
    apply ByteArray.ext
    apply Array.eq_empty_of_size_eq_zero
    simpa using h
theorem valid_no (f : Nat → Int) (l : List (Nat × Int × Int)) (s : ByteArray) (hin : ∀ x ∈ l, x.2.1 ≤ f x.1 ∧ f x.1 ≤ x.2.2) (h : ∀ x ∈ l, x.1 ≠ 0 ∧ x.1 ≠ 2) :
    dec ((∀ i, i < 17 → zf f l i = yf f i) ∧ s = ⟨#[]⟩) = validK l false f s.size := by
  refine dec_eq ?_
  rw [dec_iff, zf_yf f l h, bytes_nil]
  constructor
  · rintro ⟨h1, h2⟩; exact ⟨hin, .inr h2, h1⟩
  · rintro ⟨_, h2, h3⟩
    refine ⟨h3, ?_⟩
    rcases h2 with h2 | h2
    · cases h2
    · exact h2
theorem valid_yes (f : Nat → Int) (l : List (Nat × Int × Int)) (s : ByteArray) (hin : ∀ x ∈ l, x.2.1 ≤ f x.1 ∧ f x.1 ≤ x.2.2) (h : ∀ x ∈ l, x.1 ≠ 0 ∧ x.1 ≠ 2) :
    dec ((∀ i, i < 17 → zf f l i = yf f i) ∧ (⟨#[]⟩ : ByteArray) = ⟨#[]⟩) = validK l true f s.size := by
  refine dec_eq ?_
  rw [dec_iff, zf_yf f l h]
  constructor
  · rintro ⟨h1, _⟩; exact ⟨hin, .inl rfl, h1⟩
  · rintro ⟨_, _, h3⟩; exact ⟨h3, rfl⟩
end RW
theorem fcells_ext (X : Array Value) (f : Nat → Int) (s : ByteArray) (h : X.size = 18) (hi : ∀ i, i < 17 → X[i]? = some (.int .i64 (f i))) (ht : X[17]? = some (.string s)) : X = RW.fcells f s := by
  apply Array.ext_getElem?
  intro i
  by_cases h1 : i < 17
  · rw [hi i h1, fcells_get _ _ _ h1]
  · by_cases h2 : i = 17
    · subst h2; rw [ht, fcells_text]
    · rw [Array.getElem?_eq_none (by omega), Array.getElem?_eq_none (by rw [fcells_size]; omega)]
theorem fcells_notext (f : Nat → Int) (s : ByteArray) : (RW.fcells f s).setIfInBounds 17 (.string ⟨#[]⟩) = RW.fcells f ⟨#[]⟩ := by
  apply fcells_ext
  · simp [fcells_size]
  · intro i hi; rw [Array.getElem?_setIfInBounds, if_neg (by omega), fcells_get _ _ _ hi]
  · rw [Array.getElem?_setIfInBounds, if_pos rfl, if_pos (by rw [fcells_size]; decide)]
theorem zc_fcells (f : Nat → Int) (s : ByteArray) (l : List (Nat × Int × Int)) (h : ∀ x ∈ l, x.1 < 17) : RW.zc (RW.fcells f s) l = RW.fcells (RW.zf f l) s := by
  apply fcells_ext
  · rw [RW.zc_size]; rfl
  · intro i hi
    unfold RW.zf
    by_cases h1 : ∀ x ∈ l, x.1 ≠ i
    · rw [if_pos h1, RW.zc_get _ _ _ h1, fcells_get _ _ _ hi]
    · rw [if_neg h1]
      refine RW.zc_zero _ _ _ (by rw [fcells_size]; omega) ?_
      simpa using h1
  · rw [RW.zc_get _ _ _ (fun x hx => by have := h x hx; omega), fcells_text]
theorem eqFields_all {P : Program} {W : World} (d : Nat) (xs ys : Array Value) (eq : Field → Bool) : ∀ (fs : List Field), (∀ f ∈ fs, (f.name ≠ "_") ∧ ∃ a b, (part f.type xs f.offset).run P W = .ok a W ∧ (part f.type ys f.offset).run P W = .ok b W ∧ (Op.equalIn d f.type a b).run P W = .ok (eq f) W) →
    (Op.eqFields d xs ys fs).run P W = .ok (fs.all eq) W := by
  intro fs
  induction fs with
  | nil => intro _; rfl
  | cons f fs ih =>
    intro h
    obtain ⟨h1, a, b, ha, hb, he⟩ := h f (by simp)
    have hr := ih (fun g hg => h g (by simp [hg]))
    unfold Op.eqFields
    rw [if_pos h1]
    simp only [Sem.run_bind, ha, hb, he, Result.andThen_ok, Sem.run_ite]
    cases hq : eq f
    · simp [hq]
    · simp [hq, hr]
set_option maxRecDepth 100000 in
theorem eql_fact (f g : Nat → Int) (s u : ByteArray) (W : World) : (binOp .eql 70 (.agg (RW.fcells f s)) (.agg (RW.fcells g u))).run Tryz.prog W = .ok (.bool (RW.dec ((∀ i, i < 17 → f i = g i) ∧ s = u))) W := by
  have hfs : (Tryz.prog.fieldsOf 70).toList = (List.range 18).map (fun i => (Tryz.prog.fieldsOf 70)[i]!) := by kernel_rfl
  have hp : ∀ i, i < 17 → ((Tryz.prog.fieldsOf 70)[i]!).name ≠ "_" ∧ ((Tryz.prog.fieldsOf 70)[i]!).type = 3 ∧ ((Tryz.prog.fieldsOf 70)[i]!).offset = i := by decide +kernel
  have ht : ((Tryz.prog.fieldsOf 70)[17]!).name ≠ "_" ∧ ((Tryz.prog.fieldsOf 70)[17]!).type = 9 ∧ ((Tryz.prog.fieldsOf 70)[17]!).offset = 17 := by decide +kernel
  have hpi : ∀ (X : Array Value) (i : Nat) (v : Value), X[i]? = some v → (part 3 X i).run Tryz.prog W = .ok v W := fun X i v h => by
    simp [part, isAgg, run_underlying Tryz.underlying3, h]
  have hps : ∀ (X : Array Value) (i : Nat) (v : Value), X[i]? = some v → (part 9 X i).run Tryz.prog W = .ok v W := fun X i v h => by
    simp [part, isAgg, run_underlying Tryz.underlying9, h]
  rw [run_eql_struct, run_equalIn_agg (ht := by kernel_rfl) (hp := by kernel_rfl), hfs, eqFields_all 9999 _ _ (fun fl => if fl.offset = 17 then (s.toList == u.toList) else (f fl.offset == g fl.offset))]
  · simp only [Result.andThen_ok]
    congr 2
    refine RW.dec_eq ?_
    rw [List.all_map, List.all_eq_true]
    constructor
    · intro h
      refine ⟨fun i hi => ?_, ?_⟩
      · have := h i (by simp; omega)
        simp only [Function.comp, (hp i hi).2.2, if_neg (show ¬ i = 17 by omega)] at this
        simpa using this
      · have := h 17 (by simp)
        simp only [Function.comp, ht.2.2] at this
        have h2 : s.toList = u.toList := by simpa using this
        rw [ByteArray.toList_eq, ByteArray.toList_eq] at h2
        exact ByteArray.ext (Array.ext' h2)
    · rintro ⟨h1, h2⟩ i hi
      have hi' : i < 18 := by simpa using hi
      simp only [Function.comp]
      by_cases h3 : i < 17
      · rw [(hp i h3).2.2, if_neg (show ¬ i = 17 by omega)]; simpa using h1 i h3
      · obtain rfl : i = 17 := by omega
        rw [ht.2.2, if_pos rfl, h2]; simp
  · intro fl hfl
    obtain ⟨i, hi, rfl⟩ := List.mem_map.1 hfl
    have hi' : i < 18 := by simpa using hi
    by_cases h3 : i < 17
    · obtain ⟨p1, p2, p3⟩ := hp i h3
      rw [p2, p3]
      refine ⟨p1, _, _, hpi _ _ _ (fcells_get f s i h3), hpi _ _ _ (fcells_get g u i h3), ?_⟩
      rw [run_equalIn_int (k' := .i64) (h := Tryz.underlying3), if_neg (show ¬ i = 17 by omega)]
    · obtain rfl : i = 17 := by omega
      obtain ⟨p1, p2, p3⟩ := ht
      rw [p2, p3]
      refine ⟨p1, _, _, hps _ _ _ (fcells_text f s), hps _ _ _ (fcells_text g u), ?_⟩
      rw [run_equalIn_string (h := Tryz.underlying9), if_pos rfl]
end Go.Proofs.YtllbphanfahkkaaGreatDoor

/-
  Package fact: Valid: what it returns; only new memory is written.
-/
namespace Go.Proofs.YtllbphanfahkkaaGreatDoor
open Go.RowKit
set_option maxRecDepth 100000 in
set_option maxHeartbeats 2000000 in
theorem valid_known (k fk kk : Nat) (tx : Bool) (l : List (Nat × Int × Int)) (f : Nat → Int) (s : ByteArray) (w : World) (h0 : f 0 = ((k + 1 : Nat) : Int)) (hk : k < 10) (hkv : RW.kv (k + 1) = .agg #[.func (.func fk) #[] #[], .bool tx, .func (.func kk) #[] #[]])
    (hcf : ∀ (args : Array Value) (W : World), (callFunc fk args).run Tryz.prog W = .ok (.enter fk args) W)
    (hl : RW.kf (k + 1) (f 12) = l) (hll : l.length ≤ 100) (hl02 : ∀ x ∈ l, x.1 ≠ 0 ∧ x.1 ≠ 2) (hl17 : ∀ x ∈ l, x.1 < 17) (hnd : l.Pairwise (fun a b => a.1 ≠ b.1)) (hF : ∀ (r : Nat) (W : World), r < W.heap.size → W.cell? ⟨r, 12, none⟩ = some (.int .i64 (f 12)) → Calls Tryz.prog fk #[.pointer (some ⟨r, 0, none⟩)] W (FldPost 146 r (k + 1) (f 12) W))
    (hv1 : 1 ≤ f 2) (hv2 : f 2 ≤ 1000) (hs : s.size ≤ 2000) :
    Calls Tryz.prog 34 #[.agg (RW.fcells f s)] w fun e w' => e = .returned (.bool (RW.validK l tx f s.size)) ∧ Below w.heap.size w w' := by
  have hfold := fcells_fold f s
  obtain ⟨cs, hcs⟩ : ∃ cs, cs = RW.fcells f s := ⟨_, rfl⟩
  rw [← hcs] at hfold ⊢
  obtain ⟨w1, hw1⟩ : ∃ w1, w1 = w.alloc (.cells cs 70) := ⟨_, rfl⟩
  have hH1 : w1.heap[w.heap.size]? = some (.cells cs 70 (0, 0)) := hw1 ▸ heap_alloc_new w _
  have hB1 : Below w.heap.size w w1 := hw1 ▸ (Below.refl _ _).alloc (Nat.le_refl _) _
  have hz1 : w1.heap.size = w.heap.size + 1 := hw1 ▸ World.size_alloc _ _
  have c0 : w1.cell? ⟨w.heap.size, 0, none⟩ = some (.int .i64 (f 0)) := by rw [cell_of_heap hH1, hcs, fcells_get _ _ _ (by decide)]
  have c2 : w1.cell? ⟨w.heap.size, 2, none⟩ = some (.int .i64 (f 2)) := by rw [cell_of_heap hH1, hcs, fcells_get _ _ _ (by decide)]
  have c17 : w1.cell? ⟨w.heap.size, 17, none⟩ = some (.string s) := by rw [cell_of_heap hH1, hcs, fcells_text]
  have hlt : w.heap.size < w1.heap.size := by omega
  have hA : (Instr.lookup 138 (.map (some w1.heap.size)) (.int .i64 (f 0)) true).run Tryz.prog (w1.alloc (.map (RW.kes 10) 10)).drew = .ok (.tuple #[RW.kv (k + 1), .bool true]) (w1.alloc (.map (RW.kes 10) 10)).drew := by rw [h0]; exact look_known _ _ k hk (heap_new_at rfl)
  have hB : ∀ o, (Instr.lookup 138 (.map (some (w1.heap.size + 1))) (.int .i64 (f 0)) true).run Tryz.prog ((w1.alloc o).alloc (.map (RW.kes 10) 10)).drew = .ok (.tuple #[RW.kv (k + 1), .bool true]) ((w1.alloc o).alloc (.map (RW.kes 10) 10)).drew := by rw [h0]; exact fun o => look_known _ _ k hk (heap_new_at (by simp))
  have hC : ∀ o, (Instr.lookup 138 (.map (some w1.heap.size)) (.int .i64 (f 0)) true).run Tryz.prog ((w1.alloc (.map (RW.kes 10) 10)).alloc o).drew = .ok (.tuple #[RW.kv (k + 1), .bool true]) ((w1.alloc (.map (RW.kes 10) 10)).alloc o).drew := by rw [h0]; exact fun o => look_known _ _ k hk ((Below.heap_alloc _ _ _ (by simp)).trans (heap_new_at rfl))
  have hi1 : (Tryz.prog.info? 70).map (·.size) = some cs.size := by rw [hcs]; kernel_rfl
  rw [hkv] at hA hB hC
  have hd1 : decide (f 2 < 1) = false := by simp; omega
  have hd2 : decide (1000 < f 2) = false := by simp; omega
  have hd3 : decide (2000 < (s.size : Int)) = false := by simp; omega
  have hw1' := hide hw1
  have hz1' := hide hz1
  have hcs' := hide hcs
  have hsz : cs.size = 18 := by rw [hcs]; rfl
  have h0' := hide h0
  have hl' := hide hl
  have hFH := hide hF
  have hkvH := hide hkv
  clear hw1 hz1 hcs h0 hl hF hkv
  go_enter Tryz.func34, Tryz.ntmps34
  go_upto_region 1 with fail
  rw [← hw1'.out]
  go_cut [3, 4] (fun s3 s4 wx => ∃ kb : Nat, s3 = .pointer (some ⟨kb, 0, none⟩) ∧ s4 = .bool true ∧ wx.heap[kb]? = some (.cells #[.func (.func fk) #[] #[], .bool tx, .func (.func kk) #[] #[]] 136 (0, 0)) ∧ w1.heap.size ≤ kb ∧ kb < wx.heap.size ∧ Below w1.heap.size w1 wx)
  case first =>
    go_region_held3 (fun w' => w'.cell? ⟨w.heap.size, 0, none⟩ = some (.int .i64 (f 0))) (go_keep) (first | ((with_reducible refine (kinds_any _).mono ?_); rintro e w2 ⟨rfl, rfl⟩))
    all_goals (go_wp2_with fail; go_meet)
    · exact ⟨_, rfl, rfl, heap_new_drew (by simp), by omega, by show _ < (World.alloc _ _).heap.size; simp <;> omega, (((Below.refl _ _).alloc (Nat.le_refl _) _).alloc (by simp) _).drew⟩
    · exact ⟨_, rfl, rfl, heap_new_drew (by simp), by omega, by show _ < (World.alloc _ _).heap.size; simp <;> omega, (((Below.refl _ _).alloc (Nat.le_refl _) _).alloc (by simp) _).drew⟩
    · exact ⟨_, rfl, rfl, (Below.heap_alloc _ _ _ (by simp)).trans (heap_new_at rfl), by omega, by show _ < (World.alloc _ _).heap.size; simp <;> omega, (((Below.refl _ _).alloc (Nat.le_refl _) _).alloc (by simp) _).drew⟩
  case rest =>
    obtain ⟨kb, rfl, rfl, hkb, hkb1, hkb2, hB2⟩ := hcut
    have hH2 := (hB2.block _ hlt).trans hH1
    have d2 := (World.cell?_of_block (a := ⟨w.heap.size, 2, none⟩) (hB2.block _ hlt)).trans c2
    have d17 := (World.cell?_of_block (a := ⟨w.heap.size, 17, none⟩) (hB2.block _ hlt)).trans c17
    have k0 : wc.cell? ⟨kb, 0, none⟩ = some (.func (.func fk) #[] #[]) := by rw [cell_of_heap hkb]; rfl
    have ka : ∀ o, (wc.alloc o).cell? ⟨kb, 0, none⟩ = some (.func (.func fk) #[] #[]) := fun o => (World.cell?_of_block (Below.heap_alloc wc o kb hkb2)).trans k0
    clear c0 c2 c17 hA hB hC
    go_wp2_with (refine wpList_load_row rfl 70 (.tmp 1) rfl w.heap.size rfl 70 cs (0, 0) _ hH2 Tryz.underlying70 rfl hi1 ?_)
    have hr12 : (wc.alloc (.cells cs 142)).cell? ⟨wc.heap.size, 12, none⟩ = some (.int .i64 (f 12)) := by rw [cell_of_heap (heap_alloc_new wc _), hcs'.out, fcells_get _ _ _ (by decide)]
    refine (hFH.out _ _ (by simp) hr12).mono ?_
    rintro e w7 ⟨g, rfl, hg, hge, hB7⟩
    rw [hl'.out] at hg ⊢
    have hV : RW.VInv w.heap.size kb wc.heap.size g 70 136 142 146 cs (RW.zc cs (l.take 0)) #[.func (.func fk) #[] #[], .bool tx, .func (.func kk) #[] #[]] (RW.fldsV wc.heap.size l).toArray w w7 := by
      simp only [World.size_alloc] at hge hB7
      have hz := hz1'.out
      refine ⟨(hB1.trans (hB2.mono (by omega))).trans (((Below.refl _ _).alloc (Nat.le_refl _) _).mono (by omega) |>.trans (hB7.mono (by have := hB2.size; omega))), ?_, ?_, ?_, hg, by omega, hkb2, by omega, (Array.getElem?_eq_some_iff.1 hg).1⟩
      · exact (hB7.block _ (by omega)).trans ((Below.heap_alloc _ _ _ (by omega)).trans hH2)
      · exact (hB7.block _ (by omega)).trans ((Below.heap_alloc _ _ _ (by omega)).trans hkb)
      · exact (hB7.block _ (by omega)).trans (heap_alloc_new wc _)
    clear hr12 hg hge hB7 ka k0 d2 d17 hH2 hkb hkb1 hkb2 hB2 hB1 hH1 hi1 hfold hcf
    go_wp2
    go_loopw [41] (fun i wr => ∃ j : Nat, j ≤ l.length ∧ i = .int .i64 j ∧ (∀ x ∈ l.take j, x.2.1 ≤ f x.1 ∧ f x.1 ≤ x.2.2) ∧ RW.VInv w.heap.size kb wc.heap.size g 70 136 142 146 cs (RW.zc cs (l.take j)) #[.func (.func fk) #[] #[], .bool tx, .func (.func kk) #[] #[]] (RW.fldsV wc.heap.size l).toArray w wr) (fun i _ => l.length - (intOf i).toNat)
    case atStart => exact ⟨0, Nat.zero_le _, rfl, by simp, hV⟩
    case round =>
      clear hV
      obtain ⟨j, hj, rfl, hin, hV⟩ := hrel
      by_cases hlt : j < l.length
      · obtain ⟨x, hx⟩ : ∃ x, l[j]? = some x := ⟨_, List.getElem?_eq_getElem hlt⟩
        obtain ⟨g0, g1, g2⟩ := RW.fldsV_get wc.heap.size l j x hx
        have hd4 : decide ((j : Int) < (l.length : Int)) = true := by simp; omega
        have e0 := (cell_of_heap hV.flds (j * 3)).trans (by simpa using g0)
        have e1 := (cell_of_heap hV.flds (j * 3 + 1)).trans (by simpa using g1)
        have e2 := (cell_of_heap hV.flds (j * 3 + 2)).trans (by simpa using g2)
        have hxm : x ∈ l := List.mem_of_getElem? hx
        have htk : l.take (j + 1) = l.take j ++ [x] := by
          have := List.getElem?_eq_some_iff.1 hx
          rw [List.take_succ_eq_append_getElem hlt, this.2]
        have hxn : ∀ y ∈ l.take j, y.1 ≠ x.1 := by
          intro y hy
          have h2 : (l.take (j + 1)).Pairwise (fun a b => a.1 ≠ b.1) := hnd.sublist (List.take_sublist _ _)
          rw [htk, List.pairwise_append] at h2
          exact h2.2.2 y hy x (by simp)
        have hcell : (RW.zc cs (l.take j))[x.1]? = some (.int .i64 (f x.1)) := by
          rw [RW.zc_get _ _ _ hxn, hcs'.out, fcells_get _ _ _ (hl17 x hxm)]
        have hrc := (cell_of_heap hV.rcd x.1).trans hcell
        have hrl : wc.heap.size < wr.heap.size := by have := hV.o3; have := hV.o4; omega
        have hra : ∀ o, (wr.alloc o).cell? ⟨wc.heap.size, x.1, none⟩ = some (.int .i64 (f x.1)) := fun o => (World.cell?_of_block (Below.heap_alloc wr o _ hrl)).trans hrc
        have htkH := hide htk
        have hxH := hide hx
        clear hxn hcell htk hx g0 g1 g2
        obtain ⟨xi, lo, hi⟩ := x
        dsimp only at e0 e1 e2 hrc hra
        by_cases hw : lo ≤ f xi ∧ f xi ≤ hi
        · have hw' := decide_eq_true hw
          go_wp2_with (go_at_call 74; refine (within_any wc.heap.size xi lo hi (f xi) _ (hra _) (by simp; omega)).mono ?_; rintro e w8 ⟨rfl, n8, hw8⟩; rw [hw']; have hB8 : Below wr.heap.size wr w8 := (by rw [← hw8]; exact RW.below_drewN (((Below.refl _ _).alloc (Nat.le_refl _) _).alloc (by simp) _)); have h80 : w8.heap[wr.heap.size]? = some (.cells #[.pointer (some ⟨wc.heap.size, xi, none⟩), .int .i64 lo, .int .i64 hi] 146 (0, 0)) := (by rw [← hw8]; exact (Below.heap_alloc _ _ _ (by simp)).trans (heap_alloc_new wr _)); clear hw8; have hV8 := hV.grown hB8; have c80 : w8.cell? ⟨wr.heap.size, 0, none⟩ = some (.pointer (some ⟨wc.heap.size, xi, none⟩)) := (by rw [cell_of_heap h80]; rfl); have c8r : w8.cell? ⟨wc.heap.size, xi, none⟩ = some (.int .i64 (f xi)) := (World.cell?_of_block (hB8.block _ hrl)).trans hrc; have f8r : w8.frozen? ⟨wc.heap.size, xi, none⟩ = false := (by simp [World.frozen?, hV8.rcd]))
          go_roundw
          case rel =>
            refine ⟨j + 1, by omega, by go_num, ?_, ?_⟩
            · rw [htkH.out]; intro y hy
              rcases List.mem_append.1 hy with hy | hy
              · exact hin y hy
              · simp at hy; subst hy; exact hw
            · rw [htkH.out, RW.zc_snoc]; exact hV8.set _ _
          case measure => simp [intOf]; omega
        · have hw' := decide_eq_false hw
          go_wp2_with (go_at_call 74; refine (within_any wc.heap.size xi lo hi (f xi) _ (hra _) (by simp; omega)).mono ?_; rintro e w8 ⟨rfl, n8, hw8⟩; rw [hw']; have hB8 : Below wr.heap.size wr w8 := (by rw [← hw8]; exact RW.below_drewN (((Below.refl _ _).alloc (Nat.le_refl _) _).alloc (by simp) _)); clear hw8; have hV8 := hV.grown hB8)
          go_ret
          refine ⟨?_, hV8.below⟩
          have hvf : RW.validK l tx f s.size = false := RW.dec_false (fun h => hw (h.1 _ hxm))
          rw [hvf]; rfl
      · obtain rfl : j = l.length := by omega
        rw [List.take_of_length_le (Nat.le_refl _)] at hV hin
        have hX := hV.rcd
        rw [hcs'.out, zc_fcells f s l hl17] at hX
        have hi2 : (Tryz.prog.info? 70).map (·.size) = some (RW.fcells (RW.zf f l) s).size := by kernel_rfl
        have hi3 : (Tryz.prog.info? 70).map (·.size) = some (RW.fcells (RW.zf f l) ⟨#[]⟩).size := by kernel_rfl
        have k1 : wr.cell? ⟨kb, 1, none⟩ = some (.bool tx) := by rw [cell_of_heap hV.kind]; rfl
        have d0 : wr.cell? ⟨w.heap.size, 0, none⟩ = some (.int .i64 (f 0)) := by rw [cell_of_heap hV.fact, hcs'.out, fcells_get _ _ _ (by decide)]
        have d2 : wr.cell? ⟨w.heap.size, 2, none⟩ = some (.int .i64 (f 2)) := by rw [cell_of_heap hV.fact, hcs'.out, fcells_get _ _ _ (by decide)]
        cases tx
        · have hL : ∀ W, (∃ n, W = wr.drewN n) → (Instr.loadAt 70 (.pointer (some ⟨wc.heap.size, 0, none⟩))).run Tryz.prog W = .ok (.agg (RW.fcells (RW.zf f l) s)) W := fun W hW => by
            obtain ⟨n, rfl⟩ := hW
            exact rowLoad_eq _ _ _ _ _ _ _ hX Tryz.underlying70 rfl hi2
          have hE : ∀ W, (binOp .eql 70 (.agg (RW.fcells (RW.zf f l) s)) (.agg #[.int .i64 (f 0), .int .i64 0, .int .i64 (f 2), .int .i64 0, .int .i64 0, .int .i64 0, .int .i64 0, .int .i64 0, .int .i64 0, .int .i64 0, .int .i64 0, .int .i64 0, .int .i64 0, .int .i64 0, .int .i64 0, .int .i64 0, .int .i64 0, .string ⟨#[]⟩])).run Tryz.prog W = .ok (.bool (RW.validK l false f s.size)) W := fun W => by
            have h := eql_fact (RW.zf f l) (RW.yf f) s ⟨#[]⟩ W
            rw [RW.valid_no f l s hin hl02] at h
            exact h
          go_wp2
          refine wp_region_quiet_lit (by kernel_rfl) (by kernel_rfl) ?_
          repeat (first | (refine wpQuiet_load_row rfl 70 (.tmp 60) rfl wc.heap.size rfl _ hL ?_) | quiet_step (fail))
          refine wpQuiet_nil ?_
          intro _ hw'
          obtain ⟨nq, hw''⟩ := hw'
          subst hw''
          go_wp2
          go_ret
          exact ⟨rfl, RW.below_drewN hV.below⟩
        · have hV9 := hV.set 17 (.string ⟨#[]⟩)
          have hX9 := hV9.rcd
          rw [hcs'.out, zc_fcells f s l hl17, fcells_notext] at hX9
          have hL : ∀ W, (∃ n, W = (wr.setCell ⟨wc.heap.size, 17, none⟩ (.string ⟨#[]⟩)).drewN n) → (Instr.loadAt 70 (.pointer (some ⟨wc.heap.size, 0, none⟩))).run Tryz.prog W = .ok (.agg (RW.fcells (RW.zf f l) ⟨#[]⟩)) W := fun W hW => by
            obtain ⟨n, rfl⟩ := hW
            exact rowLoad_eq _ _ _ _ _ _ _ hX9 Tryz.underlying70 rfl hi3
          have hE : ∀ W, (binOp .eql 70 (.agg (RW.fcells (RW.zf f l) ⟨#[]⟩)) (.agg #[.int .i64 (f 0), .int .i64 0, .int .i64 (f 2), .int .i64 0, .int .i64 0, .int .i64 0, .int .i64 0, .int .i64 0, .int .i64 0, .int .i64 0, .int .i64 0, .int .i64 0, .int .i64 0, .int .i64 0, .int .i64 0, .int .i64 0, .int .i64 0, .string ⟨#[]⟩])).run Tryz.prog W = .ok (.bool (RW.validK l true f s.size)) W := fun W => by
            have h := eql_fact (RW.zf f l) (RW.yf f) ⟨#[]⟩ ⟨#[]⟩ W
            rw [RW.valid_yes f l s hin hl02] at h
            exact h
          have c17 : wr.cell? ⟨wc.heap.size, 17, none⟩ = some (.string s) := by rw [cell_of_heap hX, fcells_text]
          have f17 : wr.frozen? ⟨wc.heap.size, 17, none⟩ = false := by simp [World.frozen?, hX]
          have d0' : (wr.setCell ⟨wc.heap.size, 17, none⟩ (.string ⟨#[]⟩)).cell? ⟨w.heap.size, 0, none⟩ = some (.int .i64 (f 0)) := by rw [cell_of_heap hV9.fact, hcs'.out, fcells_get _ _ _ (by decide)]
          have d2' : (wr.setCell ⟨wc.heap.size, 17, none⟩ (.string ⟨#[]⟩)).cell? ⟨w.heap.size, 2, none⟩ = some (.int .i64 (f 2)) := by rw [cell_of_heap hV9.fact, hcs'.out, fcells_get _ _ _ (by decide)]
          clear d0 d2
          go_wp2
          refine wp_region_quiet_lit (by kernel_rfl) (by kernel_rfl) ?_
          repeat (first | (refine wpQuiet_load_row rfl 70 (.tmp 60) rfl wc.heap.size rfl _ hL ?_) | quiet_step (fail))
          refine wpQuiet_nil ?_
          intro _ hw'
          obtain ⟨nq, hw''⟩ := hw'
          subst hw''
          go_wp2
          go_ret
          exact ⟨rfl, RW.below_drewN hV9.below⟩
set_option maxRecDepth 100000 in
set_option maxHeartbeats 2000000 in
theorem valid_bad1 (k fk kk : Nat) (tx : Bool) (f : Nat → Int) (s : ByteArray) (w : World) (h0 : f 0 = ((k + 1 : Nat) : Int)) (hk : k < 10) (hkv : RW.kv (k + 1) = .agg #[.func (.func fk) #[] #[], .bool tx, .func (.func kk) #[] #[]])
    (hd1 : decide (f 2 < 1) = true) :
    Calls Tryz.prog 34 #[.agg (RW.fcells f s)] w fun e w' => e = .returned (.bool false) ∧ Below w.heap.size w w' := by
  obtain ⟨cs, hcs⟩ : ∃ cs, cs = RW.fcells f s := ⟨_, rfl⟩
  rw [← hcs]
  obtain ⟨w1, hw1⟩ : ∃ w1, w1 = w.alloc (.cells cs 70) := ⟨_, rfl⟩
  have hH1 : w1.heap[w.heap.size]? = some (.cells cs 70 (0, 0)) := hw1 ▸ heap_alloc_new w _
  have hB1 : Below w.heap.size w w1 := hw1 ▸ (Below.refl _ _).alloc (Nat.le_refl _) _
  have hz1 : w1.heap.size = w.heap.size + 1 := hw1 ▸ World.size_alloc _ _
  have c0 : w1.cell? ⟨w.heap.size, 0, none⟩ = some (.int .i64 (f 0)) := by rw [cell_of_heap hH1, hcs, fcells_get _ _ _ (by decide)]
  have c2 : w1.cell? ⟨w.heap.size, 2, none⟩ = some (.int .i64 (f 2)) := by rw [cell_of_heap hH1, hcs, fcells_get _ _ _ (by decide)]
  have c17 : w1.cell? ⟨w.heap.size, 17, none⟩ = some (.string s) := by rw [cell_of_heap hH1, hcs, fcells_text]
  have hlt : w.heap.size < w1.heap.size := by omega
  have hA : (Instr.lookup 138 (.map (some w1.heap.size)) (.int .i64 (f 0)) true).run Tryz.prog (w1.alloc (.map (RW.kes 10) 10)).drew = .ok (.tuple #[RW.kv (k + 1), .bool true]) (w1.alloc (.map (RW.kes 10) 10)).drew := by rw [h0]; exact look_known _ _ k hk (heap_new_at rfl)
  have hB : ∀ o, (Instr.lookup 138 (.map (some (w1.heap.size + 1))) (.int .i64 (f 0)) true).run Tryz.prog ((w1.alloc o).alloc (.map (RW.kes 10) 10)).drew = .ok (.tuple #[RW.kv (k + 1), .bool true]) ((w1.alloc o).alloc (.map (RW.kes 10) 10)).drew := by rw [h0]; exact fun o => look_known _ _ k hk (heap_new_at (by simp))
  have hC : ∀ o, (Instr.lookup 138 (.map (some w1.heap.size)) (.int .i64 (f 0)) true).run Tryz.prog ((w1.alloc (.map (RW.kes 10) 10)).alloc o).drew = .ok (.tuple #[RW.kv (k + 1), .bool true]) ((w1.alloc (.map (RW.kes 10) 10)).alloc o).drew := by rw [h0]; exact fun o => look_known _ _ k hk ((Below.heap_alloc _ _ _ (by simp)).trans (heap_new_at rfl))
  rw [hkv] at hA hB hC
  have hw1' := hide hw1
  have hz1' := hide hz1
  clear hw1 hz1 hcs h0 hkv
  go_enter Tryz.func34, Tryz.ntmps34
  go_upto_region 1 with fail
  rw [← hw1'.out]
  go_cut [3, 4] (fun s3 s4 wx => s4 = .bool true ∧ Below w1.heap.size w1 wx)
  case first =>
    go_region_held3 (fun w' => w'.cell? ⟨w.heap.size, 0, none⟩ = some (.int .i64 (f 0))) (go_keep) (first | ((with_reducible refine (kinds_any _).mono ?_); rintro e w2 ⟨rfl, rfl⟩))
    all_goals (go_wp2_with fail; go_meet)
    all_goals exact ⟨rfl, (((Below.refl _ _).alloc (Nat.le_refl _) _).alloc (by simp) _).drew⟩
  case rest =>
    obtain ⟨rfl, hB2⟩ := hcut
    have d2 := (World.cell?_of_block (a := ⟨w.heap.size, 2, none⟩) (hB2.block _ hlt)).trans c2
    have d17 := (World.cell?_of_block (a := ⟨w.heap.size, 17, none⟩) (hB2.block _ hlt)).trans c17
    clear c0 c2 c17 hA hB hC
    go_wp2
    go_ret
    exact ⟨rfl, hB1.trans (hB2.mono (by have := hz1'.out; omega))⟩
set_option maxRecDepth 100000 in
set_option maxHeartbeats 2000000 in
theorem valid_bad2 (k fk kk : Nat) (tx : Bool) (f : Nat → Int) (s : ByteArray) (w : World) (h0 : f 0 = ((k + 1 : Nat) : Int)) (hk : k < 10) (hkv : RW.kv (k + 1) = .agg #[.func (.func fk) #[] #[], .bool tx, .func (.func kk) #[] #[]])
    (hd1 : decide (f 2 < 1) = false) (hd2 : decide (1000 < f 2) = true) :
    Calls Tryz.prog 34 #[.agg (RW.fcells f s)] w fun e w' => e = .returned (.bool false) ∧ Below w.heap.size w w' := by
  obtain ⟨cs, hcs⟩ : ∃ cs, cs = RW.fcells f s := ⟨_, rfl⟩
  rw [← hcs]
  obtain ⟨w1, hw1⟩ : ∃ w1, w1 = w.alloc (.cells cs 70) := ⟨_, rfl⟩
  have hH1 : w1.heap[w.heap.size]? = some (.cells cs 70 (0, 0)) := hw1 ▸ heap_alloc_new w _
  have hB1 : Below w.heap.size w w1 := hw1 ▸ (Below.refl _ _).alloc (Nat.le_refl _) _
  have hz1 : w1.heap.size = w.heap.size + 1 := hw1 ▸ World.size_alloc _ _
  have c0 : w1.cell? ⟨w.heap.size, 0, none⟩ = some (.int .i64 (f 0)) := by rw [cell_of_heap hH1, hcs, fcells_get _ _ _ (by decide)]
  have c2 : w1.cell? ⟨w.heap.size, 2, none⟩ = some (.int .i64 (f 2)) := by rw [cell_of_heap hH1, hcs, fcells_get _ _ _ (by decide)]
  have c17 : w1.cell? ⟨w.heap.size, 17, none⟩ = some (.string s) := by rw [cell_of_heap hH1, hcs, fcells_text]
  have hlt : w.heap.size < w1.heap.size := by omega
  have hA : (Instr.lookup 138 (.map (some w1.heap.size)) (.int .i64 (f 0)) true).run Tryz.prog (w1.alloc (.map (RW.kes 10) 10)).drew = .ok (.tuple #[RW.kv (k + 1), .bool true]) (w1.alloc (.map (RW.kes 10) 10)).drew := by rw [h0]; exact look_known _ _ k hk (heap_new_at rfl)
  have hB : ∀ o, (Instr.lookup 138 (.map (some (w1.heap.size + 1))) (.int .i64 (f 0)) true).run Tryz.prog ((w1.alloc o).alloc (.map (RW.kes 10) 10)).drew = .ok (.tuple #[RW.kv (k + 1), .bool true]) ((w1.alloc o).alloc (.map (RW.kes 10) 10)).drew := by rw [h0]; exact fun o => look_known _ _ k hk (heap_new_at (by simp))
  have hC : ∀ o, (Instr.lookup 138 (.map (some w1.heap.size)) (.int .i64 (f 0)) true).run Tryz.prog ((w1.alloc (.map (RW.kes 10) 10)).alloc o).drew = .ok (.tuple #[RW.kv (k + 1), .bool true]) ((w1.alloc (.map (RW.kes 10) 10)).alloc o).drew := by rw [h0]; exact fun o => look_known _ _ k hk ((Below.heap_alloc _ _ _ (by simp)).trans (heap_new_at rfl))
  rw [hkv] at hA hB hC
  have hw1' := hide hw1
  have hz1' := hide hz1
  clear hw1 hz1 hcs h0 hkv
  go_enter Tryz.func34, Tryz.ntmps34
  go_upto_region 1 with fail
  rw [← hw1'.out]
  go_cut [3, 4] (fun s3 s4 wx => s4 = .bool true ∧ Below w1.heap.size w1 wx)
  case first =>
    go_region_held3 (fun w' => w'.cell? ⟨w.heap.size, 0, none⟩ = some (.int .i64 (f 0))) (go_keep) (first | ((with_reducible refine (kinds_any _).mono ?_); rintro e w2 ⟨rfl, rfl⟩))
    all_goals (go_wp2_with fail; go_meet)
    all_goals exact ⟨rfl, (((Below.refl _ _).alloc (Nat.le_refl _) _).alloc (by simp) _).drew⟩
  case rest =>
    obtain ⟨rfl, hB2⟩ := hcut
    have d2 := (World.cell?_of_block (a := ⟨w.heap.size, 2, none⟩) (hB2.block _ hlt)).trans c2
    have d17 := (World.cell?_of_block (a := ⟨w.heap.size, 17, none⟩) (hB2.block _ hlt)).trans c17
    clear c0 c2 c17 hA hB hC
    go_wp2
    go_ret
    exact ⟨rfl, hB1.trans (hB2.mono (by have := hz1'.out; omega))⟩
set_option maxRecDepth 100000 in
set_option maxHeartbeats 2000000 in
theorem valid_bad3 (k fk kk : Nat) (tx : Bool) (f : Nat → Int) (s : ByteArray) (w : World) (h0 : f 0 = ((k + 1 : Nat) : Int)) (hk : k < 10) (hkv : RW.kv (k + 1) = .agg #[.func (.func fk) #[] #[], .bool tx, .func (.func kk) #[] #[]])
    (hd1 : decide (f 2 < 1) = false) (hd2 : decide (1000 < f 2) = false) (hd3 : decide (2000 < (s.size : Int)) = true) :
    Calls Tryz.prog 34 #[.agg (RW.fcells f s)] w fun e w' => e = .returned (.bool false) ∧ Below w.heap.size w w' := by
  obtain ⟨cs, hcs⟩ : ∃ cs, cs = RW.fcells f s := ⟨_, rfl⟩
  rw [← hcs]
  obtain ⟨w1, hw1⟩ : ∃ w1, w1 = w.alloc (.cells cs 70) := ⟨_, rfl⟩
  have hH1 : w1.heap[w.heap.size]? = some (.cells cs 70 (0, 0)) := hw1 ▸ heap_alloc_new w _
  have hB1 : Below w.heap.size w w1 := hw1 ▸ (Below.refl _ _).alloc (Nat.le_refl _) _
  have hz1 : w1.heap.size = w.heap.size + 1 := hw1 ▸ World.size_alloc _ _
  have c0 : w1.cell? ⟨w.heap.size, 0, none⟩ = some (.int .i64 (f 0)) := by rw [cell_of_heap hH1, hcs, fcells_get _ _ _ (by decide)]
  have c2 : w1.cell? ⟨w.heap.size, 2, none⟩ = some (.int .i64 (f 2)) := by rw [cell_of_heap hH1, hcs, fcells_get _ _ _ (by decide)]
  have c17 : w1.cell? ⟨w.heap.size, 17, none⟩ = some (.string s) := by rw [cell_of_heap hH1, hcs, fcells_text]
  have hlt : w.heap.size < w1.heap.size := by omega
  have hA : (Instr.lookup 138 (.map (some w1.heap.size)) (.int .i64 (f 0)) true).run Tryz.prog (w1.alloc (.map (RW.kes 10) 10)).drew = .ok (.tuple #[RW.kv (k + 1), .bool true]) (w1.alloc (.map (RW.kes 10) 10)).drew := by rw [h0]; exact look_known _ _ k hk (heap_new_at rfl)
  have hB : ∀ o, (Instr.lookup 138 (.map (some (w1.heap.size + 1))) (.int .i64 (f 0)) true).run Tryz.prog ((w1.alloc o).alloc (.map (RW.kes 10) 10)).drew = .ok (.tuple #[RW.kv (k + 1), .bool true]) ((w1.alloc o).alloc (.map (RW.kes 10) 10)).drew := by rw [h0]; exact fun o => look_known _ _ k hk (heap_new_at (by simp))
  have hC : ∀ o, (Instr.lookup 138 (.map (some w1.heap.size)) (.int .i64 (f 0)) true).run Tryz.prog ((w1.alloc (.map (RW.kes 10) 10)).alloc o).drew = .ok (.tuple #[RW.kv (k + 1), .bool true]) ((w1.alloc (.map (RW.kes 10) 10)).alloc o).drew := by rw [h0]; exact fun o => look_known _ _ k hk ((Below.heap_alloc _ _ _ (by simp)).trans (heap_new_at rfl))
  rw [hkv] at hA hB hC
  have hw1' := hide hw1
  have hz1' := hide hz1
  clear hw1 hz1 hcs h0 hkv
  go_enter Tryz.func34, Tryz.ntmps34
  go_upto_region 1 with fail
  rw [← hw1'.out]
  go_cut [3, 4] (fun s3 s4 wx => s4 = .bool true ∧ Below w1.heap.size w1 wx)
  case first =>
    go_region_held3 (fun w' => w'.cell? ⟨w.heap.size, 0, none⟩ = some (.int .i64 (f 0))) (go_keep) (first | ((with_reducible refine (kinds_any _).mono ?_); rintro e w2 ⟨rfl, rfl⟩))
    all_goals (go_wp2_with fail; go_meet)
    all_goals exact ⟨rfl, (((Below.refl _ _).alloc (Nat.le_refl _) _).alloc (by simp) _).drew⟩
  case rest =>
    obtain ⟨rfl, hB2⟩ := hcut
    have d2 := (World.cell?_of_block (a := ⟨w.heap.size, 2, none⟩) (hB2.block _ hlt)).trans c2
    have d17 := (World.cell?_of_block (a := ⟨w.heap.size, 17, none⟩) (hB2.block _ hlt)).trans c17
    clear c0 c2 c17 hA hB hC
    go_wp2
    go_ret
    exact ⟨rfl, hB1.trans (hB2.mono (by have := hz1'.out; omega))⟩
theorem find_unknown (x : Int) (h : x < 1 ∨ 10 < x) : Instr.findNow (.int .i64) (.int .i64 x) (RW.kes 10).toList 0 = some none := by
  have h' : ∀ n : Int, 1 ≤ n → n ≤ 10 → (x == n) = false := fun n h1 h2 => by simp; omega
  simp [RW.kes, Instr.findNow, Instr.sameNow, h']
theorem look_unknown (W : World) (m : Nat) (x : Int) (h0 : x < 1 ∨ 10 < x) (h : W.heap[m]? = some (.map (RW.kes 10) 10)) :
    (Instr.lookup 138 (.map (some m)) (.int .i64 x) true).run Tryz.prog W = .ok (.tuple #[RW.kv 0, .bool false]) W :=
  MP.run_lookup_no (es := RW.kes 10) Tryz.underlying138 Tryz.underlying3 h (find_unknown x h0) (by kernel_rfl)
set_option maxRecDepth 100000 in
set_option maxHeartbeats 2000000 in
theorem valid_unknown (f : Nat → Int) (s : ByteArray) (w : World)(h0 : f 0 < 1 ∨ 10 < f 0) :
    Calls Tryz.prog 34 #[.agg (RW.fcells f s)] w fun e w' => e = .returned (.bool false) ∧ Below w.heap.size w w' := by
  obtain ⟨cs, hcs⟩ : ∃ cs, cs = RW.fcells f s := ⟨_, rfl⟩
  rw [← hcs]
  obtain ⟨w1, hw1⟩ : ∃ w1, w1 = w.alloc (.cells cs 70) := ⟨_, rfl⟩
  have hH1 : w1.heap[w.heap.size]? = some (.cells cs 70 (0, 0)) := hw1 ▸ heap_alloc_new w _
  have hB1 : Below w.heap.size w w1 := hw1 ▸ (Below.refl _ _).alloc (Nat.le_refl _) _
  have hz1 : w1.heap.size = w.heap.size + 1 := hw1 ▸ World.size_alloc _ _
  have c0 : w1.cell? ⟨w.heap.size, 0, none⟩ = some (.int .i64 (f 0)) := by rw [cell_of_heap hH1, hcs, fcells_get _ _ _ (by decide)]
  have c2 : w1.cell? ⟨w.heap.size, 2, none⟩ = some (.int .i64 (f 2)) := by rw [cell_of_heap hH1, hcs, fcells_get _ _ _ (by decide)]
  have c17 : w1.cell? ⟨w.heap.size, 17, none⟩ = some (.string s) := by rw [cell_of_heap hH1, hcs, fcells_text]
  have hlt : w.heap.size < w1.heap.size := by omega
  have hA : (Instr.lookup 138 (.map (some w1.heap.size)) (.int .i64 (f 0)) true).run Tryz.prog (w1.alloc (.map (RW.kes 10) 10)).drew = .ok (.tuple #[RW.kv 0, .bool false]) (w1.alloc (.map (RW.kes 10) 10)).drew := look_unknown _ _ _ h0 (heap_new_at rfl)
  have hB : ∀ o, (Instr.lookup 138 (.map (some (w1.heap.size + 1))) (.int .i64 (f 0)) true).run Tryz.prog ((w1.alloc o).alloc (.map (RW.kes 10) 10)).drew = .ok (.tuple #[RW.kv 0, .bool false]) ((w1.alloc o).alloc (.map (RW.kes 10) 10)).drew := fun o => look_unknown _ _ _ h0 (heap_new_at (by simp))
  have hC : ∀ o, (Instr.lookup 138 (.map (some w1.heap.size)) (.int .i64 (f 0)) true).run Tryz.prog ((w1.alloc (.map (RW.kes 10) 10)).alloc o).drew = .ok (.tuple #[RW.kv 0, .bool false]) ((w1.alloc (.map (RW.kes 10) 10)).alloc o).drew := fun o => look_unknown _ _ _ h0 ((Below.heap_alloc _ _ _ (by simp)).trans (heap_new_at rfl))
  unfold RW.kv at hA hB hC
  have hw1' := hide hw1
  have hz1' := hide hz1
  clear hw1 hz1 hcs h0
  go_enter Tryz.func34, Tryz.ntmps34
  go_upto_region 1 with fail
  rw [← hw1'.out]
  go_cut [3, 4] (fun s3 s4 wx => s4 = .bool false ∧ Below w1.heap.size w1 wx)
  case first =>
    go_region_held3 (fun w' => w'.cell? ⟨w.heap.size, 0, none⟩ = some (.int .i64 (f 0))) (go_keep) (first | ((with_reducible refine (kinds_any _).mono ?_); rintro e w2 ⟨rfl, rfl⟩))
    all_goals (go_wp2_with fail; go_meet)
    all_goals exact ⟨rfl, (((Below.refl _ _).alloc (Nat.le_refl _) _).alloc (by simp) _).drew⟩
  case rest =>
    obtain ⟨rfl, hB2⟩ := hcut
    have d2 := (World.cell?_of_block (a := ⟨w.heap.size, 2, none⟩) (hB2.block _ hlt)).trans c2
    have d17 := (World.cell?_of_block (a := ⟨w.heap.size, 17, none⟩) (hB2.block _ hlt)).trans c17
    clear c0 c2 c17 hA hB hC
    go_wp2
    go_ret
    exact ⟨rfl, hB1.trans (hB2.mono (by have := hz1'.out; omega))⟩
namespace RW
/-- whether a kind's facts may bear a text -/
def textK : Nat → Bool
  | 4 => true
  | 9 => true
  | _ => false
/-- a fact is valid: f its numbers, n its text's length -/
noncomputable def validB (f : Nat → Int) (n : Nat) : Bool :=
  dec ((1 ≤ f 0 ∧ f 0 ≤ 10) ∧ (1 ≤ f 2 ∧ f 2 ≤ 1000) ∧ n ≤ 2000 ∧ validK (kf (f 0).toNat (f 12)) (textK (f 0).toNat) f n = true)
end RW
theorem kinds_all (k : Nat) (hk : k < 10) (tt : Int) : ∃ fk kk : Nat, RW.kv (k + 1) = .agg #[.func (.func fk) #[] #[], .bool (RW.textK (k + 1)), .func (.func kk) #[] #[]] ∧
    (∀ (args : Array Value) (W : World), (callFunc fk args).run Tryz.prog W = .ok (.enter fk args) W) ∧ (RW.kf (k + 1) tt).length ≤ 100 ∧ (∀ x ∈ RW.kf (k + 1) tt, x.1 ≠ 0 ∧ x.1 ≠ 2) ∧ (∀ x ∈ RW.kf (k + 1) tt, x.1 < 17) ∧
    (RW.kf (k + 1) tt).Pairwise (fun a b => a.1 ≠ b.1) ∧
    ∀ (r : Nat) (W : World), r < W.heap.size → W.cell? ⟨r, 12, none⟩ = some (.int .i64 tt) → Calls Tryz.prog fk #[.pointer (some ⟨r, 0, none⟩)] W (FldPost 146 r (k + 1) tt W) := by
  match k, hk with
  | 0, _ =>
    exact ⟨_, _, rfl, enters_of Tryz.func111 (by kernel_rfl) rfl, by simp [RW.kf], by simp [RW.kf], by simp [RW.kf], by simp [RW.kf], fun r W _ _ => fields_1 r tt W⟩
  | 1, _ =>
    exact ⟨_, _, rfl, enters_of Tryz.func113 (by kernel_rfl) rfl, by simp [RW.kf], by simp [RW.kf], by simp [RW.kf], by simp [RW.kf], fun r W _ _ => fields_2 r tt W⟩
  | 2, _ =>
    exact ⟨_, _, rfl, enters_of Tryz.func114 (by kernel_rfl) rfl, by simp [RW.kf], by simp [RW.kf], by simp [RW.kf], by simp [RW.kf], fun r W hr hc => fields_3 r tt W hr hc⟩
  | 3, _ =>
    exact ⟨_, _, rfl, enters_of Tryz.func116 (by kernel_rfl) rfl, by simp [RW.kf], by simp [RW.kf], by simp [RW.kf], by simp [RW.kf], fun r W _ _ => fields_4 r tt W⟩
  | 4, _ =>
    exact ⟨_, _, rfl, enters_of Tryz.func118 (by kernel_rfl) rfl, by simp [RW.kf], by simp [RW.kf], by simp [RW.kf], by simp [RW.kf], fun r W _ _ => fields_5 r tt W⟩
  | 5, _ =>
    exact ⟨_, _, rfl, enters_of Tryz.func119 (by kernel_rfl) rfl, by simp [RW.kf], by simp [RW.kf], by simp [RW.kf], by simp [RW.kf], fun r W _ _ => fields_6 r tt W⟩
  | 6, _ =>
    exact ⟨_, _, rfl, enters_of Tryz.func121 (by kernel_rfl) rfl, by simp [RW.kf], by simp [RW.kf], by simp [RW.kf], by simp [RW.kf], fun r W _ _ => fields_7 r tt W⟩
  | 7, _ =>
    exact ⟨_, _, rfl, enters_of Tryz.func123 (by kernel_rfl) rfl, by simp [RW.kf], by simp [RW.kf], by simp [RW.kf], by simp [RW.kf], fun r W _ _ => fields_8 r tt W⟩
  | 8, _ =>
    exact ⟨_, _, rfl, enters_of Tryz.func124 (by kernel_rfl) rfl, by simp [RW.kf], by simp [RW.kf], by simp [RW.kf], by simp [RW.kf], fun r W _ _ => fields_9 r tt W⟩
  | 9, _ =>
    exact ⟨_, _, rfl, enters_of Tryz.func126 (by kernel_rfl) rfl, by simp [RW.kf], by simp [RW.kf], by simp [RW.kf], by simp [RW.kf], fun r W _ _ => fields_10 r tt W⟩
theorem valid_any (f : Nat → Int) (s : ByteArray) (w : World) :
    Calls Tryz.prog 34 #[.agg (RW.fcells f s)] w fun e w' => e = .returned (.bool (RW.validB f s.size)) ∧ Below w.heap.size w w' := by
  by_cases h : 1 ≤ f 0 ∧ f 0 ≤ 10
  · obtain ⟨k, hk⟩ : ∃ k : Nat, f 0 = ((k + 1 : Nat) : Int) := ⟨(f 0 - 1).toNat, by omega⟩
    have hk10 : k < 10 := by omega
    have hkn : (f 0).toNat = k + 1 := by omega
    obtain ⟨fk, kk, hkv, hcf, hll, hl02, hl17, hnd, hF⟩ := kinds_all k hk10 (f 12)
    by_cases h1 : f 2 < 1
    · have e : RW.validB f s.size = false := RW.dec_false (fun hp => by omega)
      rw [e]; exact valid_bad1 k fk kk _ f s w hk hk10 hkv (decide_eq_true h1)
    · by_cases h2 : 1000 < f 2
      · have e : RW.validB f s.size = false := RW.dec_false (fun hp => by omega)
        rw [e]; exact valid_bad2 k fk kk _ f s w hk hk10 hkv (decide_eq_false h1) (decide_eq_true h2)
      · by_cases h3 : 2000 < (s.size : Int)
        · have e : RW.validB f s.size = false := RW.dec_false (fun hp => by omega)
          rw [e]; exact valid_bad3 k fk kk _ f s w hk hk10 hkv (decide_eq_false h1) (decide_eq_false h2) (decide_eq_true h3)
        · have e : RW.validB f s.size = RW.validK (RW.kf (k + 1) (f 12)) (RW.textK (k + 1)) f s.size := by
            refine (RW.dec_eq ?_).symm
            rw [hkn]
            exact ⟨fun hp => ⟨h, by omega, by omega, hp⟩, fun hp => hp.2.2.2⟩
          rw [e]
          exact valid_known k fk kk _ _ f s w hk hk10 hkv hcf rfl hll hl02 hl17 hnd hF (by omega) (by omega) (by omega)
  · have e : RW.validB f s.size = false := RW.dec_false (fun hp => h hp.1)
    rw [e]; exact valid_unknown f s w (by omega)
end Go.Proofs.YtllbphanfahkkaaGreatDoor

/-
  Package fact: Same and Key: what they return; only new memory is written.
-/
namespace Go.Proofs.YtllbphanfahkkaaGreatDoor
open Go.RowKit
namespace RW
def feq (f g : Nat → Int) (s u : ByteArray) : Prop := (∀ i, i < 17 → f i = g i) ∧ s = u
/-- what a fact is about, beside its kind -/
def keyK (f : Nat → Int) : Nat → Int × Int
  | 1 => (f 6, f 1)
  | 2 => (f 6, f 1)
  | 3 => (f 1, 0)
  | 4 => (f 9, f 11)
  | 5 => (f 1, 0)
  | 6 => (f 5, f 3)
  | 7 => (f 15, f 3)
  | 8 => (f 1, 0)
  | 9 => (f 11, 0)
  | 10 => (f 8, f 11)
  | _ => (0, 0)
def keyV (f : Nat → Int) : Int × Int := if 1 ≤ f 0 ∧ f 0 ≤ 10 then keyK f (f 0).toNat else (0, 0)
end RW
theorem keys_all (f : Nat → Int) (s : ByteArray) (k : Nat) (hk : k < 10) : ∃ (fk kk : Nat) (tx : Bool), RW.kv (k + 1) = .agg #[.func (.func fk) #[] #[], .bool tx, .func (.func kk) #[] #[]] ∧
    (∀ (args : Array Value) (W : World), (callFunc kk args).run Tryz.prog W = .ok (.enter kk args) W) ∧
    ∀ W : World, Calls Tryz.prog kk #[.agg (RW.fcells f s)] W fun e w' => e = .returned (.tuple #[.int .i64 (RW.keyK f (k + 1)).1, .int .i64 (RW.keyK f (k + 1)).2]) ∧ Below W.heap.size W w' := by
  match k, hk with
  | 0, _ => exact ⟨_, _, _, rfl, enters_of Tryz.func112 (by kernel_rfl) rfl, fun W => byDevice_any f s W⟩
  | 1, _ => exact ⟨_, _, _, rfl, enters_of Tryz.func112 (by kernel_rfl) rfl, fun W => byDevice_any f s W⟩
  | 2, _ => exact ⟨_, _, _, rfl, enters_of Tryz.func115 (by kernel_rfl) rfl, fun W => byID_any f s W⟩
  | 3, _ => exact ⟨_, _, _, rfl, enters_of Tryz.func117 (by kernel_rfl) rfl, fun W => byHolder_any f s W⟩
  | 4, _ => exact ⟨_, _, _, rfl, enters_of Tryz.func115 (by kernel_rfl) rfl, fun W => byID_any f s W⟩
  | 5, _ => exact ⟨_, _, _, rfl, enters_of Tryz.func120 (by kernel_rfl) rfl, fun W => byAccount_any f s W⟩
  | 6, _ => exact ⟨_, _, _, rfl, enters_of Tryz.func122 (by kernel_rfl) rfl, fun W => byCurrency_any f s W⟩
  | 7, _ => exact ⟨_, _, _, rfl, enters_of Tryz.func115 (by kernel_rfl) rfl, fun W => byID_any f s W⟩
  | 8, _ => exact ⟨_, _, _, rfl, enters_of Tryz.func125 (by kernel_rfl) rfl, fun W => byFrom_any f s W⟩
  | 9, _ => exact ⟨_, _, _, rfl, enters_of Tryz.func127 (by kernel_rfl) rfl, fun W => byTerritory_any f s W⟩
end Go.Proofs.YtllbphanfahkkaaGreatDoor

/-
  strings.Compare: laid from the library's own contract.
-/
namespace Go.Proofs.YtllbphanfahkkaaGreatDoor
open Go.Shelf Go.RowKit
def SH.lays106_ren : Go.Shelf.Ren := ⟨fun | 106 => 33 | 213 => 70 | 265 => 87 | n => n, fun | 9 => 9 | 3 => 3 | n => n, fun | n => n⟩
end Go.Proofs.YtllbphanfahkkaaGreatDoor
