/-
  Package fact: the small functions: id, period, territory, isWithin, the fields of each kind, numbers: what each returns; only new memory is written.
-/
import Derived.Deep.OwnRows
import Derived.Deep.RegionHeld3
import Derived.Deep.RegionWith
import Derived.StillTailTactics
import Derived.Deep.QuietTactic
import Derived.BigQuiet
import Derived.BigRegion
import Derived.Maps.AppendAt
import Derived.Test.YtllbphanfahkkaaGreatDoorMA
import Derived.MapKept
import Derived.WalkKit
namespace Go.Proofs.YtllbphanfahkkaaGreatDoor
open Go.RowKit
namespace RW
def fld (r i : Nat) (lo hi : Int) : List Value := [.pointer (some ⟨r, i, none⟩), .int .i64 lo, .int .i64 hi]
/-- the fields of a kind, with their limits -/
def kf : Nat → Int → List (Nat × Int × Int)
  | 1, _ => [(1, 1, 1000000), (5, 1, 1000000), (6, 1, 1000000), (7, 1, 1000000), (8, 0, 7), (4, 0, 3155759999), (13, 0, 86400000), (16, 0, 1)]
  | 2, _ => [(6, 1, 1000000), (1, 1, 1000000), (16, 1, 3)]
  | 3, to => [(1, 1, 1000000), (7, 1, 1000000), (9, 1, 1000000), (10, 1, 2), (8, 1, 255), (11, 0, IntKind.i64.wrap (to - 1)), (12, 1, 1200), (14, 0, 1000000)]
  | 4, _ => [(9, 1, 1000000), (11, 0, 1199)]
  | 5, _ => [(1, 1, 1000000), (3, 0, 1199), (8, 0, 7), (13, 0, 10000000000), (15, 0, 20)]
  | 6, _ => [(5, 1, 1000000), (3, 0, 1199), (8, 0, 7), (13, 0, 1000000000), (15, 0, 20)]
  | 7, _ => [(15, 1, 20), (3, 0, 1199), (13, 1, 10000000)]
  | 8, _ => [(1, 1, 1000000), (5, 1, 1000), (3, 0, 1199), (13, 0, 100000000000)]
  | 9, _ => [(11, 0, 1199)]
  | 10, _ => [(8, 0, 7), (11, 0, 1199), (16, 1, 2)]
  | _, _ => []
def fldsV (r : Nat) (l : List (Nat × Int × Int)) : List Value := l.flatMap fun x => fld r x.1 x.2.1 x.2.2
end RW
def FldPost (T : Nat) (r k : Nat) (to : Int) (w : World) (e : Ending) (w' : World) : Prop :=
  ∃ g, e = .returned (.slice (some ⟨g, 0, none⟩) (RW.kf k to).length (RW.kf k to).length) ∧ w'.heap[g]? = some (.cells (RW.fldsV r (RW.kf k to)).toArray T (0, 0)) ∧ w.heap.size ≤ g ∧ Below w.heap.size w w'
theorem heap_new_at {w : World} {o : Obj} {g : Nat} (h : g = w.heap.size) : (w.alloc o).heap[g]? = some o := h ▸ heap_alloc_new w o
theorem heap_new_drew {w : World} {o : Obj} {g : Nat} (h : g = w.heap.size) : (w.alloc o).drew.heap[g]? = some o := heap_new_at h
theorem id_any (r i : Nat) (w : World) : Calls Tryz.prog 145 #[.pointer (some ⟨r, i, none⟩)] w fun e w' => e = .returned (.agg #[.pointer (some ⟨r, i, none⟩), .int .i64 1, .int .i64 1000000]) ∧ w.alloc (.cells #[.pointer (some ⟨r, i, none⟩), .int .i64 1, .int .i64 1000000] 146) = w' := by
  go_enter Tryz.func145, Tryz.ntmps145
  go_wp2
  refine bodyPost_ret (v := .agg #[.pointer (some ⟨r, i, none⟩), .int .i64 1, .int .i64 1000000]) (by simp [results, Tryz.results145, go_sem]) rfl ⟨rfl, rfl⟩
theorem period_any (r i : Nat) (w : World) : Calls Tryz.prog 147 #[.pointer (some ⟨r, i, none⟩)] w fun e w' => e = .returned (.agg #[.pointer (some ⟨r, i, none⟩), .int .i64 0, .int .i64 1199]) ∧ w.alloc (.cells #[.pointer (some ⟨r, i, none⟩), .int .i64 0, .int .i64 1199] 146) = w' := by
  go_enter Tryz.func147, Tryz.ntmps147
  go_wp2
  refine bodyPost_ret (v := .agg #[.pointer (some ⟨r, i, none⟩), .int .i64 0, .int .i64 1199]) (by simp [results, Tryz.results147, go_sem]) rfl ⟨rfl, rfl⟩
theorem territory_any (r i : Nat) (w : World) : Calls Tryz.prog 146 #[.pointer (some ⟨r, i, none⟩)] w fun e w' => e = .returned (.agg #[.pointer (some ⟨r, i, none⟩), .int .i64 0, .int .i64 7]) ∧ w.alloc (.cells #[.pointer (some ⟨r, i, none⟩), .int .i64 0, .int .i64 7] 146) = w' := by
  go_enter Tryz.func146, Tryz.ntmps146
  go_wp2
  refine bodyPost_ret (v := .agg #[.pointer (some ⟨r, i, none⟩), .int .i64 0, .int .i64 7]) (by simp [results, Tryz.results146, go_sem]) rfl ⟨rfl, rfl⟩
set_option maxHeartbeats 2000000 in
theorem fields_1 (r : Nat) (to : Int) (w : World) : Calls Tryz.prog 111 #[.pointer (some ⟨r, 0, none⟩)] w (FldPost 146 r 1 to w) := by
  go_enter Tryz.func111, Tryz.ntmps111
  go_wp2
  go_region_held3 (fun _ => True) (trivial) (first | ((with_reducible refine (id_any _ _ _).mono ?_); rintro e w' ⟨rfl, rfl⟩) | ((with_reducible refine (territory_any _ _ _).mono ?_); rintro e w' ⟨rfl, rfl⟩))
  go_wp2
  go_ret
  refine ⟨_, rfl, ?_, ?_, ?_⟩
  · first | exact heap_new_drew (by simp) | exact heap_new_at (by simp)
  · omega
  · repeat (first | exact Below.refl _ _ | refine Below.drew ?_ | refine Below.alloc ?_ (by simp; try omega) _)
set_option maxHeartbeats 2000000 in
theorem fields_2 (r : Nat) (to : Int) (w : World) : Calls Tryz.prog 113 #[.pointer (some ⟨r, 0, none⟩)] w (FldPost 146 r 2 to w) := by
  go_enter Tryz.func113, Tryz.ntmps113
  go_wp2
  go_region_held3 (fun _ => True) (trivial) (first | ((with_reducible refine (id_any _ _ _).mono ?_); rintro e w' ⟨rfl, rfl⟩))
  go_wp2
  go_ret
  refine ⟨_, rfl, ?_, ?_, ?_⟩
  · first | exact heap_new_drew (by simp) | exact heap_new_at (by simp)
  · omega
  · repeat (first | exact Below.refl _ _ | refine Below.drew ?_ | refine Below.alloc ?_ (by simp; try omega) _)
set_option maxHeartbeats 2000000 in
theorem fields_3 (r : Nat) (to : Int) (w : World) (hr : r < w.heap.size) (hc : w.cell? ⟨r, 12, none⟩ = some (.int .i64 to)) : Calls Tryz.prog 114 #[.pointer (some ⟨r, 0, none⟩)] w (FldPost 146 r 3 to w) := by
  have ha1 : ∀ o, (w.alloc o).cell? ⟨r, 12, none⟩ = some (.int .i64 to) := fun o => (World.cell?_of_block (Below.heap_alloc w o r hr)).trans hc
  have ha2 : ∀ o o2, ((w.alloc o).alloc o2).cell? ⟨r, 12, none⟩ = some (.int .i64 to) := fun o o2 => (World.cell?_of_block (Below.heap_alloc (w.alloc o) o2 r (by simp; omega))).trans (ha1 o)
  have ha3 : ∀ o o2 o3, (((w.alloc o).alloc o2).alloc o3).cell? ⟨r, 12, none⟩ = some (.int .i64 to) := fun o o2 o3 => (World.cell?_of_block (Below.heap_alloc ((w.alloc o).alloc o2) o3 r (by simp; omega))).trans (ha2 o o2)
  go_enter Tryz.func114, Tryz.ntmps114
  go_wp2
  go_region_held3 (fun w' => w'.cell? ⟨r, 12, none⟩ = some (.int .i64 to)) (go_keep) (first | ((with_reducible refine (id_any _ _ _).mono ?_); rintro e w' ⟨rfl, rfl⟩))
  go_wp2
  go_ret
  refine ⟨_, rfl, ?_, ?_, ?_⟩
  · first | exact heap_new_drew (by simp) | exact heap_new_at (by simp)
  · omega
  · repeat (first | exact Below.refl _ _ | refine Below.drew ?_ | refine Below.alloc ?_ (by simp; try omega) _)
set_option maxHeartbeats 2000000 in
theorem fields_4 (r : Nat) (to : Int) (w : World) : Calls Tryz.prog 116 #[.pointer (some ⟨r, 0, none⟩)] w (FldPost 146 r 4 to w) := by
  go_enter Tryz.func116, Tryz.ntmps116
  go_wp2
  go_region_held3 (fun _ => True) (trivial) (first | ((with_reducible refine (id_any _ _ _).mono ?_); rintro e w' ⟨rfl, rfl⟩) | ((with_reducible refine (period_any _ _ _).mono ?_); rintro e w' ⟨rfl, rfl⟩))
  go_wp2
  go_ret
  refine ⟨_, rfl, ?_, ?_, ?_⟩
  · first | exact heap_new_drew (by simp) | exact heap_new_at (by simp)
  · omega
  · repeat (first | exact Below.refl _ _ | refine Below.drew ?_ | refine Below.alloc ?_ (by simp; try omega) _)
set_option maxHeartbeats 2000000 in
theorem fields_5 (r : Nat) (to : Int) (w : World) : Calls Tryz.prog 118 #[.pointer (some ⟨r, 0, none⟩)] w (FldPost 146 r 5 to w) := by
  go_enter Tryz.func118, Tryz.ntmps118
  go_wp2
  go_region_held3 (fun _ => True) (trivial) (first | ((with_reducible refine (id_any _ _ _).mono ?_); rintro e w' ⟨rfl, rfl⟩) | ((with_reducible refine (period_any _ _ _).mono ?_); rintro e w' ⟨rfl, rfl⟩) | ((with_reducible refine (territory_any _ _ _).mono ?_); rintro e w' ⟨rfl, rfl⟩))
  go_wp2
  go_ret
  refine ⟨_, rfl, ?_, ?_, ?_⟩
  · first | exact heap_new_drew (by simp) | exact heap_new_at (by simp)
  · omega
  · repeat (first | exact Below.refl _ _ | refine Below.drew ?_ | refine Below.alloc ?_ (by simp; try omega) _)
set_option maxHeartbeats 2000000 in
theorem fields_6 (r : Nat) (to : Int) (w : World) : Calls Tryz.prog 119 #[.pointer (some ⟨r, 0, none⟩)] w (FldPost 146 r 6 to w) := by
  go_enter Tryz.func119, Tryz.ntmps119
  go_wp2
  go_region_held3 (fun _ => True) (trivial) (first | ((with_reducible refine (id_any _ _ _).mono ?_); rintro e w' ⟨rfl, rfl⟩) | ((with_reducible refine (period_any _ _ _).mono ?_); rintro e w' ⟨rfl, rfl⟩) | ((with_reducible refine (territory_any _ _ _).mono ?_); rintro e w' ⟨rfl, rfl⟩))
  go_wp2
  go_ret
  refine ⟨_, rfl, ?_, ?_, ?_⟩
  · first | exact heap_new_drew (by simp) | exact heap_new_at (by simp)
  · omega
  · repeat (first | exact Below.refl _ _ | refine Below.drew ?_ | refine Below.alloc ?_ (by simp; try omega) _)
set_option maxHeartbeats 2000000 in
theorem fields_7 (r : Nat) (to : Int) (w : World) : Calls Tryz.prog 121 #[.pointer (some ⟨r, 0, none⟩)] w (FldPost 146 r 7 to w) := by
  go_enter Tryz.func121, Tryz.ntmps121
  go_wp2
  go_region_held3 (fun _ => True) (trivial) (first | ((with_reducible refine (period_any _ _ _).mono ?_); rintro e w' ⟨rfl, rfl⟩))
  go_wp2
  go_ret
  refine ⟨_, rfl, ?_, ?_, ?_⟩
  · first | exact heap_new_drew (by simp) | exact heap_new_at (by simp)
  · omega
  · repeat (first | exact Below.refl _ _ | refine Below.drew ?_ | refine Below.alloc ?_ (by simp; try omega) _)
set_option maxHeartbeats 2000000 in
theorem fields_8 (r : Nat) (to : Int) (w : World) : Calls Tryz.prog 123 #[.pointer (some ⟨r, 0, none⟩)] w (FldPost 146 r 8 to w) := by
  go_enter Tryz.func123, Tryz.ntmps123
  go_wp2
  go_region_held3 (fun _ => True) (trivial) (first | ((with_reducible refine (id_any _ _ _).mono ?_); rintro e w' ⟨rfl, rfl⟩) | ((with_reducible refine (period_any _ _ _).mono ?_); rintro e w' ⟨rfl, rfl⟩))
  go_wp2
  go_ret
  refine ⟨_, rfl, ?_, ?_, ?_⟩
  · first | exact heap_new_drew (by simp) | exact heap_new_at (by simp)
  · omega
  · repeat (first | exact Below.refl _ _ | refine Below.drew ?_ | refine Below.alloc ?_ (by simp; try omega) _)
set_option maxHeartbeats 2000000 in
theorem fields_9 (r : Nat) (to : Int) (w : World) : Calls Tryz.prog 124 #[.pointer (some ⟨r, 0, none⟩)] w (FldPost 146 r 9 to w) := by
  go_enter Tryz.func124, Tryz.ntmps124
  go_wp2_with (go_at_call 147; refine (period_any _ _ _).mono ?_; rintro e w' ⟨rfl, rfl⟩)
  go_ret
  refine ⟨_, rfl, ?_, ?_, ?_⟩
  · first | exact heap_new_drew (by simp) | exact heap_new_at (by simp)
  · omega
  · repeat (first | exact Below.refl _ _ | refine Below.drew ?_ | refine Below.alloc ?_ (by simp; try omega) _)
set_option maxHeartbeats 2000000 in
theorem fields_10 (r : Nat) (to : Int) (w : World) : Calls Tryz.prog 126 #[.pointer (some ⟨r, 0, none⟩)] w (FldPost 146 r 10 to w) := by
  go_enter Tryz.func126, Tryz.ntmps126
  go_wp2
  go_region_held3 (fun _ => True) (trivial) (first | ((with_reducible refine (period_any _ _ _).mono ?_); rintro e w' ⟨rfl, rfl⟩) | ((with_reducible refine (territory_any _ _ _).mono ?_); rintro e w' ⟨rfl, rfl⟩))
  go_wp2
  go_ret
  refine ⟨_, rfl, ?_, ?_, ?_⟩
  · first | exact heap_new_drew (by simp) | exact heap_new_at (by simp)
  · omega
  · repeat (first | exact Below.refl _ _ | refine Below.drew ?_ | refine Below.alloc ?_ (by simp; try omega) _)
end Go.Proofs.YtllbphanfahkkaaGreatDoor

/-
  Maps keyed by whole numbers, whatever the elements: what a store and a look-up do to the map's block: no condition beyond each theorem's own premises.
-/
namespace Go.Proofs.YtllbphanfahkkaaGreatDoor.MP
open Go Go.MapKept
theorem run_checkKey_int {P : Program} {w : World} {kt : TypeId} {ik : IntKind} (e : Bool) (v : Value) (hk : P.underlying kt = some (.int ik)) :
    (Instr.checkKey e 10000 kt v).run P w = .ok () w := by
  show (Instr.checkKey e (9999 + 1) kt v).run P w = .ok () w
  unfold Instr.checkKey
  simp [run_underlying hk]
theorem run_update_new {P : Program} {w : World} {mt kt et : TypeId} {ik : IntKind} {r : Nat} {es : Array MapEntry} {clock : Nat} {x : Int} {v : Value}
    (hm : P.underlying mt = some (.map kt et)) (hk : P.underlying kt = some (.int ik)) (hb : w.heap[r]? = some (.map es clock))
    (hno : Instr.findNow (.int ik) (.int ik x) es.toList 0 = some none) :
    (Instr.mapUpdate mt (.map (some r)) (.int ik x) v).run P w = .ok () { w with heap := w.heap.setIfInBounds r (.map (es.push { key := .int ik x, val := v, born := clock }) (clock + 1)) } := by
  simp [Instr.mapUpdate, run_underlying hm, MapKept.run_getObj_map hb, run_checkKey_int false _ hk, Instr.findKey, run_underlying hk, hno, MapKept.run_setObj_map _ hb]
theorem run_lookup_ok {P : Program} {w : World} {mt kt et : TypeId} {ik : IntKind} {r : Nat} {es : Array MapEntry} {clock : Nat} {x : Int} {i : Nat} {v : Value}
    (hm : P.underlying mt = some (.map kt et)) (hk : P.underlying kt = some (.int ik)) (hb : w.heap[r]? = some (.map es clock))
    (hf : Instr.findNow (.int ik) (.int ik x) es.toList 0 = some (some (i, v))) :
    (Instr.lookup mt (.map (some r)) (.int ik x) true).run P w = .ok (.tuple #[v, .bool true]) w := by
  simp [Instr.lookup, run_underlying hm, MapKept.run_getObj_map hb, run_checkKey_int _ _ hk, Instr.findKey, run_underlying hk, hf]
theorem run_lookup_no {P : Program} {w : World} {mt kt et : TypeId} {ik : IntKind} {r : Nat} {es : Array MapEntry} {clock : Nat} {x : Int} {z : Value}
    (hm : P.underlying mt = some (.map kt et)) (hk : P.underlying kt = some (.int ik)) (hb : w.heap[r]? = some (.map es clock))
    (hf : Instr.findNow (.int ik) (.int ik x) es.toList 0 = some none) (hz : (zeroValue et).run P w = .ok z w) :
    (Instr.lookup mt (.map (some r)) (.int ik x) true).run P w = .ok (.tuple #[z, .bool false]) w := by
  simp [Instr.lookup, run_underlying hm, MapKept.run_getObj_map hb, run_checkKey_int _ _ hk, Instr.findKey, run_underlying hk, hf, hz]
theorem set_alloc (w : World) (o o' : Obj) : ({ w.alloc o with heap := (w.alloc o).heap.setIfInBounds w.heap.size o' } : World) = w.alloc o' := by
  simp only [World.alloc]
  congr 1
  apply Array.ext_getElem?
  intro i
  rw [Array.getElem?_setIfInBounds]
  by_cases h : w.heap.size = i
  · subst h; simp
  · rw [if_neg h, Array.getElem?_push, Array.getElem?_push, if_neg (Ne.symm h), if_neg (Ne.symm h)]
end Go.Proofs.YtllbphanfahkkaaGreatDoor.MP
