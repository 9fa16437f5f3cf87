/-
  Maps keyed by whole numbers, whatever the elements: what a store and a look-up do to the map's block: no condition beyond each theorem's own premises.
-/
import Derived.MapKept
import Derived.WalkKit
import Derived.Deep.OwnRows
namespace Go.Proofs.YtnlphbfjeekooaaGreatDoor.MP
open Go Go.MapKept
theorem run_checkKey_int {P : Program} {w : World} {kt : TypeId} {ik : IntKind} (e : Bool) (v : Value) (hk : P.underlying kt = some (.int ik)) :
    (Instr.checkKey e 10000 kt v).run P w = .ok () w := by
  show (Instr.checkKey e (9999 + 1) kt v).run P w = .ok () w
  unfold Instr.checkKey
  simp [run_underlying hk]
theorem run_update_new {P : Program} {w : World} {mt kt et : TypeId} {ik : IntKind} {r : Nat} {es : Array MapEntry} {clock : Nat} {x : Int} {v : Value}
    (hm : P.underlying mt = some (.map kt et)) (hk : P.underlying kt = some (.int ik)) (hb : w.heap[r]? = some (.map es clock))
    (hno : Instr.findNow (.int ik) (.int ik x) es.toList 0 = some none) :
    (Instr.mapUpdate mt (.map (some r)) (.int ik x) v).run P w = .ok () { w with heap := w.heap.setIfInBounds r (.map (es.push { key := .int ik x, val := v, born := clock }) (clock + 1)) } := by
  simp [Instr.mapUpdate, run_underlying hm, MapKept.run_getObj_map hb, run_checkKey_int false _ hk, Instr.findKey, run_underlying hk, hno, MapKept.run_setObj_map _ hb]
theorem run_lookup_ok {P : Program} {w : World} {mt kt et : TypeId} {ik : IntKind} {r : Nat} {es : Array MapEntry} {clock : Nat} {x : Int} {i : Nat} {v : Value}
    (hm : P.underlying mt = some (.map kt et)) (hk : P.underlying kt = some (.int ik)) (hb : w.heap[r]? = some (.map es clock))
    (hf : Instr.findNow (.int ik) (.int ik x) es.toList 0 = some (some (i, v))) :
    (Instr.lookup mt (.map (some r)) (.int ik x) true).run P w = .ok (.tuple #[v, .bool true]) w := by
  simp [Instr.lookup, run_underlying hm, MapKept.run_getObj_map hb, run_checkKey_int _ _ hk, Instr.findKey, run_underlying hk, hf]
theorem run_lookup_no {P : Program} {w : World} {mt kt et : TypeId} {ik : IntKind} {r : Nat} {es : Array MapEntry} {clock : Nat} {x : Int} {z : Value}
    (hm : P.underlying mt = some (.map kt et)) (hk : P.underlying kt = some (.int ik)) (hb : w.heap[r]? = some (.map es clock))
    (hf : Instr.findNow (.int ik) (.int ik x) es.toList 0 = some none) (hz : (zeroValue et).run P w = .ok z w) :
    (Instr.lookup mt (.map (some r)) (.int ik x) true).run P w = .ok (.tuple #[z, .bool false]) w := by
  simp [Instr.lookup, run_underlying hm, MapKept.run_getObj_map hb, run_checkKey_int _ _ hk, Instr.findKey, run_underlying hk, hf, hz]
theorem set_alloc (w : World) (o o' : Obj) : ({ w.alloc o with heap := (w.alloc o).heap.setIfInBounds w.heap.size o' } : World) = w.alloc o' := by
  simp only [World.alloc]
  congr 1
  apply Array.ext_getElem?
  intro i
  rw [Array.getElem?_setIfInBounds]
  by_cases h : w.heap.size = i
  · subst h; simp
  · rw [if_neg h, Array.getElem?_push, Array.getElem?_push, if_neg (Ne.symm h), if_neg (Ne.symm h)]
end Go.Proofs.YtnlphbfjeekooaaGreatDoor.MP
