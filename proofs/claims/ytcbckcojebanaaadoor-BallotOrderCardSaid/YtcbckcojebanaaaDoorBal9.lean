/-
  Package ballot: Encode: the closure that writes to the builder; Encode of a message that is not valid.
-/
import Derived.Test.YtcbckcojebanaaaDoorBal8
import Derived.Test.YtcbckcojebanaaaDoorBld
import Derived.Test.YtcbckcojebanaaaDoorMA
namespace Go.Proofs.YtcbckcojebanaaaDoor
open Go.RowKit
namespace RW
theorem below_grown {w w' : World} (h : Below w.heap.size w w') : w.grownBy w' none := ⟨h.os, h.tape, h.output, h.size, fun k hk _ => h.block k hk⟩
theorem bld_kept {T el : TypeId} {B b : Nat} {p : Value} {bs : List Value} {w w' : World} (h : Lib.BuilderAt T el B b p bs w) (hB : Below w.heap.size w w') : Lib.BuilderAt T el B b p bs w' := by
  obtain ⟨hb, v, hv, ho, hne⟩ := h
  exact ⟨hb, v, (hB.block _ (Array.getElem?_eq_some_iff.1 hv).1).trans hv, ho.kept (below_grown hB) (by cases e : v.ownBlock <;> simp), hne⟩
theorem isbld_kept {T e : TypeId} {B b : Nat} {bs : List Value} {w w' : World} (h : Lib.IsBuilder T e B b bs w) (hB : Below w.heap.size w w') : Lib.IsBuilder T e B b bs w' := by
  rcases h with h | h
  · exact .inl (bld_kept h hB)
  · exact .inr (bld_kept h hB)
theorem bld_new {T e : TypeId} (w : World) : Lib.IsBuilder T e w.heap.size w.heap.size [] (w.alloc (.cells #[.pointer none, .slice none 0 0] T)) :=
  .inl ⟨Nat.le_refl _, _, heap_alloc_new w _, World.ownsRow_nil _ _ _ _, by simp [Value.ownBlock]⟩
end RW
set_option maxRecDepth 100000 in
set_option maxHeartbeats 2000000 in
theorem put_any (B b : Nat) (bs : List Value) (s : ByteArray) (x : Int) (w : World) (h : Lib.IsBuilder 62 5 B b bs w) (hlen : bs.length + s.size ≤ 140737488355328) (hBw : B ≤ w.heap.size) :
    Calls Tryd.prog 40 #[.string s, .int .i64 x, .pointer (some ⟨b, 0, none⟩)] w fun e w' => e = .returned (.tuple #[]) ∧ Lib.BuilderAt 62 5 B b (.pointer (some ⟨b, 0, none⟩)) (bs ++ Lib.strCells s) w' ∧ Below B w w' ∧ RW.BKept 5 b w w' := by
  have hW := hide (writestring B b bs s w h hlen hBw)
  clear h
  go_enter Tryd.func40, Tryd.ntmps40
  go_wp2_with (go_at_call 41; refine hW.out.mono ?_; rintro e w' ⟨rfl, h1, h2, h3⟩; have h1H := hide h1; have h3H := hide h3; clear h1 h3)
  go_end0
  exact ⟨rfl, h1H.out, h2, h3H.out⟩
end Go.Proofs.YtcbckcojebanaaaDoor
