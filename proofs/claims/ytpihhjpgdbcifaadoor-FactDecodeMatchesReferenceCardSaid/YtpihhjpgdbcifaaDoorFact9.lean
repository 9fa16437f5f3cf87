/-
  Package fact: check, and the closure that Decode defers, in a frame that returns and in one that panics: what they do; only the two named results are written.
-/
import Derived.Recover
import Derived.WalkLawsBesides
import Derived.Test.YtpihhjpgdbcifaaDoorFact8
import Derived.Test.YtpihhjpgdbcifaaDoorErr
namespace Go.Proofs.YtpihhjpgdbcifaaDoor
open Go.RowKit Go.Stop
namespace RW
def zeroF : Nat → Int := fun _ => 0
def eW (a : Addr) : Value := .iface 132 (.pointer (some a))
end RW
theorem check_ok (w : World) : Calls Tryd.prog 45 #[.int .i64 0] w fun e w' => e = .returned (.tuple #[]) ∧ w = w' := by
  go_enter Tryd.func45, Tryd.ntmps45
  go_wp2
  go_end0
  exact ⟨rfl, rfl⟩
theorem check_bad (n : Int) (hn : (n != 0) = true) (a : Addr) (w : World) (hg : w.cell? ⟨0, 0, none⟩ = some (RW.eW a)) :
    Calls Tryd.prog 45 #[.int .i64 n] w fun e w' => e = .panicked [{ v := RW.eW a, recovered := false }] ∧ w = w' := by
  unfold RW.eW at hg ⊢
  go_enter Tryd.func45, Tryd.ntmps45
  go_wp2
  exact ⟨rfl, rfl, rfl⟩
theorem ta_nil (w : World) : (Instr.typeAssert .nilIface 20 68 true).run Tryd.prog w = .ok (.tuple #[.nilIface, .bool false]) w := by kernel_rfl
theorem ta_err (v : Value) (xT : TypeId) (w : World) : (Instr.typeAssert (.iface 132 v) xT 68 true).run Tryd.prog w = .ok (.tuple #[.iface 132 v, .bool true]) w := run_typeAssert_hasB Tryd.underlying68 (by kernel_rfl) v xT w
set_option maxRecDepth 100000 in
theorem catch_idle (B : Nat) (w : World) :
    CallsD Tryd.prog 42 #[.pointer (some ⟨B, 0, none⟩), .pointer (some ⟨B + 1, 0, none⟩)] .returning w fun e u' w' => e = .returned (.tuple #[]) ∧ u' = .returning ∧ w' = w := by
  refine callsD_of_wpS Tryd.func42 rfl fun c₀ cs hu => ?_
  simp only [Tryd.ntmps42, List.size_toArray, List.length_cons, List.length_nil, Nat.reduceAdd, Nat.reduceSub, Array.replicate_succ, Array.replicate_zero, List.push_toArray, List.append_toArray, List.nil_append, List.cons_append]
  apply wpS_seq
  apply wpS_region
  simp [wpOpsS, go_sem, recoverD, hu, Exit.thenS, ta_nil]
  refine wpS_of_wp ?_
  go_wp2
  cases c₀
  simp_all [bodyPostS, results, Tryd.results42]
theorem fzero : RW.fcells RW.zeroF ⟨#[]⟩ = #[.int .i64 0, .int .i64 0, .int .i64 0, .int .i64 0, .int .i64 0, .int .i64 0, .int .i64 0, .int .i64 0, .int .i64 0, .int .i64 0, .int .i64 0, .int .i64 0, .int .i64 0, .int .i64 0, .int .i64 0, .int .i64 0, .int .i64 0, .string ⟨#[]⟩] := rfl
set_option maxRecDepth 100000 in
set_option maxHeartbeats 2000000 in
theorem catch_panicking (B : Nat) (a : Addr) (cs0 : Array Value) (v0 : Int) (w : World) (hg : w.cell? ⟨0, 0, none⟩ = some (RW.eW a)) (_hgB : 0 < B)
    (hx : w.heap[B]? = some (.cells cs0 23 (0, 0))) (hn : cs0.size = 18) (hy : w.heap[B + 1]? = some (.cells #[.int .i64 v0] 30 (0, 0))) :
    CallsD Tryd.prog 42 #[.pointer (some ⟨B, 0, none⟩), .pointer (some ⟨B + 1, 0, none⟩)] (.panicking [{ v := RW.eW a, recovered := false }]) w fun e u' w' =>
      e = .returned (.tuple #[]) ∧ u' = .panicking [{ v := RW.eW a, recovered := true }] ∧ w'.heap[B]? = some (.cells (RW.fcells RW.zeroF ⟨#[]⟩) 23 (0, 0)) ∧ w'.heap[B + 1]? = some (.cells #[.int .i64 10] 30 (0, 0)) ∧ Below B w w' := by
  unfold RW.eW at hg ⊢
  have hi1 : (Tryd.prog.info? 23).map (·.size) = some cs0.size := by rw [hn]; kernel_rfl
  have hta := ta_err (.pointer (some a)) 20
  have hxH := hide hx; have hyH := hide hy; have hnH := hide hn
  have hi2 : (Tryd.prog.info? 23).map (·.size) = some (18 : Nat) := by kernel_rfl
  have hs : ∀ Z, (w.setRow B Z).heap[B + 1]? = some (.cells #[.int .i64 v0] 30 (0, 0)) := fun Z => by
    rw [← hy]; simp only [World.setRow, Array.getElem?_modify]; rw [if_neg (by omega)]
  have hsc : ∀ Z, (w.setRow B Z).cell? ⟨B + 1, 0, none⟩ = some (.int .i64 v0) := fun Z => by rw [cell_of_heap (hs Z)]; rfl
  have hsf : ∀ Z, (w.setRow B Z).frozen? ⟨B + 1, 0, none⟩ = false := fun Z => by simp [World.frozen?, hs Z]
  refine callsD_of_wpS Tryd.func42 rfl fun c₀ cs hu => ?_
  simp only [Tryd.ntmps42, List.size_toArray, List.length_cons, List.length_nil, Nat.reduceAdd, Nat.reduceSub, Array.replicate_succ, Array.replicate_zero, List.push_toArray, List.append_toArray, List.nil_append, List.cons_append]
  apply wpS_seq
  apply wpS_region
  simp [wpOpsS, go_sem, recoverD, hu, Exit.thenS, hta]
  have hsH := hide hs
  clear hx hy hn hs
  refine wpS_of_wp ?_
  go_wp2_with fail
  refine ((is_same a _).mono (R' := fun e W => e = .returned (.bool true) ∧ w = W) (fun _ _ h => ⟨h.1, h.2.symm⟩)).mono ?_
  rintro e w' ⟨rfl, rfl⟩
  go_wp2_with (refine wpList_store_row rfl 23 (.tmp 0) (.tmp 15) rfl B (RW.fcells RW.zeroF ⟨#[]⟩) rfl rfl 23 cs0 hxH.out hi2 (by rw [hnH.out]; rfl) (by rw [fzero]; simp [Value.oneCell']) ?_)
  have q1 : ((w.setRow B (RW.fcells RW.zeroF ⟨#[]⟩)).setCell ⟨B + 1, 0, none⟩ (.int .i64 10)).heap[B]? = some (.cells (RW.fcells RW.zeroF ⟨#[]⟩) 23 (0, 0)) :=
    (Below.heap_setCell _ _ _ _ (show B ≠ B + 1 by omega)).trans (setRow_heap _ _ _ _ _ _ hxH.out)
  have q2 : ((w.setRow B (RW.fcells RW.zeroF ⟨#[]⟩)).setCell ⟨B + 1, 0, none⟩ (.int .i64 10)).heap[B + 1]? = some (.cells #[.int .i64 10] 30 (0, 0)) :=
    heap_setCell_same _ _ _ _ _ _ (hsH.out _)
  have q3 : Below B w ((w.setRow B (RW.fcells RW.zeroF ⟨#[]⟩)).setCell ⟨B + 1, 0, none⟩ (.int .i64 10)) := (RW.below_setRow (Below.refl B w) (Nat.le_refl _) _).setCell (by show B ≤ B + 1; omega) _
  generalize (w.setRow B (RW.fcells RW.zeroF ⟨#[]⟩)).setCell ⟨B + 1, 0, none⟩ (.int .i64 10) = W at q1 q2 q3 ⊢
  clear hsc hsf hta
  simp [bodyPostS, results, Tryd.results42, q1, q2, q3]
end Go.Proofs.YtpihhjpgdbcifaaDoor
