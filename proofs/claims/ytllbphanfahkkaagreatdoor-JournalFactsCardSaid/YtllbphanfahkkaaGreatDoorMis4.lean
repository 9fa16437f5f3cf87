/-
  Package factset: Union, Root: what they return, what they change.
-/
import Derived.Test.YtllbphanfahkkaaGreatDoorMis3
import Derived.Test.YtllbphanfahkkaaGreatDoorDr4
namespace Go.Proofs.YtllbphanfahkkaaGreatDoor
open Go.RowKit RG
namespace RW
theorem misL_asc {p : ByteArray → Bool} {l : List ByteArray} (h : AscB l) : missB p l = l.filter fun x => !p x :=
  asc_uniq (uqB_asc _) (List.Pairwise.sublist List.filter_sublist h) fun x => by
    rw [mem_missB, List.mem_filter]
    simp
/-- what Union returns, and what the set then holds -/
def uniR (D C : Ents) : Int × Ents := if 4000 < (uniE D C).length then (60, C) else (0, uniE D C)
end RW
section
variable {ev : Operand → Value} {o : Oper} {x y : Operand} {w : World}
theorem op_x2F {D : Value → World → Prop} {k : Nat} {ts : Array TypeId} {n m : Value} (ho : o.op = .call ⟨.value (.func k), #[x, y], ts⟩) (hf : ev (.func k) = .func (.func k) #[] #[]) (hx : ev x = n) (hy : ev y = m) (hk : ∀ args w, (callFunc k args).run Tryz.prog w = .ok (.enter k args) w)
    (h : Calls Tryz.prog k #[n, m] w fun e w'' => ∃ u, e = .returned u ∧ D u w'') : XUp Tryz.prog D ((execOp ev o).run Tryz.prog w) := by
  have h1 : (execOp ev o).run Tryz.prog w = .ok (.enter k #[n, m]) w := by
    unfold execOp
    rw [ho]
    go_simp
  rw [h1]
  exact h
end
set_option maxRecDepth 100000 in
set_option maxHeartbeats 4000000 in
theorem sroot_any (K : Nat → Int) (ks : Array Value) (hks : RW.WsOk ks K) (sb mb : Nat) (C : RW.Ents) (hC : C.length ≤ 1000000) (hs : ∀ x ∈ C, x.1.size ≤ 1000000) (w : World) (hS : SetAt w sb mb C) (hK : KLaid w ks) :
    Calls Tryz.prog 85 #[.pointer (some ⟨sb, 0, none⟩)] w fun e w' => e = .returned (.string (RW.rootB K (C.map (·.1)))) ∧ Below w.heap.size w w' := by
  have hI := hide (sids_any sb mb C hC w hS)
  have hD := hide (fun W (hW : Below w.heap.size w W) v (hv : StrR W v (C.map (·.1))) => droot_any K ks hks v (C.map (·.1)) (by rw [List.length_map]; exact hC) (fun s h => by obtain ⟨x, hx, rfl⟩ := List.mem_map.1 h; exact hs x hx) W hv (RW.klaid hK hW))
  obtain ⟨R, hR⟩ : ∃ R, R = RW.rootB K (C.map (·.1)) := ⟨_, rfl⟩
  rw [← hR] at hD ⊢
  clear hS hK hs hC hR
  go_enter Tryz.func85, Tryz.ntmps85
  go_wp2_with (first
    | (go_at_call 133; refine hI.out.mono ?_; rintro e w1 ⟨u1, rfl, h1, h2⟩; have h1H := hide h1; have h2H := hide h2; clear h1 h2)
    | (go_at_call 132; refine (hD.out w1 h2H.out u1 (strs_own h1H.out)).mono ?_; rintro e w2 ⟨rfl, h2⟩; have h4H := hide (h2H.out.trans (h2.mono h2H.out.size)); clear h2))
  go_ret
  exact ⟨rfl, h4H.out⟩
theorem sroot_nil (w : World) : Calls Tryz.prog 85 #[.pointer none] w fun e w' => e = .returned (.string ⟨#[]⟩) ∧ w' = w := by
  go_enter Tryz.func85, Tryz.ntmps85
  go_wp2
  go_ret
  exact ⟨rfl, rfl⟩
theorem sadd_nil (x : RW.Fc) (w : World) : Calls Tryz.prog 84 #[.pointer none, RW.fv x] w fun e w' => e = .returned (.tuple #[.bool false, .int .i64 1]) ∧ Below w.heap.size w w' := by
  obtain ⟨cs, hcs⟩ : ∃ cs, cs = RW.fcells x.1 x.2 := ⟨_, rfl⟩
  rw [show RW.fv x = .agg cs by rw [hcs]; rfl]
  have hA := hide (alloc_bel (Below.refl w.heap.size w) (Nat.le_refl _) (.cells cs 70))
  clear hcs
  go_enter Tryz.func84, Tryz.ntmps84
  go_wp2
  go_ret2
  exact ⟨rfl, hA.out⟩
end Go.Proofs.YtllbphanfahkkaaGreatDoor
