/-
  Package ballot: a box's Ahead: what it returns; only new memory is written.
-/
import Derived.Test.YtcbckcojebanaaaDoorBox4
import Derived.Test.YtcbckcojebanaaaDoorBox3
namespace Go.Proofs.YtcbckcojebanaaaDoor
open Go.RowKit RG
namespace RW
def intK (x : Int) : Value := .int .i64 x
def aheadK (h r : Int) (k : Vk) : Bool := (k.2.2.1 == h) && decide (r ≤ k.2.2.2)
/-- the sites that have voted at a height in a round or a later one -/
def AheadOf (L : List (Vk × ByteArray)) (h r : Int) (S : List Int) : Prop := S.Nodup ∧ ∀ f, f ∈ S ↔ ∃ x ∈ L, x.1.1 = f ∧ aheadK h r x.1 = true
theorem isSome_mem {S : List (Int × Value)} {f : Int} : (KM.get f S).isSome = true ↔ f ∈ S.map (·.1) := by
  constructor
  · intro h
    obtain ⟨v, hv⟩ := Option.isSome_iff_exists.1 h
    exact List.mem_map.2 ⟨_, KM.get_mem hv, rfl⟩
  · intro h
    cases hg : KM.get f S with
    | some v => rfl
    | none =>
      obtain ⟨x, hx, rfl⟩ := List.mem_map.1 h
      exact absurd rfl (KM.get_none.1 hg x hx)
end RW
theorem intKey : KM.Key Tryd.prog 3 RW.intK := KM.int_key Tryd.underlying3
theorem ahead_nil (w : World) (h r : Int) : Calls Tryd.prog 37 #[.pointer none, .int .i64 h, .int .i64 r] w fun e w' => e = .returned (.int .i64 0) ∧ w = w' := by
  go_enter Tryd.func37, Tryd.ntmps37
  go_wp2
  go_ret
  exact ⟨rfl, rfl⟩
set_option maxRecDepth 100000 in
set_option maxHeartbeats 4000000 in
theorem ahead_any (bx mb : Nat) (N : Int) (L : List (RW.Vk × ByteArray)) (w : World) (hb : BoxAt w bx mb N L) (h r : Int) :
    Calls Tryd.prog 37 #[.pointer (some ⟨bx, 0, none⟩), .int .i64 h, .int .i64 r] w fun e w' => (∃ S : List Int, e = .returned (.int .i64 S.length) ∧ RW.AheadOf L h r S) ∧ Below w.heap.size w w' := by
  have hlt := hb.lt
  have hmk : ∀ W, (Instr.makeMap 98 none).run Tryd.prog W = .ok (.map (some W.heap.size)) (W.alloc (.map #[] 0)) := fun _ => rfl
  obtain ⟨B, hB⟩ : ∃ B, B = w.heap.size := ⟨_, rfl⟩
  have hst : KM.OwnM RW.intK (w.alloc (.map #[] 0)) B [] := by rw [hB]; exact KM.OwnM.made w
  have hB0 : Below B w (w.alloc (.map #[] 0)) := (Below.refl B w).alloc (by omega) _
  have hsz : (w.alloc (.map #[] 0)).heap.size = B + 1 := by rw [hB]; simp
  rw [← hB] at hlt
  have hbH := hide hb
  have hltH := hide hlt
  have hBH := hide hB
  clear hb hlt hB
  go_enter Tryd.func37, Tryd.ntmps37
  go_upto_region 4 with fail
  rw [← hBH.out]
  refine gen_world (fun W => KM.OwnM RW.intK W B [] ∧ Below B w W ∧ W.heap.size = B + 1) ⟨hst, hB0, hsz⟩ ?_
  clear hst hB0 hsz hmk
  rintro W1 ⟨hs1, hB1, hz1⟩
  have hb1 : BoxAt W1 bx mb N L := hbH.out.keep (hB1.block _ hltH.out.1) (hB1.block _ hltH.out.2)
  have c1 : W1.cell? ⟨bx, 1, none⟩ = some (.map (some mb)) := (cell_at hb1.row 1).trans rfl
  have hmt : Tryd.prog.underlying 88 = some (.map 94 9) := Tryd.underlying88
  obtain ⟨o, hrg, hit⟩ := hb1.own.range hmt
  have hnd := hide hb1.own.nodup
  have hs2 : KM.OwnM RW.intK (W1.alloc o) B [] := hs1.keep (Below.heap_alloc _ _ _ hs1.lt)
  have hB2 : Below B w (W1.alloc o) := hB1.alloc (by omega) o
  rw [hz1] at hit
  have hitH := hide hit
  have hs2H := hide hs2
  have hB2H := hide hB2
  have hz2 := hide hz1
  clear hit hs2 hB2 hs1 hB1 hb1 hmt hz1
  go_wp2
  rw [hz2.out]
  go_loopw [8] (fun _ wr => ∃ (done : List RW.Vk) (S : List (Int × Value)), KM.IterM RW.kv4 wr mb (B + 1) (L.map fun x => (x.1, Value.string x.2)) done ∧ KM.OwnM RW.intK wr B S ∧ Below B w wr ∧ (∀ k ∈ done, ∃ x ∈ L, x.1 = k) ∧ ∀ f, (KM.get f S).isSome = true ↔ ∃ k ∈ done, k.1 = f ∧ RW.aheadK h r k = true) (fun _ wr => KM.leftN wr mb (B + 1))
  case atStart => exact ⟨[], [], hitH.out, hs2H.out, hB2H.out, by simp, fun f => by simp [KM.get_nil]⟩
  case round =>
    clear hitH hs2H hB2H
    obtain ⟨done, S, hit, hs, hBw, hdL, hiff⟩ := hrel
    rcases hit.next (P := Tryd.prog) 0 with ⟨hall, hrun⟩ | ⟨⟨k, vx⟩, hx, hxd, w', hrun, hit', hen, hlt, h1, h2, h3, h4, h5⟩
    · have hln := hs.made_len 3 Tryd.underlying98
      have hsp : RW.AheadOf L h r (S.map (·.1)) := ⟨hs.nodup, fun f => by
        rw [← RW.isSome_mem, hiff]
        constructor
        · rintro ⟨k, hk, h1, h2⟩
          obtain ⟨x, hx, rfl⟩ := hdL k hk
          exact ⟨x, hx, h1, h2⟩
        · rintro ⟨x, hx, h1, h2⟩
          exact ⟨x.1, hall (x.1, .string x.2) (List.mem_map.2 ⟨x, hx, rfl⟩), h1, h2⟩⟩
      have hspH := hide hsp
      have hBwH := hide hBw
      have hlen : (S.map (·.1)).length = S.length := List.length_map ..
      have hlenH := hide hlen
      clear hsp hall hit hBw hiff hdL hs hlen
      go_wp2
      go_ret
      exact ⟨⟨S.map (·.1), by rw [hlenH.out] <;> rfl, hspH.out⟩, by rw [← hBH.out]; exact hBwH.out⟩
    · obtain ⟨x0, hx0, hxe⟩ := List.mem_map.1 hx
      simp only [Prod.mk.injEq] at hxe
      obtain ⟨hx1, rfl⟩ := hxe
      obtain ⟨k0, k1, k2, k3⟩ := k
      have hrun' : (Instr.next (.pointer (some ⟨B + 1, 0, none⟩)) false 0).run Tryd.prog wr = .ok (.tuple #[.bool true, .agg #[.int .i64 k0, .int .i64 k1, .int .i64 k2, .int .i64 k3], .string x0.2]) w' := hrun
      have hen' : (Instr.entry (.pointer (some ⟨B + 1, 0, none⟩))).run Tryd.prog w' = .ok (.tuple #[.agg #[.int .i64 k0, .int .i64 k1, .int .i64 k2, .int .i64 k3], .string x0.2]) w' := hen
      have hBn : Below B w w' := ⟨h1.trans hBw.os, h2.trans hBw.tape, h3.trans hBw.output, by rw [h4]; exact hBw.size, fun k hk => (h5 k (by omega)).trans (hBw.block k hk)⟩
      have hs' : KM.OwnM RW.intK w' B S := hs.keep (h5 B (by omega))
      have hw'l : B < w'.heap.size := hs'.lt
      have hdL' : ∀ k ∈ (k0, k1, k2, k3) :: done, ∃ x ∈ L, x.1 = k := fun k hk => by
        rcases List.mem_cons.1 hk with rfl | hk
        · exact ⟨x0, hx0, hx1⟩
        · exact hdL k hk
      have hA : ∀ o, KM.IterM RW.kv4 (w'.alloc o) mb (B + 1) (L.map fun x => (x.1, Value.string x.2)) ((k0, k1, k2, k3) :: done) ∧ KM.OwnM RW.intK (w'.alloc o) B S ∧ Below B w (w'.alloc o) ∧ KM.leftN (w'.alloc o) mb (B + 1) < KM.leftN wr mb (B + 1) := fun o => by
        have hl := hit'.lt
        have e1 := Below.heap_alloc w' o mb hl.1
        have e2 := Below.heap_alloc w' o (B + 1) hl.2
        exact ⟨hit'.keep e1 e2, hs'.keep (Below.heap_alloc w' o B hw'l), hBn.alloc (by omega) o, by rw [KM.leftN_keep e1 e2]; exact hlt⟩
      obtain ⟨b8, hb8⟩ : ∃ b, b = w'.heap.size := ⟨_, rfl⟩
      have hr8 : (w'.alloc (.cells #[.int .i64 k0, .int .i64 k1, .int .i64 k2, .int .i64 k3] 94)).heap[b8]? = some (.cells #[.int .i64 k0, .int .i64 k1, .int .i64 k2, .int .i64 k3] 94 (0, 0)) := heap_new_at hb8
      have hAH := hide hA
      have hr8H := hide hr8
      have hb8H := hide hb8
      have hdLH := hide hdL'
      have hiffH := hide hiff
      clear hrun hen hA hr8 hb8 hdL' hiff hit hit' hs hs' hBw hBn hlt hdL hx hxd hx1 hx0 h1 h2 h3 h4 h5 hw'l
      go_upto_region 7 with (refine wpList_store_new rfl 94 (.tmp 8) (.tmp 20) rfl #[.int .i64 k0, .int .i64 k1, .int .i64 k2, .int .i64 k3] rfl rfl 94 _ (ballot_info (k0, k1, k2, k3)) rfl rfl ?_)
      rw [← hb8H.out]
      refine gen_world (fun W => (KM.IterM RW.kv4 W mb (B + 1) (L.map fun x => (x.1, Value.string x.2)) ((k0, k1, k2, k3) :: done) ∧ KM.OwnM RW.intK W B S ∧ Below B w W ∧ KM.leftN W mb (B + 1) < KM.leftN wr mb (B + 1)) ∧ W.heap[b8]? = some (.cells #[.int .i64 k0, .int .i64 k1, .int .i64 k2, .int .i64 k3] 94 (0, 0))) ⟨hAH.out _, hr8H.out⟩ ?_
      clear hAH hr8H hb8H hrun' hen'
      rintro W ⟨⟨hit, hs, hBw, hlt⟩, hr8⟩
      have c0 : W.cell? ⟨b8, 0, none⟩ = some (.int .i64 k0) := (cell_at hr8 0).trans rfl
      have c2 : W.cell? ⟨b8, 2, none⟩ = some (.int .i64 k2) := (cell_at hr8 2).trans rfl
      have c3 : W.cell? ⟨b8, 3, none⟩ = some (.int .i64 k3) := (cell_at hr8 3).trans rfl
      have hitH := hide hit
      have hsH := hide hs
      have hBwH := hide hBw
      have hltH2 := hide hlt
      clear hr8 hit hs hBw hlt
      obtain ⟨p, hp⟩ : ∃ p, p = RW.aheadK h r (k0, k1, k2, k3) := ⟨_, rfl⟩
      have hno : p = false → ∀ f, (KM.get f S).isSome = true ↔ ∃ k ∈ (k0, k1, k2, k3) :: done, k.1 = f ∧ RW.aheadK h r k = true := fun hpf f => by
        rw [hiffH.out f]
        constructor
        · rintro ⟨k, hk, h1, h2⟩; exact ⟨k, List.mem_cons_of_mem _ hk, h1, h2⟩
        · rintro ⟨k, hk, h1, h2⟩
          rcases List.mem_cons.1 hk with rfl | hk
          · rw [← hp, hpf] at h2; cases h2
          · exact ⟨k, hk, h1, h2⟩
      have hyes : p = true → ∀ f, (KM.get f (KM.put k0 (.bool true) S)).isSome = true ↔ ∃ k ∈ (k0, k1, k2, k3) :: done, k.1 = f ∧ RW.aheadK h r k = true := fun hpt f => by
        rw [KM.get_put]
        by_cases hf : f = k0
        · subst hf
          rw [if_pos rfl]
          exact ⟨fun _ => ⟨_, List.mem_cons_self .., rfl, by rw [← hp]; exact hpt⟩, fun _ => rfl⟩
        · rw [if_neg hf, hiffH.out f]
          constructor
          · rintro ⟨k, hk, h1, h2⟩; exact ⟨k, List.mem_cons_of_mem _ hk, h1, h2⟩
          · rintro ⟨k, hk, h1, h2⟩
            rcases List.mem_cons.1 hk with rfl | hk
            · exact absurd h1.symm hf
            · exact ⟨k, hk, h1, h2⟩
      have hp2 : p = ((k2 == h) && decide (r ≤ k3)) := hp
      have hnoH := hide hno
      have hyesH := hide hyes
      clear hno hyes hp
      cases g1 : (k2 == h) with
      | false =>
        rw [g1, Bool.false_and] at hp2
        have hi := hide (hnoH.out hp2)
        clear hp2
        go_wp2
        go_roundw
        case rel => exact ⟨_, _, hitH.out, hsH.out, hBwH.out, hdLH.out, hi.out⟩
        case measure => exact hltH2.out
      | true =>
        rw [g1, Bool.true_and] at hp2
        by_cases g2 : r ≤ k3
        · rw [decide_eq_true g2] at hp2
          have hi := hide (hyesH.out hp2)
          obtain ⟨w6, hup, hown6, h1, h2, h3, h4, h5⟩ := KM.OwnM.update hsH.out intKey Tryd.underlying98 k0 (.bool true)
          have hup' : (Instr.mapUpdate 98 (.map (some B)) (.int .i64 k0) (.bool true)).run Tryd.prog W = .ok () w6 := hup
          have hB6 : Below B w w6 := ⟨h1.trans hBwH.out.os, h2.trans hBwH.out.tape, h3.trans hBwH.out.output, by rw [h4]; exact hBwH.out.size, fun k hk => (h5 k (by omega)).trans (hBwH.out.block k hk)⟩
          have hmbB := hltH.out.2
          have e1 := h5 mb (by omega)
          have e2 := h5 (B + 1) (by omega)
          have hit6 := hide (hitH.out.keep e1 e2)
          have hl6 : KM.leftN w6 mb (B + 1) < KM.leftN wr mb (B + 1) := by rw [KM.leftN_keep e1 e2]; exact hltH2.out
          have hl6H := hide hl6
          have hB6H := hide hB6
          have hown6H := hide hown6
          clear hp2 hup hown6 h1 h2 h3 h4 h5 hB6 hl6 e1 e2 hmbB
          go_wp2
          go_roundw
          case rel => exact ⟨_, _, hit6.out, hown6H.out, hB6H.out, hdLH.out, hi.out⟩
          case measure => exact hl6H.out
        · rw [decide_eq_false g2] at hp2
          have hi := hide (hnoH.out hp2)
          have g3 : k3 < r := by omega
          clear hp2 g2
          go_wp2
          go_roundw
          case rel => exact ⟨_, _, hitH.out, hsH.out, hBwH.out, hdLH.out, hi.out⟩
          case measure => exact hltH2.out
end Go.Proofs.YtcbckcojebanaaaDoor
