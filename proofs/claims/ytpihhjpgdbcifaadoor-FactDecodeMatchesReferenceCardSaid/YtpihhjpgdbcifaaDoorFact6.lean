/-
  Package fact: Same and Key: what they return; only new memory is written.
-/
import Derived.Test.YtpihhjpgdbcifaaDoorFact5
namespace Go.Proofs.YtpihhjpgdbcifaaDoor
open Go.RowKit
namespace RW
def feq (f g : Nat → Int) (s u : ByteArray) : Prop := (∀ i, i < 17 → f i = g i) ∧ s = u
/-- what a fact is about, beside its kind -/
def keyK (f : Nat → Int) : Nat → Int × Int
  | 1 => (f 6, f 1)
  | 2 => (f 6, f 1)
  | 3 => (f 1, 0)
  | 4 => (f 9, f 11)
  | 5 => (f 1, 0)
  | 6 => (f 5, f 3)
  | 7 => (f 15, f 3)
  | 8 => (f 1, 0)
  | 9 => (f 11, 0)
  | 10 => (f 8, f 11)
  | _ => (0, 0)
def keyV (f : Nat → Int) : Int × Int := if 1 ≤ f 0 ∧ f 0 ≤ 10 then keyK f (f 0).toNat else (0, 0)
end RW
set_option maxRecDepth 100000 in
set_option maxHeartbeats 1000000 in
theorem same_any (f g : Nat → Int) (s u : ByteArray) (w : World) :
    Calls Tryd.prog 16 #[.agg (RW.fcells f s), .agg (RW.fcells g u)] w fun e w' => e = .returned (.bool (RW.dec (RW.feq f g s u))) ∧ Below w.heap.size w w' := by
  have hb := eql_fact f g s u
  obtain ⟨cs, hcs⟩ : ∃ cs, cs = RW.fcells f s := ⟨_, rfl⟩
  obtain ⟨cs', hcs'⟩ : ∃ cs, cs = RW.fcells g u := ⟨_, rfl⟩
  have hn : cs.size = 18 := by rw [hcs]; rfl
  have hn' : cs'.size = 18 := by rw [hcs']; rfl
  rw [← hcs, ← hcs'] at hb ⊢
  unfold RW.feq
  clear hcs hcs'
  have h1 : ((w.alloc (.cells cs 23)).alloc (.cells cs' 23)).heap[w.heap.size]? = some (.cells cs 23 (0, 0)) := (Below.heap_alloc _ _ _ (by simp)).trans (heap_alloc_new w _)
  have h2 : ((w.alloc (.cells cs 23)).alloc (.cells cs' 23)).heap[w.heap.size + 1]? = some (.cells cs' 23 (0, 0)) := by
    have := heap_alloc_new (w.alloc (.cells cs 23)) (.cells cs' 23); rwa [World.size_alloc] at this
  have hi1 : (Tryd.prog.info? 23).map (·.size) = some cs.size := by rw [hn]; kernel_rfl
  have hi2 : (Tryd.prog.info? 23).map (·.size) = some cs'.size := by rw [hn']; kernel_rfl
  have hnH := hide hn; have hnH' := hide hn'
  clear hn hn'
  generalize RW.dec _ = b at hb ⊢
  go_enter Tryd.func16, Tryd.ntmps16
  go_wp2_with (first | (refine wpList_load_row rfl 23 (.tmp 2) rfl w.heap.size rfl 23 cs (0, 0) _ h1 Tryd.underlying23 rfl hi1 ?_) | (refine wpList_load_row rfl 23 (.tmp 3) rfl (w.heap.size + 1) rfl 23 cs' (0, 0) _ h2 Tryd.underlying23 rfl hi2 ?_))
  go_ret
  exact ⟨rfl, ((Below.refl _ _).alloc (Nat.le_refl _) _).alloc (by simp) _⟩
set_option maxRecDepth 100000 in
set_option maxHeartbeats 2000000 in
theorem key_known (k fk kk : Nat) (tx : Bool) (a b : Int) (f : Nat → Int) (s : ByteArray) (w : World) (h0 : f 0 = ((k + 1 : Nat) : Int)) (hk : k < 10) (hkv : RW.kv (k + 1) = .agg #[.func (.func fk) #[] #[], .bool tx, .func (.func kk) #[] #[]])
    (hcf : ∀ (args : Array Value) (W : World), (callFunc kk args).run Tryd.prog W = .ok (.enter kk args) W)
    (hF : ∀ W : World, Calls Tryd.prog kk #[.agg (RW.fcells f s)] W fun e w' => e = .returned (.tuple #[.int .i64 a, .int .i64 b]) ∧ Below W.heap.size W w') :
    Calls Tryd.prog 17 #[.agg (RW.fcells f s)] w fun e w' => e = .returned (.agg #[.int .i64 (f 0), .int .i64 a, .int .i64 b]) ∧ Below w.heap.size w w' := by
  obtain ⟨cs, hcs⟩ : ∃ cs, cs = RW.fcells f s := ⟨_, rfl⟩
  rw [← hcs] at hF ⊢
  obtain ⟨w1, hw1⟩ : ∃ w1, w1 = (w.alloc (.cells cs 23)).alloc (.cells #[.int .i64 0, .int .i64 0, .int .i64 0] 28) := ⟨_, rfl⟩
  have hH1 : w1.heap[w.heap.size]? = some (.cells cs 23 (0, 0)) := hw1 ▸ (Below.heap_alloc _ _ _ (by simp)).trans (heap_alloc_new w _)
  have hZ1 : w1.heap[w.heap.size + 1]? = some (.cells #[.int .i64 0, .int .i64 0, .int .i64 0] 28 (0, 0)) := hw1 ▸ heap_new_at (by simp)
  have hB1 : Below w.heap.size w w1 := hw1 ▸ ((Below.refl _ _).alloc (Nat.le_refl _) _).alloc (by simp) _
  have hz1 : w1.heap.size = w.heap.size + 2 := hw1 ▸ (by simp)
  have c0 : w1.cell? ⟨w.heap.size, 0, none⟩ = some (.int .i64 (f 0)) := by rw [cell_of_heap hH1, hcs, fcells_get _ _ _ (by decide)]
  have hlt : w.heap.size < w1.heap.size := by omega
  have hA : (Instr.lookup 46 (.map (some w1.heap.size)) (.int .i64 (f 0)) true).run Tryd.prog (w1.alloc (.map (RW.kes 10) 10)).drew = .ok (.tuple #[RW.kv (k + 1), .bool true]) (w1.alloc (.map (RW.kes 10) 10)).drew := by rw [h0]; exact look_known _ _ k hk (heap_new_at rfl)
  have hB : ∀ o, (Instr.lookup 46 (.map (some (w1.heap.size + 1))) (.int .i64 (f 0)) true).run Tryd.prog ((w1.alloc o).alloc (.map (RW.kes 10) 10)).drew = .ok (.tuple #[RW.kv (k + 1), .bool true]) ((w1.alloc o).alloc (.map (RW.kes 10) 10)).drew := by rw [h0]; exact fun o => look_known _ _ k hk (heap_new_at (by simp))
  have hC : ∀ o, (Instr.lookup 46 (.map (some w1.heap.size)) (.int .i64 (f 0)) true).run Tryd.prog ((w1.alloc (.map (RW.kes 10) 10)).alloc o).drew = .ok (.tuple #[RW.kv (k + 1), .bool true]) ((w1.alloc (.map (RW.kes 10) 10)).alloc o).drew := by rw [h0]; exact fun o => look_known _ _ k hk ((Below.heap_alloc _ _ _ (by simp)).trans (heap_new_at rfl))
  have hi1 : (Tryd.prog.info? 23).map (·.size) = some cs.size := by rw [hcs]; kernel_rfl
  rw [hkv] at hA hB hC
  have hw1' := hide hw1
  have hz1' := hide hz1
  have hcs' := hide hcs
  have h0' := hide h0
  have hFH := hide hF
  have hsz : cs.size = 18 := by rw [hcs]; rfl
  clear hw1 hz1 hcs h0 hkv hF
  have hi3 : (Tryd.prog.info? 28).map (·.size) = some (3 : Nat) := by kernel_rfl
  go_enter Tryd.func17, Tryd.ntmps17
  go_upto_region 1 with fail
  rw [← hw1'.out]
  go_cut [3, 4] (fun s3 s4 wx => ∃ kb : Nat, s3 = .pointer (some ⟨kb, 0, none⟩) ∧ s4 = .bool true ∧ wx.heap[kb]? = some (.cells #[.func (.func fk) #[] #[], .bool tx, .func (.func kk) #[] #[]] 44 (0, 0)) ∧ w1.heap.size ≤ kb ∧ kb < wx.heap.size ∧ Below w1.heap.size w1 wx)
  case first =>
    go_region_held3 (fun w' => w'.cell? ⟨w.heap.size, 0, none⟩ = some (.int .i64 (f 0))) (go_keep) (first | ((with_reducible refine (kinds_any _).mono ?_); rintro e w2 ⟨rfl, rfl⟩))
    all_goals (go_wp2_with fail; go_meet)
    · exact ⟨_, rfl, rfl, heap_new_drew (by simp), by omega, by show _ < (World.alloc _ _).heap.size; simp, (((Below.refl _ _).alloc (Nat.le_refl _) _).alloc (by simp) _).drew⟩
    · exact ⟨_, rfl, rfl, heap_new_drew (by simp), by omega, by show _ < (World.alloc _ _).heap.size; simp, (((Below.refl _ _).alloc (Nat.le_refl _) _).alloc (by simp) _).drew⟩
    · exact ⟨_, rfl, rfl, (Below.heap_alloc _ _ _ (by simp)).trans (heap_new_at rfl), by omega, by show _ < (World.alloc _ _).heap.size; simp <;> omega, (((Below.refl _ _).alloc (Nat.le_refl _) _).alloc (by simp) _).drew⟩
  case rest =>
    obtain ⟨kb, rfl, rfl, hkb, hkb1, hkb2, hB2⟩ := hcut
    have hH2 := (hB2.block _ hlt).trans hH1
    have hZ2 := (hB2.block _ (by have := hz1'.out; omega)).trans hZ1
    have k2 : wc.cell? ⟨kb, 2, none⟩ = some (.func (.func kk) #[] #[]) := by rw [cell_of_heap hkb]; rfl
    have hll : w.heap.size + 1 < wc.heap.size := by have := hz1'.out; have := hB2.size; omega
    clear c0 hA hB hC
    go_wp2_with (refine wpList_load_row rfl 23 (.tmp 1) rfl w.heap.size rfl 23 cs (0, 0) _ hH2 Tryd.underlying23 rfl hi1 ?_)
    refine (hFH.out _).mono ?_
    rintro e w3 ⟨rfl, hB3⟩
    have hH3 := (hB3.block _ (by omega)).trans hH2
    have hZ3 := (hB3.block _ hll).trans hZ2
    have d0 : w3.cell? ⟨w.heap.size, 0, none⟩ = some (.int .i64 (f 0)) := by rw [cell_of_heap hH3, hcs'.out, fcells_get _ _ _ (by decide)]
    have hBB : Below w.heap.size w w3 := hB1.trans ((hB2.mono (by have := hz1'.out; omega)).trans (hB3.mono (by omega)))
    clear k2 hH2 hZ2 hZ1 hH1 hB2 hB3
    go_wp2_with (refine wpList_store_row rfl 28 (.tmp 2) (.tmp 30) rfl (w.heap.size + 1) #[.int .i64 (f 0), .int .i64 a, .int .i64 b] rfl rfl 28 _ hZ3 hi3 rfl (by simp [Value.oneCell']) ?_)

    refine bodyPost_ret (results_cell_row rfl _ _ (w.heap.size + 1) 28 #[.int .i64 (f 0), .int .i64 a, .int .i64 b] (0, 0) _ rfl (setRow_heap _ _ _ _ _ _ hZ3) Tryd.underlying28 rfl hi3) rfl ⟨rfl, RW.below_setRow hBB (by omega) _⟩
set_option maxRecDepth 100000 in
set_option maxHeartbeats 2000000 in
theorem key_unknown (f : Nat → Int) (s : ByteArray) (w : World) (h0 : f 0 < 1 ∨ 10 < f 0) :
    Calls Tryd.prog 17 #[.agg (RW.fcells f s)] w fun e w' => e = .returned (.agg #[.int .i64 (f 0), .int .i64 0, .int .i64 0]) ∧ Below w.heap.size w w' := by
  obtain ⟨cs, hcs⟩ : ∃ cs, cs = RW.fcells f s := ⟨_, rfl⟩
  rw [← hcs]
  obtain ⟨w1, hw1⟩ : ∃ w1, w1 = (w.alloc (.cells cs 23)).alloc (.cells #[.int .i64 0, .int .i64 0, .int .i64 0] 28) := ⟨_, rfl⟩
  have hH1 : w1.heap[w.heap.size]? = some (.cells cs 23 (0, 0)) := hw1 ▸ (Below.heap_alloc _ _ _ (by simp)).trans (heap_alloc_new w _)
  have hZ1 : w1.heap[w.heap.size + 1]? = some (.cells #[.int .i64 0, .int .i64 0, .int .i64 0] 28 (0, 0)) := hw1 ▸ heap_new_at (by simp)
  have hB1 : Below w.heap.size w w1 := hw1 ▸ ((Below.refl _ _).alloc (Nat.le_refl _) _).alloc (by simp) _
  have hz1 : w1.heap.size = w.heap.size + 2 := hw1 ▸ (by simp)
  have c0 : w1.cell? ⟨w.heap.size, 0, none⟩ = some (.int .i64 (f 0)) := by rw [cell_of_heap hH1, hcs, fcells_get _ _ _ (by decide)]
  have hlt : w.heap.size < w1.heap.size := by omega
  have hA : (Instr.lookup 46 (.map (some w1.heap.size)) (.int .i64 (f 0)) true).run Tryd.prog (w1.alloc (.map (RW.kes 10) 10)).drew = .ok (.tuple #[RW.kv 0, .bool false]) (w1.alloc (.map (RW.kes 10) 10)).drew := look_unknown _ _ _ h0 (heap_new_at rfl)
  have hB : ∀ o, (Instr.lookup 46 (.map (some (w1.heap.size + 1))) (.int .i64 (f 0)) true).run Tryd.prog ((w1.alloc o).alloc (.map (RW.kes 10) 10)).drew = .ok (.tuple #[RW.kv 0, .bool false]) ((w1.alloc o).alloc (.map (RW.kes 10) 10)).drew := fun o => look_unknown _ _ _ h0 (heap_new_at (by simp))
  have hC : ∀ o, (Instr.lookup 46 (.map (some w1.heap.size)) (.int .i64 (f 0)) true).run Tryd.prog ((w1.alloc (.map (RW.kes 10) 10)).alloc o).drew = .ok (.tuple #[RW.kv 0, .bool false]) ((w1.alloc (.map (RW.kes 10) 10)).alloc o).drew := fun o => look_unknown _ _ _ h0 ((Below.heap_alloc _ _ _ (by simp)).trans (heap_new_at rfl))
  unfold RW.kv at hA hB hC
  have hw1' := hide hw1
  have hz1' := hide hz1
  have hcs' := hide hcs
  clear hw1 hz1 hcs h0
  have hi3 : (Tryd.prog.info? 28).map (·.size) = some (3 : Nat) := by kernel_rfl
  go_enter Tryd.func17, Tryd.ntmps17
  go_upto_region 1 with fail
  rw [← hw1'.out]
  go_cut [3, 4] (fun s3 s4 wx => s4 = .bool false ∧ Below w1.heap.size w1 wx)
  case first =>
    go_region_held3 (fun w' => w'.cell? ⟨w.heap.size, 0, none⟩ = some (.int .i64 (f 0))) (go_keep) (first | ((with_reducible refine (kinds_any _).mono ?_); rintro e w2 ⟨rfl, rfl⟩))
    all_goals (go_wp2_with fail; go_meet)
    all_goals exact ⟨rfl, (((Below.refl _ _).alloc (Nat.le_refl _) _).alloc (by simp) _).drew⟩
  case rest =>
    obtain ⟨rfl, hB2⟩ := hcut
    have hH2 := (hB2.block _ hlt).trans hH1
    have hZ2 := (hB2.block _ (by have := hz1'.out; omega)).trans hZ1
    have d0 : wc.cell? ⟨w.heap.size, 0, none⟩ = some (.int .i64 (f 0)) := by rw [cell_of_heap hH2, hcs'.out, fcells_get _ _ _ (by decide)]
    have hBB : Below w.heap.size w wc := hB1.trans (hB2.mono (by have := hz1'.out; omega))
    clear c0 hA hB hC hH1 hZ1 hB2 hH2
    go_wp2_with (refine wpList_store_row rfl 28 (.tmp 2) (.tmp 18) rfl (w.heap.size + 1) #[.int .i64 (f 0), .int .i64 0, .int .i64 0] rfl rfl 28 _ hZ2 hi3 rfl (by simp [Value.oneCell']) ?_)
    refine bodyPost_ret (results_cell_row rfl _ _ (w.heap.size + 1) 28 #[.int .i64 (f 0), .int .i64 0, .int .i64 0] (0, 0) _ rfl (setRow_heap _ _ _ _ _ _ hZ2) Tryd.underlying28 rfl hi3) rfl ⟨rfl, RW.below_setRow hBB (by omega) _⟩
theorem keys_all (f : Nat → Int) (s : ByteArray) (k : Nat) (hk : k < 10) : ∃ (fk kk : Nat) (tx : Bool), RW.kv (k + 1) = .agg #[.func (.func fk) #[] #[], .bool tx, .func (.func kk) #[] #[]] ∧
    (∀ (args : Array Value) (W : World), (callFunc kk args).run Tryd.prog W = .ok (.enter kk args) W) ∧
    ∀ W : World, Calls Tryd.prog kk #[.agg (RW.fcells f s)] W fun e w' => e = .returned (.tuple #[.int .i64 (RW.keyK f (k + 1)).1, .int .i64 (RW.keyK f (k + 1)).2]) ∧ Below W.heap.size W w' := by
  match k, hk with
  | 0, _ => exact ⟨_, _, _, rfl, enters_of Tryd.func50 (by kernel_rfl) rfl, fun W => byDevice_any f s W⟩
  | 1, _ => exact ⟨_, _, _, rfl, enters_of Tryd.func50 (by kernel_rfl) rfl, fun W => byDevice_any f s W⟩
  | 2, _ => exact ⟨_, _, _, rfl, enters_of Tryd.func53 (by kernel_rfl) rfl, fun W => byID_any f s W⟩
  | 3, _ => exact ⟨_, _, _, rfl, enters_of Tryd.func55 (by kernel_rfl) rfl, fun W => byHolder_any f s W⟩
  | 4, _ => exact ⟨_, _, _, rfl, enters_of Tryd.func53 (by kernel_rfl) rfl, fun W => byID_any f s W⟩
  | 5, _ => exact ⟨_, _, _, rfl, enters_of Tryd.func58 (by kernel_rfl) rfl, fun W => byAccount_any f s W⟩
  | 6, _ => exact ⟨_, _, _, rfl, enters_of Tryd.func60 (by kernel_rfl) rfl, fun W => byCurrency_any f s W⟩
  | 7, _ => exact ⟨_, _, _, rfl, enters_of Tryd.func53 (by kernel_rfl) rfl, fun W => byID_any f s W⟩
  | 8, _ => exact ⟨_, _, _, rfl, enters_of Tryd.func63 (by kernel_rfl) rfl, fun W => byFrom_any f s W⟩
  | 9, _ => exact ⟨_, _, _, rfl, enters_of Tryd.func65 (by kernel_rfl) rfl, fun W => byTerritory_any f s W⟩
theorem key_any (f : Nat → Int) (s : ByteArray) (w : World) :
    Calls Tryd.prog 17 #[.agg (RW.fcells f s)] w fun e w' => e = .returned (.agg #[.int .i64 (f 0), .int .i64 (RW.keyV f).1, .int .i64 (RW.keyV f).2]) ∧ Below w.heap.size w w' := by
  by_cases h : 1 ≤ f 0 ∧ f 0 ≤ 10
  · obtain ⟨k, hk⟩ : ∃ k : Nat, f 0 = ((k + 1 : Nat) : Int) := ⟨(f 0 - 1).toNat, by omega⟩
    obtain ⟨fk, kk, tx, hkv, hcf, hF⟩ := keys_all f s k (by omega)
    have e : RW.keyV f = RW.keyK f (k + 1) := by unfold RW.keyV; rw [if_pos h, show (f 0).toNat = k + 1 by omega]
    rw [e]
    exact key_known k fk kk tx _ _ f s w hk (by omega) hkv hcf hF
  · have e : RW.keyV f = (0, 0) := by unfold RW.keyV; rw [if_neg h]
    rw [e]
    exact key_unknown f s w (by omega)
end Go.Proofs.YtpihhjpgdbcifaaDoor
