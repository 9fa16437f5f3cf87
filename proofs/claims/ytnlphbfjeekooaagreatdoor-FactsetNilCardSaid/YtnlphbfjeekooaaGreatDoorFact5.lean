/-
  Package fact: Valid: what it returns; only new memory is written.
-/
import Derived.Test.YtnlphbfjeekooaaGreatDoorFact4
namespace Go.Proofs.YtnlphbfjeekooaaGreatDoor
open Go.RowKit
set_option maxRecDepth 100000 in
set_option maxHeartbeats 2000000 in
theorem valid_known (k fk kk : Nat) (tx : Bool) (l : List (Nat × Int × Int)) (f : Nat → Int) (s : ByteArray) (w : World) (h0 : f 0 = ((k + 1 : Nat) : Int)) (hk : k < 10) (hkv : RW.kv (k + 1) = .agg #[.func (.func fk) #[] #[], .bool tx, .func (.func kk) #[] #[]])
    (hcf : ∀ (args : Array Value) (W : World), (callFunc fk args).run Tryz.prog W = .ok (.enter fk args) W)
    (hl : RW.kf (k + 1) (f 12) = l) (hll : l.length ≤ 100) (hl02 : ∀ x ∈ l, x.1 ≠ 0 ∧ x.1 ≠ 2) (hl17 : ∀ x ∈ l, x.1 < 17) (hnd : l.Pairwise (fun a b => a.1 ≠ b.1)) (hF : ∀ (r : Nat) (W : World), r < W.heap.size → W.cell? ⟨r, 12, none⟩ = some (.int .i64 (f 12)) → Calls Tryz.prog fk #[.pointer (some ⟨r, 0, none⟩)] W (FldPost 156 r (k + 1) (f 12) W))
    (hv1 : 1 ≤ f 2) (hv2 : f 2 ≤ 1000) (hs : s.size ≤ 2000) :
    Calls Tryz.prog 75 #[.agg (RW.fcells f s)] w fun e w' => e = .returned (.bool (RW.validK l tx f s.size)) ∧ Below w.heap.size w w' := by
  have hfold := fcells_fold f s
  obtain ⟨cs, hcs⟩ : ∃ cs, cs = RW.fcells f s := ⟨_, rfl⟩
  rw [← hcs] at hfold ⊢
  obtain ⟨w1, hw1⟩ : ∃ w1, w1 = w.alloc (.cells cs 38) := ⟨_, rfl⟩
  have hH1 : w1.heap[w.heap.size]? = some (.cells cs 38 (0, 0)) := hw1 ▸ heap_alloc_new w _
  have hB1 : Below w.heap.size w w1 := hw1 ▸ (Below.refl _ _).alloc (Nat.le_refl _) _
  have hz1 : w1.heap.size = w.heap.size + 1 := hw1 ▸ World.size_alloc _ _
  have c0 : w1.cell? ⟨w.heap.size, 0, none⟩ = some (.int .i64 (f 0)) := by rw [cell_of_heap hH1, hcs, fcells_get _ _ _ (by decide)]
  have c2 : w1.cell? ⟨w.heap.size, 2, none⟩ = some (.int .i64 (f 2)) := by rw [cell_of_heap hH1, hcs, fcells_get _ _ _ (by decide)]
  have c17 : w1.cell? ⟨w.heap.size, 17, none⟩ = some (.string s) := by rw [cell_of_heap hH1, hcs, fcells_text]
  have hlt : w.heap.size < w1.heap.size := by omega
  have hA : (Instr.lookup 152 (.map (some w1.heap.size)) (.int .i64 (f 0)) true).run Tryz.prog (w1.alloc (.map (RW.kes 10) 10)).drew = .ok (.tuple #[RW.kv (k + 1), .bool true]) (w1.alloc (.map (RW.kes 10) 10)).drew := by rw [h0]; exact look_known _ _ k hk (heap_new_at rfl)
  have hB : ∀ o, (Instr.lookup 152 (.map (some (w1.heap.size + 1))) (.int .i64 (f 0)) true).run Tryz.prog ((w1.alloc o).alloc (.map (RW.kes 10) 10)).drew = .ok (.tuple #[RW.kv (k + 1), .bool true]) ((w1.alloc o).alloc (.map (RW.kes 10) 10)).drew := by rw [h0]; exact fun o => look_known _ _ k hk (heap_new_at (by simp))
  have hC : ∀ o, (Instr.lookup 152 (.map (some w1.heap.size)) (.int .i64 (f 0)) true).run Tryz.prog ((w1.alloc (.map (RW.kes 10) 10)).alloc o).drew = .ok (.tuple #[RW.kv (k + 1), .bool true]) ((w1.alloc (.map (RW.kes 10) 10)).alloc o).drew := by rw [h0]; exact fun o => look_known _ _ k hk ((Below.heap_alloc _ _ _ (by simp)).trans (heap_new_at rfl))
  have hi1 : (Tryz.prog.info? 38).map (·.size) = some cs.size := by rw [hcs]; kernel_rfl
  rw [hkv] at hA hB hC
  have hd1 : decide (f 2 < 1) = false := by simp; omega
  have hd2 : decide (1000 < f 2) = false := by simp; omega
  have hd3 : decide (2000 < (s.size : Int)) = false := by simp; omega
  have hw1' := hide hw1
  have hz1' := hide hz1
  have hcs' := hide hcs
  have hsz : cs.size = 18 := by rw [hcs]; rfl
  have h0' := hide h0
  have hl' := hide hl
  have hFH := hide hF
  have hkvH := hide hkv
  clear hw1 hz1 hcs h0 hl hF hkv
  go_enter Tryz.func75, Tryz.ntmps75
  go_upto_region 1 with fail
  rw [← hw1'.out]
  go_cut [3, 4] (fun s3 s4 wx => ∃ kb : Nat, s3 = .pointer (some ⟨kb, 0, none⟩) ∧ s4 = .bool true ∧ wx.heap[kb]? = some (.cells #[.func (.func fk) #[] #[], .bool tx, .func (.func kk) #[] #[]] 150 (0, 0)) ∧ w1.heap.size ≤ kb ∧ kb < wx.heap.size ∧ Below w1.heap.size w1 wx)
  case first =>
    go_region_held3 (fun w' => w'.cell? ⟨w.heap.size, 0, none⟩ = some (.int .i64 (f 0))) (go_keep) (first | ((with_reducible refine (kinds_any _).mono ?_); rintro e w2 ⟨rfl, rfl⟩))
    all_goals (go_wp2_with fail; go_meet)
    · exact ⟨_, rfl, rfl, heap_new_drew (by simp), by omega, by show _ < (World.alloc _ _).heap.size; simp <;> omega, (((Below.refl _ _).alloc (Nat.le_refl _) _).alloc (by simp) _).drew⟩
    · exact ⟨_, rfl, rfl, heap_new_drew (by simp), by omega, by show _ < (World.alloc _ _).heap.size; simp <;> omega, (((Below.refl _ _).alloc (Nat.le_refl _) _).alloc (by simp) _).drew⟩
    · exact ⟨_, rfl, rfl, (Below.heap_alloc _ _ _ (by simp)).trans (heap_new_at rfl), by omega, by show _ < (World.alloc _ _).heap.size; simp <;> omega, (((Below.refl _ _).alloc (Nat.le_refl _) _).alloc (by simp) _).drew⟩
  case rest =>
    obtain ⟨kb, rfl, rfl, hkb, hkb1, hkb2, hB2⟩ := hcut
    have hH2 := (hB2.block _ hlt).trans hH1
    have d2 := (World.cell?_of_block (a := ⟨w.heap.size, 2, none⟩) (hB2.block _ hlt)).trans c2
    have d17 := (World.cell?_of_block (a := ⟨w.heap.size, 17, none⟩) (hB2.block _ hlt)).trans c17
    have k0 : wc.cell? ⟨kb, 0, none⟩ = some (.func (.func fk) #[] #[]) := by rw [cell_of_heap hkb]; rfl
    have ka : ∀ o, (wc.alloc o).cell? ⟨kb, 0, none⟩ = some (.func (.func fk) #[] #[]) := fun o => (World.cell?_of_block (Below.heap_alloc wc o kb hkb2)).trans k0
    clear c0 c2 c17 hA hB hC
    go_wp2_with (refine wpList_load_row rfl 38 (.tmp 1) rfl w.heap.size rfl 38 cs (0, 0) _ hH2 Tryz.underlying38 rfl hi1 ?_)
    have hr12 : (wc.alloc (.cells cs 109)).cell? ⟨wc.heap.size, 12, none⟩ = some (.int .i64 (f 12)) := by rw [cell_of_heap (heap_alloc_new wc _), hcs'.out, fcells_get _ _ _ (by decide)]
    refine (hFH.out _ _ (by simp) hr12).mono ?_
    rintro e w7 ⟨g, rfl, hg, hge, hB7⟩
    rw [hl'.out] at hg ⊢
    have hV : RW.VInv w.heap.size kb wc.heap.size g 38 150 109 156 cs (RW.zc cs (l.take 0)) #[.func (.func fk) #[] #[], .bool tx, .func (.func kk) #[] #[]] (RW.fldsV wc.heap.size l).toArray w w7 := by
      simp only [World.size_alloc] at hge hB7
      have hz := hz1'.out
      refine ⟨(hB1.trans (hB2.mono (by omega))).trans (((Below.refl _ _).alloc (Nat.le_refl _) _).mono (by omega) |>.trans (hB7.mono (by have := hB2.size; omega))), ?_, ?_, ?_, hg, by omega, hkb2, by omega, (Array.getElem?_eq_some_iff.1 hg).1⟩
      · exact (hB7.block _ (by omega)).trans ((Below.heap_alloc _ _ _ (by omega)).trans hH2)
      · exact (hB7.block _ (by omega)).trans ((Below.heap_alloc _ _ _ (by omega)).trans hkb)
      · exact (hB7.block _ (by omega)).trans (heap_alloc_new wc _)
    clear hr12 hg hge hB7 ka k0 d2 d17 hH2 hkb hkb1 hkb2 hB2 hB1 hH1 hi1 hfold hcf
    go_wp2
    go_loopw [41] (fun i wr => ∃ j : Nat, j ≤ l.length ∧ i = .int .i64 j ∧ (∀ x ∈ l.take j, x.2.1 ≤ f x.1 ∧ f x.1 ≤ x.2.2) ∧ RW.VInv w.heap.size kb wc.heap.size g 38 150 109 156 cs (RW.zc cs (l.take j)) #[.func (.func fk) #[] #[], .bool tx, .func (.func kk) #[] #[]] (RW.fldsV wc.heap.size l).toArray w wr) (fun i _ => l.length - (intOf i).toNat)
    case atStart => exact ⟨0, Nat.zero_le _, rfl, by simp, hV⟩
    case round =>
      clear hV
      obtain ⟨j, hj, rfl, hin, hV⟩ := hrel
      by_cases hlt : j < l.length
      · obtain ⟨x, hx⟩ : ∃ x, l[j]? = some x := ⟨_, List.getElem?_eq_getElem hlt⟩
        obtain ⟨g0, g1, g2⟩ := RW.fldsV_get wc.heap.size l j x hx
        have hd4 : decide ((j : Int) < (l.length : Int)) = true := by simp; omega
        have e0 := (cell_of_heap hV.flds (j * 3)).trans (by simpa using g0)
        have e1 := (cell_of_heap hV.flds (j * 3 + 1)).trans (by simpa using g1)
        have e2 := (cell_of_heap hV.flds (j * 3 + 2)).trans (by simpa using g2)
        have hxm : x ∈ l := List.mem_of_getElem? hx
        have htk : l.take (j + 1) = l.take j ++ [x] := by
          have := List.getElem?_eq_some_iff.1 hx
          rw [List.take_succ_eq_append_getElem hlt, this.2]
        have hxn : ∀ y ∈ l.take j, y.1 ≠ x.1 := by
          intro y hy
          have h2 : (l.take (j + 1)).Pairwise (fun a b => a.1 ≠ b.1) := hnd.sublist (List.take_sublist _ _)
          rw [htk, List.pairwise_append] at h2
          exact h2.2.2 y hy x (by simp)
        have hcell : (RW.zc cs (l.take j))[x.1]? = some (.int .i64 (f x.1)) := by
          rw [RW.zc_get _ _ _ hxn, hcs'.out, fcells_get _ _ _ (hl17 x hxm)]
        have hrc := (cell_of_heap hV.rcd x.1).trans hcell
        have hrl : wc.heap.size < wr.heap.size := by have := hV.o3; have := hV.o4; omega
        have hra : ∀ o, (wr.alloc o).cell? ⟨wc.heap.size, x.1, none⟩ = some (.int .i64 (f x.1)) := fun o => (World.cell?_of_block (Below.heap_alloc wr o _ hrl)).trans hrc
        have htkH := hide htk
        have hxH := hide hx
        clear hxn hcell htk hx g0 g1 g2
        obtain ⟨xi, lo, hi⟩ := x
        dsimp only at e0 e1 e2 hrc hra
        by_cases hw : lo ≤ f xi ∧ f xi ≤ hi
        · have hw' := decide_eq_true hw
          go_wp2_with (go_at_call 107; refine (within_any wc.heap.size xi lo hi (f xi) _ (hra _) (by simp; omega)).mono ?_; rintro e w8 ⟨rfl, n8, hw8⟩; rw [hw']; have hB8 : Below wr.heap.size wr w8 := (by rw [← hw8]; exact RW.below_drewN (((Below.refl _ _).alloc (Nat.le_refl _) _).alloc (by simp) _)); have h80 : w8.heap[wr.heap.size]? = some (.cells #[.pointer (some ⟨wc.heap.size, xi, none⟩), .int .i64 lo, .int .i64 hi] 156 (0, 0)) := (by rw [← hw8]; exact (Below.heap_alloc _ _ _ (by simp)).trans (heap_alloc_new wr _)); clear hw8; have hV8 := hV.grown hB8; have c80 : w8.cell? ⟨wr.heap.size, 0, none⟩ = some (.pointer (some ⟨wc.heap.size, xi, none⟩)) := (by rw [cell_of_heap h80]; rfl); have c8r : w8.cell? ⟨wc.heap.size, xi, none⟩ = some (.int .i64 (f xi)) := (World.cell?_of_block (hB8.block _ hrl)).trans hrc; have f8r : w8.frozen? ⟨wc.heap.size, xi, none⟩ = false := (by simp [World.frozen?, hV8.rcd]))
          go_roundw
          case rel =>
            refine ⟨j + 1, by omega, by go_num, ?_, ?_⟩
            · rw [htkH.out]; intro y hy
              rcases List.mem_append.1 hy with hy | hy
              · exact hin y hy
              · simp at hy; subst hy; exact hw
            · rw [htkH.out, RW.zc_snoc]; exact hV8.set _ _
          case measure => simp [intOf]; omega
        · have hw' := decide_eq_false hw
          go_wp2_with (go_at_call 107; refine (within_any wc.heap.size xi lo hi (f xi) _ (hra _) (by simp; omega)).mono ?_; rintro e w8 ⟨rfl, n8, hw8⟩; rw [hw']; have hB8 : Below wr.heap.size wr w8 := (by rw [← hw8]; exact RW.below_drewN (((Below.refl _ _).alloc (Nat.le_refl _) _).alloc (by simp) _)); clear hw8; have hV8 := hV.grown hB8)
          go_ret
          refine ⟨?_, hV8.below⟩
          have hvf : RW.validK l tx f s.size = false := RW.dec_false (fun h => hw (h.1 _ hxm))
          rw [hvf]; rfl
      · obtain rfl : j = l.length := by omega
        rw [List.take_of_length_le (Nat.le_refl _)] at hV hin
        have hX := hV.rcd
        rw [hcs'.out, zc_fcells f s l hl17] at hX
        have hi2 : (Tryz.prog.info? 38).map (·.size) = some (RW.fcells (RW.zf f l) s).size := by kernel_rfl
        have hi3 : (Tryz.prog.info? 38).map (·.size) = some (RW.fcells (RW.zf f l) ⟨#[]⟩).size := by kernel_rfl
        have k1 : wr.cell? ⟨kb, 1, none⟩ = some (.bool tx) := by rw [cell_of_heap hV.kind]; rfl
        have d0 : wr.cell? ⟨w.heap.size, 0, none⟩ = some (.int .i64 (f 0)) := by rw [cell_of_heap hV.fact, hcs'.out, fcells_get _ _ _ (by decide)]
        have d2 : wr.cell? ⟨w.heap.size, 2, none⟩ = some (.int .i64 (f 2)) := by rw [cell_of_heap hV.fact, hcs'.out, fcells_get _ _ _ (by decide)]
        cases tx
        · have hL : ∀ W, (∃ n, W = wr.drewN n) → (Instr.loadAt 38 (.pointer (some ⟨wc.heap.size, 0, none⟩))).run Tryz.prog W = .ok (.agg (RW.fcells (RW.zf f l) s)) W := fun W hW => by
            obtain ⟨n, rfl⟩ := hW
            exact rowLoad_eq _ _ _ _ _ _ _ hX Tryz.underlying38 rfl hi2
          have hE : ∀ W, (binOp .eql 38 (.agg (RW.fcells (RW.zf f l) s)) (.agg #[.int .i64 (f 0), .int .i64 0, .int .i64 (f 2), .int .i64 0, .int .i64 0, .int .i64 0, .int .i64 0, .int .i64 0, .int .i64 0, .int .i64 0, .int .i64 0, .int .i64 0, .int .i64 0, .int .i64 0, .int .i64 0, .int .i64 0, .int .i64 0, .string ⟨#[]⟩])).run Tryz.prog W = .ok (.bool (RW.validK l false f s.size)) W := fun W => by
            have h := eql_fact (RW.zf f l) (RW.yf f) s ⟨#[]⟩ W
            rw [RW.valid_no f l s hin hl02] at h
            exact h
          go_wp2
          refine wp_region_quiet_lit (by kernel_rfl) (by kernel_rfl) ?_
          repeat (first | (refine wpQuiet_load_row rfl 38 (.tmp 60) rfl wc.heap.size rfl _ hL ?_) | quiet_step (fail))
          refine wpQuiet_nil ?_
          intro _ hw'
          obtain ⟨nq, hw''⟩ := hw'
          subst hw''
          go_wp2
          go_ret
          exact ⟨rfl, RW.below_drewN hV.below⟩
        · have hV9 := hV.set 17 (.string ⟨#[]⟩)
          have hX9 := hV9.rcd
          rw [hcs'.out, zc_fcells f s l hl17, fcells_notext] at hX9
          have hL : ∀ W, (∃ n, W = (wr.setCell ⟨wc.heap.size, 17, none⟩ (.string ⟨#[]⟩)).drewN n) → (Instr.loadAt 38 (.pointer (some ⟨wc.heap.size, 0, none⟩))).run Tryz.prog W = .ok (.agg (RW.fcells (RW.zf f l) ⟨#[]⟩)) W := fun W hW => by
            obtain ⟨n, rfl⟩ := hW
            exact rowLoad_eq _ _ _ _ _ _ _ hX9 Tryz.underlying38 rfl hi3
          have hE : ∀ W, (binOp .eql 38 (.agg (RW.fcells (RW.zf f l) ⟨#[]⟩)) (.agg #[.int .i64 (f 0), .int .i64 0, .int .i64 (f 2), .int .i64 0, .int .i64 0, .int .i64 0, .int .i64 0, .int .i64 0, .int .i64 0, .int .i64 0, .int .i64 0, .int .i64 0, .int .i64 0, .int .i64 0, .int .i64 0, .int .i64 0, .int .i64 0, .string ⟨#[]⟩])).run Tryz.prog W = .ok (.bool (RW.validK l true f s.size)) W := fun W => by
            have h := eql_fact (RW.zf f l) (RW.yf f) ⟨#[]⟩ ⟨#[]⟩ W
            rw [RW.valid_yes f l s hin hl02] at h
            exact h
          have c17 : wr.cell? ⟨wc.heap.size, 17, none⟩ = some (.string s) := by rw [cell_of_heap hX, fcells_text]
          have f17 : wr.frozen? ⟨wc.heap.size, 17, none⟩ = false := by simp [World.frozen?, hX]
          have d0' : (wr.setCell ⟨wc.heap.size, 17, none⟩ (.string ⟨#[]⟩)).cell? ⟨w.heap.size, 0, none⟩ = some (.int .i64 (f 0)) := by rw [cell_of_heap hV9.fact, hcs'.out, fcells_get _ _ _ (by decide)]
          have d2' : (wr.setCell ⟨wc.heap.size, 17, none⟩ (.string ⟨#[]⟩)).cell? ⟨w.heap.size, 2, none⟩ = some (.int .i64 (f 2)) := by rw [cell_of_heap hV9.fact, hcs'.out, fcells_get _ _ _ (by decide)]
          clear d0 d2
          go_wp2
          refine wp_region_quiet_lit (by kernel_rfl) (by kernel_rfl) ?_
          repeat (first | (refine wpQuiet_load_row rfl 38 (.tmp 60) rfl wc.heap.size rfl _ hL ?_) | quiet_step (fail))
          refine wpQuiet_nil ?_
          intro _ hw'
          obtain ⟨nq, hw''⟩ := hw'
          subst hw''
          go_wp2
          go_ret
          exact ⟨rfl, RW.below_drewN hV9.below⟩
set_option maxRecDepth 100000 in
set_option maxHeartbeats 2000000 in
theorem valid_bad1 (k fk kk : Nat) (tx : Bool) (f : Nat → Int) (s : ByteArray) (w : World) (h0 : f 0 = ((k + 1 : Nat) : Int)) (hk : k < 10) (hkv : RW.kv (k + 1) = .agg #[.func (.func fk) #[] #[], .bool tx, .func (.func kk) #[] #[]])
    (hd1 : decide (f 2 < 1) = true) :
    Calls Tryz.prog 75 #[.agg (RW.fcells f s)] w fun e w' => e = .returned (.bool false) ∧ Below w.heap.size w w' := by
  obtain ⟨cs, hcs⟩ : ∃ cs, cs = RW.fcells f s := ⟨_, rfl⟩
  rw [← hcs]
  obtain ⟨w1, hw1⟩ : ∃ w1, w1 = w.alloc (.cells cs 38) := ⟨_, rfl⟩
  have hH1 : w1.heap[w.heap.size]? = some (.cells cs 38 (0, 0)) := hw1 ▸ heap_alloc_new w _
  have hB1 : Below w.heap.size w w1 := hw1 ▸ (Below.refl _ _).alloc (Nat.le_refl _) _
  have hz1 : w1.heap.size = w.heap.size + 1 := hw1 ▸ World.size_alloc _ _
  have c0 : w1.cell? ⟨w.heap.size, 0, none⟩ = some (.int .i64 (f 0)) := by rw [cell_of_heap hH1, hcs, fcells_get _ _ _ (by decide)]
  have c2 : w1.cell? ⟨w.heap.size, 2, none⟩ = some (.int .i64 (f 2)) := by rw [cell_of_heap hH1, hcs, fcells_get _ _ _ (by decide)]
  have c17 : w1.cell? ⟨w.heap.size, 17, none⟩ = some (.string s) := by rw [cell_of_heap hH1, hcs, fcells_text]
  have hlt : w.heap.size < w1.heap.size := by omega
  have hA : (Instr.lookup 152 (.map (some w1.heap.size)) (.int .i64 (f 0)) true).run Tryz.prog (w1.alloc (.map (RW.kes 10) 10)).drew = .ok (.tuple #[RW.kv (k + 1), .bool true]) (w1.alloc (.map (RW.kes 10) 10)).drew := by rw [h0]; exact look_known _ _ k hk (heap_new_at rfl)
  have hB : ∀ o, (Instr.lookup 152 (.map (some (w1.heap.size + 1))) (.int .i64 (f 0)) true).run Tryz.prog ((w1.alloc o).alloc (.map (RW.kes 10) 10)).drew = .ok (.tuple #[RW.kv (k + 1), .bool true]) ((w1.alloc o).alloc (.map (RW.kes 10) 10)).drew := by rw [h0]; exact fun o => look_known _ _ k hk (heap_new_at (by simp))
  have hC : ∀ o, (Instr.lookup 152 (.map (some w1.heap.size)) (.int .i64 (f 0)) true).run Tryz.prog ((w1.alloc (.map (RW.kes 10) 10)).alloc o).drew = .ok (.tuple #[RW.kv (k + 1), .bool true]) ((w1.alloc (.map (RW.kes 10) 10)).alloc o).drew := by rw [h0]; exact fun o => look_known _ _ k hk ((Below.heap_alloc _ _ _ (by simp)).trans (heap_new_at rfl))
  rw [hkv] at hA hB hC
  have hw1' := hide hw1
  have hz1' := hide hz1
  clear hw1 hz1 hcs h0 hkv
  go_enter Tryz.func75, Tryz.ntmps75
  go_upto_region 1 with fail
  rw [← hw1'.out]
  go_cut [3, 4] (fun s3 s4 wx => s4 = .bool true ∧ Below w1.heap.size w1 wx)
  case first =>
    go_region_held3 (fun w' => w'.cell? ⟨w.heap.size, 0, none⟩ = some (.int .i64 (f 0))) (go_keep) (first | ((with_reducible refine (kinds_any _).mono ?_); rintro e w2 ⟨rfl, rfl⟩))
    all_goals (go_wp2_with fail; go_meet)
    all_goals exact ⟨rfl, (((Below.refl _ _).alloc (Nat.le_refl _) _).alloc (by simp) _).drew⟩
  case rest =>
    obtain ⟨rfl, hB2⟩ := hcut
    have d2 := (World.cell?_of_block (a := ⟨w.heap.size, 2, none⟩) (hB2.block _ hlt)).trans c2
    have d17 := (World.cell?_of_block (a := ⟨w.heap.size, 17, none⟩) (hB2.block _ hlt)).trans c17
    clear c0 c2 c17 hA hB hC
    go_wp2
    go_ret
    exact ⟨rfl, hB1.trans (hB2.mono (by have := hz1'.out; omega))⟩
set_option maxRecDepth 100000 in
set_option maxHeartbeats 2000000 in
theorem valid_bad2 (k fk kk : Nat) (tx : Bool) (f : Nat → Int) (s : ByteArray) (w : World) (h0 : f 0 = ((k + 1 : Nat) : Int)) (hk : k < 10) (hkv : RW.kv (k + 1) = .agg #[.func (.func fk) #[] #[], .bool tx, .func (.func kk) #[] #[]])
    (hd1 : decide (f 2 < 1) = false) (hd2 : decide (1000 < f 2) = true) :
    Calls Tryz.prog 75 #[.agg (RW.fcells f s)] w fun e w' => e = .returned (.bool false) ∧ Below w.heap.size w w' := by
  obtain ⟨cs, hcs⟩ : ∃ cs, cs = RW.fcells f s := ⟨_, rfl⟩
  rw [← hcs]
  obtain ⟨w1, hw1⟩ : ∃ w1, w1 = w.alloc (.cells cs 38) := ⟨_, rfl⟩
  have hH1 : w1.heap[w.heap.size]? = some (.cells cs 38 (0, 0)) := hw1 ▸ heap_alloc_new w _
  have hB1 : Below w.heap.size w w1 := hw1 ▸ (Below.refl _ _).alloc (Nat.le_refl _) _
  have hz1 : w1.heap.size = w.heap.size + 1 := hw1 ▸ World.size_alloc _ _
  have c0 : w1.cell? ⟨w.heap.size, 0, none⟩ = some (.int .i64 (f 0)) := by rw [cell_of_heap hH1, hcs, fcells_get _ _ _ (by decide)]
  have c2 : w1.cell? ⟨w.heap.size, 2, none⟩ = some (.int .i64 (f 2)) := by rw [cell_of_heap hH1, hcs, fcells_get _ _ _ (by decide)]
  have c17 : w1.cell? ⟨w.heap.size, 17, none⟩ = some (.string s) := by rw [cell_of_heap hH1, hcs, fcells_text]
  have hlt : w.heap.size < w1.heap.size := by omega
  have hA : (Instr.lookup 152 (.map (some w1.heap.size)) (.int .i64 (f 0)) true).run Tryz.prog (w1.alloc (.map (RW.kes 10) 10)).drew = .ok (.tuple #[RW.kv (k + 1), .bool true]) (w1.alloc (.map (RW.kes 10) 10)).drew := by rw [h0]; exact look_known _ _ k hk (heap_new_at rfl)
  have hB : ∀ o, (Instr.lookup 152 (.map (some (w1.heap.size + 1))) (.int .i64 (f 0)) true).run Tryz.prog ((w1.alloc o).alloc (.map (RW.kes 10) 10)).drew = .ok (.tuple #[RW.kv (k + 1), .bool true]) ((w1.alloc o).alloc (.map (RW.kes 10) 10)).drew := by rw [h0]; exact fun o => look_known _ _ k hk (heap_new_at (by simp))
  have hC : ∀ o, (Instr.lookup 152 (.map (some w1.heap.size)) (.int .i64 (f 0)) true).run Tryz.prog ((w1.alloc (.map (RW.kes 10) 10)).alloc o).drew = .ok (.tuple #[RW.kv (k + 1), .bool true]) ((w1.alloc (.map (RW.kes 10) 10)).alloc o).drew := by rw [h0]; exact fun o => look_known _ _ k hk ((Below.heap_alloc _ _ _ (by simp)).trans (heap_new_at rfl))
  rw [hkv] at hA hB hC
  have hw1' := hide hw1
  have hz1' := hide hz1
  clear hw1 hz1 hcs h0 hkv
  go_enter Tryz.func75, Tryz.ntmps75
  go_upto_region 1 with fail
  rw [← hw1'.out]
  go_cut [3, 4] (fun s3 s4 wx => s4 = .bool true ∧ Below w1.heap.size w1 wx)
  case first =>
    go_region_held3 (fun w' => w'.cell? ⟨w.heap.size, 0, none⟩ = some (.int .i64 (f 0))) (go_keep) (first | ((with_reducible refine (kinds_any _).mono ?_); rintro e w2 ⟨rfl, rfl⟩))
    all_goals (go_wp2_with fail; go_meet)
    all_goals exact ⟨rfl, (((Below.refl _ _).alloc (Nat.le_refl _) _).alloc (by simp) _).drew⟩
  case rest =>
    obtain ⟨rfl, hB2⟩ := hcut
    have d2 := (World.cell?_of_block (a := ⟨w.heap.size, 2, none⟩) (hB2.block _ hlt)).trans c2
    have d17 := (World.cell?_of_block (a := ⟨w.heap.size, 17, none⟩) (hB2.block _ hlt)).trans c17
    clear c0 c2 c17 hA hB hC
    go_wp2
    go_ret
    exact ⟨rfl, hB1.trans (hB2.mono (by have := hz1'.out; omega))⟩
set_option maxRecDepth 100000 in
set_option maxHeartbeats 2000000 in
theorem valid_bad3 (k fk kk : Nat) (tx : Bool) (f : Nat → Int) (s : ByteArray) (w : World) (h0 : f 0 = ((k + 1 : Nat) : Int)) (hk : k < 10) (hkv : RW.kv (k + 1) = .agg #[.func (.func fk) #[] #[], .bool tx, .func (.func kk) #[] #[]])
    (hd1 : decide (f 2 < 1) = false) (hd2 : decide (1000 < f 2) = false) (hd3 : decide (2000 < (s.size : Int)) = true) :
    Calls Tryz.prog 75 #[.agg (RW.fcells f s)] w fun e w' => e = .returned (.bool false) ∧ Below w.heap.size w w' := by
  obtain ⟨cs, hcs⟩ : ∃ cs, cs = RW.fcells f s := ⟨_, rfl⟩
  rw [← hcs]
  obtain ⟨w1, hw1⟩ : ∃ w1, w1 = w.alloc (.cells cs 38) := ⟨_, rfl⟩
  have hH1 : w1.heap[w.heap.size]? = some (.cells cs 38 (0, 0)) := hw1 ▸ heap_alloc_new w _
  have hB1 : Below w.heap.size w w1 := hw1 ▸ (Below.refl _ _).alloc (Nat.le_refl _) _
  have hz1 : w1.heap.size = w.heap.size + 1 := hw1 ▸ World.size_alloc _ _
  have c0 : w1.cell? ⟨w.heap.size, 0, none⟩ = some (.int .i64 (f 0)) := by rw [cell_of_heap hH1, hcs, fcells_get _ _ _ (by decide)]
  have c2 : w1.cell? ⟨w.heap.size, 2, none⟩ = some (.int .i64 (f 2)) := by rw [cell_of_heap hH1, hcs, fcells_get _ _ _ (by decide)]
  have c17 : w1.cell? ⟨w.heap.size, 17, none⟩ = some (.string s) := by rw [cell_of_heap hH1, hcs, fcells_text]
  have hlt : w.heap.size < w1.heap.size := by omega
  have hA : (Instr.lookup 152 (.map (some w1.heap.size)) (.int .i64 (f 0)) true).run Tryz.prog (w1.alloc (.map (RW.kes 10) 10)).drew = .ok (.tuple #[RW.kv (k + 1), .bool true]) (w1.alloc (.map (RW.kes 10) 10)).drew := by rw [h0]; exact look_known _ _ k hk (heap_new_at rfl)
  have hB : ∀ o, (Instr.lookup 152 (.map (some (w1.heap.size + 1))) (.int .i64 (f 0)) true).run Tryz.prog ((w1.alloc o).alloc (.map (RW.kes 10) 10)).drew = .ok (.tuple #[RW.kv (k + 1), .bool true]) ((w1.alloc o).alloc (.map (RW.kes 10) 10)).drew := by rw [h0]; exact fun o => look_known _ _ k hk (heap_new_at (by simp))
  have hC : ∀ o, (Instr.lookup 152 (.map (some w1.heap.size)) (.int .i64 (f 0)) true).run Tryz.prog ((w1.alloc (.map (RW.kes 10) 10)).alloc o).drew = .ok (.tuple #[RW.kv (k + 1), .bool true]) ((w1.alloc (.map (RW.kes 10) 10)).alloc o).drew := by rw [h0]; exact fun o => look_known _ _ k hk ((Below.heap_alloc _ _ _ (by simp)).trans (heap_new_at rfl))
  rw [hkv] at hA hB hC
  have hw1' := hide hw1
  have hz1' := hide hz1
  clear hw1 hz1 hcs h0 hkv
  go_enter Tryz.func75, Tryz.ntmps75
  go_upto_region 1 with fail
  rw [← hw1'.out]
  go_cut [3, 4] (fun s3 s4 wx => s4 = .bool true ∧ Below w1.heap.size w1 wx)
  case first =>
    go_region_held3 (fun w' => w'.cell? ⟨w.heap.size, 0, none⟩ = some (.int .i64 (f 0))) (go_keep) (first | ((with_reducible refine (kinds_any _).mono ?_); rintro e w2 ⟨rfl, rfl⟩))
    all_goals (go_wp2_with fail; go_meet)
    all_goals exact ⟨rfl, (((Below.refl _ _).alloc (Nat.le_refl _) _).alloc (by simp) _).drew⟩
  case rest =>
    obtain ⟨rfl, hB2⟩ := hcut
    have d2 := (World.cell?_of_block (a := ⟨w.heap.size, 2, none⟩) (hB2.block _ hlt)).trans c2
    have d17 := (World.cell?_of_block (a := ⟨w.heap.size, 17, none⟩) (hB2.block _ hlt)).trans c17
    clear c0 c2 c17 hA hB hC
    go_wp2
    go_ret
    exact ⟨rfl, hB1.trans (hB2.mono (by have := hz1'.out; omega))⟩
theorem find_unknown (x : Int) (h : x < 1 ∨ 10 < x) : Instr.findNow (.int .i64) (.int .i64 x) (RW.kes 10).toList 0 = some none := by
  have h' : ∀ n : Int, 1 ≤ n → n ≤ 10 → (x == n) = false := fun n h1 h2 => by simp; omega
  simp [RW.kes, Instr.findNow, Instr.sameNow, h']
theorem look_unknown (W : World) (m : Nat) (x : Int) (h0 : x < 1 ∨ 10 < x) (h : W.heap[m]? = some (.map (RW.kes 10) 10)) :
    (Instr.lookup 152 (.map (some m)) (.int .i64 x) true).run Tryz.prog W = .ok (.tuple #[RW.kv 0, .bool false]) W :=
  MP.run_lookup_no (es := RW.kes 10) Tryz.underlying152 Tryz.underlying3 h (find_unknown x h0) (by kernel_rfl)
set_option maxRecDepth 100000 in
set_option maxHeartbeats 2000000 in
theorem valid_unknown (f : Nat → Int) (s : ByteArray) (w : World)(h0 : f 0 < 1 ∨ 10 < f 0) :
    Calls Tryz.prog 75 #[.agg (RW.fcells f s)] w fun e w' => e = .returned (.bool false) ∧ Below w.heap.size w w' := by
  obtain ⟨cs, hcs⟩ : ∃ cs, cs = RW.fcells f s := ⟨_, rfl⟩
  rw [← hcs]
  obtain ⟨w1, hw1⟩ : ∃ w1, w1 = w.alloc (.cells cs 38) := ⟨_, rfl⟩
  have hH1 : w1.heap[w.heap.size]? = some (.cells cs 38 (0, 0)) := hw1 ▸ heap_alloc_new w _
  have hB1 : Below w.heap.size w w1 := hw1 ▸ (Below.refl _ _).alloc (Nat.le_refl _) _
  have hz1 : w1.heap.size = w.heap.size + 1 := hw1 ▸ World.size_alloc _ _
  have c0 : w1.cell? ⟨w.heap.size, 0, none⟩ = some (.int .i64 (f 0)) := by rw [cell_of_heap hH1, hcs, fcells_get _ _ _ (by decide)]
  have c2 : w1.cell? ⟨w.heap.size, 2, none⟩ = some (.int .i64 (f 2)) := by rw [cell_of_heap hH1, hcs, fcells_get _ _ _ (by decide)]
  have c17 : w1.cell? ⟨w.heap.size, 17, none⟩ = some (.string s) := by rw [cell_of_heap hH1, hcs, fcells_text]
  have hlt : w.heap.size < w1.heap.size := by omega
  have hA : (Instr.lookup 152 (.map (some w1.heap.size)) (.int .i64 (f 0)) true).run Tryz.prog (w1.alloc (.map (RW.kes 10) 10)).drew = .ok (.tuple #[RW.kv 0, .bool false]) (w1.alloc (.map (RW.kes 10) 10)).drew := look_unknown _ _ _ h0 (heap_new_at rfl)
  have hB : ∀ o, (Instr.lookup 152 (.map (some (w1.heap.size + 1))) (.int .i64 (f 0)) true).run Tryz.prog ((w1.alloc o).alloc (.map (RW.kes 10) 10)).drew = .ok (.tuple #[RW.kv 0, .bool false]) ((w1.alloc o).alloc (.map (RW.kes 10) 10)).drew := fun o => look_unknown _ _ _ h0 (heap_new_at (by simp))
  have hC : ∀ o, (Instr.lookup 152 (.map (some w1.heap.size)) (.int .i64 (f 0)) true).run Tryz.prog ((w1.alloc (.map (RW.kes 10) 10)).alloc o).drew = .ok (.tuple #[RW.kv 0, .bool false]) ((w1.alloc (.map (RW.kes 10) 10)).alloc o).drew := fun o => look_unknown _ _ _ h0 ((Below.heap_alloc _ _ _ (by simp)).trans (heap_new_at rfl))
  unfold RW.kv at hA hB hC
  have hw1' := hide hw1
  have hz1' := hide hz1
  clear hw1 hz1 hcs h0
  go_enter Tryz.func75, Tryz.ntmps75
  go_upto_region 1 with fail
  rw [← hw1'.out]
  go_cut [3, 4] (fun s3 s4 wx => s4 = .bool false ∧ Below w1.heap.size w1 wx)
  case first =>
    go_region_held3 (fun w' => w'.cell? ⟨w.heap.size, 0, none⟩ = some (.int .i64 (f 0))) (go_keep) (first | ((with_reducible refine (kinds_any _).mono ?_); rintro e w2 ⟨rfl, rfl⟩))
    all_goals (go_wp2_with fail; go_meet)
    all_goals exact ⟨rfl, (((Below.refl _ _).alloc (Nat.le_refl _) _).alloc (by simp) _).drew⟩
  case rest =>
    obtain ⟨rfl, hB2⟩ := hcut
    have d2 := (World.cell?_of_block (a := ⟨w.heap.size, 2, none⟩) (hB2.block _ hlt)).trans c2
    have d17 := (World.cell?_of_block (a := ⟨w.heap.size, 17, none⟩) (hB2.block _ hlt)).trans c17
    clear c0 c2 c17 hA hB hC
    go_wp2
    go_ret
    exact ⟨rfl, hB1.trans (hB2.mono (by have := hz1'.out; omega))⟩
namespace RW
/-- whether a kind's facts may bear a text -/
def textK : Nat → Bool
  | 4 => true
  | 9 => true
  | _ => false
/-- a fact is valid: f its numbers, n its text's length -/
noncomputable def validB (f : Nat → Int) (n : Nat) : Bool :=
  dec ((1 ≤ f 0 ∧ f 0 ≤ 10) ∧ (1 ≤ f 2 ∧ f 2 ≤ 1000) ∧ n ≤ 2000 ∧ validK (kf (f 0).toNat (f 12)) (textK (f 0).toNat) f n = true)
end RW
theorem kinds_all (k : Nat) (hk : k < 10) (tt : Int) : ∃ fk kk : Nat, RW.kv (k + 1) = .agg #[.func (.func fk) #[] #[], .bool (RW.textK (k + 1)), .func (.func kk) #[] #[]] ∧
    (∀ (args : Array Value) (W : World), (callFunc fk args).run Tryz.prog W = .ok (.enter fk args) W) ∧ (RW.kf (k + 1) tt).length ≤ 100 ∧ (∀ x ∈ RW.kf (k + 1) tt, x.1 ≠ 0 ∧ x.1 ≠ 2) ∧ (∀ x ∈ RW.kf (k + 1) tt, x.1 < 17) ∧
    (RW.kf (k + 1) tt).Pairwise (fun a b => a.1 ≠ b.1) ∧
    ∀ (r : Nat) (W : World), r < W.heap.size → W.cell? ⟨r, 12, none⟩ = some (.int .i64 tt) → Calls Tryz.prog fk #[.pointer (some ⟨r, 0, none⟩)] W (FldPost 156 r (k + 1) tt W) := by
  match k, hk with
  | 0, _ =>
    exact ⟨_, _, rfl, enters_of Tryz.func127 (by kernel_rfl) rfl, by simp [RW.kf], by simp [RW.kf], by simp [RW.kf], by simp [RW.kf], fun r W _ _ => fields_1 r tt W⟩
  | 1, _ =>
    exact ⟨_, _, rfl, enters_of Tryz.func129 (by kernel_rfl) rfl, by simp [RW.kf], by simp [RW.kf], by simp [RW.kf], by simp [RW.kf], fun r W _ _ => fields_2 r tt W⟩
  | 2, _ =>
    exact ⟨_, _, rfl, enters_of Tryz.func130 (by kernel_rfl) rfl, by simp [RW.kf], by simp [RW.kf], by simp [RW.kf], by simp [RW.kf], fun r W hr hc => fields_3 r tt W hr hc⟩
  | 3, _ =>
    exact ⟨_, _, rfl, enters_of Tryz.func132 (by kernel_rfl) rfl, by simp [RW.kf], by simp [RW.kf], by simp [RW.kf], by simp [RW.kf], fun r W _ _ => fields_4 r tt W⟩
  | 4, _ =>
    exact ⟨_, _, rfl, enters_of Tryz.func134 (by kernel_rfl) rfl, by simp [RW.kf], by simp [RW.kf], by simp [RW.kf], by simp [RW.kf], fun r W _ _ => fields_5 r tt W⟩
  | 5, _ =>
    exact ⟨_, _, rfl, enters_of Tryz.func135 (by kernel_rfl) rfl, by simp [RW.kf], by simp [RW.kf], by simp [RW.kf], by simp [RW.kf], fun r W _ _ => fields_6 r tt W⟩
  | 6, _ =>
    exact ⟨_, _, rfl, enters_of Tryz.func137 (by kernel_rfl) rfl, by simp [RW.kf], by simp [RW.kf], by simp [RW.kf], by simp [RW.kf], fun r W _ _ => fields_7 r tt W⟩
  | 7, _ =>
    exact ⟨_, _, rfl, enters_of Tryz.func139 (by kernel_rfl) rfl, by simp [RW.kf], by simp [RW.kf], by simp [RW.kf], by simp [RW.kf], fun r W _ _ => fields_8 r tt W⟩
  | 8, _ =>
    exact ⟨_, _, rfl, enters_of Tryz.func140 (by kernel_rfl) rfl, by simp [RW.kf], by simp [RW.kf], by simp [RW.kf], by simp [RW.kf], fun r W _ _ => fields_9 r tt W⟩
  | 9, _ =>
    exact ⟨_, _, rfl, enters_of Tryz.func142 (by kernel_rfl) rfl, by simp [RW.kf], by simp [RW.kf], by simp [RW.kf], by simp [RW.kf], fun r W _ _ => fields_10 r tt W⟩
theorem valid_any (f : Nat → Int) (s : ByteArray) (w : World) :
    Calls Tryz.prog 75 #[.agg (RW.fcells f s)] w fun e w' => e = .returned (.bool (RW.validB f s.size)) ∧ Below w.heap.size w w' := by
  by_cases h : 1 ≤ f 0 ∧ f 0 ≤ 10
  · obtain ⟨k, hk⟩ : ∃ k : Nat, f 0 = ((k + 1 : Nat) : Int) := ⟨(f 0 - 1).toNat, by omega⟩
    have hk10 : k < 10 := by omega
    have hkn : (f 0).toNat = k + 1 := by omega
    obtain ⟨fk, kk, hkv, hcf, hll, hl02, hl17, hnd, hF⟩ := kinds_all k hk10 (f 12)
    by_cases h1 : f 2 < 1
    · have e : RW.validB f s.size = false := RW.dec_false (fun hp => by omega)
      rw [e]; exact valid_bad1 k fk kk _ f s w hk hk10 hkv (decide_eq_true h1)
    · by_cases h2 : 1000 < f 2
      · have e : RW.validB f s.size = false := RW.dec_false (fun hp => by omega)
        rw [e]; exact valid_bad2 k fk kk _ f s w hk hk10 hkv (decide_eq_false h1) (decide_eq_true h2)
      · by_cases h3 : 2000 < (s.size : Int)
        · have e : RW.validB f s.size = false := RW.dec_false (fun hp => by omega)
          rw [e]; exact valid_bad3 k fk kk _ f s w hk hk10 hkv (decide_eq_false h1) (decide_eq_false h2) (decide_eq_true h3)
        · have e : RW.validB f s.size = RW.validK (RW.kf (k + 1) (f 12)) (RW.textK (k + 1)) f s.size := by
            refine (RW.dec_eq ?_).symm
            rw [hkn]
            exact ⟨fun hp => ⟨h, by omega, by omega, hp⟩, fun hp => hp.2.2.2⟩
          rw [e]
          exact valid_known k fk kk _ _ f s w hk hk10 hkv hcf rfl hll hl02 hl17 hnd hF (by omega) (by omega) (by omega)
  · have e : RW.validB f s.size = false := RW.dec_false (fun hp => h hp.1)
    rw [e]; exact valid_unknown f s w (by omega)
end Go.Proofs.YtnlphbfjeekooaaGreatDoor
