/-
  Package royaltyref05: Decode: it returns what the program's returns; only new memory is written.
-/
import Derived.Test.YtpihhjpgdbcifaaDoorRef10
namespace Go.Proofs.YtpihhjpgdbcifaaDoor
open Go.RowKit RG
namespace RW
/-- the first j numbers, as values -/
def ints (f : Nat → Int) (j : Nat) : List Value := (List.range j).map fun i => .int .i64 (f i)
theorem ints_len (f : Nat → Int) (j : Nat) : (ints f j).length = j := by simp [ints]
theorem ints_get (f : Nat → Int) (j i : Nat) (h : i < j) : (ints f j)[i]? = some (.int .i64 (f i)) := by simp [ints, h]
theorem ints_succ (f : Nat → Int) (j : Nat) (n : Int) : ints f j ++ [.int .i64 n] = ints (upd f j n) (j + 1) := by
  unfold ints
  rw [List.range_succ, List.map_append]
  congr 1
  · refine List.map_congr_left fun i hi => ?_
    have := List.mem_range.1 hi
    unfold upd
    rw [if_neg (by omega)]
  · simp [upd]
end RW
theorem FRows.grown {l : List (Nat × (Nat → Int) × ByteArray)} {w W W' : World} {row : Option Nat} (h : FRows l w W) (hg : W.grownBy W' row) (hne : ∀ x ∈ l, some x.1 ≠ row) (hlt : ∀ k, row = some k → w.heap.size ≤ k) : FRows l w W' :=
  ⟨h.below.grown hg h.below.size (fun k hk => hlt k hk), fun x hx => (hg.block _ (h.lt x hx) (hne x hx)).trans (h.rows x hx)⟩
/-- the worlds of a region that lays a block and fills it -/
def RW.dst3 (W : World) (O O2 : Obj) : Nat → World → Prop
  | 0, w => w = W
  | 1, w => w = W.alloc O
  | _, w => w = W.alloc O2
theorem owns_below {w w' : World} {base : Nat} {e : TypeId} {size : Nat} {v : Value} {n : Nat} {xs : List Value} (h : w.ownsRow base e size v n xs) (hB : Below w.heap.size w w') : w'.ownsRow base e size v n xs :=
  h.kept (row := none) ⟨hB.os, hB.tape, hB.output, hB.size, fun k hk _ => hB.block k hk⟩ (by cases hv : v.ownBlock <;> simp)
theorem owns_ints {w : World} {base e : Nat} {v : Value} {n : Nat} {f : Nat → Int} (h : w.ownsRow base e 1 v (n + 1) (RW.ints f (n + 1))) : ∃ g cap, v = .slice (some ⟨g, 0, none⟩) (n + 1) cap := by
  rcases h.2 with ⟨_, h2⟩ | ⟨g, cap, cur, h2, _⟩
  · omega
  · exact ⟨g, cap, h2⟩
theorem addr_add (g i : Nat) : (⟨g, 0, none⟩ : Addr).add i = ⟨g, i, none⟩ := by cases i <;> simp [Addr.add]
theorem op_alloc_fact {ev : Operand → Value} {o : Oper} {w : World} (ho : o.op = .alloc 23) : (execOp ev o).run Tryd.prog w = .ok (.value (.pointer (some ⟨w.heap.size, 0, none⟩))) (w.alloc (.cells (RW.fcells RW.zeroF ⟨#[]⟩) 23)) := by
  rw [fzero]
  unfold execOp
  rw [ho]
  go_simp
theorem op_build_fact {ev : Operand → Value} {o : Oper} {x0 x1 x2 x3 x4 x5 x6 x7 x8 x9 x10 x11 x12 x13 x14 x15 x16 x17 : Operand} {f : Nat → Int} {T : ByteArray} {w : World} (ho : o.op = .build 23 #[(0, x0), (1, x1), (2, x2), (3, x3), (4, x4), (5, x5), (6, x6), (7, x7), (8, x8), (9, x9), (10, x10), (11, x11), (12, x12), (13, x13), (14, x14), (15, x15), (16, x16), (17, x17)])
    (h0 : ev x0 = .int .i64 (f 0)) (h1 : ev x1 = .int .i64 (f 1)) (h2 : ev x2 = .int .i64 (f 2)) (h3 : ev x3 = .int .i64 (f 3)) (h4 : ev x4 = .int .i64 (f 4)) (h5 : ev x5 = .int .i64 (f 5)) (h6 : ev x6 = .int .i64 (f 6)) (h7 : ev x7 = .int .i64 (f 7)) (h8 : ev x8 = .int .i64 (f 8)) (h9 : ev x9 = .int .i64 (f 9)) (h10 : ev x10 = .int .i64 (f 10)) (h11 : ev x11 = .int .i64 (f 11)) (h12 : ev x12 = .int .i64 (f 12)) (h13 : ev x13 = .int .i64 (f 13)) (h14 : ev x14 = .int .i64 (f 14)) (h15 : ev x15 = .int .i64 (f 15)) (h16 : ev x16 = .int .i64 (f 16)) (h17 : ev x17 = .string T) :
    (execOp ev o).run Tryd.prog w = .ok (.value (.agg (RW.fcells f T))) w := by
  unfold execOp
  rw [ho]
  go_simp
  rfl
theorem op_idx {ev : Operand → Value} {o : Oper} {x y : Operand} {g n c i : Nat} {w : World} (ho : o.op = .indexAddr 82 x y) (hx : ev x = .slice (some ⟨g, 0, none⟩) n c) (hy : ev y = .int .i64 i) (hi : i < n) : (execOp ev o).run Tryd.prog w = .ok (.value (.pointer (some ⟨g, i, none⟩))) w := by
  unfold execOp
  rw [ho]
  simp only [hx, hy]
  go_simp
theorem rdec_results (tmps : Array Value) (w : World) (B : Nat) (cs : Array Value) (v : Int) (hn : cs.size = 18) (h4 : tmps[2]? = some (.pointer (some ⟨B, 0, none⟩))) (h5 : tmps[3]? = some (.int .i64 v))
    (hx : w.heap[B]? = some (.cells cs 23 (0, 0))) : (results Tryd.f26 tmps).run Tryd.prog w = .ok (.tuple #[.agg cs, .int .i64 v]) w := by
  have hi1 : (Tryd.prog.info? 23).map (·.size) = some cs.size := by rw [hn]; kernel_rfl
  have e1 := run_loadVar_row (P := Tryd.prog) w B 23 23 cs (0, 0) _ hx Tryd.underlying23 rfl hi1
  simp [results, Tryd.results26, h4, h5, asAddr, e1]
attribute [local go_sem ↓] ldRow_fact stRow_fact
set_option maxRecDepth 100000 in
set_option maxHeartbeats 8000000 in
theorem rdecode_any (s : ByteArray) (hs : s.size ≤ 1099511627776) (w : World) :
    Calls Tryd.prog 26 #[.string s] w fun e w' => e = .returned (RW.decV (RW.decF s.data.toList)) ∧ Below w.heap.size w w' := by
  obtain ⟨i0, hi, hz0, hz1, hz2⟩ := info_parts (show (Tryd.prog.info? 3).map (fun i => (i.zero, i.size, i.bytes)) = some (some (.int .i64 0), 1, 8) by kernel_rfl)
  go_enter Tryd.func26, Tryd.ntmps26
  go_wp2_with fail
  rw [← fzero]
  obtain ⟨B, hB⟩ : ∃ b, b = w.heap.size := ⟨_, rfl⟩
  have hR := FRows.new (FRows.nil (Below.refl w.heap.size w)) RW.zeroF ⟨#[]⟩
  rw [← hB] at hR ⊢
  have hBH := hide hB
  clear hB
  have hsz0 := hR.lt (B, RW.zeroF, ⟨#[]⟩) (by simp)
  simp only [] at hsz0
  go_loopw [4, 5, 6] (fun v p i wr => ∃ (j at_ : Nat) (f : Nat → Int), j ≤ 17 ∧ at_ ≤ s.size ∧ i = .int .i64 j ∧ p = .int .i64 at_ ∧ Hid (RW.decFrom (17 - j) j f (s.data.toList.drop at_) = RW.decFrom 17 0 RW.zeroF s.data.toList) ∧
      FRows [(B, RW.zeroF, ⟨#[]⟩)] w wr ∧ wr.ownsRow (B + 1) 3 1 v j (RW.ints f j))
    (fun _ _ i _ => 17 - (intOf i).toNat)
  case atStart => exact ⟨0, 0, RW.zeroF, by omega, by omega, rfl, rfl, rfl, hR, World.ownsRow_nil _ _ _ _⟩
  case round =>
    clear hR hsz0
    obtain ⟨j, at_, f, hj, hat, rfl, rfl, hd, hF, hown⟩ := hrel
    by_cases hlt : j < 17
    · have hI := rint_walk s at_ wr (by omega) hat
      rcases hD : RW.decI (s.data.toList.drop at_) with _ | ⟨n, c⟩
      · rw [hD] at hI
        have hIH := hide hI
        have hdn := hide (RW.decFrom_none (17 - j - 1) j f _ hD)
        clear hI hD
        have hF2' := fun w2 (hB2 : Below wr.heap.size wr w2) => hF.next hB2
        go_wp2_with (first
          | (go_at_call 47; refine hIH.out.mono ?_; rintro e w2 ⟨rfl, hB2⟩; unfold intRes; have s2 := (hF2' w2 hB2).store B RW.zeroF RW.zeroF ⟨#[]⟩ ⟨#[]⟩ (by simp); rw [fzero] at s2))
        have hE := (hF2' w2 hB2).put B RW.zeroF RW.zeroF ⟨#[]⟩ ⟨#[]⟩ (by simp) (by rw [hBH.out]; exact Nat.le_refl _) [(B, RW.zeroF, ⟨#[]⟩)] (by simp)
        refine bodyPost_ret (rdec_results _ _ B (RW.fcells RW.zeroF ⟨#[]⟩) 10 rfl rfl rfl (hE.rows (B, RW.zeroF, ⟨#[]⟩) (by simp))) rfl ⟨?_, hE.below⟩
        rw [RW.decF_none _ (by rw [← hd.out, show 17 - j = 17 - j - 1 + 1 by omega]; exact hdn.out)]; rfl
      · rw [hD] at hI
        have hkl := RW.decI_le _ _ _ hD
        have hnb := RW.decI_bd _ _ _ hD
        have hIH := hide hI
        have hdn := hide (RW.decFrom_some (17 - j - 1) j f _ n c hD)
        have hll : (s.data.toList.drop at_).length = s.size - at_ := by simp
        rw [hll] at hkl
        have hhd := hide hll
        clear hI hD hll
        go_wp2_with (first
          | (go_at_call 47; refine hIH.out.mono ?_; rintro e w2 ⟨rfl, hB2⟩; unfold intRes)
          | (at_builtin; refine wpList_append_own _ rfl _ _ 82 rfl (B + 1) 3 i0 (.int .i64 0) 1 8 Tryd.underlying82 hi hz0 hz1 hz2 rfl (by decide) _ _ _ rfl ((owns_below hown hB2).alloc _) ⟨w2.heap.size, 0, none⟩ 1 1 [.int .i64 n] rfl rfl ?c1 ?c2 ?c3 ?c4 ?c5 ?_))
        case c1 => exact cell_one_new _ _ _
        case c2 => intro u hu; simp at hu; subst hu; rfl
        case c3 => unfold maxLen; omega
        case c4 => omega
        case c5 => have h1 := hB2.size; have h2 := hF.lt (B, RW.zeroF, ⟨#[]⟩) (by simp); simp at h2 ⊢; omega
        intro v' w3 hown' hgrow _
        have hF3 : FRows [(B, RW.zeroF, ⟨#[]⟩)] w w3 := by
          refine ((hF.next hB2).next ((Below.refl _ _).alloc (Nat.le_refl _) _)).grown hgrow ?_ ?_
          · intro x hx h
            simp at hx; subst hx
            have := (hown.lt B h.symm).1
            omega
          · intro k hk
            have := (hown.lt k hk).1
            have := hBH.out
            omega
        have hown3 : w3.ownsRow (B + 1) 3 1 v' (j + 1) (RW.ints (RW.upd f j n) (j + 1)) := by rw [← RW.ints_succ]; exact hown'
        clear hown' hgrow hF hown
        go_wp2
        go_roundw
        case rel => exact ⟨j + 1, at_ + c, RW.upd f j n, by omega, by omega, by go_num, by go_num, by
          show _ = _
          rw [← hd.out, show 17 - j = 17 - j - 1 + 1 by omega, hdn.out, List.drop_drop, show 17 - (j + 1) = 17 - j - 1 by omega], hF3, hown3⟩
        case measure => simp [intOf]; omega
    · obtain rfl : j = 17 := by omega
      have hd17 : RW.decFrom 17 0 RW.zeroF s.data.toList = some (f, s.data.toList.drop at_) := by rw [← hd.out]; rfl
      have hd17H := hide hd17
      clear hd17 hd
      have hS := rstr_walk s at_ wr (by omega) hat
      rcases hD : RW.decS (s.data.toList.drop at_) with _ | ⟨T0, c⟩
      · rw [hD] at hS
        have hSH := hide hS
        have hDn := hide (RW.decF_bad _ _ _ hd17H.out hD)
        clear hS hD
        have hF2' := fun w2 (hB2 : Below wr.heap.size wr w2) => hF.next hB2
        go_wp2_with (first
          | (go_at_call 48; refine hSH.out.mono ?_; rintro e w2 ⟨rfl, hB2⟩; unfold strRes; have s2 := (hF2' w2 hB2).store B RW.zeroF RW.zeroF ⟨#[]⟩ ⟨#[]⟩ (by simp); rw [fzero] at s2))
        have hE := (hF2' w2 hB2).put B RW.zeroF RW.zeroF ⟨#[]⟩ ⟨#[]⟩ (by simp) (by rw [hBH.out]; exact Nat.le_refl _) [(B, RW.zeroF, ⟨#[]⟩)] (by simp)
        refine bodyPost_ret (rdec_results _ _ B (RW.fcells RW.zeroF ⟨#[]⟩) 10 rfl rfl rfl (hE.rows (B, RW.zeroF, ⟨#[]⟩) (by simp))) rfl ⟨?_, hE.below⟩
        rw [hDn.out]; rfl
      · rw [hD] at hS
        have hle := RW.decS_le _ _ _ hD
        have hll : (s.data.toList.drop at_).length = s.size - at_ := by simp
        rw [hll] at hle
        obtain ⟨T, hT⟩ : ∃ T : ByteArray, T = ⟨T0.toArray⟩ := ⟨_, rfl⟩
        have hT2 : T.size = T0.length := by rw [hT]; show Array.size _ = _; simp
        replace hS : Calls Tryd.prog 48 #[.string s, .int .i64 at_] wr fun e w' => e = .returned (.tuple #[.string T, .int .i64 (at_ + c : Nat), .int .i64 0]) ∧ Below wr.heap.size wr w' := by rw [hT]; exact hS
        have hSH := hide hS
        by_cases hc : at_ + c < s.size
        · have hDn := hide (RW.decF_more _ _ _ _ _ hd17H.out hD (by rw [hll]; omega))
          clear hS hD hll hT hT2
          have hF2' := fun w2 (hB2 : Below wr.heap.size wr w2) => hF.next hB2
          go_wp2_with (first
            | (go_at_call 48; refine hSH.out.mono ?_; rintro e w2 ⟨rfl, hB2⟩; have s2 := (hF2' w2 hB2).store B RW.zeroF RW.zeroF ⟨#[]⟩ ⟨#[]⟩ (by simp); rw [fzero] at s2))
          have hE := (hF2' w2 hB2).put B RW.zeroF RW.zeroF ⟨#[]⟩ ⟨#[]⟩ (by simp) (by rw [hBH.out]; exact Nat.le_refl _) [(B, RW.zeroF, ⟨#[]⟩)] (by simp)
          refine bodyPost_ret (rdec_results _ _ B (RW.fcells RW.zeroF ⟨#[]⟩) 10 rfl rfl rfl (hE.rows (B, RW.zeroF, ⟨#[]⟩) (by simp))) rfl ⟨?_, hE.below⟩
          rw [hDn.out]; rfl
        · have hDy := hide (RW.decF_some _ _ _ _ _ hd17H.out hD (by rw [hll]; omega))
          have hTH := hide hT
          have hT2H := hide hT2
          clear hS hD hll hT hT2
          have hV := fun W => rvalid_any f T (by rw [hT2H.out]; omega) W
          have hVH := hide hV
          clear hV
          obtain ⟨g, cap, rfl⟩ := owns_ints hown
          have hcg : ∀ i, i < 17 → wr.cell? ⟨g, i, none⟩ = some (.int .i64 (f i)) := fun i hi => by
            have := hown.cells (g := g) rfl i _ (RW.ints_get f 17 i hi)
            rwa [addr_add] at this
          have hcgH := hide hcg
          have hgl := (hown.lt g rfl).2
          clear hcg hown
          go_upto_region 12 with (go_at_call 48; refine hSH.out.mono ?_; rintro e w2 ⟨rfl, hB2⟩)
          have hF2 := hF.next hB2
          have hcg2 : ∀ i, i < 17 → w2.cell? ⟨g, i, none⟩ = some (.int .i64 (f i)) := fun i hi => (World.cell?_of_block (a := ⟨g, i, none⟩) (hB2.block _ hgl)).trans (hcgH.out i hi)
          have hcg2H := hide hcg2
          clear hcg2 hcgH hF hB2 hSH hgl
          go_upto_region 14 with fail
          obtain ⟨b, hb⟩ : ∃ b, b = w2.heap.size := ⟨_, rfl⟩
          obtain ⟨O, hO⟩ : ∃ O : Obj, O = .cells (RW.fcells RW.zeroF ⟨#[]⟩) 23 := ⟨_, rfl⟩
          obtain ⟨cs, hcs⟩ : ∃ cs, cs = RW.fcells f T := ⟨_, rfl⟩
          have hV2 := hVH.out
          rw [← hcs] at hV2
          have hVH := hide hV2
          have hcsH := hide hcs
          clear hV2 hcs
          obtain ⟨O2, hO2⟩ : ∃ O : Obj, O = .cells cs 23 := ⟨_, rfl⟩
          have hgl2 : g < w2.heap.size := World.block_lt_of_cell? _ _ (hcg2H.out 0 (by decide))
          have hcS : ∀ j w', j ≤ 1 → RW.dst3 w2.drew O O2 j w' → ∀ i, i < 17 → w'.cell? ⟨g, i, none⟩ = some (.int .i64 (f i)) := by
            intro j w' hj hS i hi
            rcases j with _ | _ | j
            · have hS : w' = w2.drew := hS
              subst hS
              exact hcg2H.out i hi
            · have hS : w' = w2.drew.alloc O := hS
              subst hS
              refine Eq.trans (World.cell?_alloc_past _ _ _ (show g < w2.drew.heap.size from hgl2)) ?_
              exact hcg2H.out i hi
            · omega
          refine wp_region_staged (RW.dst3 w2.drew O O2) [53, 54] (by kernel_rfl) (by kernel_rfl) (by rfl) rfl ?_
          refine st_val (.slice (some ⟨g, 0, none⟩) 17 cap) (by rfl) (by rfl) (fun w => rfl) ?_
          simp only [Act.put, List.setIfInBounds_toArray, List.set_cons_zero, List.set_cons_succ]
          refine st_val (.pointer (some ⟨g, 0, none⟩)) (by rfl) (by rfl) (fun w => op_idx (i := 0) rfl rfl rfl (by decide)) ?_
          simp only [Act.put, List.setIfInBounds_toArray, List.set_cons_zero, List.set_cons_succ]
          refine st_op_in 0 1 (.int .i64 (f 0)) (by rfl) (by rfl) (.inl rfl) (.inr (by decide +kernel)) (fun j w' _ hj hS => by rw [op_load_int rfl rfl (hcS j w' hj hS 0 (by decide))]; exact ⟨rfl, hS⟩) ?_
          simp only [Act.put, List.setIfInBounds_toArray, List.set_cons_zero, List.set_cons_succ]
          refine st_val (.slice (some ⟨g, 0, none⟩) 17 cap) (by rfl) (by rfl) (fun w => rfl) ?_
          simp only [Act.put, List.setIfInBounds_toArray, List.set_cons_zero, List.set_cons_succ]
          refine st_val (.pointer (some ⟨g, 1, none⟩)) (by rfl) (by rfl) (fun w => op_idx (i := 1) rfl rfl rfl (by decide)) ?_
          simp only [Act.put, List.setIfInBounds_toArray, List.set_cons_zero, List.set_cons_succ]
          refine st_op_in 0 1 (.int .i64 (f 1)) (by rfl) (by rfl) (.inl rfl) (.inr (by decide +kernel)) (fun j w' _ hj hS => by rw [op_load_int rfl rfl (hcS j w' hj hS 1 (by decide))]; exact ⟨rfl, hS⟩) ?_
          simp only [Act.put, List.setIfInBounds_toArray, List.set_cons_zero, List.set_cons_succ]
          refine st_val (.slice (some ⟨g, 0, none⟩) 17 cap) (by rfl) (by rfl) (fun w => rfl) ?_
          simp only [Act.put, List.setIfInBounds_toArray, List.set_cons_zero, List.set_cons_succ]
          refine st_val (.pointer (some ⟨g, 2, none⟩)) (by rfl) (by rfl) (fun w => op_idx (i := 2) rfl rfl rfl (by decide)) ?_
          simp only [Act.put, List.setIfInBounds_toArray, List.set_cons_zero, List.set_cons_succ]
          refine st_op_in 0 1 (.int .i64 (f 2)) (by rfl) (by rfl) (.inl rfl) (.inr (by decide +kernel)) (fun j w' _ hj hS => by rw [op_load_int rfl rfl (hcS j w' hj hS 2 (by decide))]; exact ⟨rfl, hS⟩) ?_
          simp only [Act.put, List.setIfInBounds_toArray, List.set_cons_zero, List.set_cons_succ]
          refine st_val (.slice (some ⟨g, 0, none⟩) 17 cap) (by rfl) (by rfl) (fun w => rfl) ?_
          simp only [Act.put, List.setIfInBounds_toArray, List.set_cons_zero, List.set_cons_succ]
          refine st_val (.pointer (some ⟨g, 3, none⟩)) (by rfl) (by rfl) (fun w => op_idx (i := 3) rfl rfl rfl (by decide)) ?_
          simp only [Act.put, List.setIfInBounds_toArray, List.set_cons_zero, List.set_cons_succ]
          refine st_op_in 0 1 (.int .i64 (f 3)) (by rfl) (by rfl) (.inl rfl) (.inr (by decide +kernel)) (fun j w' _ hj hS => by rw [op_load_int rfl rfl (hcS j w' hj hS 3 (by decide))]; exact ⟨rfl, hS⟩) ?_
          simp only [Act.put, List.setIfInBounds_toArray, List.set_cons_zero, List.set_cons_succ]
          refine st_val (.slice (some ⟨g, 0, none⟩) 17 cap) (by rfl) (by rfl) (fun w => rfl) ?_
          simp only [Act.put, List.setIfInBounds_toArray, List.set_cons_zero, List.set_cons_succ]
          refine st_val (.pointer (some ⟨g, 4, none⟩)) (by rfl) (by rfl) (fun w => op_idx (i := 4) rfl rfl rfl (by decide)) ?_
          simp only [Act.put, List.setIfInBounds_toArray, List.set_cons_zero, List.set_cons_succ]
          refine st_op_in 0 1 (.int .i64 (f 4)) (by rfl) (by rfl) (.inl rfl) (.inr (by decide +kernel)) (fun j w' _ hj hS => by rw [op_load_int rfl rfl (hcS j w' hj hS 4 (by decide))]; exact ⟨rfl, hS⟩) ?_
          simp only [Act.put, List.setIfInBounds_toArray, List.set_cons_zero, List.set_cons_succ]
          refine st_val (.slice (some ⟨g, 0, none⟩) 17 cap) (by rfl) (by rfl) (fun w => rfl) ?_
          simp only [Act.put, List.setIfInBounds_toArray, List.set_cons_zero, List.set_cons_succ]
          refine st_val (.pointer (some ⟨g, 5, none⟩)) (by rfl) (by rfl) (fun w => op_idx (i := 5) rfl rfl rfl (by decide)) ?_
          simp only [Act.put, List.setIfInBounds_toArray, List.set_cons_zero, List.set_cons_succ]
          refine st_op_in 0 1 (.int .i64 (f 5)) (by rfl) (by rfl) (.inl rfl) (.inr (by decide +kernel)) (fun j w' _ hj hS => by rw [op_load_int rfl rfl (hcS j w' hj hS 5 (by decide))]; exact ⟨rfl, hS⟩) ?_
          simp only [Act.put, List.setIfInBounds_toArray, List.set_cons_zero, List.set_cons_succ]
          refine st_val (.slice (some ⟨g, 0, none⟩) 17 cap) (by rfl) (by rfl) (fun w => rfl) ?_
          simp only [Act.put, List.setIfInBounds_toArray, List.set_cons_zero, List.set_cons_succ]
          refine st_val (.pointer (some ⟨g, 6, none⟩)) (by rfl) (by rfl) (fun w => op_idx (i := 6) rfl rfl rfl (by decide)) ?_
          simp only [Act.put, List.setIfInBounds_toArray, List.set_cons_zero, List.set_cons_succ]
          refine st_op_in 0 1 (.int .i64 (f 6)) (by rfl) (by rfl) (.inl rfl) (.inr (by decide +kernel)) (fun j w' _ hj hS => by rw [op_load_int rfl rfl (hcS j w' hj hS 6 (by decide))]; exact ⟨rfl, hS⟩) ?_
          simp only [Act.put, List.setIfInBounds_toArray, List.set_cons_zero, List.set_cons_succ]
          refine st_val (.slice (some ⟨g, 0, none⟩) 17 cap) (by rfl) (by rfl) (fun w => rfl) ?_
          simp only [Act.put, List.setIfInBounds_toArray, List.set_cons_zero, List.set_cons_succ]
          refine st_val (.pointer (some ⟨g, 7, none⟩)) (by rfl) (by rfl) (fun w => op_idx (i := 7) rfl rfl rfl (by decide)) ?_
          simp only [Act.put, List.setIfInBounds_toArray, List.set_cons_zero, List.set_cons_succ]
          refine st_op_in 0 1 (.int .i64 (f 7)) (by rfl) (by rfl) (.inl rfl) (.inr (by decide +kernel)) (fun j w' _ hj hS => by rw [op_load_int rfl rfl (hcS j w' hj hS 7 (by decide))]; exact ⟨rfl, hS⟩) ?_
          simp only [Act.put, List.setIfInBounds_toArray, List.set_cons_zero, List.set_cons_succ]
          refine st_val (.slice (some ⟨g, 0, none⟩) 17 cap) (by rfl) (by rfl) (fun w => rfl) ?_
          simp only [Act.put, List.setIfInBounds_toArray, List.set_cons_zero, List.set_cons_succ]
          refine st_val (.pointer (some ⟨g, 8, none⟩)) (by rfl) (by rfl) (fun w => op_idx (i := 8) rfl rfl rfl (by decide)) ?_
          simp only [Act.put, List.setIfInBounds_toArray, List.set_cons_zero, List.set_cons_succ]
          refine st_op_in 0 1 (.int .i64 (f 8)) (by rfl) (by rfl) (.inl rfl) (.inr (by decide +kernel)) (fun j w' _ hj hS => by rw [op_load_int rfl rfl (hcS j w' hj hS 8 (by decide))]; exact ⟨rfl, hS⟩) ?_
          simp only [Act.put, List.setIfInBounds_toArray, List.set_cons_zero, List.set_cons_succ]
          refine st_val (.slice (some ⟨g, 0, none⟩) 17 cap) (by rfl) (by rfl) (fun w => rfl) ?_
          simp only [Act.put, List.setIfInBounds_toArray, List.set_cons_zero, List.set_cons_succ]
          refine st_val (.pointer (some ⟨g, 9, none⟩)) (by rfl) (by rfl) (fun w => op_idx (i := 9) rfl rfl rfl (by decide)) ?_
          simp only [Act.put, List.setIfInBounds_toArray, List.set_cons_zero, List.set_cons_succ]
          refine st_op_in 0 1 (.int .i64 (f 9)) (by rfl) (by rfl) (.inl rfl) (.inr (by decide +kernel)) (fun j w' _ hj hS => by rw [op_load_int rfl rfl (hcS j w' hj hS 9 (by decide))]; exact ⟨rfl, hS⟩) ?_
          simp only [Act.put, List.setIfInBounds_toArray, List.set_cons_zero, List.set_cons_succ]
          refine st_val (.slice (some ⟨g, 0, none⟩) 17 cap) (by rfl) (by rfl) (fun w => rfl) ?_
          simp only [Act.put, List.setIfInBounds_toArray, List.set_cons_zero, List.set_cons_succ]
          refine st_val (.pointer (some ⟨g, 10, none⟩)) (by rfl) (by rfl) (fun w => op_idx (i := 10) rfl rfl rfl (by decide)) ?_
          simp only [Act.put, List.setIfInBounds_toArray, List.set_cons_zero, List.set_cons_succ]
          refine st_op_in 0 1 (.int .i64 (f 10)) (by rfl) (by rfl) (.inl rfl) (.inr (by decide +kernel)) (fun j w' _ hj hS => by rw [op_load_int rfl rfl (hcS j w' hj hS 10 (by decide))]; exact ⟨rfl, hS⟩) ?_
          simp only [Act.put, List.setIfInBounds_toArray, List.set_cons_zero, List.set_cons_succ]
          refine st_val (.slice (some ⟨g, 0, none⟩) 17 cap) (by rfl) (by rfl) (fun w => rfl) ?_
          simp only [Act.put, List.setIfInBounds_toArray, List.set_cons_zero, List.set_cons_succ]
          refine st_val (.pointer (some ⟨g, 11, none⟩)) (by rfl) (by rfl) (fun w => op_idx (i := 11) rfl rfl rfl (by decide)) ?_
          simp only [Act.put, List.setIfInBounds_toArray, List.set_cons_zero, List.set_cons_succ]
          refine st_op_in 0 1 (.int .i64 (f 11)) (by rfl) (by rfl) (.inl rfl) (.inr (by decide +kernel)) (fun j w' _ hj hS => by rw [op_load_int rfl rfl (hcS j w' hj hS 11 (by decide))]; exact ⟨rfl, hS⟩) ?_
          simp only [Act.put, List.setIfInBounds_toArray, List.set_cons_zero, List.set_cons_succ]
          refine st_val (.slice (some ⟨g, 0, none⟩) 17 cap) (by rfl) (by rfl) (fun w => rfl) ?_
          simp only [Act.put, List.setIfInBounds_toArray, List.set_cons_zero, List.set_cons_succ]
          refine st_val (.pointer (some ⟨g, 12, none⟩)) (by rfl) (by rfl) (fun w => op_idx (i := 12) rfl rfl rfl (by decide)) ?_
          simp only [Act.put, List.setIfInBounds_toArray, List.set_cons_zero, List.set_cons_succ]
          refine st_op_in 0 1 (.int .i64 (f 12)) (by rfl) (by rfl) (.inl rfl) (.inr (by decide +kernel)) (fun j w' _ hj hS => by rw [op_load_int rfl rfl (hcS j w' hj hS 12 (by decide))]; exact ⟨rfl, hS⟩) ?_
          simp only [Act.put, List.setIfInBounds_toArray, List.set_cons_zero, List.set_cons_succ]
          refine st_val (.slice (some ⟨g, 0, none⟩) 17 cap) (by rfl) (by rfl) (fun w => rfl) ?_
          simp only [Act.put, List.setIfInBounds_toArray, List.set_cons_zero, List.set_cons_succ]
          refine st_val (.pointer (some ⟨g, 13, none⟩)) (by rfl) (by rfl) (fun w => op_idx (i := 13) rfl rfl rfl (by decide)) ?_
          simp only [Act.put, List.setIfInBounds_toArray, List.set_cons_zero, List.set_cons_succ]
          refine st_op_in 0 1 (.int .i64 (f 13)) (by rfl) (by rfl) (.inl rfl) (.inr (by decide +kernel)) (fun j w' _ hj hS => by rw [op_load_int rfl rfl (hcS j w' hj hS 13 (by decide))]; exact ⟨rfl, hS⟩) ?_
          simp only [Act.put, List.setIfInBounds_toArray, List.set_cons_zero, List.set_cons_succ]
          refine st_val (.slice (some ⟨g, 0, none⟩) 17 cap) (by rfl) (by rfl) (fun w => rfl) ?_
          simp only [Act.put, List.setIfInBounds_toArray, List.set_cons_zero, List.set_cons_succ]
          refine st_val (.pointer (some ⟨g, 14, none⟩)) (by rfl) (by rfl) (fun w => op_idx (i := 14) rfl rfl rfl (by decide)) ?_
          simp only [Act.put, List.setIfInBounds_toArray, List.set_cons_zero, List.set_cons_succ]
          refine st_op_in 0 1 (.int .i64 (f 14)) (by rfl) (by rfl) (.inl rfl) (.inr (by decide +kernel)) (fun j w' _ hj hS => by rw [op_load_int rfl rfl (hcS j w' hj hS 14 (by decide))]; exact ⟨rfl, hS⟩) ?_
          simp only [Act.put, List.setIfInBounds_toArray, List.set_cons_zero, List.set_cons_succ]
          refine st_val (.slice (some ⟨g, 0, none⟩) 17 cap) (by rfl) (by rfl) (fun w => rfl) ?_
          simp only [Act.put, List.setIfInBounds_toArray, List.set_cons_zero, List.set_cons_succ]
          refine st_val (.pointer (some ⟨g, 15, none⟩)) (by rfl) (by rfl) (fun w => op_idx (i := 15) rfl rfl rfl (by decide)) ?_
          simp only [Act.put, List.setIfInBounds_toArray, List.set_cons_zero, List.set_cons_succ]
          refine st_op_in 0 1 (.int .i64 (f 15)) (by rfl) (by rfl) (.inl rfl) (.inr (by decide +kernel)) (fun j w' _ hj hS => by rw [op_load_int rfl rfl (hcS j w' hj hS 15 (by decide))]; exact ⟨rfl, hS⟩) ?_
          simp only [Act.put, List.setIfInBounds_toArray, List.set_cons_zero, List.set_cons_succ]
          refine st_val (.slice (some ⟨g, 0, none⟩) 17 cap) (by rfl) (by rfl) (fun w => rfl) ?_
          simp only [Act.put, List.setIfInBounds_toArray, List.set_cons_zero, List.set_cons_succ]
          refine st_val (.pointer (some ⟨g, 16, none⟩)) (by rfl) (by rfl) (fun w => op_idx (i := 16) rfl rfl rfl (by decide)) ?_
          simp only [Act.put, List.setIfInBounds_toArray, List.set_cons_zero, List.set_cons_succ]
          refine st_op_in 0 1 (.int .i64 (f 16)) (by rfl) (by rfl) (.inl rfl) (.inr (by decide +kernel)) (fun j w' _ hj hS => by rw [op_load_int rfl rfl (hcS j w' hj hS 16 (by decide))]; exact ⟨rfl, hS⟩) ?_
          simp only [Act.put, List.setIfInBounds_toArray, List.set_cons_zero, List.set_cons_succ]
          refine st_val (.string T) (by rfl) (by rfl) (fun w => rfl) ?_
          simp only [Act.put, List.setIfInBounds_toArray, List.set_cons_zero, List.set_cons_succ]
          refine st_val (.agg cs) (by rfl) (by rfl) (fun w => by rw [hcsH.out]; exact op_build_fact rfl rfl rfl rfl rfl rfl rfl rfl rfl rfl rfl rfl rfl rfl rfl rfl rfl rfl rfl) ?_
          simp only [Act.put, List.setIfInBounds_toArray, List.set_cons_zero, List.set_cons_succ]
          refine st_step 0 (.pointer (some ⟨b, 0, none⟩)) (by rfl) (by rfl) (by decide +kernel) (fun w' hS => ?_) ?_
          · have hS : w' = w2.drew := hS
            subst hS
            rw [op_alloc_fact rfl, hb, hO]; exact ⟨rfl, rfl⟩
          simp only [Act.put, List.setIfInBounds_toArray, List.set_cons_zero, List.set_cons_succ]
          refine st_step 1 undef (by rfl) (by rfl) (by decide +kernel) (fun w' hS => ?_) ?_
          · have hS : w' = w2.drew.alloc O := hS
            subst hS
            have hnew : (w2.drew.alloc O).heap[b]? = some (.cells (RW.fcells RW.zeroF ⟨#[]⟩) 23 (0, 0)) := by rw [hO, hb]; exact heap_alloc_new w2.drew _
            have hst := stRow_eq (w2.drew.alloc O) b cs 23 23 (RW.fcells RW.zeroF ⟨#[]⟩) hnew (hcsH.out ▸ fact_info f T) (by rw [hcsH.out]; rfl) (hcsH.out ▸ fcells_one _ _)
            rw [op_store_fact rfl rfl rfl hst]
            refine ⟨rfl, ?_⟩
            show _ = w2.drew.alloc O2
            rw [hO, hO2, hb]
            exact setRow_alloc w2.drew _ _ _
          simp only [Act.put]
          refine st_nil ?_
          intro W3 hW3
          replace hW3 : W3 = w2.drew.alloc O2 := hW3
          have hF3 := hF2.drew.new f T
          rw [← hcsH.out, ← hO2, ← hW3] at hF3
          replace hF3 : FRows [(b, f, T), (B, RW.zeroF, ⟨#[]⟩)] w W3 := by rw [hb]; exact hF3
          have hbB := hF2.lt (B, RW.zeroF, ⟨#[]⟩) (by simp)
          have hbBH := hide (show B ≠ b by simp at hbB; omega)
          clear hcS hgl2 hW3 hO hO2 hF2 hb hbB
          have l1 := hF3.load b f T (by simp)
          rw [← hcsH.out] at l1
          cases hv : RW.validB f T.size
          · have hvH := hide hv
            clear hv
            go_upto_region 16 with (go_at_call 15; refine (hVH.out _).mono ?_; rintro e w4 ⟨rfl, hB4⟩; rw [hvH.out])
            have hF4 := hF3.next hB4
            clear hF3 hB4 l1 hVH
            have s2 := hF4.store B RW.zeroF RW.zeroF ⟨#[]⟩ ⟨#[]⟩ (by simp)
            rw [fzero] at s2
            go_wp2_with fail
            have hE := hF4.put B RW.zeroF RW.zeroF ⟨#[]⟩ ⟨#[]⟩ (by simp) (by rw [hBH.out]; exact Nat.le_refl _) [(B, RW.zeroF, ⟨#[]⟩)] (by simp)
            rw [← fzero]
            refine bodyPost_ret (rdec_results _ _ B (RW.fcells RW.zeroF ⟨#[]⟩) 50 rfl rfl rfl (hE.rows (B, RW.zeroF, ⟨#[]⟩) (by simp))) rfl ⟨?_, hE.below⟩
            rw [hDy.out, RW.decV_no _ _ (by rw [← hT2H.out]; exact hvH.out)]
          · have hvH := hide hv
            clear hv
            go_upto_region 16 with (go_at_call 15; refine (hVH.out _).mono ?_; rintro e w4 ⟨rfl, hB4⟩; rw [hvH.out])
            have hF4 := hF3.next hB4
            clear hF3 hB4 l1 hVH
            have l1 := hF4.load b f T (by simp)
            have s2 := hF4.store B RW.zeroF f ⟨#[]⟩ T (by simp)
            rw [← hcsH.out] at l1 s2
            go_wp2_with fail
            have hE := hF4.put B RW.zeroF f ⟨#[]⟩ T (by simp) (by rw [hBH.out]; exact Nat.le_refl _) [(B, f, T)] (by simp)
            rw [← hcsH.out] at hE
            refine bodyPost_ret (rdec_results _ _ B (RW.fcells f T) 0 rfl rfl rfl (hE.rows (B, f, T) (by simp))) rfl ⟨?_, hE.below⟩
            rw [hDy.out, RW.decV_yes _ _ (by rw [← hT2H.out]; exact hvH.out), hTH.out]
end Go.Proofs.YtpihhjpgdbcifaaDoor
