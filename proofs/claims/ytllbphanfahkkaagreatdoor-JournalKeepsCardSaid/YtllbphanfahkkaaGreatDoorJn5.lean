/-
  Package journal: first, writing and its closure, Room, Records: what they return, what they change.
-/
import Derived.Test.YtllbphanfahkkaaGreatDoorJn4
namespace Go.Proofs.YtllbphanfahkkaaGreatDoor
open Go.RowKit RG
/-- what a call on a disk leaves: a block of another type -/
theorem tch_keep {W W' : World} {B b n db vb k : Nat} {pv : Value} {S : RW.Dk} {c : Array Value} {t : TypeId} {fr : Nat × Nat} (h : W.heap[k]? = some (.cells c t fr)) (hd : DiskAt W B b n db vb pv S) (hT : Tch b db vb W W') (ht : t ≠ 108 ∧ t ≠ 5 ∧ t ≠ 103) : W'.heap[k]? = some (.cells c t fr) :=
  (hT.block k (Array.getElem?_eq_some_iff.1 h).1 (blocks_ne h hd.row ht.1) (blocks_ne h hd.dur ht.2.1) (blocks_ne h hd.vis ht.2.1) (fun c f hc => blocks_ne h hc ht.2.2 rfl)).trans h
theorem JrAt.tch {H : List UInt8 → List UInt8} {W W' : World} {B B' b n db vb jb d : Nat} {pv rv : Value} {S : RW.Dk} {rs : List ByteArray} {br : Bool} (h : JrAt H W B' jb d rv rs br) (hd : DiskAt W B b n db vb pv S) (hT : Tch b db vb W W') : JrAt H W' B' jb d rv rs br :=
  ⟨tch_keep h.b hd hT (by decide), own_keep h.own fun g hg => by
    obtain ⟨_, _, c, fr, hc⟩ := own_blk h.own hg
    exact (tch_keep hc hd hT (by decide)).trans hc.symm, h.hb⟩
theorem JrAt.next {H : List UInt8 → List UInt8} {W W' : World} {B jb d : Nat} {rv : Value} {rs : List ByteArray} {br : Bool} (h : JrAt H W B jb d rv rs br) (hB : Below W.heap.size W W') : JrAt H W' B jb d rv rs br :=
  ⟨(hB.block _ (Array.getElem?_eq_some_iff.1 h.b).1).trans h.b, own_keep h.own fun g hg => hB.block _ (own_blk h.own hg).2.1, h.hb⟩
theorem JrAt.mono {H : List UInt8 → List UInt8} {W : World} {B B' jb d : Nat} {rv : Value} {rs : List ByteArray} {br : Bool} (h : JrAt H W B jb d rv rs br) (hb : B' ≤ B) : JrAt H W B' jb d rv rs br := ⟨h.b, own_mono h.own hb, Nat.le_trans hb h.hb⟩
theorem JrAt.lt {H : List UInt8 → List UInt8} {W : World} {B jb d : Nat} {rv : Value} {rs : List ByteArray} {br : Bool} (h : JrAt H W B jb d rv rs br) : jb < W.heap.size := (Array.getElem?_eq_some_iff.1 h.b).1
theorem tpc_get {rv : Value} {h : ByteArray} {n : Nat} {rest : List Value} (i : Nat) : (tpc rv h n rest)[3 + i]? = rest[i]? := by simp [tpc, Nat.add_comm 3 i]
theorem JrAt.disk {H : List UInt8 → List UInt8} {W : World} {B jb d : Nat} {rv : Value} {rs : List ByteArray} {br : Bool} (h : JrAt H W B jb d rv rs br) : W.cell? ⟨jb, 3, none⟩ = some (.pointer (some ⟨d, 0, none⟩)) := cell_of h.b (tpc_get 0)
theorem JrAt.brk {H : List UInt8 → List UInt8} {W : World} {B jb d : Nat} {rv : Value} {rs : List ByteArray} {br : Bool} (h : JrAt H W B jb d rv rs br) : W.cell? ⟨jb, 4, none⟩ = some (.bool br) := cell_of h.b (tpc_get 1)
set_option maxRecDepth 10000 in
set_option maxHeartbeats 2000000 in
/-- the calls of a list, up to the first error -/
theorem first_any (fs : List Value) (hfs : fs.length ≤ 100) (g : Nat) (I : Nat → World → Prop) (E : Int → World → Prop) (hcell : ∀ j W, I j W → W.heap[g]? = some (.cells fs.toArray 96 (0, 0)))
    (hcall : ∀ j f, fs[j]? = some f → ∃ k fst cap, f = .func (.func k) fst cap ∧ (∀ args w, (callFunc k args).run Tryz.prog w = .ok (.enter k args) w) ∧ ∀ W, I j W → Calls Tryz.prog k (fst ++ cap) W fun e W' => ∃ n : Int, e = .returned (.int .i64 n) ∧ ((n ≠ 0 ∧ E n W') ∨ (n = 0 ∧ I (j + 1) W'))) (w : World) (h0 : I 0 w) :
    Calls Tryz.prog 45 #[.slice (some ⟨g, 0, none⟩) fs.length fs.length] w fun e w' => (∃ n : Int, e = .returned (.int .i64 n) ∧ n ≠ 0 ∧ E n w') ∨ (e = .returned (.int .i64 0) ∧ I fs.length w') := by
  have hcellH := hide hcell
  have hcallH := hide hcall
  have h0H := hide h0
  obtain ⟨m, hm⟩ : ∃ m, m = fs.length := ⟨_, rfl⟩
  have hmH := hide hm
  rw [← hm] at hfs ⊢
  clear hcell hcall h0 hm
  go_enter Tryz.func45, Tryz.ntmps45
  go_wp2
  go_loopw [8] (fun i wr => ∃ (j : Nat), i = .int .i64 j ∧ j ≤ m ∧ Hid (I j wr)) (fun i _ => m - (intOf i).toNat)
  case atStart => exact ⟨0, rfl, Nat.zero_le _, h0H.out⟩
  case round =>
    obtain ⟨j, rfl, hj, hQ⟩ := hrel
    obtain ⟨wo, hwo⟩ : ∃ wo, wo = wr := ⟨_, rfl⟩
    subst hwo
    have hI := hide hQ.out
    clear hQ h0H
    by_cases hjm : j < m
    · obtain ⟨f, hf⟩ : ∃ f, fs[j]? = some f := ⟨_, List.getElem?_eq_getElem (by rw [← hmH.out]; exact hjm)⟩
      obtain ⟨k, fst, cap, rfl, hk, hc⟩ := hcallH.out j f hf
      have hcj := hide (hc wo hI.out)
      have c0 : wo.cell? ⟨g, j, none⟩ = some (.func (.func k) fst cap) := cell_of (hcellH.out j wo hI.out) (by rw [List.getElem?_toArray]; exact hf)
      have hkk := hk (fst ++ cap)
      clear hf hc hk
      go_wp2_with (refine hcj.out.mono ?_; rintro e w1 ⟨n, rfl, hn⟩)
      · rename_i hne
        have h1 : n ≠ 0 := by simpa using hne
        have h2 := hide (hn.resolve_right (fun h => h1 h.1)).2
        clear hn hne
        go_ret
        exact .inl ⟨n, rfl, h1, h2.out⟩
      · rename_i hne
        have h1 : n = 0 := by simpa using hne
        refine ⟨⟨j + 1, by go_num, by omega, (hn.resolve_left (fun h => h.1 h1)).2⟩, by simp [intOf]; omega⟩
    · obtain rfl : m = j := by omega
      go_wp2
      go_ret
      exact .inr ⟨rfl, hI.out⟩
theorem writing_any (jb : Nat) (at_ : Int) (s : ByteArray) (w : World) :
    Calls Tryz.prog 46 #[.pointer (some ⟨jb, 0, none⟩), .int .i64 at_, .string s] w fun e w' => e = .returned (.func (.func 90) #[] #[.pointer (some ⟨w.heap.size, 0, none⟩), .pointer (some ⟨w.heap.size + 1, 0, none⟩), .pointer (some ⟨w.heap.size + 2, 0, none⟩)]) ∧ w' = ((w.alloc (.cells #[.pointer (some ⟨jb, 0, none⟩)] 28)).alloc (.cells #[.int .i64 at_] 3)).alloc (.cells #[.string s] 9) := by
  go_enter Tryz.func46, Tryz.ntmps46
  go_wp2
  go_ret
  exact ⟨rfl, rfl⟩
/-- what the closure of writing holds -/
structure WrC (W : World) (p jb : Nat) (at_ : Int) (s : ByteArray) : Prop where
  j : W.heap[p]? = some (.cells #[.pointer (some ⟨jb, 0, none⟩)] 28 (0, 0))
  a : W.heap[p + 1]? = some (.cells #[.int .i64 at_] 3 (0, 0))
  s : W.heap[p + 2]? = some (.cells #[.string s] 9 (0, 0))
theorem WrC.new (w : World) (jb : Nat) (at_ : Int) (s : ByteArray) : WrC (((w.alloc (.cells #[.pointer (some ⟨jb, 0, none⟩)] 28)).alloc (.cells #[.int .i64 at_] 3)).alloc (.cells #[.string s] 9)) w.heap.size jb at_ s ∧ Below w.heap.size w (((w.alloc (.cells #[.pointer (some ⟨jb, 0, none⟩)] 28)).alloc (.cells #[.int .i64 at_] 3)).alloc (.cells #[.string s] 9)) := by
  refine ⟨⟨alloc_old _ _ (alloc_old _ _ (alloc_at1 _ _)), ?_, ?_⟩, alloc_bel (alloc_bel (alloc_bel (Below.refl _ _) (Nat.le_refl _) _) (Nat.le_refl _) _) (Nat.le_refl _) _⟩
  · have h := alloc_old ((w.alloc (.cells #[.pointer (some ⟨jb, 0, none⟩)] 28)).alloc (.cells #[.int .i64 at_] 3)) (.cells #[.string s] 9) (alloc_at1 (w.alloc (.cells #[.pointer (some ⟨jb, 0, none⟩)] 28)) (.cells #[.int .i64 at_] 3))
    rwa [alloc_size] at h
  · have h := alloc_at1 ((w.alloc (.cells #[.pointer (some ⟨jb, 0, none⟩)] 28)).alloc (.cells #[.int .i64 at_] 3)) (.cells #[.string s] 9)
    rwa [alloc_size, alloc_size] at h
theorem WrC.next {W W' : World} {p jb : Nat} {at_ : Int} {s : ByteArray} (h : WrC W p jb at_ s) (hB : Below W.heap.size W W') : WrC W' p jb at_ s :=
  ⟨(hB.block _ (Array.getElem?_eq_some_iff.1 h.j).1).trans h.j, (hB.block _ (Array.getElem?_eq_some_iff.1 h.a).1).trans h.a, (hB.block _ (Array.getElem?_eq_some_iff.1 h.s).1).trans h.s⟩
theorem WrC.tch {W W' : World} {B b n db vb p jb : Nat} {pv : Value} {S : RW.Dk} {at_ : Int} {s : ByteArray} (h : WrC W p jb at_ s) (hd : DiskAt W B b n db vb pv S) (hT : Tch b db vb W W') : WrC W' p jb at_ s :=
  ⟨tch_keep h.j hd hT (by decide), tch_keep h.a hd hT (by decide), tch_keep h.s hd hT (by decide)⟩
section
variable {ev : Operand → Value} {o : Oper} {x y : Operand} {w : World}
theorem op_subj {m n r : Int} (ho : o.op = .binOp .sub 3 x y 3) (hx : ev x = .int .i64 m) (hy : ev y = .int .i64 n) (h : m - n = r) (hb : -9223372036854775808 ≤ r ∧ r ≤ 9223372036854775807) : (execOp ev o).run Tryz.prog w = .ok (.value (.int .i64 r)) w := by
  unfold execOp
  rw [ho]
  simp only [hx, hy]
  go_simp
  rw [IntKind.wrap_i64]
  omega
end
theorem cf_write : ∀ args w, (callFunc 14 args).run Tryz.prog w = .ok (.enter 14 args) w := fun args w => by go_simp
theorem cf_size : ∀ args w, (callFunc 56 args).run Tryz.prog w = .ok (.enter 56 args) w := fun args w => by go_simp
theorem ptr_ldj {W : World} {g i : Nat} {p : Option Addr} (h : W.cell? ⟨g, i, none⟩ = some (.pointer p)) : (ldRow 28 (.pointer (some ⟨g, i, none⟩))).run Tryz.prog W = .ok (.pointer p) W := by
  unfold ldRow
  go_simp
theorem ptr_ldd {W : World} {g i : Nat} {p : Option Addr} (h : W.cell? ⟨g, i, none⟩ = some (.pointer p)) : (ldRow 27 (.pointer (some ⟨g, i, none⟩))).run Tryz.prog W = .ok (.pointer p) W := by
  unfold ldRow
  go_simp
theorem jint_ld {W : World} {g i : Nat} {n : Int} (h : W.cell? ⟨g, i, none⟩ = some (.int .i64 n)) : (ldRow 3 (.pointer (some ⟨g, i, none⟩))).run Tryz.prog W = .ok (.int .i64 n) W := by
  unfold ldRow
  go_simp
theorem fa_jd {b : Nat} (W : World) : (Instr.fieldAt 85 (.pointer (some ⟨b, 0, none⟩)) 1).run Tryz.prog W = .ok (.pointer (some ⟨b, 3, none⟩)) W := by
  go_simp
theorem fa_jt {b : Nat} (W : World) : (Instr.fieldAt 85 (.pointer (some ⟨b, 0, none⟩)) 0).run Tryz.prog W = .ok (.pointer (some ⟨b, 0, none⟩)) W := by
  go_simp
theorem fa_tp2 {b : Nat} (W : World) : (Instr.fieldAt 83 (.pointer (some ⟨b, 0, none⟩)) 2).run Tryz.prog W = .ok (.pointer (some ⟨b, 2, none⟩)) W := by
  go_simp
theorem DiskAt.drew {W : World} {B b n db vb : Nat} {pv : Value} {S : RW.Dk} (h : DiskAt W B b n db vb pv S) : DiskAt W.drew B b n db vb pv S := h.next (Below.refl _ _).drew
set_option maxRecDepth 10000 in
set_option maxHeartbeats 2000000 in
theorem writing1_any {H : List UInt8 → List UInt8} (B b n db vb p jb : Nat) (pv rv : Value) (S : RW.Dk) (rs : List ByteArray) (br : Bool) (at_ : Int) (s : ByteArray) (w : World) (hd : DiskAt w B b n db vb pv S) (hj : JrAt H w B jb b rv rs br) (hw : WrC w p jb at_ s) (hp : S.pend.length < 1000000) (hs : s.size ≤ 9223372036854775807) :
    Calls Tryz.prog 90 #[.pointer (some ⟨p, 0, none⟩), .pointer (some ⟨p + 1, 0, none⟩), .pointer (some ⟨p + 2, 0, none⟩)] w fun e w' => e = .returned (.int .i64 (S.write n at_ s).1) ∧ ∃ pv', DiskAt w' B b n db vb pv' (S.write n at_ s).2 ∧ Tch b db vb w w' ∧ Below B w w' := by
  have h0 := hide (And.intro hd (And.intro hj hw))
  have hWr := hide (fun W (hD : DiskAt W B b n db vb pv S) => write_any B b n db vb pv S at_ s W hD hp hs)
  obtain ⟨E, hE⟩ : ∃ x, x = S.write n at_ s := ⟨_, rfl⟩
  rw [← hE] at hWr ⊢
  have hn0 : w.heap.size = w.heap.size := rfl
  clear hd hj hw hE hn0
  go_enter Tryz.func90, Tryz.ntmps90
  go_upto_region 1 with fail
  refine wp_region_k (fun h W => 6 ∈ h ∨ W = w.drew) (fun _ => True) [6] (.op 0 (.op 1 (.op 2 (.op 3 (.op 4 (.op 5 (.op 6 (.op 7 .nil)))))))) (by kernel_rfl) (by kernel_rfl) (by rfl) (by kernel_rfl) (.inr rfl) trivial ?_
  refine k_bef 6 (.pointer (some ⟨jb, 0, none⟩)) (by apply opN; repeat' (first | apply OpAt.z | apply OpAt.s)) (by rfl) (by rfl) (by decide +kernel) (by rfl) (fun _ W hg hS => by obtain rfl := hS.resolve_left hg; exact op_ld rfl rfl (ptr_ldj (show w.drew.cell? ⟨p, 0, none⟩ = _ from cellAt h0.out.2.2.j 0))) ?_
  simp only [Act.put, List.setIfInBounds_toArray, List.set_cons_zero, List.set_cons_succ]
  refine k_val (.pointer (some ⟨jb, 0, none⟩)) (by apply opN; repeat' (first | apply OpAt.z | apply OpAt.s)) (by rfl) (by rfl) (fun _ W hS => op_nc rfl rfl) ?_
  simp only [Act.put, List.setIfInBounds_toArray, List.set_cons_zero, List.set_cons_succ]
  refine k_val (.pointer (some ⟨jb, 3, none⟩)) (by apply opN; repeat' (first | apply OpAt.z | apply OpAt.s)) (by rfl) (by rfl) (fun _ W hS => op_fa rfl rfl (fa_jd W)) ?_
  simp only [Act.put, List.setIfInBounds_toArray, List.set_cons_zero, List.set_cons_succ]
  refine k_bef 6 (.pointer (some ⟨b, 0, none⟩)) (by apply opN; repeat' (first | apply OpAt.z | apply OpAt.s)) (by rfl) (by rfl) (by decide +kernel) (by rfl) (fun _ W hg hS => by obtain rfl := hS.resolve_left hg; exact op_ld rfl rfl (ptr_ldd (show w.drew.cell? ⟨jb, 3, none⟩ = _ from h0.out.2.1.disk))) ?_
  simp only [Act.put, List.setIfInBounds_toArray, List.set_cons_zero, List.set_cons_succ]
  refine k_bef 6 (.int .i64 at_) (by apply opN; repeat' (first | apply OpAt.z | apply OpAt.s)) (by rfl) (by rfl) (by decide +kernel) (by rfl) (fun _ W hg hS => by obtain rfl := hS.resolve_left hg; exact op_ld rfl rfl (jint_ld (show w.drew.cell? ⟨p + 1, 0, none⟩ = _ from cellAt h0.out.2.2.a 0))) ?_
  simp only [Act.put, List.setIfInBounds_toArray, List.set_cons_zero, List.set_cons_succ]
  refine k_bef 6 (.string s) (by apply opN; repeat' (first | apply OpAt.z | apply OpAt.s)) (by rfl) (by rfl) (by decide +kernel) (by rfl) (fun _ W hg hS => by obtain rfl := hS.resolve_left hg; exact op_ld rfl rfl (str_ld (show w.drew.cell? ⟨p + 2, 0, none⟩ = _ from cellAt h0.out.2.2.s 0))) ?_
  simp only [Act.put, List.setIfInBounds_toArray, List.set_cons_zero, List.set_cons_succ]
  refine k_step (fun K' u => u = .int .i64 E.1 ∧ K' = fun W => ∃ pv', DiskAt W B b n db vb pv' E.2 ∧ Tch b db vb w W ∧ Below B w W) (by apply opN; repeat' (first | apply OpAt.z | apply OpAt.s)) (by rfl) (by rfl) (by rfl) (fun W hCW hK => ?_) ?_
  · obtain rfl := hCW.resolve_left (by decide)
    refine op_x3 rfl rfl rfl rfl rfl cf_write ?_
    refine (hWr.out _ h0.out.1.drew).mono ?_
    rintro e W' ⟨rfl, pv', h4, h5, h6⟩
    exact ⟨_, rfl, .inl (by decide), _, ⟨pv', h4, (Tch.of_below (Below.refl _ _).drew).trans h5, (Below.refl _ _).drew.trans h6⟩, rfl, rfl⟩
  rintro _ _ ⟨rfl, rfl⟩
  simp only [Act.put, List.setIfInBounds_toArray, List.set_cons_zero, List.set_cons_succ]
  refine k_val (.int .i64 E.1) (by apply opN; repeat' (first | apply OpAt.z | apply OpAt.s)) (by rfl) (by rfl) (fun _ W hS => op_asg rfl rfl) ?_
  simp only [Act.put, List.setIfInBounds_toArray, List.set_cons_zero, List.set_cons_succ]
  refine k_nil ?_
  intro W hCW hK
  have hF := hide hK
  clear hCW hK
  go_wp2
  go_ret
  exact ⟨rfl, hF.out⟩
set_option maxRecDepth 10000 in
set_option maxHeartbeats 2000000 in
theorem room_any {H : List UInt8 → List UInt8} (B b n db vb jb : Nat) (pv rv : Value) (S : RW.Dk) (rs : List ByteArray) (br : Bool) (hn : (RW.stos H RW.z32 rs).length ≤ 1000000000) (w : World) (hd : DiskAt w B b n db vb pv S) (hj : JrAt H w B jb b rv rs br) :
    Calls Tryz.prog 21 #[.pointer (some ⟨jb, 0, none⟩)] w fun e w' => e = .returned (.int .i64 ((n : Int) - ((RW.stos H RW.z32 rs).length : Int))) ∧ ∃ k, w' = w.drewN k := by
  have c3 := hide (fun k => (show (w.drewN k).cell? ⟨jb, 3, none⟩ = some (.pointer (some ⟨b, 0, none⟩)) from hj.disk))
  have c2 := hide (fun k => (show (w.drewN k).cell? ⟨jb, 2, none⟩ = some (.int .i64 ((RW.stos H RW.z32 rs).length : Int)) from cell_of hj.b (tpc2 _ _ _ _)))
  have hSz := hide (fun k => size_any (w.drewN k) (show DiskAt (w.drewN k) B b n db vb pv S from hd.next ⟨rfl, rfl, rfl, Nat.le_refl _, fun _ _ => rfl⟩))
  have hnn := hd.hn
  obtain ⟨L, hL⟩ : ∃ L, L = (RW.stos H RW.z32 rs).length := ⟨_, rfl⟩
  rw [← hL] at c2 hn ⊢
  clear hL hd hj
  go_enter Tryz.func21, Tryz.ntmps21
  go_upto_region 3 with fail
  refine wp_region_k (fun _ W => ∃ k, W = w.drewN k) (fun _ => True) [4] (.op 0 (.op 1 (.op 2 (.op 3 (.op 5 (.op 6 (.op 7 (.op 8 (.op 9 (.op 4 (.op 10 (.op 11 .nil)))))))))))) (by kernel_rfl) (by kernel_rfl) (by rfl) (by kernel_rfl) ⟨1, rfl⟩ trivial ?_
  refine k_val (.pointer (some ⟨jb, 0, none⟩)) (by apply opN; repeat' (first | apply OpAt.z | apply OpAt.s)) (by rfl) (by rfl) (fun _ W hS => op_mv rfl rfl) ?_
  simp only [Act.put, List.setIfInBounds_toArray, List.set_cons_zero, List.set_cons_succ]
  refine k_val (.pointer (some ⟨jb, 0, none⟩)) (by apply opN; repeat' (first | apply OpAt.z | apply OpAt.s)) (by rfl) (by rfl) (fun _ W hS => op_nc rfl rfl) ?_
  simp only [Act.put, List.setIfInBounds_toArray, List.set_cons_zero, List.set_cons_succ]
  refine k_val (.pointer (some ⟨jb, 3, none⟩)) (by apply opN; repeat' (first | apply OpAt.z | apply OpAt.s)) (by rfl) (by rfl) (fun _ W hS => op_fa rfl rfl (fa_jd W)) ?_
  simp only [Act.put, List.setIfInBounds_toArray, List.set_cons_zero, List.set_cons_succ]
  refine k_val (.pointer (some ⟨b, 0, none⟩)) (by apply opN; repeat' (first | apply OpAt.z | apply OpAt.s)) (by rfl) (by rfl) (fun _ W hS => op_ld rfl rfl (ptr_ldd (W := W) (by obtain ⟨k, rfl⟩ := hS; exact c3.out k))) ?_
  simp only [Act.put, List.setIfInBounds_toArray, List.set_cons_zero, List.set_cons_succ]
  refine k_val (.pointer (some ⟨jb, 0, none⟩)) (by apply opN; repeat' (first | apply OpAt.z | apply OpAt.s)) (by rfl) (by rfl) (fun _ W hS => op_mv rfl rfl) ?_
  simp only [Act.put, List.setIfInBounds_toArray, List.set_cons_zero, List.set_cons_succ]
  refine k_val (.pointer (some ⟨jb, 0, none⟩)) (by apply opN; repeat' (first | apply OpAt.z | apply OpAt.s)) (by rfl) (by rfl) (fun _ W hS => op_nc rfl rfl) ?_
  simp only [Act.put, List.setIfInBounds_toArray, List.set_cons_zero, List.set_cons_succ]
  refine k_val (.pointer (some ⟨jb, 0, none⟩)) (by apply opN; repeat' (first | apply OpAt.z | apply OpAt.s)) (by rfl) (by rfl) (fun _ W hS => op_fa rfl rfl (fa_jt W)) ?_
  simp only [Act.put, List.setIfInBounds_toArray, List.set_cons_zero, List.set_cons_succ]
  refine k_val (.pointer (some ⟨jb, 2, none⟩)) (by apply opN; repeat' (first | apply OpAt.z | apply OpAt.s)) (by rfl) (by rfl) (fun _ W hS => op_fa rfl rfl (fa_tp2 W)) ?_
  simp only [Act.put, List.setIfInBounds_toArray, List.set_cons_zero, List.set_cons_succ]
  refine k_val (.int .i64 (L : Int)) (by apply opN; repeat' (first | apply OpAt.z | apply OpAt.s)) (by rfl) (by rfl) (fun _ W hS => op_ld rfl rfl (jint_ld (W := W) (by obtain ⟨k, rfl⟩ := hS; exact c2.out k))) ?_
  simp only [Act.put, List.setIfInBounds_toArray, List.set_cons_zero, List.set_cons_succ]
  refine k_step (fun K' u => u = .int .i64 (n : Int) ∧ K' = fun _ => True) (by apply opN; repeat' (first | apply OpAt.z | apply OpAt.s)) (by rfl) (by rfl) (by rfl) (fun W hCW hK => ?_) ?_
  · obtain ⟨k, rfl⟩ := hCW
    refine op_x1 rfl rfl rfl cf_size ?_
    refine (hSz.out k).mono ?_
    rintro e W' ⟨rfl, rfl⟩
    exact ⟨_, rfl, ⟨k, rfl⟩, _, trivial, rfl, rfl⟩
  rintro _ _ ⟨rfl, rfl⟩
  simp only [Act.put, List.setIfInBounds_toArray, List.set_cons_zero, List.set_cons_succ]
  refine k_val (.int .i64 ((n : Int) - (L : Int))) (by apply opN; repeat' (first | apply OpAt.z | apply OpAt.s)) (by rfl) (by rfl) (fun _ W hS => op_subj rfl rfl rfl rfl (by omega)) ?_
  simp only [Act.put, List.setIfInBounds_toArray, List.set_cons_zero, List.set_cons_succ]
  refine k_val (.int .i64 ((n : Int) - (L : Int))) (by apply opN; repeat' (first | apply OpAt.z | apply OpAt.s)) (by rfl) (by rfl) (fun _ W hS => op_asg rfl rfl) ?_
  simp only [Act.put, List.setIfInBounds_toArray, List.set_cons_zero, List.set_cons_succ]
  refine k_nil ?_
  intro W hCW _
  go_wp2
  go_ret
  exact ⟨rfl, hCW⟩
theorem room_nil (w : World) : Calls Tryz.prog 21 #[.pointer none] w fun e w' => e = .returned (.int .i64 0) ∧ w = w' := by
  go_enter Tryz.func21, Tryz.ntmps21
  go_wp2
  go_ret
  exact ⟨rfl, rfl⟩
theorem records_nil (w : World) : Calls Tryz.prog 20 #[.pointer none] w fun e w' => e = .returned (.slice none 0 0) ∧ w = w' := by
  go_enter Tryz.func20, Tryz.ntmps20
  go_wp2
  go_ret
  exact ⟨rfl, rfl⟩
theorem strs_own {W : World} {B : Nat} {v : Value} {l : List ByteArray} (h : StrsOwn W B v l) : StrR W v l := by
  have h' : W.ownsRow B 9 1 v l.length (rowCells (fun s => [Value.string s]) l) := by
    have e : rowCells (fun s => [Value.string s]) l = l.map Value.string := by
      unfold rowCells
      clear h
      induction l with
      | nil => rfl
      | cons x l ih => simp [List.flatMap_cons, ih]
    rw [e]
    exact h
  exact rowV_own (enc := fun s => [Value.string s]) (fun _ => rfl) (by decide) h'
/-- slices.Clone of a list of strings -/
theorem clone_any {W : World} {v : Value} {l : List ByteArray} (h : StrR W v l) (hl : l.length ≤ 5000000) : Calls Tryz.prog 41 #[v] W fun e w' => ∃ u, e = .returned u ∧ StrsOwn w' W.heap.size u l ∧ Below W.heap.size W w' := by
  obtain ⟨a, c, rfl, _, hr⟩ := h
  cases a with
  | none =>
    obtain rfl : l = [] := by
      rcases hr with e | ⟨b, o, e, _⟩
      · exact e
      · cases e
    refine (SH.slices_Clone_string_nil 0 c W).mono ?_
    rintro e w' ⟨rfl, rfl⟩
    exact ⟨_, rfl, ⟨rfl, .inl ⟨rfl, rfl⟩⟩, Below.refl _ _⟩
  | some ad =>
    rcases hr with rfl | ⟨b, o, e, _, hc⟩
    · refine (SH.slices_Clone_string_zero ad c W).mono ?_
      rintro e w' ⟨v', rfl, h1, _, h3⟩
      exact ⟨_, rfl, h1, h3⟩
    · cases e
      refine (SH.slices_Clone_string b o l.length c l W (Nat.le_refl _) (by omega) (fun j hj => ?_)).mono ?_
      · have e1 := hc j _ (List.getElem?_eq_getElem hj) 0 _ rfl
        rw [Nat.mul_one, Nat.add_zero] at e1
        rw [e1, List.getD_eq_getElem?_getD, List.getElem?_eq_getElem hj]
        rfl
      · rintro e w' ⟨v', rfl, h1, _, h3⟩
        rw [List.take_length] at h1
        exact ⟨_, rfl, h1, h3⟩
set_option maxRecDepth 10000 in
theorem records_any {H : List UInt8 → List UInt8} (B d jb : Nat) (rv : Value) (rs : List ByteArray) (br : Bool) (hl : rs.length ≤ 5000000) (w : World) (hj : JrAt H w B jb d rv rs br) :
    Calls Tryz.prog 20 #[.pointer (some ⟨jb, 0, none⟩)] w fun e w' => ∃ u, e = .returned u ∧ StrsOwn w' w.heap.size u rs ∧ Below w.heap.size w w' := by
  have hC := hide (clone_any (strs_own hj.own) hl)
  obtain ⟨a, c, rfl⟩ := own_shape hj.own
  have c0 : w.cell? ⟨jb, 0, none⟩ = some (.slice a rs.length c) := cell_of hj.b (tpc0 _ _ _ _)
  clear hj
  go_enter Tryz.func20, Tryz.ntmps20
  go_wp2_with (go_at_call 41; refine hC.out.mono ?_; rintro e w1 ⟨u, rfl, h1, h2⟩; have h1H := hide h1; have h2H := hide h2; clear h1 h2)
  go_ret
  exact ⟨_, rfl, h1H.out, h2H.out⟩
end Go.Proofs.YtllbphanfahkkaaGreatDoor
