/-
  Package royaltylaw22: step: it returns true; a disk and one of the reference go on alike.
-/
import Derived.Test.YtehenjgggaedeaaRk4
import Derived.Test.YtehenjgggaedeaaDk14
namespace Go.Proofs.Ytehenjgggaedeaa
open Go.RowKit RG
section
variable {ev : Operand → Value} {o : Oper} {x y z : Operand} {w : World}
theorem op_x1 {D : Value → World → Prop} {k : Nat} {ts : Array TypeId} {n : Value} (ho : o.op = .call ⟨.value (.func k), #[x], ts⟩) (hf : ev (.func k) = .func (.func k) #[] #[]) (hx : ev x = n) (hk : ∀ args w, (callFunc k args).run Try.prog w = .ok (.enter k args) w)
    (h : Calls Try.prog k #[n] w fun e w'' => ∃ u, e = .returned u ∧ D u w'') : XUp Try.prog D ((execOp ev o).run Try.prog w) := by
  have h1 : (execOp ev o).run Try.prog w = .ok (.enter k #[n]) w := by
    unfold execOp
    rw [ho]
    go_simp
  rw [h1]
  exact h
theorem op_fa_sp {b i : Nat} (hi : i < 5) (ho : o.op = .fieldAddr 39 x i) (hx : ev x = .pointer (some ⟨b, 0, none⟩)) : (execOp ev o).run Try.prog w = .ok (.value (.pointer (some ⟨b, i, none⟩))) w := by
  rcases i with _ | _ | _ | _ | _ | i
  all_goals first | omega | skip
  all_goals
    unfold execOp
    rw [ho]
    simp only [hx]
    go_simp
theorem op_eqe {a : Int} (ho : o.op = .binOp .eql 24 x y 24) (hx : ev x = .int .i64 a) (hy : ev y = .int .i64 a) : (execOp ev o).run Try.prog w = .ok (.value (.bool true)) w := by
  unfold execOp
  rw [ho]
  simp only [hx, hy]
  go_simp
end
/-- a disk and one of the reference, of the same content -/
structure JAt (W : World) (n B1 b db vb B2 rb : Nat) (S : RW.Dk) (p : Value) (sb : Nat) (L : List UInt8) (q : Value) : Prop where
  a : DiskAt W B1 b n db vb p S
  r : RefAt W B2 rb n sb L q S
  n1 : sb ≠ db
  n2 : sb ≠ vb
section
variable {W W' : World} {n B1 b db vb B2 rb sb sb' : Nat} {S S' : RW.Dk} {p p' q q' : Value} {L L' : List UInt8}
theorem pend_blk {B : Nat} (h : DiskAt W B b n db vb p S) {g : Nat} (hg : p.ownBlock = some g) : ∃ cur fr, W.heap[g]? = some (.cells cur 69 fr) := by
  rcases h.pend.2 with ⟨rfl, _⟩ | ⟨g', cap, cur, rfl, _, h3, _⟩
  · cases hg
  · cases hg
    exact ⟨cur, _, h3⟩
theorem DiskAt.keepQ (h : DiskAt W B1 b n db vb p S) (hk : ∀ k, k < W.heap.size → (k = b ∨ k = db ∨ k = vb ∨ p.ownBlock = some k) → W'.heap[k]? = W.heap[k]?) : DiskAt W' B1 b n db vb p S := by
  obtain ⟨h1, h2, h3⟩ := h.lt
  exact ⟨(hk b h1 (.inl rfl)).trans h.row, (hk db h2 (.inr (.inl rfl))).trans h.dur, (hk vb h3 (.inr (.inr (.inl rfl)))).trans h.vis, own_keep h.pend fun g hg => hk g (h.pend.lt g hg).2 (.inr (.inr (.inr hg))), h.hb, h.hd, h.hv, h.ne, h.ld, h.lv, h.hn, h.lf⟩
/-- a call on the reference leaves the disk -/
theorem DiskAt.rfr (h : DiskAt W B1 b n db vb p S) (hr : RefAt W B2 rb n sb L q S') (n1 : sb ≠ db) (n2 : sb ≠ vb) (hF : RFr rb sb W sb' W') : DiskAt W' B1 b n db vb p S ∧ sb' ≠ db ∧ sb' ≠ vb := by
  have hx : ∀ k, k < W.heap.size → (k = b ∨ k = db ∨ k = vb ∨ p.ownBlock = some k) → W'.heap[k]? = W.heap[k]? ∧ k ≠ sb' := by
    intro k hk hq
    have hty : ∀ {t : TypeId} {c : Array Value} {f : Nat × Nat}, W.heap[k]? = some (.cells c t f) → t ≠ 43 → t ≠ 80 → k ≠ sb → W'.heap[k]? = W.heap[k]? ∧ k ≠ sb' := fun hh e1 e2 e3 =>
      hF.frn k hk (blocks_ne hh hr.row e1) e3 fun c f h2 => blocks_ne hh h2 e2 rfl
    rcases hq with e | e | e | e
    · subst e; exact hty h.row (by decide) (by decide) (blocks_ne h.row hr.sure (by decide))
    · subst e; exact hty h.dur (by decide) (by decide) n1.symm
    · subst e; exact hty h.vis (by decide) (by decide) n2.symm
    · obtain ⟨c, f, hh⟩ := pend_blk h e
      exact hty hh (by decide) (by decide) (blocks_ne hh hr.sure (by decide))
  exact ⟨h.keepQ fun k hk hq => (hx k hk hq).1, (hx db h.lt.2.1 (.inr (.inl rfl))).2.symm, (hx vb h.lt.2.2 (.inr (.inr (.inl rfl)))).2.symm⟩
/-- a call on the disk leaves the reference -/
theorem RefAt.tch (h : RefAt W B2 rb n sb L q S') (hd : DiskAt W B1 b n db vb p S) (n1 : sb ≠ db) (n2 : sb ≠ vb) (hT : Tch b db vb W W') : RefAt W' B2 rb n sb L q S' := by
  refine h.keep fun k hk hq => ?_
  rcases hq with e | e | e
  · subst e; exact hT.block _ hk (blocks_ne h.row hd.row (by decide)) (blocks_ne h.row hd.dur (by decide)) (blocks_ne h.row hd.vis (by decide)) fun c f h2 => blocks_ne h.row h2 (by decide) rfl
  · subst e; exact hT.block _ hk (blocks_ne h.sure hd.row (by decide)) n1 n2 fun c f h2 => blocks_ne h.sure h2 (by decide) rfl
  · obtain ⟨c, f, hh⟩ := h.pblock e
    exact hT.block _ hk (blocks_ne hh hd.row (by decide)) (blocks_ne hh hd.dur (by decide)) (blocks_ne hh hd.vis (by decide)) fun c f h2 => blocks_ne hh h2 (by decide) rfl
theorem RFr.par {cs : Array Value} {g : Nat} (h : RefAt W B2 rb n sb L q S) (hF : RFr rb sb W sb' W') (hg : W.heap[g]? = some (.cells cs 39 (0, 0))) : W'.heap[g]? = some (.cells cs 39 (0, 0)) :=
  (hF.frn g (Array.getElem?_eq_some_iff.1 hg).1 (blocks_ne hg h.row (by decide)) (blocks_ne hg h.sure (by decide)) fun c f h2 => blocks_ne hg h2 (by decide) rfl).1.trans hg
theorem Tch.parS {cs : Array Value} {g : Nat} (h : DiskAt W B1 b n db vb p S) (hT : Tch b db vb W W') (hg : W.heap[g]? = some (.cells cs 39 (0, 0))) : W'.heap[g]? = some (.cells cs 39 (0, 0)) :=
  (hT.block g (Array.getElem?_eq_some_iff.1 hg).1 (blocks_ne hg h.row (by decide)) (blocks_ne hg h.dur (by decide)) (blocks_ne hg h.vis (by decide)) fun c f h2 => blocks_ne hg h2 (by decide) rfl).trans hg
end
namespace RW
/-- a call of a sequence: call, off, n, string, the slice of numbers and what it holds -/
structure Sp where
  c : Int
  o : Int
  n : Int
  s : ByteArray
  kv : Value
  k : List Int
def spl (y : Sp) : List Value := [.int .i64 y.c, .int .i64 y.o, .int .i64 y.n, .string y.s, y.kv]
def i64b (x : Int) : Prop := -9223372036854775808 ≤ x ∧ x ≤ 9223372036854775807
def Sp.good (y : Sp) : Prop := i64b y.c ∧ i64b y.o ∧ i64b y.n ∧ y.s.size ≤ 9223372036854775807
def cut300 (s : ByteArray) : ByteArray := s.extract 0 (min s.size 300)
def stepS (n : Nat) (S : Dk) (y : Sp) : Dk :=
  if pickI y.c 6 = 0 ∨ pickI y.c 6 = 1 then (S.write n y.o (cut300 y.s)).2
  else if pickI y.c 6 = 2 then S.sync.2
  else if pickI y.c 6 = 3 then S
  else if pickI y.c 6 = 4 then (S.cut y.n).2
  else S.crash (y.k.take 100) y.n
/-- what stays true of a disk's content -/
structure Dk.fine (S : Dk) (n k : Nat) : Prop where
  ok : S.ok n
  rp : replay S.pend S.dur = S.vis
  len : S.pend.length ≤ k
theorem stepS_fine {n : Nat} {S : Dk} {k : Nat} (h : S.fine n k) (y : Sp) : (stepS n S y).fine n (k + 1) := by
  have hup : S.fine n (k + 1) := ⟨h.ok, h.rp, Nat.le_succ_of_le h.len⟩
  unfold stepS
  split
  · rw [Dk.write]
    split
    · exact hup
    · split
      · rename_i hi
        have h1 := (insB_iff n y.o _).1 hi
        refine ⟨fun x hx => ?_, ?_, ?_⟩
        · rcases List.mem_append.1 hx with hx | hx
          · exact h.ok x hx
          · rw [List.mem_singleton] at hx
            subst hx
            show y.o.toNat + (cut300 y.s).size ≤ n
            omega
        · show replay (S.pend ++ [_]) S.dur = _
          rw [replay_snoc, h.rp]
        · show (S.pend ++ [_]).length ≤ k + 1
          rw [List.length_append]
          have := h.len
          simp
          exact this
      · exact hup
  · split
    · rw [Dk.sync]
      split
      · exact hup
      · exact ⟨fun x hx => (by cases hx), rfl, Nat.zero_le _⟩
    · split
      · exact hup
      · split
        · rw [Dk.cut]
          split
          · exact hup
          · split
            · exact hup
            · exact ⟨h.ok, h.rp, Nat.le_succ_of_le h.len⟩
        · rw [crash_eq]
          exact ⟨fun x hx => (by cases hx), rfl, Nat.zero_le _⟩
end RW
theorem sp_size (y : RW.Sp) : (Try.prog.info? 39).map (·.size) = some (RW.spl y).length := by kernel_rfl
theorem JAt.next {W W' : World} {n B1 b db vb B2 rb sb : Nat} {S : RW.Dk} {p q : Value} {L : List UInt8} (h : JAt W n B1 b db vb B2 rb S p sb L q) (hB : Below W.heap.size W W') : JAt W' n B1 b db vb B2 rb S p sb L q := ⟨h.a.next hB, h.r.next hB, h.n1, h.n2⟩
theorem IntsB.first {n0 : Nat} {W : World} {a : Option Addr} {N c : Nat} {zs : List Int} (h : IntsB n0 W (.slice a N c) zs) (m : Nat) (hm : m ≤ zs.length) : IntsB n0 W (.slice a m c) (zs.take m) := by
  obtain ⟨a', c', he, h⟩ := h
  cases he
  have hl : (zs.take m).length = m := by rw [List.length_take, Nat.min_eq_left hm]
  refine ⟨_, _, by rw [hl], ?_⟩
  rcases h with h | ⟨b, off, e1, hb, hc⟩
  · exact .inl (by rw [h]; simp)
  · refine .inr ⟨b, off, e1, hb, fun j x hx => hc j x ?_⟩
    rw [List.getElem?_take] at hx
    split at hx
    · exact hx
    · cases hx
theorem take100 {α : Type} (l : List α) : l.take (min l.length 100) = l.take 100 := by
  rcases Nat.le_total l.length 100 with h | h
  · rw [Nat.min_eq_left h, List.take_length, List.take_of_length_le h]
  · rw [Nat.min_eq_right h]
set_option maxRecDepth 10000 in
set_option maxHeartbeats 2000000 in
theorem step_any (n B1 b db vb B2 rb : Nat) (S : RW.Dk) (p : Value) (sb : Nat) (L : List UInt8) (q : Value) (k : Nat) (hk : k < 1000000) (hn1 : 1 ≤ n) (hf : S.fine n k) (y : RW.Sp) (hy : y.good) (w : World) (B : Nat) (hB1 : B ≤ B1) (hB2 : B ≤ B2) (hJ : JAt w n B1 b db vb B2 rb S p sb L q) (hkv : RowV 1 (fun z => [Value.int .i64 z]) w y.kv y.k) (hkb : IntsB B w y.kv y.k) (hkl : y.k.length ≤ 9223372036854775807) :
    Calls Try.prog 19 #[.pointer (some ⟨b, 0, none⟩), .pointer (some ⟨rb, 0, none⟩), .agg (RW.spl y).toArray] w fun e w' => e = .returned (.bool true) ∧ ∃ p' sb' L' q', JAt w' n B1 b db vb B2 rb (RW.stepS n S y) p' sb' L' q' ∧ Below B w w' := by
  obtain ⟨c, o, m, s, kv, kl⟩ := y
  obtain ⟨⟨hc1, hc2⟩, ⟨ho1, ho2⟩, ⟨hm1, hm2⟩, hs⟩ := hy
  obtain ⟨av, cv, hkve, hcv, _⟩ := id hkv
  simp only at hkve hcv hkl hs hkv hkb hc1 hc2 ho1 ho2 hm1 hm2
  subst hkve
  obtain ⟨N, hN⟩ : ∃ N, N = kl.length := ⟨_, rfl⟩
  rw [← hN] at hcv hkl hkv hkb ⊢
  obtain ⟨M, hM⟩ : ∃ M, M = min N 100 := ⟨_, rfl⟩
  have hM1 : min (N : Int) 100 = (M : Int) := by omega
  have hM2 : M ≤ N := by omega
  have hM3 : M ≤ cv := by omega
  have hM4 : M ≤ 100 := by omega
  have hMt := hide (show kl.take M = kl.take 100 by rw [hM, hN]; exact take100 kl)
  have hMl := hide (show (kl.take M).length = M by rw [List.length_take, ← hN, Nat.min_eq_left hM2])
  have hMk := hide (show M ≤ kl.length by rw [← hN]; exact hM2)
  have hP := hide (fun W => pick_any c 6 hc1 hc2 (by decide) (by decide) W)
  have hpb := RW.pickI_bd c 6 (by decide)
  obtain ⟨pk, hpk⟩ : ∃ p, p = RW.pickI c 6 := ⟨_, rfl⟩
  obtain ⟨S', hS'⟩ : ∃ S', S' = RW.stepS n S ⟨c, o, m, s, .slice av N cv, kl⟩ := ⟨_, rfl⟩
  rw [← hS']
  have hSt := hS'
  rw [RW.stepS, ← hpk] at hSt
  rw [← hpk] at hP hpb
  have hCt := hide (fun W => cutS_any s 300 hs (by decide) W)
  have hcz : (RW.cut300 s).size ≤ 300 := by rw [RW.cut300, ByteArray.size_extract]; omega
  rw [show s.extract 0 (min s.size 300) = RW.cut300 s from rfl] at hCt
  obtain ⟨cs, hcs⟩ : ∃ cs, cs = RW.cut300 s := ⟨_, rfl⟩
  rw [← hcs] at hCt hcz
  have hcsH := hide hcs
  have hcsz := hide (show cs.size ≤ 9223372036854775807 by omega)
  have hJH := hide hJ
  have hfH := hide hf
  have hkvH := hide hkv
  have hkbH := hide hkb
  have hkH := hide hk
  have hbo := hide (⟨ho1, ho2⟩ : -9223372036854775808 ≤ o ∧ o ≤ 9223372036854775807)
  have hbm := hide (⟨hm1, hm2⟩ : -9223372036854775808 ≤ m ∧ m ≤ 9223372036854775807)
  have hn1H := hide hn1
  have hBB := hide (⟨hB1, hB2⟩ : B ≤ B1 ∧ B ≤ B2)
  have hps := sp_size ⟨c, o, m, s, .slice av N cv, kl⟩
  obtain ⟨wb, hwb⟩ : ∃ x, x = w.heap.size := ⟨_, rfl⟩
  have hA := hide ((Below.refl w.heap.size w).alloc (Nat.le_refl _) (.cells (RW.spl ⟨c, o, m, s, .slice av N cv, kl⟩).toArray 39))
  have hg0 := hide (show (w.alloc (.cells (RW.spl ⟨c, o, m, s, .slice av N cv, kl⟩).toArray 39)).heap[wb]? = some (.cells (RW.spl ⟨c, o, m, s, .slice av N cv, kl⟩).toArray 39 (0, 0)) from newAt hwb)
  have hwbH := hide hwb
  have hBw0 := hide (show B ≤ w.heap.size from Nat.le_trans hB1 (Nat.le_trans hJ.a.hb (Nat.le_of_lt hJ.a.lt.1)))
  have hStH := hide hSt
  obtain ⟨hp0, hp5⟩ := hpb
  clear hJ hf hS' hSt hpk hB1 hB2 hcs hkv hkb hwb hN hM hk hc1 hc2 ho1 ho2 hm1 hm2 hn1
  go_enter Try.func19, Try.ntmps19
  go_upto_region 1 with fail
  refine gen_w (fun W => W.heap[wb]? = some (.cells (RW.spl ⟨c, o, m, s, .slice av N cv, kl⟩).toArray 39 (0, 0)) ∧ Below w.heap.size w W) ⟨hg0.out, hA.out⟩ ?_
  rintro w1 ⟨k1, k2⟩
  rw [← hwbH.out]
  clear hg0 hA hwbH
  have hp1 := hide k1
  have hJ1 := hide (hJH.out.next k2)
  have hBw1 := hide (k2.mono hBw0.out)
  have hR1 := hide (hkvH.out.next k2)
  have hI1 := hide (hkbH.out.below (k2.mono hBw0.out))
  have c0 : w1.cell? ⟨wb, 0, none⟩ = some (.int .i64 c) := cellAt k1 0
  clear k1 k2 hJH hkvH hkbH hBw0
  go_upto_region 2 with (go_at_call 15; refine (hP.out _).mono ?_; rintro e w' ⟨rfl, rfl⟩)
  have hcase : pk = 0 ∨ pk = 1 ∨ pk = 2 ∨ pk = 3 ∨ pk = 4 ∨ pk = 5 := by omega
  clear hP c0 hp0 hp5
  rcases hcase with rfl | rfl | rfl | rfl | rfl | rfl
  · have hS0 := hide (show S' = (S.write n o cs).2 by rw [hStH.out, hcsH.out]; rfl)
    have e3 : w1.cell? ⟨wb, 3, none⟩ = some (.string s) := cellAt hp1.out 3
    go_upto_region 5 with (go_at_call 22; refine (hCt.out _).mono ?_; rintro e w' ⟨rfl, rfl⟩)
    refine wp_region_k (fun _ W => W.heap[wb]? = some (.cells (RW.spl ⟨c, o, m, s, .slice av N cv, kl⟩).toArray 39 (0, 0))) (fun W => JAt W n B1 b db vb B2 rb S p sb L q ∧ Below B w W) [4, 9] (.op 0 (.op 1 (.op 2 (.op 3 (.op 5 (.op 6 (.op 7 (.op 8 (.op 4 (.op 9 (.op 10 (.op 11 .nil)))))))))))) (by kernel_rfl) (by kernel_rfl) (by rfl) (by kernel_rfl) hp1.out ⟨hJ1.out.next (Below.refl _ _).drew, hBw1.out.trans (Below.refl _ _).drew⟩ ?_
    refine k_val (.pointer (some ⟨b, 0, none⟩)) (by apply opN; repeat' (first | apply OpAt.z | apply OpAt.s)) (by rfl) (by rfl) (fun _ W hS => op_mv rfl rfl) ?_
    simp only [Act.put, List.setIfInBounds_toArray, List.set_cons_zero, List.set_cons_succ]
    refine k_val (.pointer (some ⟨wb, 1, none⟩)) (by apply opN; repeat' (first | apply OpAt.z | apply OpAt.s)) (by rfl) (by rfl) (fun _ W hS => op_fa_sp (by decide) rfl rfl) ?_
    simp only [Act.put, List.setIfInBounds_toArray, List.set_cons_zero, List.set_cons_succ]
    refine k_val (.int .i64 o) (by apply opN; repeat' (first | apply OpAt.z | apply OpAt.s)) (by rfl) (by rfl) (fun _ W hS => op_load_int rfl rfl (cellAt hS 1)) ?_
    simp only [Act.put, List.setIfInBounds_toArray, List.set_cons_zero, List.set_cons_succ]
    refine k_val (.string cs) (by apply opN; repeat' (first | apply OpAt.z | apply OpAt.s)) (by rfl) (by rfl) (fun _ W hS => op_mv rfl rfl) ?_
    simp only [Act.put, List.setIfInBounds_toArray, List.set_cons_zero, List.set_cons_succ]
    refine k_val (.pointer (some ⟨rb, 0, none⟩)) (by apply opN; repeat' (first | apply OpAt.z | apply OpAt.s)) (by rfl) (by rfl) (fun _ W hS => op_mv rfl rfl) ?_
    simp only [Act.put, List.setIfInBounds_toArray, List.set_cons_zero, List.set_cons_succ]
    refine k_val (.pointer (some ⟨wb, 1, none⟩)) (by apply opN; repeat' (first | apply OpAt.z | apply OpAt.s)) (by rfl) (by rfl) (fun _ W hS => op_fa_sp (by decide) rfl rfl) ?_
    simp only [Act.put, List.setIfInBounds_toArray, List.set_cons_zero, List.set_cons_succ]
    refine k_val (.int .i64 o) (by apply opN; repeat' (first | apply OpAt.z | apply OpAt.s)) (by rfl) (by rfl) (fun _ W hS => op_load_int rfl rfl (cellAt hS 1)) ?_
    simp only [Act.put, List.setIfInBounds_toArray, List.set_cons_zero, List.set_cons_succ]
    refine k_val (.string cs) (by apply opN; repeat' (first | apply OpAt.z | apply OpAt.s)) (by rfl) (by rfl) (fun _ W hS => op_mv rfl rfl) ?_
    simp only [Act.put, List.setIfInBounds_toArray, List.set_cons_zero, List.set_cons_succ]
    refine k_step (fun K' u => u = .int .i64 (S.write n o cs).1 ∧ K' = fun W => ∃ p1, DiskAt W B1 b n db vb p1 (S.write n o cs).2 ∧ RefAt W B2 rb n sb L q S ∧ Below B w W) (by apply opN; repeat' (first | apply OpAt.z | apply OpAt.s)) (by rfl) (by rfl) (by rfl) (fun W hC hK => ?_) ?_
    · refine op_x3 rfl rfl rfl rfl rfl (fun _ _ => rfl) ((write_any B1 b n db vb p S o cs W hK.1.a (by have := hfH.out.len; have := hkH.out; omega) hcsz.out).mono ?_)
      rintro e W' ⟨rfl, p1, h1, h2, h3⟩
      exact ⟨_, rfl, h2.parS hK.1.a hC, _, ⟨p1, h1, hK.1.r.tch hK.1.a hK.1.n1 hK.1.n2 h2, hK.2.trans (h3.mono hBB.out.1)⟩, rfl, rfl⟩
    rintro _ _ ⟨rfl, rfl⟩
    simp only [Act.put, List.setIfInBounds_toArray, List.set_cons_zero, List.set_cons_succ]
    refine k_step (fun K' u => u = .int .i64 (S.write n o cs).1 ∧ K' = fun W => ∃ p1 q1, JAt W n B1 b db vb B2 rb (S.write n o cs).2 p1 sb L q1 ∧ Below B w W) (by apply opN; repeat' (first | apply OpAt.z | apply OpAt.s)) (by rfl) (by rfl) (by rfl) (fun W hC hK => ?_) ?_
    · obtain ⟨p1, hD, hR, hW⟩ := hK
      refine op_x3 rfl rfl rfl rfl rfl (fun _ _ => rfl) ((rwrite_any B2 rb n sb L q S o cs hbo.out.1 hbo.out.2 hcsz.out (by have := hfH.out.len; have := hkH.out; omega) W hR).mono ?_)
      rintro e W' ⟨rfl, q1, h1, h2, h3⟩
      have hx := hD.rfr hR hJ1.out.n1 hJ1.out.n2 h2
      exact ⟨_, rfl, h2.par hR hC, _, ⟨p1, q1, ⟨hx.1, h1, hJ1.out.n1, hJ1.out.n2⟩, hW.trans (h3.mono hBB.out.2)⟩, rfl, rfl⟩
    rintro _ _ ⟨rfl, rfl⟩
    simp only [Act.put, List.setIfInBounds_toArray, List.set_cons_zero, List.set_cons_succ]
    refine k_val (.bool true) (by apply opN; repeat' (first | apply OpAt.z | apply OpAt.s)) (by rfl) (by rfl) (fun _ W hS => op_eqe rfl rfl rfl) ?_
    simp only [Act.put, List.setIfInBounds_toArray, List.set_cons_zero, List.set_cons_succ]
    refine k_val (.bool true) (by apply opN; repeat' (first | apply OpAt.z | apply OpAt.s)) (by rfl) (by rfl) (fun _ W hS => op_asg rfl rfl) ?_
    simp only [Act.put, List.setIfInBounds_toArray, List.set_cons_zero, List.set_cons_succ]
    refine k_nil ?_
    intro W hC hK
    obtain ⟨p1, q1, hJ, hW⟩ := hK
    have hJe := hide hJ
    have hWe := hide hW
    clear hC hJ hW
    go_wp2
    go_ret
    first | exact ⟨rfl, p1, sb, L, q1, by rw [hS0.out]; exact hJe.out, hWe.out⟩ | exact ⟨rfl, ⟨p1, sb, L, q1, by rw [hS0.out]; exact hJe.out⟩, hWe.out⟩
  · have hS0 := hide (show S' = (S.write n o cs).2 by rw [hStH.out, hcsH.out]; rfl)
    have e3 : w1.cell? ⟨wb, 3, none⟩ = some (.string s) := cellAt hp1.out 3
    go_upto_region 5 with (go_at_call 22; refine (hCt.out _).mono ?_; rintro e w' ⟨rfl, rfl⟩)
    refine wp_region_k (fun _ W => W.heap[wb]? = some (.cells (RW.spl ⟨c, o, m, s, .slice av N cv, kl⟩).toArray 39 (0, 0))) (fun W => JAt W n B1 b db vb B2 rb S p sb L q ∧ Below B w W) [4, 9] (.op 0 (.op 1 (.op 2 (.op 3 (.op 5 (.op 6 (.op 7 (.op 8 (.op 4 (.op 9 (.op 10 (.op 11 .nil)))))))))))) (by kernel_rfl) (by kernel_rfl) (by rfl) (by kernel_rfl) hp1.out ⟨hJ1.out.next (Below.refl _ _).drew, hBw1.out.trans (Below.refl _ _).drew⟩ ?_
    refine k_val (.pointer (some ⟨b, 0, none⟩)) (by apply opN; repeat' (first | apply OpAt.z | apply OpAt.s)) (by rfl) (by rfl) (fun _ W hS => op_mv rfl rfl) ?_
    simp only [Act.put, List.setIfInBounds_toArray, List.set_cons_zero, List.set_cons_succ]
    refine k_val (.pointer (some ⟨wb, 1, none⟩)) (by apply opN; repeat' (first | apply OpAt.z | apply OpAt.s)) (by rfl) (by rfl) (fun _ W hS => op_fa_sp (by decide) rfl rfl) ?_
    simp only [Act.put, List.setIfInBounds_toArray, List.set_cons_zero, List.set_cons_succ]
    refine k_val (.int .i64 o) (by apply opN; repeat' (first | apply OpAt.z | apply OpAt.s)) (by rfl) (by rfl) (fun _ W hS => op_load_int rfl rfl (cellAt hS 1)) ?_
    simp only [Act.put, List.setIfInBounds_toArray, List.set_cons_zero, List.set_cons_succ]
    refine k_val (.string cs) (by apply opN; repeat' (first | apply OpAt.z | apply OpAt.s)) (by rfl) (by rfl) (fun _ W hS => op_mv rfl rfl) ?_
    simp only [Act.put, List.setIfInBounds_toArray, List.set_cons_zero, List.set_cons_succ]
    refine k_val (.pointer (some ⟨rb, 0, none⟩)) (by apply opN; repeat' (first | apply OpAt.z | apply OpAt.s)) (by rfl) (by rfl) (fun _ W hS => op_mv rfl rfl) ?_
    simp only [Act.put, List.setIfInBounds_toArray, List.set_cons_zero, List.set_cons_succ]
    refine k_val (.pointer (some ⟨wb, 1, none⟩)) (by apply opN; repeat' (first | apply OpAt.z | apply OpAt.s)) (by rfl) (by rfl) (fun _ W hS => op_fa_sp (by decide) rfl rfl) ?_
    simp only [Act.put, List.setIfInBounds_toArray, List.set_cons_zero, List.set_cons_succ]
    refine k_val (.int .i64 o) (by apply opN; repeat' (first | apply OpAt.z | apply OpAt.s)) (by rfl) (by rfl) (fun _ W hS => op_load_int rfl rfl (cellAt hS 1)) ?_
    simp only [Act.put, List.setIfInBounds_toArray, List.set_cons_zero, List.set_cons_succ]
    refine k_val (.string cs) (by apply opN; repeat' (first | apply OpAt.z | apply OpAt.s)) (by rfl) (by rfl) (fun _ W hS => op_mv rfl rfl) ?_
    simp only [Act.put, List.setIfInBounds_toArray, List.set_cons_zero, List.set_cons_succ]
    refine k_step (fun K' u => u = .int .i64 (S.write n o cs).1 ∧ K' = fun W => ∃ p1, DiskAt W B1 b n db vb p1 (S.write n o cs).2 ∧ RefAt W B2 rb n sb L q S ∧ Below B w W) (by apply opN; repeat' (first | apply OpAt.z | apply OpAt.s)) (by rfl) (by rfl) (by rfl) (fun W hC hK => ?_) ?_
    · refine op_x3 rfl rfl rfl rfl rfl (fun _ _ => rfl) ((write_any B1 b n db vb p S o cs W hK.1.a (by have := hfH.out.len; have := hkH.out; omega) hcsz.out).mono ?_)
      rintro e W' ⟨rfl, p1, h1, h2, h3⟩
      exact ⟨_, rfl, h2.parS hK.1.a hC, _, ⟨p1, h1, hK.1.r.tch hK.1.a hK.1.n1 hK.1.n2 h2, hK.2.trans (h3.mono hBB.out.1)⟩, rfl, rfl⟩
    rintro _ _ ⟨rfl, rfl⟩
    simp only [Act.put, List.setIfInBounds_toArray, List.set_cons_zero, List.set_cons_succ]
    refine k_step (fun K' u => u = .int .i64 (S.write n o cs).1 ∧ K' = fun W => ∃ p1 q1, JAt W n B1 b db vb B2 rb (S.write n o cs).2 p1 sb L q1 ∧ Below B w W) (by apply opN; repeat' (first | apply OpAt.z | apply OpAt.s)) (by rfl) (by rfl) (by rfl) (fun W hC hK => ?_) ?_
    · obtain ⟨p1, hD, hR, hW⟩ := hK
      refine op_x3 rfl rfl rfl rfl rfl (fun _ _ => rfl) ((rwrite_any B2 rb n sb L q S o cs hbo.out.1 hbo.out.2 hcsz.out (by have := hfH.out.len; have := hkH.out; omega) W hR).mono ?_)
      rintro e W' ⟨rfl, q1, h1, h2, h3⟩
      have hx := hD.rfr hR hJ1.out.n1 hJ1.out.n2 h2
      exact ⟨_, rfl, h2.par hR hC, _, ⟨p1, q1, ⟨hx.1, h1, hJ1.out.n1, hJ1.out.n2⟩, hW.trans (h3.mono hBB.out.2)⟩, rfl, rfl⟩
    rintro _ _ ⟨rfl, rfl⟩
    simp only [Act.put, List.setIfInBounds_toArray, List.set_cons_zero, List.set_cons_succ]
    refine k_val (.bool true) (by apply opN; repeat' (first | apply OpAt.z | apply OpAt.s)) (by rfl) (by rfl) (fun _ W hS => op_eqe rfl rfl rfl) ?_
    simp only [Act.put, List.setIfInBounds_toArray, List.set_cons_zero, List.set_cons_succ]
    refine k_val (.bool true) (by apply opN; repeat' (first | apply OpAt.z | apply OpAt.s)) (by rfl) (by rfl) (fun _ W hS => op_asg rfl rfl) ?_
    simp only [Act.put, List.setIfInBounds_toArray, List.set_cons_zero, List.set_cons_succ]
    refine k_nil ?_
    intro W hC hK
    obtain ⟨p1, q1, hJ, hW⟩ := hK
    have hJe := hide hJ
    have hWe := hide hW
    clear hC hJ hW
    go_wp2
    go_ret
    first | exact ⟨rfl, p1, sb, L, q1, by rw [hS0.out]; exact hJe.out, hWe.out⟩ | exact ⟨rfl, ⟨p1, sb, L, q1, by rw [hS0.out]; exact hJe.out⟩, hWe.out⟩
  · have hS0 := hide (show S' = S.sync.2 by rw [hStH.out]; rfl)
    have hSy := hide (sync_any B1 b n db vb p S w1 hJ1.out.a)
    go_wp2_with (first
      | (go_at_call 23; refine hSy.out.mono ?_; rintro e w2 ⟨rfl, p1, h1, h2, h3⟩; have hd := hide h1; have hr := hide (hJ1.out.r.tch hJ1.out.a hJ1.out.n1 hJ1.out.n2 h2); have hb := hide (hBw1.out.trans (h3.mono hBB.out.1)); clear h1 h2 h3)
      | (go_at_call 31; refine (rsync_any B2 rb n sb L q S hn1H.out hfH.out.ok (by have := hfH.out.len; have := hkH.out; omega) hfH.out.rp w2 hr.out).mono ?_; rintro e w3 ⟨rfl, sb', L', q', g1, g2, g3⟩; have hx := hide (hd.out.rfr hr.out hJ1.out.n1 hJ1.out.n2 g2); have hr2 := hide g1; have hb2 := hide (hb.out.trans (g3.mono hBB.out.2)); clear g1 g2 g3))
    go_ret
    exact ⟨rfl, p1, sb', L', q', by rw [hS0.out]; exact ⟨hx.out.1, hr2.out, hx.out.2.1, hx.out.2.2⟩, hb2.out⟩
  · have hS0 := hide (show S' = S by rw [hStH.out]; rfl)
    have e1 : w1.cell? ⟨wb, 1, none⟩ = some (.int .i64 o) := cellAt hp1.out 1
    have e2 : w1.cell? ⟨wb, 2, none⟩ = some (.int .i64 m) := cellAt hp1.out 2
    have hRd := hide (read_any B1 b n db vb p S o m w1 hJ1.out.a)
    have hRr := hide (rread_any B2 rb n sb L q S hn1H.out hfH.out.ok (by have := hfH.out.len; have := hkH.out; omega) hfH.out.rp o m hbo.out.1 hbo.out.2 hbm.out.1 hbm.out.2 w1 hJ1.out.r)
    obtain ⟨rs, hrs⟩ : ∃ x, x = (S.read n o m).1 := ⟨_, rfl⟩
    obtain ⟨re, hre⟩ : ∃ x, x = (S.read n o m).2 := ⟨_, rfl⟩
    rw [← hrs, ← hre] at hRd hRr
    clear hrs hre
    go_wp2_with (first
      | (go_at_call 14; refine hRd.out.mono ?_; rintro e w' ⟨rfl, rfl⟩)
      | (go_at_call 20; refine hRr.out.mono ?_; rintro e w2 ⟨rfl, h1⟩; have hJ2 := hide (hJ1.out.next h1); have hb2 := hide (hBw1.out.trans (h1.mono (by have := hBB.out.1; have := hJ1.out.a.hb; have := hJ1.out.a.lt.1; omega))); clear h1))
    go_ret
    exact ⟨rfl, p, sb, L, q, by rw [hS0.out]; exact hJ2.out, hb2.out⟩
  · have hS0 := hide (show S' = (S.cut m).2 by rw [hStH.out]; rfl)
    go_upto_region 13 with fail
    refine wp_region_k (fun _ W => W.heap[wb]? = some (.cells (RW.spl ⟨c, o, m, s, .slice av N cv, kl⟩).toArray 39 (0, 0))) (fun W => JAt W n B1 b db vb B2 rb S p sb L q ∧ Below B w W) [3, 7] (.op 0 (.op 1 (.op 2 (.op 4 (.op 5 (.op 6 (.op 3 (.op 7 (.op 8 (.op 9 .nil)))))))))) (by kernel_rfl) (by kernel_rfl) (by rfl) (by kernel_rfl) hp1.out ⟨hJ1.out.next (Below.refl _ _).drew, hBw1.out.trans (Below.refl _ _).drew⟩ ?_
    refine k_val (.pointer (some ⟨b, 0, none⟩)) (by apply opN; repeat' (first | apply OpAt.z | apply OpAt.s)) (by rfl) (by rfl) (fun _ W hS => op_mv rfl rfl) ?_
    simp only [Act.put, List.setIfInBounds_toArray, List.set_cons_zero, List.set_cons_succ]
    refine k_val (.pointer (some ⟨wb, 2, none⟩)) (by apply opN; repeat' (first | apply OpAt.z | apply OpAt.s)) (by rfl) (by rfl) (fun _ W hS => op_fa_sp (by decide) rfl rfl) ?_
    simp only [Act.put, List.setIfInBounds_toArray, List.set_cons_zero, List.set_cons_succ]
    refine k_val (.int .i64 m) (by apply opN; repeat' (first | apply OpAt.z | apply OpAt.s)) (by rfl) (by rfl) (fun _ W hS => op_load_int rfl rfl (cellAt hS 2)) ?_
    simp only [Act.put, List.setIfInBounds_toArray, List.set_cons_zero, List.set_cons_succ]
    refine k_val (.pointer (some ⟨rb, 0, none⟩)) (by apply opN; repeat' (first | apply OpAt.z | apply OpAt.s)) (by rfl) (by rfl) (fun _ W hS => op_mv rfl rfl) ?_
    simp only [Act.put, List.setIfInBounds_toArray, List.set_cons_zero, List.set_cons_succ]
    refine k_val (.pointer (some ⟨wb, 2, none⟩)) (by apply opN; repeat' (first | apply OpAt.z | apply OpAt.s)) (by rfl) (by rfl) (fun _ W hS => op_fa_sp (by decide) rfl rfl) ?_
    simp only [Act.put, List.setIfInBounds_toArray, List.set_cons_zero, List.set_cons_succ]
    refine k_val (.int .i64 m) (by apply opN; repeat' (first | apply OpAt.z | apply OpAt.s)) (by rfl) (by rfl) (fun _ W hS => op_load_int rfl rfl (cellAt hS 2)) ?_
    simp only [Act.put, List.setIfInBounds_toArray, List.set_cons_zero, List.set_cons_succ]
    refine k_step (fun K' u => u = .int .i64 (S.cut m).1 ∧ K' = fun W => ∃ p1, DiskAt W B1 b n db vb p1 (S.cut m).2 ∧ RefAt W B2 rb n sb L q S ∧ Below B w W) (by apply opN; repeat' (first | apply OpAt.z | apply OpAt.s)) (by rfl) (by rfl) (by rfl) (fun W hC hK => ?_) ?_
    · refine op_x2 rfl rfl rfl rfl (fun _ _ => rfl) ((cut_any B1 b n db vb p S m hbm.out.2 W hK.1.a).mono ?_)
      rintro e W' ⟨rfl, h1, h2, h3⟩
      exact ⟨_, rfl, h2.parS hK.1.a hC, _, ⟨p, h1, hK.1.r.tch hK.1.a hK.1.n1 hK.1.n2 h2, hK.2.trans (h3.mono hBB.out.1)⟩, rfl, rfl⟩
    rintro _ _ ⟨rfl, rfl⟩
    simp only [Act.put, List.setIfInBounds_toArray, List.set_cons_zero, List.set_cons_succ]
    refine k_step (fun K' u => u = .int .i64 (S.cut m).1 ∧ K' = fun W => ∃ p1 q1, JAt W n B1 b db vb B2 rb (S.cut m).2 p1 sb L q1 ∧ Below B w W) (by apply opN; repeat' (first | apply OpAt.z | apply OpAt.s)) (by rfl) (by rfl) (by rfl) (fun W hC hK => ?_) ?_
    · obtain ⟨p1, hD, hR, hW⟩ := hK
      refine op_x2 rfl rfl rfl rfl (fun _ _ => rfl) ((rcut_any B2 rb n sb L q S m hbm.out.2 W hR).mono ?_)
      rintro e W' ⟨rfl, h1, h2, h3⟩
      have hx := hD.rfr hR hJ1.out.n1 hJ1.out.n2 h2
      exact ⟨_, rfl, h2.par hR hC, _, ⟨p1, q, ⟨hx.1, h1, hJ1.out.n1, hJ1.out.n2⟩, hW.trans (h3.mono hBB.out.2)⟩, rfl, rfl⟩
    rintro _ _ ⟨rfl, rfl⟩
    simp only [Act.put, List.setIfInBounds_toArray, List.set_cons_zero, List.set_cons_succ]
    refine k_val (.bool true) (by apply opN; repeat' (first | apply OpAt.z | apply OpAt.s)) (by rfl) (by rfl) (fun _ W hS => op_eqe rfl rfl rfl) ?_
    simp only [Act.put, List.setIfInBounds_toArray, List.set_cons_zero, List.set_cons_succ]
    refine k_val (.bool true) (by apply opN; repeat' (first | apply OpAt.z | apply OpAt.s)) (by rfl) (by rfl) (fun _ W hS => op_asg rfl rfl) ?_
    simp only [Act.put, List.setIfInBounds_toArray, List.set_cons_zero, List.set_cons_succ]
    refine k_nil ?_
    intro W hC hK
    obtain ⟨p1, q1, hJ, hW⟩ := hK
    have hJe := hide hJ
    have hWe := hide hW
    clear hC hJ hW
    go_wp2
    go_ret
    first | exact ⟨rfl, p1, sb, L, q1, by rw [hS0.out]; exact hJe.out, hWe.out⟩ | exact ⟨rfl, ⟨p1, sb, L, q1, by rw [hS0.out]; exact hJe.out⟩, hWe.out⟩
  · have hS0 := hide (show S' = S.crash (kl.take M) m by rw [hMt.out, hStH.out]; rfl)
    have e4 : w1.cell? ⟨wb, 4, none⟩ = some (.slice av N cv) := cellAt hp1.out 4
    have e2 : w1.cell? ⟨wb, 2, none⟩ = some (.int .i64 m) := cellAt hp1.out 2
    have hIm := hide (hI1.out.first M hMk.out)
    have hRm := hide (hR1.out.first M hMk.out)
    have hCr := hide (rcrash_any B2 rb n sb L q S hn1H.out hfH.out.ok (by have := hfH.out.len; have := hkH.out; omega) (.slice av M cv) (kl.take M) m hbm.out.1 hbm.out.2 (fun x hx => by have := hfH.out.ok x hx; have := hJ1.out.r.hn; omega) (by rw [hMl.out]; omega) w1 hRm.out hJ1.out.r)
    go_wp2_with (first
      | (go_at_call 33; refine hCr.out.mono ?_; rintro e w2 ⟨⟨v2, rfl⟩, L', q', g1, g2, g3⟩; have hx := hide (hJ1.out.a.rfr hJ1.out.r hJ1.out.n1 hJ1.out.n2 g2); have hr2 := hide g1; have hb2 := hide (hBw1.out.trans (g3.mono hBB.out.2)); have hI2 := hide (hIm.out.below (g3.mono hBB.out.2)); have f2 : w2.cell? ⟨wb, 2, none⟩ = some (.int .i64 m) := cellAt (g2.par hJ1.out.r hp1.out) 2; clear g1 g2 g3)
      | (go_at_call 25; refine (crash_any B1 b n db vb p S (.slice av M cv) (kl.take M) m w2 hx.out.1 hfH.out.ok (by rw [hMl.out]; omega) (hI2.out.lift (Below.refl _ _) (by have := hBB.out.1; have := hx.out.1.hb; have := hx.out.1.lt.1; omega))).mono ?_; rintro e w3 ⟨rfl, p3, h1, h2, h3⟩; have hr3 := hide (hr2.out.tch hx.out.1 hx.out.2.1 hx.out.2.2 h2); have hd3 := hide h1; have hb3 := hide (hb2.out.trans (h3.mono hBB.out.1)); clear h1 h2 h3))
    go_ret
    exact ⟨rfl, p3, sb, L', q', by rw [hS0.out]; exact ⟨hd3.out, hr3.out, hx.out.2.1, hx.out.2.2⟩, hb3.out⟩
end Go.Proofs.Ytehenjgggaedeaa
