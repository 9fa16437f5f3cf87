/-
  Package factset: sets in memory; New, Add, Len, Get, Has: what they return, what they write.
-/
import Derived.Test.YtnlphbfjeekooaaGreatDoorFs0
import Derived.Test.YtnlphbfjeekooaaGreatDoorFsP
import Derived.Test.YtnlphbfjeekooaaGreatDoorFact8
namespace Go.Proofs.YtnlphbfjeekooaaGreatDoor
open Go.RowKit RG
theorem setRow_allocF (w : World) (old cs : Array Value) (t : TypeId) : (w.alloc (.cells old t)).setRow w.heap.size cs = w.alloc (.cells cs t) := by
  simp only [World.setRow, World.alloc]
  congr 1
  apply Array.ext_getElem?
  intro i
  rw [Array.getElem?_modify]
  by_cases h : w.heap.size = i
  · subst h; simp
  · rw [if_neg h, Array.getElem?_push, Array.getElem?_push, if_neg (Ne.symm h), if_neg (Ne.symm h)]
/-- a whole row goes into a variable that was just made -/
theorem wpList_store_newF {P : Program} {ops : Array Oper} {rest : List Oper} {o : Oper} {a : Act} {w : World} {Q : Exit → Act → World → Prop} (hgd : o.guard = none) (ty : TypeId) (x y : Operand) (ho : o.op = .store ty x y)
    (cells : Array Value) (hx : a.eval x = .pointer (some ⟨w.heap.size, 0, none⟩)) (hy : a.eval y = .agg cells)
    (t : TypeId) (old : Array Value) (hi : (P.info? ty).map (·.size) = some cells.size) (hold : old.size = cells.size) (h1 : cells.all (·.oneCell') = true)
    (h : wpList P ops Q rest (a.put o.dst undef) (w.alloc (.cells cells t))) : wpList P ops Q (o :: rest) a (w.alloc (.cells old t)) := by
  refine wpList_store_row hgd ty x y ho w.heap.size cells hx hy t old (heap_alloc_new w _) hi hold h1 ?_
  rw [setRow_allocF]; exact h
theorem fcells_oneF (f : Nat → Int) (s : ByteArray) : (RW.fcells f s).all (·.oneCell') = true := by simp [RW.fcells, Value.oneCell']
theorem fact_infoF (f : Nat → Int) (s : ByteArray) : (Tryz.prog.info? 38).map (·.size) = some (RW.fcells f s).size := by kernel_rfl
namespace RW
abbrev Fc := (Nat → Int) × ByteArray
abbrev Ents := List (ByteArray × Value)
/-- a fact as a value -/
def fv (x : Fc) : Value := .agg (fcells x.1 x.2)
def fce (x : Fc) : List Value := (fcells x.1 x.2).toList
abbrev strK : ByteArray → Value := fun x => .string x
def FVs (C : Ents) : Prop := ∀ x ∈ C, ∃ y : Fc, x.2 = fv y
theorem FVs.nil : FVs [] := fun x h => by cases h
theorem FVs.ins {C : Ents} (h : FVs C) (k : ByteArray) (y : Fc) : FVs (insE k (fv y) C) := fun x hx => by
  rcases mem_insE hx with rfl | hx
  · exact ⟨y, rfl⟩
  · exact h x hx
def zeroFv : Fc := (fun _ => 0, ⟨#[]⟩)
theorem FVs.get {C : Ents} (h : FVs C) (k : ByteArray) : ∃ y : Fc, (KM.get k C).getD (fv zeroFv) = fv y := by
  cases e : KM.get k C with
  | none => exact ⟨zeroFv, rfl⟩
  | some v => exact h _ (KM.get_mem e)
end RW
theorem fcl_len (x : RW.Fc) : (RW.fce x).length = 18 := rfl
theorem ChgS.of_belowF {Q : Nat → Prop} {W W' : World} (h : Below W.heap.size W W') : ChgS Q W W' := ⟨h.os, h.tape, h.output, h.size, fun k hk _ => h.block k hk⟩
theorem ChgS.impF {Q Q' : Nat → Prop} {W W' : World} (h : ChgS Q W W') (hq : ∀ k, Q k → Q' k) : ChgS Q' W W' := ⟨h.os, h.tape, h.output, h.size, fun k hk hn => h.block k hk fun e => hn (hq k e)⟩
/-- a set in the blocks sb, mb, which holds C -/
structure SetAt (W : World) (sb mb : Nat) (C : RW.Ents) : Prop where
  row : W.heap[sb]? = some (.cells #[.map (some mb)] 78 (0, 0))
  map : ∃ M, KM.OwnM RW.strK W mb M ∧ RW.Cont M C
  fvs : RW.FVs C
section
variable {W W' : World} {sb mb : Nat} {C : RW.Ents}
theorem SetAt.lt (h : SetAt W sb mb C) : sb < W.heap.size ∧ mb < W.heap.size := by
  obtain ⟨M, hM, _⟩ := h.map
  exact ⟨(Array.getElem?_eq_some_iff.1 h.row).1, hM.lt⟩
theorem SetAt.keep (h : SetAt W sb mb C) (h1 : W'.heap[sb]? = W.heap[sb]?) (h2 : W'.heap[mb]? = W.heap[mb]?) : SetAt W' sb mb C := by
  obtain ⟨M, hM, hC⟩ := h.map
  exact ⟨h1.trans h.row, ⟨M, hM.keep h2, hC⟩, h.fvs⟩
theorem SetAt.next (h : SetAt W sb mb C) (hB : Below W.heap.size W W') : SetAt W' sb mb C := h.keep (hB.block _ h.lt.1) (hB.block _ h.lt.2)
theorem SetAt.asc (h : SetAt W sb mb C) : RW.AscE C := by obtain ⟨_, _, hC⟩ := h.map; exact hC.1
theorem SetAt.ne (h : SetAt W sb mb C) : sb ≠ mb := by
  obtain ⟨M, ⟨es, clock, hM, _⟩, _⟩ := h.map
  rintro rfl
  rw [h.row] at hM
  cases hM
theorem SetAt.nem (h : SetAt W sb mb C) {b : Nat} {c : Array Value} {t : TypeId} {fr : Nat × Nat} (hb : W.heap[b]? = some (.cells c t fr)) : b ≠ mb := by
  obtain ⟨M, ⟨es, clock, hM, _⟩, _⟩ := h.map
  rintro rfl
  rw [hb] at hM
  cases hM
theorem SetAt.cell (h : SetAt W sb mb C) : W.cell? ⟨sb, 0, none⟩ = some (.map (some mb)) := cellAt h.row 0
theorem strK_key : KM.Key Tryz.prog 9 RW.strK := KM.str_key Tryz.underlying9
theorem zero_fact (W : World) : (zeroValue 38).run Tryz.prog W = .ok (RW.fv RW.zeroFv) W := by
  unfold RW.fv RW.zeroFv RW.fcells
  go_simp
theorem SetAt.look (h : SetAt W sb mb C) (k : ByteArray) : (Instr.lookup 76 (.map (some mb)) (.string k) true).run Tryz.prog W = .ok (.tuple #[(KM.get k C).getD (RW.fv RW.zeroFv), .bool (KM.get k C).isSome]) W := by
  obtain ⟨M, hM, hC⟩ := h.map
  have := hM.lookup_ok strK_key Tryz.underlying76 (zero_fact W) k
  rw [hC.2.2] at this
  exact this
theorem SetAt.look1 (h : SetAt W sb mb C) (k : ByteArray) : (Instr.lookup 76 (.map (some mb)) (.string k) false).run Tryz.prog W = .ok ((KM.get k C).getD (RW.fv RW.zeroFv)) W := by
  obtain ⟨M, hM, hC⟩ := h.map
  have := hM.lookup strK_key Tryz.underlying76 (zero_fact W) k
  rw [hC.2.2] at this
  exact this
theorem SetAt.len (h : SetAt W sb mb C) (t : TypeId) : (Builtin.len_ #[76] t #[.map (some mb)]).run Tryz.prog W = .ok (.int .i64 C.length) W := by
  obtain ⟨M, hM, hC⟩ := h.map
  have := hM.made_len t Tryz.underlying76
  rw [hC.len] at this
  exact this
/-- a new entry -/
theorem SetAt.update (h : SetAt W sb mb C) (k : ByteArray) (y : RW.Fc) (hk : KM.get k C = none) :
    ∃ w', (Instr.mapUpdate 76 (.map (some mb)) (.string k) (RW.fv y)).run Tryz.prog W = .ok () w' ∧ SetAt w' sb mb (RW.insE k (RW.fv y) C) ∧ ChgS (fun j => j = mb) W w' ∧ w'.heap.size = W.heap.size := by
  obtain ⟨M, hM, hC⟩ := h.map
  obtain ⟨w', hr, ho, g1, g2, g3, g4, g5⟩ := hM.update strK_key Tryz.underlying76 k (RW.fv y)
  exact ⟨w', hr, ⟨(g5 _ h.ne).trans h.row, ⟨_, ho, hC.put _ hk⟩, h.fvs.ins k y⟩, ⟨g1, g2, g3, Nat.le_of_eq g4.symm, fun j _ hj => g5 j hj⟩, g4⟩
end
set_option maxRecDepth 10000 in
theorem snew_any (w : World) : Calls Tryz.prog 19 #[] w fun e w' => ∃ sb mb, e = .returned (.pointer (some ⟨sb, 0, none⟩)) ∧ SetAt w' sb mb [] ∧ Below w.heap.size w w' ∧ w.heap.size ≤ sb ∧ w.heap.size ≤ mb := by
  have hmk : ∀ W, (Instr.makeMap 76 none).run Tryz.prog W = .ok (.map (some W.heap.size)) (W.alloc (.map #[] 0)) := fun _ => rfl
  go_enter Tryz.func19, Tryz.ntmps19
  go_wp2
  go_ret
  refine ⟨w.heap.size + 1, w.heap.size, rfl, ⟨?_, ⟨[], ?_, RW.Cont.nil⟩, RW.FVs.nil⟩, ?_, by omega, Nat.le_refl _⟩
  · exact newAt (by simp)
  · exact (KM.OwnM.made w).keep (Below.heap_alloc _ _ _ (by simp))
  · exact alloc_bel (alloc_bel (Below.refl _ _) (Nat.le_refl _) _) (by simp) _
set_option maxRecDepth 10000 in
theorem slen_any (sb mb : Nat) (C : RW.Ents) (w : World) (h : SetAt w sb mb C) : Calls Tryz.prog 23 #[.pointer (some ⟨sb, 0, none⟩)] w fun e w' => e = .returned (.int .i64 C.length) ∧ w' = w := by
  have c0 := h.cell
  have hl := h.len 3
  go_enter Tryz.func23, Tryz.ntmps23
  go_wp2
  go_ret
  exact ⟨rfl, rfl⟩
theorem slen_nil (w : World) : Calls Tryz.prog 23 #[.pointer none] w fun e w' => e = .returned (.int .i64 0) ∧ w' = w := by
  go_enter Tryz.func23, Tryz.ntmps23
  go_wp2
  go_ret
  exact ⟨rfl, rfl⟩
theorem get_results (tmps : Array Value) (w : World) (B : Nat) (cs : Array Value) (v : Bool) (hn : cs.size = 18) (h4 : tmps[4]? = some (.pointer (some ⟨B, 0, none⟩))) (h5 : tmps[5]? = some (.bool v))
    (hx : w.heap[B]? = some (.cells cs 38 (0, 0))) : (results Tryz.f35 tmps).run Tryz.prog w = .ok (.tuple #[.agg cs, .bool v]) w := by
  have e1 : (loadVar 38 ⟨B, 0, none⟩).run Tryz.prog w = .ok (.agg cs) w := run_loadVar_row w B 38 38 cs (0, 0) _ hx Tryz.underlying38 rfl (by
    rw [hn]; kernel_rfl)
  simp [results, Tryz.results35, h4, h5, asAddr, e1]
attribute [local go_sem ↓] ldRow_fact
set_option maxRecDepth 100000 in
set_option maxHeartbeats 4000000 in
theorem sget_any (sb mb : Nat) (C : RW.Ents) (k : ByteArray) (w : World) (h : SetAt w sb mb C) :
    Calls Tryz.prog 35 #[.pointer (some ⟨sb, 0, none⟩), .string k] w fun e w' => e = .returned (.tuple #[(KM.get k C).getD (RW.fv RW.zeroFv), .bool (KM.get k C).isSome]) ∧ Below w.heap.size w w' := by
  obtain ⟨y, hy⟩ := h.fvs.get k
  obtain ⟨q, hq⟩ : ∃ q, q = (KM.get k C).isSome := ⟨_, rfl⟩
  obtain ⟨cs, hcs⟩ : ∃ cs, cs = RW.fcells y.1 y.2 := ⟨_, rfl⟩
  have hnx := hide (fun W (hW : Below w.heap.size w W) => h.next hW)
  have hlk := hide (fun W (hW : Below w.heap.size w W) => (h.next hW).look k)
  rw [← hq, hy] at hlk ⊢
  rw [show RW.fv y = .agg cs by rw [hcs]; rfl] at hlk ⊢
  have hi := fact_infoF y.1 y.2
  have h1 := fcells_oneF y.1 y.2
  have hn : cs.size = 18 := by rw [hcs]; rfl
  rw [← hcs] at hi h1
  obtain ⟨zs, hzs⟩ : ∃ zs, zs = RW.fcells (fun _ => 0) ⟨#[]⟩ := ⟨_, rfl⟩
  have hz : zs.size = 18 := by rw [hzs]; rfl
  have hz2 : zs.size = cs.size := by omega
  unfold RW.fcells at hzs
  have hzsf := hzs.symm
  obtain ⟨b0, hb0⟩ : ∃ b, b = w.heap.size := ⟨_, rfl⟩
  have hb0H := hide hb0
  rw [← hb0] at hnx hlk ⊢
  clear hcs hy hq h hzs hb0
  go_enter Tryz.func35, Tryz.ntmps35
  go_upto_region 3 with fail
  rw [← hb0H.out]
  refine gen_w (fun W => Below b0 w W ∧ W.heap[b0]? = some (.cells zs 38 (0, 0))) ⟨by rw [hb0H.out]; exact alloc_bel (Below.refl _ _) (Nat.le_refl _) _, by rw [hb0H.out]; exact (alloc_at1 _ _).trans (by rw [← hzsf])⟩ ?_
  rintro w1 ⟨hB1, hz1⟩
  have hB1H := hide hB1
  have hz1H := hide hz1
  have hS1 := hide (hnx.out w1 hB1)
  have c1 := hS1.out.cell
  have hl1 := hlk.out w1 hB1
  clear hB1 hz1 hzsf
  go_upto_region 4 with (refine wpList_store_newF rfl 38 (.tmp 6) (.tmp 18) rfl cs rfl rfl 38 _ hi (by rw [hn]; rfl) h1 ?_)
  have hA := hide (alloc_bel (Below.refl w1.heap.size w1) (Nat.le_refl _) (.cells cs 38))
  refine gen_w (fun W => Below b0 w W ∧ W.heap[b0]? = some (.cells zs 38 (0, 0)) ∧ W.heap[w1.heap.size]? = some (.cells cs 38 (0, 0))) ⟨hB1H.out.trans (hA.out.mono (by rw [hb0H.out]; exact hB1H.out.size)), (hA.out.block _ (Array.getElem?_eq_some_iff.1 hz1H.out).1).trans hz1H.out, alloc_at1 _ _⟩ ?_
  rintro w2 ⟨g1, g2, g3⟩
  obtain ⟨b6, hb6⟩ : ∃ b, b = w1.heap.size := ⟨_, rfl⟩
  rw [← hb6] at g3 ⊢
  have hB2 := hide g1
  have l6 : (ldRow 38 (.pointer (some ⟨b6, 0, none⟩))).run Tryz.prog w2 = .ok (.agg cs) w2 := by
    rw [← ldRow_fact]
    exact rowLoad_eq w2 b6 38 38 cs (0, 0) _ g3 Tryz.underlying38 rfl hi
  clear g1 g3 c1 hl1 hS1 hA hz1H hB1H hb6
  go_wp2_with (refine wpList_store_row rfl 38 (.tmp 4) (.tmp 20) rfl b0 cs rfl rfl 38 zs g2 hi hz2 h1 ?_)
  refine bodyPost_ret (get_results _ _ b0 cs q hn rfl rfl (setRow_heap _ _ _ _ _ _ g2)) rfl ⟨rfl, RW.below_setRow hB2.out (Nat.le_refl _) _⟩
set_option maxRecDepth 100000 in
set_option maxHeartbeats 4000000 in
theorem sget_nil (k : ByteArray) (w : World) :
    Calls Tryz.prog 35 #[.pointer none, .string k] w fun e w' => e = .returned (.tuple #[RW.fv RW.zeroFv, .bool false]) ∧ Below w.heap.size w w' := by
  have hi := fact_infoF RW.zeroFv.1 RW.zeroFv.2
  have h1 := fcells_oneF RW.zeroFv.1 RW.zeroFv.2
  have hq : RW.fv RW.zeroFv = .agg (RW.fcells RW.zeroFv.1 RW.zeroFv.2) := rfl
  have hzz : RW.fcells RW.zeroFv.1 RW.zeroFv.2 = #[.int .i64 0, .int .i64 0, .int .i64 0, .int .i64 0, .int .i64 0, .int .i64 0, .int .i64 0, .int .i64 0, .int .i64 0, .int .i64 0, .int .i64 0, .int .i64 0, .int .i64 0, .int .i64 0, .int .i64 0, .int .i64 0, .int .i64 0, .string ⟨#[]⟩] := rfl
  rw [hq]
  rw [hzz] at hi h1 ⊢
  clear hq hzz
  go_enter Tryz.func35, Tryz.ntmps35
  go_wp2_with (refine wpList_store_newF rfl 38 (.tmp 4) (.tmp 10) rfl _ rfl rfl 38 _ hi rfl h1 ?_)
  refine bodyPost_ret (get_results _ _ w.heap.size _ false rfl rfl rfl (alloc_at1 _ _)) rfl ⟨rfl, alloc_bel (Below.refl _ _) (Nat.le_refl _) _⟩
attribute [local go_sem ↓] ldRow_fact
set_option maxRecDepth 100000 in
set_option maxHeartbeats 4000000 in
theorem shas_any (sb mb : Nat) (C : RW.Ents) (k : ByteArray) (w : World) (h : SetAt w sb mb C) :
    Calls Tryz.prog 37 #[.pointer (some ⟨sb, 0, none⟩), .string k] w fun e w' => e = .returned (.bool (KM.get k C).isSome) ∧ Below w.heap.size w w' := by
  obtain ⟨y, hy⟩ := h.fvs.get k
  obtain ⟨q, hq⟩ : ∃ q, q = (KM.get k C).isSome := ⟨_, rfl⟩
  obtain ⟨cs, hcs⟩ : ∃ cs, cs = RW.fcells y.1 y.2 := ⟨_, rfl⟩
  have hG := hide (sget_any sb mb C k w h)
  rw [← hq, hy] at hG
  rw [← hq]
  rw [show RW.fv y = .agg cs by rw [hcs]; rfl] at hG
  have hi := fact_infoF y.1 y.2
  have h1 := fcells_oneF y.1 y.2
  have hn : cs.size = 18 := by rw [hcs]; rfl
  rw [← hcs] at hi h1
  clear hcs hy hq h
  go_enter Tryz.func37, Tryz.ntmps37
  go_wp2_with (first
    | (go_at_call 35; refine hG.out.mono ?_; rintro e w1 ⟨rfl, h5⟩; have hB1 := hide h5; clear h5)
    | (refine wpList_store_newF rfl 38 (.tmp 5) (.tmp 11) rfl cs rfl rfl 38 _ hi (by rw [hn]; rfl) h1 ?_))
  go_ret
  exact ⟨rfl, alloc_bel hB1.out (Nat.le_refl _) _⟩
set_option maxRecDepth 100000 in
set_option maxHeartbeats 4000000 in
theorem shas_nil (k : ByteArray) (w : World) :
    Calls Tryz.prog 37 #[.pointer none, .string k] w fun e w' => e = .returned (.bool false) ∧ Below w.heap.size w w' := by
  have hG := hide (sget_nil k w)
  obtain ⟨cs, hcs⟩ : ∃ cs, cs = RW.fcells RW.zeroFv.1 RW.zeroFv.2 := ⟨_, rfl⟩
  rw [show RW.fv RW.zeroFv = .agg cs by rw [hcs]; rfl] at hG
  have hi := fact_infoF RW.zeroFv.1 RW.zeroFv.2
  have h1 := fcells_oneF RW.zeroFv.1 RW.zeroFv.2
  have hn : cs.size = 18 := by rw [hcs]; rfl
  rw [← hcs] at hi h1
  clear hcs
  go_enter Tryz.func37, Tryz.ntmps37
  go_wp2_with (first
    | (go_at_call 35; refine hG.out.mono ?_; rintro e w1 ⟨rfl, h5⟩; have hB1 := hide h5; clear h5)
    | (refine wpList_store_newF rfl 38 (.tmp 5) (.tmp 11) rfl cs rfl rfl 38 _ hi (by rw [hn]; rfl) h1 ?_))
  go_ret
  exact ⟨rfl, alloc_bel hB1.out (Nat.le_refl _) _⟩
end Go.Proofs.YtnlphbfjeekooaaGreatDoor
