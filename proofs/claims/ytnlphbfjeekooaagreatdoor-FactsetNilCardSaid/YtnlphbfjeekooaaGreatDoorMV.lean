/-
  Package factset: sets in memory; New, Add, Len, Get, Has: what they return, what they write.
-/
import Derived.Test.YtnlphbfjeekooaaGreatDoorFs0
import Derived.Test.YtnlphbfjeekooaaGreatDoorFsP
import Derived.Test.YtnlphbfjeekooaaGreatDoorFact8
namespace Go.Proofs.YtnlphbfjeekooaaGreatDoor
open Go.RowKit RG
theorem setRow_allocF (w : World) (old cs : Array Value) (t : TypeId) : (w.alloc (.cells old t)).setRow w.heap.size cs = w.alloc (.cells cs t) := by
  simp only [World.setRow, World.alloc]
  congr 1
  apply Array.ext_getElem?
  intro i
  rw [Array.getElem?_modify]
  by_cases h : w.heap.size = i
  · subst h; simp
  · rw [if_neg h, Array.getElem?_push, Array.getElem?_push, if_neg (Ne.symm h), if_neg (Ne.symm h)]
/-- a whole row goes into a variable that was just made -/
theorem wpList_store_newF {P : Program} {ops : Array Oper} {rest : List Oper} {o : Oper} {a : Act} {w : World} {Q : Exit → Act → World → Prop} (hgd : o.guard = none) (ty : TypeId) (x y : Operand) (ho : o.op = .store ty x y)
    (cells : Array Value) (hx : a.eval x = .pointer (some ⟨w.heap.size, 0, none⟩)) (hy : a.eval y = .agg cells)
    (t : TypeId) (old : Array Value) (hi : (P.info? ty).map (·.size) = some cells.size) (hold : old.size = cells.size) (h1 : cells.all (·.oneCell') = true)
    (h : wpList P ops Q rest (a.put o.dst undef) (w.alloc (.cells cells t))) : wpList P ops Q (o :: rest) a (w.alloc (.cells old t)) := by
  refine wpList_store_row hgd ty x y ho w.heap.size cells hx hy t old (heap_alloc_new w _) hi hold h1 ?_
  rw [setRow_allocF]; exact h
theorem fcells_oneF (f : Nat → Int) (s : ByteArray) : (RW.fcells f s).all (·.oneCell') = true := by simp [RW.fcells, Value.oneCell']
theorem fact_infoF (f : Nat → Int) (s : ByteArray) : (Tryz.prog.info? 38).map (·.size) = some (RW.fcells f s).size := by kernel_rfl
namespace RW
abbrev Fc := (Nat → Int) × ByteArray
abbrev Ents := List (ByteArray × Value)
/-- a fact as a value -/
def fv (x : Fc) : Value := .agg (fcells x.1 x.2)
def fce (x : Fc) : List Value := (fcells x.1 x.2).toList
abbrev strK : ByteArray → Value := fun x => .string x
def FVs (C : Ents) : Prop := ∀ x ∈ C, ∃ y : Fc, x.2 = fv y
theorem FVs.nil : FVs [] := fun x h => by cases h
theorem FVs.ins {C : Ents} (h : FVs C) (k : ByteArray) (y : Fc) : FVs (insE k (fv y) C) := fun x hx => by
  rcases mem_insE hx with rfl | hx
  · exact ⟨y, rfl⟩
  · exact h x hx
def zeroFv : Fc := (fun _ => 0, ⟨#[]⟩)
theorem FVs.get {C : Ents} (h : FVs C) (k : ByteArray) : ∃ y : Fc, (KM.get k C).getD (fv zeroFv) = fv y := by
  cases e : KM.get k C with
  | none => exact ⟨zeroFv, rfl⟩
  | some v => exact h _ (KM.get_mem e)
end RW
theorem fcl_len (x : RW.Fc) : (RW.fce x).length = 18 := rfl
theorem ChgS.of_belowF {Q : Nat → Prop} {W W' : World} (h : Below W.heap.size W W') : ChgS Q W W' := ⟨h.os, h.tape, h.output, h.size, fun k hk _ => h.block k hk⟩
theorem ChgS.impF {Q Q' : Nat → Prop} {W W' : World} (h : ChgS Q W W') (hq : ∀ k, Q k → Q' k) : ChgS Q' W W' := ⟨h.os, h.tape, h.output, h.size, fun k hk hn => h.block k hk fun e => hn (hq k e)⟩
/-- a set in the blocks sb, mb, which holds C -/
structure SetAt (W : World) (sb mb : Nat) (C : RW.Ents) : Prop where
  row : W.heap[sb]? = some (.cells #[.map (some mb)] 78 (0, 0))
  map : ∃ M, KM.OwnM RW.strK W mb M ∧ RW.Cont M C
  fvs : RW.FVs C
section
variable {W W' : World} {sb mb : Nat} {C : RW.Ents}
theorem SetAt.lt (h : SetAt W sb mb C) : sb < W.heap.size ∧ mb < W.heap.size := by
  obtain ⟨M, hM, _⟩ := h.map
  exact ⟨(Array.getElem?_eq_some_iff.1 h.row).1, hM.lt⟩
theorem SetAt.keep (h : SetAt W sb mb C) (h1 : W'.heap[sb]? = W.heap[sb]?) (h2 : W'.heap[mb]? = W.heap[mb]?) : SetAt W' sb mb C := by
  obtain ⟨M, hM, hC⟩ := h.map
  exact ⟨h1.trans h.row, ⟨M, hM.keep h2, hC⟩, h.fvs⟩
theorem SetAt.next (h : SetAt W sb mb C) (hB : Below W.heap.size W W') : SetAt W' sb mb C := h.keep (hB.block _ h.lt.1) (hB.block _ h.lt.2)
theorem SetAt.asc (h : SetAt W sb mb C) : RW.AscE C := by obtain ⟨_, _, hC⟩ := h.map; exact hC.1
theorem SetAt.ne (h : SetAt W sb mb C) : sb ≠ mb := by
  obtain ⟨M, ⟨es, clock, hM, _⟩, _⟩ := h.map
  rintro rfl
  rw [h.row] at hM
  cases hM
theorem SetAt.nem (h : SetAt W sb mb C) {b : Nat} {c : Array Value} {t : TypeId} {fr : Nat × Nat} (hb : W.heap[b]? = some (.cells c t fr)) : b ≠ mb := by
  obtain ⟨M, ⟨es, clock, hM, _⟩, _⟩ := h.map
  rintro rfl
  rw [hb] at hM
  cases hM
theorem SetAt.cell (h : SetAt W sb mb C) : W.cell? ⟨sb, 0, none⟩ = some (.map (some mb)) := cellAt h.row 0
theorem strK_key : KM.Key Tryz.prog 9 RW.strK := KM.str_key Tryz.underlying9
theorem zero_fact (W : World) : (zeroValue 38).run Tryz.prog W = .ok (RW.fv RW.zeroFv) W := by
  unfold RW.fv RW.zeroFv RW.fcells
  go_simp
theorem SetAt.look (h : SetAt W sb mb C) (k : ByteArray) : (Instr.lookup 76 (.map (some mb)) (.string k) true).run Tryz.prog W = .ok (.tuple #[(KM.get k C).getD (RW.fv RW.zeroFv), .bool (KM.get k C).isSome]) W := by
  obtain ⟨M, hM, hC⟩ := h.map
  have := hM.lookup_ok strK_key Tryz.underlying76 (zero_fact W) k
  rw [hC.2.2] at this
  exact this
theorem SetAt.look1 (h : SetAt W sb mb C) (k : ByteArray) : (Instr.lookup 76 (.map (some mb)) (.string k) false).run Tryz.prog W = .ok ((KM.get k C).getD (RW.fv RW.zeroFv)) W := by
  obtain ⟨M, hM, hC⟩ := h.map
  have := hM.lookup strK_key Tryz.underlying76 (zero_fact W) k
  rw [hC.2.2] at this
  exact this
theorem SetAt.len (h : SetAt W sb mb C) (t : TypeId) : (Builtin.len_ #[76] t #[.map (some mb)]).run Tryz.prog W = .ok (.int .i64 C.length) W := by
  obtain ⟨M, hM, hC⟩ := h.map
  have := hM.made_len t Tryz.underlying76
  rw [hC.len] at this
  exact this
/-- a new entry -/
theorem SetAt.update (h : SetAt W sb mb C) (k : ByteArray) (y : RW.Fc) (hk : KM.get k C = none) :
    ∃ w', (Instr.mapUpdate 76 (.map (some mb)) (.string k) (RW.fv y)).run Tryz.prog W = .ok () w' ∧ SetAt w' sb mb (RW.insE k (RW.fv y) C) ∧ ChgS (fun j => j = mb) W w' ∧ w'.heap.size = W.heap.size := by
  obtain ⟨M, hM, hC⟩ := h.map
  obtain ⟨w', hr, ho, g1, g2, g3, g4, g5⟩ := hM.update strK_key Tryz.underlying76 k (RW.fv y)
  exact ⟨w', hr, ⟨(g5 _ h.ne).trans h.row, ⟨_, ho, hC.put _ hk⟩, h.fvs.ins k y⟩, ⟨g1, g2, g3, Nat.le_of_eq g4.symm, fun j _ hj => g5 j hj⟩, g4⟩
end
set_option maxRecDepth 10000 in
theorem snew_any (w : World) : Calls Tryz.prog 19 #[] w fun e w' => ∃ sb mb, e = .returned (.pointer (some ⟨sb, 0, none⟩)) ∧ SetAt w' sb mb [] ∧ Below w.heap.size w w' ∧ w.heap.size ≤ sb ∧ w.heap.size ≤ mb := by
  have hmk : ∀ W, (Instr.makeMap 76 none).run Tryz.prog W = .ok (.map (some W.heap.size)) (W.alloc (.map #[] 0)) := fun _ => rfl
  go_enter Tryz.func19, Tryz.ntmps19
  go_wp2
  go_ret
  refine ⟨w.heap.size + 1, w.heap.size, rfl, ⟨?_, ⟨[], ?_, RW.Cont.nil⟩, RW.FVs.nil⟩, ?_, by omega, Nat.le_refl _⟩
  · exact newAt (by simp)
  · exact (KM.OwnM.made w).keep (Below.heap_alloc _ _ _ (by simp))
  · exact alloc_bel (alloc_bel (Below.refl _ _) (Nat.le_refl _) _) (by simp) _
set_option maxRecDepth 10000 in
theorem slen_any (sb mb : Nat) (C : RW.Ents) (w : World) (h : SetAt w sb mb C) : Calls Tryz.prog 23 #[.pointer (some ⟨sb, 0, none⟩)] w fun e w' => e = .returned (.int .i64 C.length) ∧ w' = w := by
  have c0 := h.cell
  have hl := h.len 3
  go_enter Tryz.func23, Tryz.ntmps23
  go_wp2
  go_ret
  exact ⟨rfl, rfl⟩
theorem slen_nil (w : World) : Calls Tryz.prog 23 #[.pointer none] w fun e w' => e = .returned (.int .i64 0) ∧ w' = w := by
  go_enter Tryz.func23, Tryz.ntmps23
  go_wp2
  go_ret
  exact ⟨rfl, rfl⟩
theorem get_results (tmps : Array Value) (w : World) (B : Nat) (cs : Array Value) (v : Bool) (hn : cs.size = 18) (h4 : tmps[4]? = some (.pointer (some ⟨B, 0, none⟩))) (h5 : tmps[5]? = some (.bool v))
    (hx : w.heap[B]? = some (.cells cs 38 (0, 0))) : (results Tryz.f35 tmps).run Tryz.prog w = .ok (.tuple #[.agg cs, .bool v]) w := by
  have e1 : (loadVar 38 ⟨B, 0, none⟩).run Tryz.prog w = .ok (.agg cs) w := run_loadVar_row w B 38 38 cs (0, 0) _ hx Tryz.underlying38 rfl (by
    rw [hn]; kernel_rfl)
  simp [results, Tryz.results35, h4, h5, asAddr, e1]
attribute [local go_sem ↓] ldRow_fact
set_option maxRecDepth 100000 in
set_option maxHeartbeats 4000000 in
theorem sget_any (sb mb : Nat) (C : RW.Ents) (k : ByteArray) (w : World) (h : SetAt w sb mb C) :
    Calls Tryz.prog 35 #[.pointer (some ⟨sb, 0, none⟩), .string k] w fun e w' => e = .returned (.tuple #[(KM.get k C).getD (RW.fv RW.zeroFv), .bool (KM.get k C).isSome]) ∧ Below w.heap.size w w' := by
  obtain ⟨y, hy⟩ := h.fvs.get k
  obtain ⟨q, hq⟩ : ∃ q, q = (KM.get k C).isSome := ⟨_, rfl⟩
  obtain ⟨cs, hcs⟩ : ∃ cs, cs = RW.fcells y.1 y.2 := ⟨_, rfl⟩
  have hnx := hide (fun W (hW : Below w.heap.size w W) => h.next hW)
  have hlk := hide (fun W (hW : Below w.heap.size w W) => (h.next hW).look k)
  rw [← hq, hy] at hlk ⊢
  rw [show RW.fv y = .agg cs by rw [hcs]; rfl] at hlk ⊢
  have hi := fact_infoF y.1 y.2
  have h1 := fcells_oneF y.1 y.2
  have hn : cs.size = 18 := by rw [hcs]; rfl
  rw [← hcs] at hi h1
  obtain ⟨zs, hzs⟩ : ∃ zs, zs = RW.fcells (fun _ => 0) ⟨#[]⟩ := ⟨_, rfl⟩
  have hz : zs.size = 18 := by rw [hzs]; rfl
  have hz2 : zs.size = cs.size := by omega
  unfold RW.fcells at hzs
  have hzsf := hzs.symm
  obtain ⟨b0, hb0⟩ : ∃ b, b = w.heap.size := ⟨_, rfl⟩
  have hb0H := hide hb0
  rw [← hb0] at hnx hlk ⊢
  clear hcs hy hq h hzs hb0
  go_enter Tryz.func35, Tryz.ntmps35
  go_upto_region 3 with fail
  rw [← hb0H.out]
  refine gen_w (fun W => Below b0 w W ∧ W.heap[b0]? = some (.cells zs 38 (0, 0))) ⟨by rw [hb0H.out]; exact alloc_bel (Below.refl _ _) (Nat.le_refl _) _, by rw [hb0H.out]; exact (alloc_at1 _ _).trans (by rw [← hzsf])⟩ ?_
  rintro w1 ⟨hB1, hz1⟩
  have hB1H := hide hB1
  have hz1H := hide hz1
  have hS1 := hide (hnx.out w1 hB1)
  have c1 := hS1.out.cell
  have hl1 := hlk.out w1 hB1
  clear hB1 hz1 hzsf
  go_upto_region 4 with (refine wpList_store_newF rfl 38 (.tmp 6) (.tmp 18) rfl cs rfl rfl 38 _ hi (by rw [hn]; rfl) h1 ?_)
  have hA := hide (alloc_bel (Below.refl w1.heap.size w1) (Nat.le_refl _) (.cells cs 38))
  refine gen_w (fun W => Below b0 w W ∧ W.heap[b0]? = some (.cells zs 38 (0, 0)) ∧ W.heap[w1.heap.size]? = some (.cells cs 38 (0, 0))) ⟨hB1H.out.trans (hA.out.mono (by rw [hb0H.out]; exact hB1H.out.size)), (hA.out.block _ (Array.getElem?_eq_some_iff.1 hz1H.out).1).trans hz1H.out, alloc_at1 _ _⟩ ?_
  rintro w2 ⟨g1, g2, g3⟩
  obtain ⟨b6, hb6⟩ : ∃ b, b = w1.heap.size := ⟨_, rfl⟩
  rw [← hb6] at g3 ⊢
  have hB2 := hide g1
  have l6 : (ldRow 38 (.pointer (some ⟨b6, 0, none⟩))).run Tryz.prog w2 = .ok (.agg cs) w2 := by
    rw [← ldRow_fact]
    exact rowLoad_eq w2 b6 38 38 cs (0, 0) _ g3 Tryz.underlying38 rfl hi
  clear g1 g3 c1 hl1 hS1 hA hz1H hB1H hb6
  go_wp2_with (refine wpList_store_row rfl 38 (.tmp 4) (.tmp 20) rfl b0 cs rfl rfl 38 zs g2 hi hz2 h1 ?_)
  refine bodyPost_ret (get_results _ _ b0 cs q hn rfl rfl (setRow_heap _ _ _ _ _ _ g2)) rfl ⟨rfl, RW.below_setRow hB2.out (Nat.le_refl _) _⟩
set_option maxRecDepth 100000 in
set_option maxHeartbeats 4000000 in
theorem sget_nil (k : ByteArray) (w : World) :
    Calls Tryz.prog 35 #[.pointer none, .string k] w fun e w' => e = .returned (.tuple #[RW.fv RW.zeroFv, .bool false]) ∧ Below w.heap.size w w' := by
  have hi := fact_infoF RW.zeroFv.1 RW.zeroFv.2
  have h1 := fcells_oneF RW.zeroFv.1 RW.zeroFv.2
  have hq : RW.fv RW.zeroFv = .agg (RW.fcells RW.zeroFv.1 RW.zeroFv.2) := rfl
  have hzz : RW.fcells RW.zeroFv.1 RW.zeroFv.2 = #[.int .i64 0, .int .i64 0, .int .i64 0, .int .i64 0, .int .i64 0, .int .i64 0, .int .i64 0, .int .i64 0, .int .i64 0, .int .i64 0, .int .i64 0, .int .i64 0, .int .i64 0, .int .i64 0, .int .i64 0, .int .i64 0, .int .i64 0, .string ⟨#[]⟩] := rfl
  rw [hq]
  rw [hzz] at hi h1 ⊢
  clear hq hzz
  go_enter Tryz.func35, Tryz.ntmps35
  go_wp2_with (refine wpList_store_newF rfl 38 (.tmp 4) (.tmp 10) rfl _ rfl rfl 38 _ hi rfl h1 ?_)
  refine bodyPost_ret (get_results _ _ w.heap.size _ false rfl rfl rfl (alloc_at1 _ _)) rfl ⟨rfl, alloc_bel (Below.refl _ _) (Nat.le_refl _) _⟩
attribute [local go_sem ↓] ldRow_fact
set_option maxRecDepth 100000 in
set_option maxHeartbeats 4000000 in
theorem shas_any (sb mb : Nat) (C : RW.Ents) (k : ByteArray) (w : World) (h : SetAt w sb mb C) :
    Calls Tryz.prog 37 #[.pointer (some ⟨sb, 0, none⟩), .string k] w fun e w' => e = .returned (.bool (KM.get k C).isSome) ∧ Below w.heap.size w w' := by
  obtain ⟨y, hy⟩ := h.fvs.get k
  obtain ⟨q, hq⟩ : ∃ q, q = (KM.get k C).isSome := ⟨_, rfl⟩
  obtain ⟨cs, hcs⟩ : ∃ cs, cs = RW.fcells y.1 y.2 := ⟨_, rfl⟩
  have hG := hide (sget_any sb mb C k w h)
  rw [← hq, hy] at hG
  rw [← hq]
  rw [show RW.fv y = .agg cs by rw [hcs]; rfl] at hG
  have hi := fact_infoF y.1 y.2
  have h1 := fcells_oneF y.1 y.2
  have hn : cs.size = 18 := by rw [hcs]; rfl
  rw [← hcs] at hi h1
  clear hcs hy hq h
  go_enter Tryz.func37, Tryz.ntmps37
  go_wp2_with (first
    | (go_at_call 35; refine hG.out.mono ?_; rintro e w1 ⟨rfl, h5⟩; have hB1 := hide h5; clear h5)
    | (refine wpList_store_newF rfl 38 (.tmp 5) (.tmp 11) rfl cs rfl rfl 38 _ hi (by rw [hn]; rfl) h1 ?_))
  go_ret
  exact ⟨rfl, alloc_bel hB1.out (Nat.le_refl _) _⟩
set_option maxRecDepth 100000 in
set_option maxHeartbeats 4000000 in
theorem shas_nil (k : ByteArray) (w : World) :
    Calls Tryz.prog 37 #[.pointer none, .string k] w fun e w' => e = .returned (.bool false) ∧ Below w.heap.size w w' := by
  have hG := hide (sget_nil k w)
  obtain ⟨cs, hcs⟩ : ∃ cs, cs = RW.fcells RW.zeroFv.1 RW.zeroFv.2 := ⟨_, rfl⟩
  rw [show RW.fv RW.zeroFv = .agg cs by rw [hcs]; rfl] at hG
  have hi := fact_infoF RW.zeroFv.1 RW.zeroFv.2
  have h1 := fcells_oneF RW.zeroFv.1 RW.zeroFv.2
  have hn : cs.size = 18 := by rw [hcs]; rfl
  rw [← hcs] at hi h1
  clear hcs
  go_enter Tryz.func37, Tryz.ntmps37
  go_wp2_with (first
    | (go_at_call 35; refine hG.out.mono ?_; rintro e w1 ⟨rfl, h5⟩; have hB1 := hide h5; clear h5)
    | (refine wpList_store_newF rfl 38 (.tmp 5) (.tmp 11) rfl cs rfl rfl 38 _ hi (by rw [hn]; rfl) h1 ?_))
  go_ret
  exact ⟨rfl, alloc_bel hB1.out (Nat.le_refl _) _⟩
end Go.Proofs.YtnlphbfjeekooaaGreatDoor

/-
  Package factset: Add: what it returns, what it writes.
-/
namespace Go.Proofs.YtnlphbfjeekooaaGreatDoor
open Go.RowKit RG
namespace RW
/-- the ID of a fact -/
def idB (K : Nat → Int) (x : Fc) : ByteArray := ⟨(sha K (encL x.1 x.2.data.toList)).toArray⟩
/-- what Add returns, and what the set then holds -/
noncomputable def addR (K : Nat → Int) (C : Ents) (x : Fc) : Bool × Int × Ents :=
  match validB x.1 x.2.size with
  | false => (false, 60, C)
  | true => match (KM.get (idB K x) C).isSome with
    | true => (false, 0, C)
    | false => if 4000 ≤ C.length then (false, 60, C) else (true, 0, insE (idB K x) (fv x) C)
theorem addR_bad {K : Nat → Int} {C : Ents} {x : Fc} (h : validB x.1 x.2.size = false) : addR K C x = (false, 60, C) := by unfold addR; rw [h]
theorem addR_known {K : Nat → Int} {C : Ents} {x : Fc} (h : validB x.1 x.2.size = true) (h2 : (KM.get (idB K x) C).isSome = true) : addR K C x = (false, 0, C) := by unfold addR; rw [h, h2]
theorem addR_full {K : Nat → Int} {C : Ents} {x : Fc} (h : validB x.1 x.2.size = true) (h2 : (KM.get (idB K x) C).isSome = false) (h3 : 4000 ≤ C.length) : addR K C x = (false, 60, C) := by unfold addR; rw [h, h2]; exact if_pos h3
theorem addR_new {K : Nat → Int} {C : Ents} {x : Fc} (h : validB x.1 x.2.size = true) (h2 : (KM.get (idB K x) C).isSome = false) (h3 : ¬ 4000 ≤ C.length) : addR K C x = (true, 0, insE (idB K x) (fv x) C) := by unfold addR; rw [h, h2]; exact if_neg h3
theorem addR_len {K : Nat → Int} {C : Ents} {x : Fc} (hC : AscE C) : (addR K C x).2.2.length ≤ C.length + 1 := by
  unfold addR
  split
  · exact Nat.le_succ _
  · split
    · exact Nat.le_succ _
    · split
      · exact Nat.le_succ _
      · show (insE _ _ C).length ≤ _
        rw [length_insE _ _ hC]
        split <;> omega
end RW
section
variable {ev : Operand → Value} {o : Oper} {x y z : Operand} {w : World}
theorem op_updF {T : TypeId} {m k v : Value} {w' : World} (ho : o.op = .mapUpdate T x y z) (hx : ev x = m) (hy : ev y = k) (hz : ev z = v) (hr : (Instr.mapUpdate T m k v).run Tryz.prog w = .ok () w') : (execOp ev o).run Tryz.prog w = .ok .skip w' := by
  unfold execOp
  rw [ho]
  simp only [hx, hy, hz]
  simp [hr]
end
theorem fa_set {b : Nat} (W : World) : (Instr.fieldAt 78 (.pointer (some ⟨b, 0, none⟩)) 0).run Tryz.prog W = .ok (.pointer (some ⟨b, 0, none⟩)) W := by
  go_simp
theorem map_ldF {W : World} {g i : Nat} {p : Option Nat} (h : W.cell? ⟨g, i, none⟩ = some (.map p)) : (ldRow 76 (.pointer (some ⟨g, i, none⟩))).run Tryz.prog W = .ok (.map p) W := by
  unfold ldRow
  go_simp
theorem fact_ldF {W : World} {g : Nat} {cs : Array Value} (h : W.heap[g]? = some (.cells cs 38 (0, 0))) (hn : cs.size = 18) : (ldRow 38 (.pointer (some ⟨g, 0, none⟩))).run Tryz.prog W = .ok (.agg cs) W := by
  rw [← ldRow_fact]
  exact rowLoad_eq W g 38 38 cs (0, 0) _ h Tryz.underlying38 rfl (by rw [hn]; kernel_rfl)
attribute [local go_sem ↓] ldRow_fact
set_option maxRecDepth 100000 in
set_option maxHeartbeats 4000000 in
theorem sadd_any (K : Nat → Int) (ks : Array Value) (hks : RW.WsOk ks K) (sb mb : Nat) (C : RW.Ents) (x : RW.Fc) (w : World) (hS : SetAt w sb mb C) (hK : KLaid w ks) :
    Calls Tryz.prog 20 #[.pointer (some ⟨sb, 0, none⟩), RW.fv x] w fun e w' => e = .returned (.tuple #[.bool (RW.addR K C x).1, .int .i64 (RW.addR K C x).2.1]) ∧ SetAt w' sb mb (RW.addR K C x).2.2 ∧ ChgS (fun j => j = mb) w w' := by
  have hId := hide (fun W (hW : Below w.heap.size w W) => id_fact x.1 x.2 K ks hks W (RW.klaid hK hW))
  obtain ⟨cs, hcs⟩ : ∃ cs, cs = RW.fcells x.1 x.2 := ⟨_, rfl⟩
  obtain ⟨R, hR⟩ : ∃ R, R = RW.addR K C x := ⟨_, rfl⟩
  have hRH := hide hR
  rw [← hR]
  have hfx := hide (show RW.fv x = .agg cs by rw [hcs]; rfl)
  rw [hfx.out]
  rw [← hcs] at hId
  have hi := fact_infoF x.1 x.2
  have h1 := fcells_oneF x.1 x.2
  have hn : cs.size = 18 := by rw [hcs]; rfl
  rw [← hcs] at hi h1
  have hnx := hide (fun W (hW : Below w.heap.size w W) => hS.next hW)
  have hlk := hide (fun W (hW : Below w.heap.size w W) => (hS.next hW).look (RW.idB K x))
  have hln := hide (fun W (hW : Below w.heap.size w W) => (hS.next hW).len 3)
  obtain ⟨yz, hyz⟩ := hS.fvs.get (RW.idB K x)
  obtain ⟨qs, hqs⟩ : ∃ cs, cs = RW.fcells yz.1 yz.2 := ⟨_, rfl⟩
  rw [hyz, show RW.fv yz = .agg qs by rw [hqs]; rfl] at hlk
  have hi2 := fact_infoF yz.1 yz.2
  have h12 := fcells_oneF yz.1 yz.2
  have hn2 : qs.size = 18 := by rw [hqs]; rfl
  rw [← hqs] at hi2 h12
  have hup := hide (fun W (hW : SetAt W sb mb C) (hk : KM.get (RW.idB K x) C = none) => hW.update (RW.idB K x) x hk)
  rw [hfx.out] at hup
  obtain ⟨b0, hb0⟩ : ∃ b, b = w.heap.size := ⟨_, rfl⟩
  have hb0H := hide hb0
  obtain ⟨known, hkn⟩ : ∃ q, q = (KM.get (RW.idB K x) C).isSome := ⟨_, rfl⟩
  have hknH := hide hkn
  rw [← hkn] at hlk
  obtain ⟨ID, hID⟩ : ∃ I, I = RW.idB K x := ⟨_, rfl⟩
  have hIDH := hide hID
  rw [← hID] at hlk hup
  rw [← hb0] at hnx hlk hln hId
  have hA1 := hide (show Below b0 w (w.alloc (.cells cs 38)) ∧ (w.alloc (.cells cs 38)).heap[b0]? = some (.cells cs 38 (0, 0)) by rw [hb0]; exact ⟨alloc_bel (Below.refl _ _) (Nat.le_refl _) _, alloc_at1 _ _⟩)
  cases hv : RW.validB x.1 x.2.size
  · have hres := hide (RW.addR_bad (K := K) (C := C) hv)
    rw [RW.idR_no _ _ _ hv] at hId
    clear hcs hR hK hyz hqs hb0 hkn hID hS hv hup hln hlk
    go_enter Tryz.func20, Tryz.ntmps20
    go_upto_region 3 with fail
    rw [← hb0H.out]
    refine gen_w (fun W => Below b0 w W ∧ W.heap[b0]? = some (.cells cs 38 (0, 0))) hA1.out ?_
    rintro w1 ⟨hB1, hz1⟩
    have hB1H := hide hB1
    have l0 : (ldRow 38 (.pointer (some ⟨b0, 0, none⟩))).run Tryz.prog w1 = .ok (.agg cs) w1 := by
      rw [← ldRow_fact]
      exact rowLoad_eq w1 b0 38 38 cs (0, 0) _ hz1 Tryz.underlying38 rfl hi
    clear hB1 hz1 hA1
    go_wp2_with (go_at_call 38; refine (hId.out _ hB1H.out).mono ?_; rintro e w2 ⟨rfl, h5⟩; have hB2 := hide (hB1H.out.trans (h5.mono (by rw [hb0H.out]; exact hB1H.out.size))); clear h5)
    go_ret2
    rw [hRH.out, hres.out]
    exact ⟨rfl, hnx.out _ hB2.out, ChgS.of_belowF (by rw [← hb0H.out]; exact hB2.out)⟩
  · rw [RW.idR_yes _ _ _ hv, show (⟨(RW.sha K (RW.encL x.1 x.2.data.toList)).toArray⟩ : ByteArray) = ID from hID.symm] at hId
    have hvH := hide hv
    clear hcs hR hK hyz hqs hb0 hID hkn hS hv
    go_enter Tryz.func20, Tryz.ntmps20
    go_upto_region 3 with fail
    rw [← hb0H.out]
    refine gen_w (fun W => Below b0 w W ∧ W.heap[b0]? = some (.cells cs 38 (0, 0))) hA1.out ?_
    rintro w1 ⟨hB1, hz1⟩
    have hB1H := hide hB1
    have hz1H := hide hz1
    have l0 : (ldRow 38 (.pointer (some ⟨b0, 0, none⟩))).run Tryz.prog w1 = .ok (.agg cs) w1 := by
      rw [← ldRow_fact]
      exact rowLoad_eq w1 b0 38 38 cs (0, 0) _ hz1 Tryz.underlying38 rfl hi
    clear hB1 hz1 hA1
    go_upto_region 6 with (go_at_call 38; refine (hId.out _ hB1H.out).mono ?_; rintro e w2 ⟨rfl, h5⟩; have hB2 := hide (hB1H.out.trans (h5.mono (by rw [hb0H.out]; exact hB1H.out.size))); have hz2 := hide ((h5.block _ (Array.getElem?_eq_some_iff.1 hz1H.out).1).trans hz1H.out); clear h5)
    clear l0 hId hB1H hz1H
    have hS2 := hide (hnx.out w2 hB2.out)
    have c2 := hS2.out.cell
    have lk2 := hlk.out w2 hB2.out
    cases known
    case true =>
      have hres := hide (RW.addR_known (K := K) hvH.out hknH.out.symm)
      clear hup hln hlk
      go_wp2_with (refine wpList_store_newF rfl 38 (.tmp 8) (.tmp 26) rfl qs rfl rfl 38 _ hi2 (by rw [hn2]; rfl) h12 ?_)
      go_ret2
      rw [hRH.out, hres.out]
      have hB3 := alloc_bel hB2.out (Nat.le_of_eq hb0H.out) (.cells qs 38)
      exact ⟨rfl, hnx.out _ hB3, ChgS.of_belowF (hb0H.out ▸ hB3 : Below w.heap.size w _)⟩
    case false =>
      go_upto_region 9 with (refine wpList_store_newF rfl 38 (.tmp 8) (.tmp 26) rfl qs rfl rfl 38 _ hi2 (by rw [hn2]; rfl) h12 ?_)
      have hA3 := hide (alloc_bel (Below.refl w2.heap.size w2) (Nat.le_refl _) (.cells qs 38))
      refine gen_w (fun W => Below b0 w W ∧ W.heap[b0]? = some (.cells cs 38 (0, 0))) ⟨hB2.out.trans (hA3.out.mono (by rw [hb0H.out]; exact hB2.out.size)), (hA3.out.block _ (Array.getElem?_eq_some_iff.1 hz2.out).1).trans hz2.out⟩ ?_
      rintro w3 ⟨hB3, hz3⟩
      have hB3 := hide hB3
      have hz3 := hide hz3
      have hS3 := hide (hnx.out w3 hB3.out)
      have c3 := hS3.out.cell
      have ln3 := hln.out w3 hB3.out
      clear c2 lk2 hS2 hB2 hz2 hA3
      by_cases hfull : 4000 ≤ C.length
      · have hres := hide (RW.addR_full (K := K) hvH.out hknH.out.symm hfull)
        have hi4 : (4000 : Int) ≤ (C.length : Int) := by omega
        clear hup
        go_wp2
        go_ret2
        rw [hRH.out, hres.out]
        exact ⟨rfl, hnx.out _ hB3.out, ChgS.of_belowF (by rw [← hb0H.out]; exact hB3.out)⟩
      · have hres := hide (RW.addR_new (K := K) hvH.out hknH.out.symm hfull)
        have hi4 : ¬ (4000 : Int) ≤ (C.length : Int) := by omega
        have hnone := hide (show KM.get (RW.idB K x) C = none by
          cases e : KM.get (RW.idB K x) C with
          | none => rfl
          | some v => have := hknH.out; rw [e] at this; cases this)
        go_upto_region 11 with fail
        refine wp_region_k (fun _ W => W.heap[sb]? = some (.cells #[.map (some mb)] 78 (0, 0)) ∧ W.heap[b0]? = some (.cells cs 38 (0, 0))) (fun W => SetAt W sb mb C ∧ Below b0 w W) [6] (.op 0 (.op 1 (.op 2 (.op 3 (.op 4 (.op 5 (.op 6 .nil))))))) (by kernel_rfl) (by kernel_rfl) (by rfl) (by kernel_rfl) ⟨hS3.out.row, hz3.out⟩ ⟨hS3.out.next (Below.refl _ _).drew, hB3.out.drew⟩ ?_
        refine k_val (.pointer (some ⟨sb, 0, none⟩)) (by apply opN; repeat' (first | apply OpAt.z | apply OpAt.s)) (by rfl) (by rfl) (fun _ W hS => op_mv rfl rfl) ?_
        simp only [Act.put, List.setIfInBounds_toArray, List.set_cons_zero, List.set_cons_succ]
        refine k_val (.pointer (some ⟨sb, 0, none⟩)) (by apply opN; repeat' (first | apply OpAt.z | apply OpAt.s)) (by rfl) (by rfl) (fun _ W hS => op_nc rfl rfl) ?_
        simp only [Act.put, List.setIfInBounds_toArray, List.set_cons_zero, List.set_cons_succ]
        refine k_val (.pointer (some ⟨sb, 0, none⟩)) (by apply opN; repeat' (first | apply OpAt.z | apply OpAt.s)) (by rfl) (by rfl) (fun _ W hS => op_fa rfl rfl (fa_set W)) ?_
        simp only [Act.put, List.setIfInBounds_toArray, List.set_cons_zero, List.set_cons_succ]
        refine k_val (.map (some mb)) (by apply opN; repeat' (first | apply OpAt.z | apply OpAt.s)) (by rfl) (by rfl) (fun _ W hS => op_ld rfl rfl (map_ldF (cellAt hS.1 0))) ?_
        simp only [Act.put, List.setIfInBounds_toArray, List.set_cons_zero, List.set_cons_succ]
        refine k_val (.string ID) (by apply opN; repeat' (first | apply OpAt.z | apply OpAt.s)) (by rfl) (by rfl) (fun _ W hS => op_mv rfl rfl) ?_
        simp only [Act.put, List.setIfInBounds_toArray, List.set_cons_zero, List.set_cons_succ]
        refine k_val (.agg cs) (by apply opN; repeat' (first | apply OpAt.z | apply OpAt.s)) (by rfl) (by rfl) (fun _ W hS => op_ld rfl rfl (fact_ldF hS.2 hn)) ?_
        simp only [Act.put, List.setIfInBounds_toArray, List.set_cons_zero, List.set_cons_succ]
        refine k_step (fun K' u => K' = fun W => SetAt W sb mb (RW.insE (RW.idB K x) (RW.fv x) C) ∧ ChgS (fun j => j = mb) w W) (by apply opN; repeat' (first | apply OpAt.z | apply OpAt.s)) (by rfl) (by rfl) (by rfl) (fun W hC hK => ?_) ?_
        · obtain ⟨w', hr, g1, g2, g3⟩ := hup.out W hK.1 (by rw [hIDH.out]; exact hnone.out)
          have hnb := hK.1.nem hC.2
          exact xup_skip (op_updF rfl rfl rfl rfl hr) ⟨⟨g1.row, (g2.block _ (Array.getElem?_eq_some_iff.1 hC.2).1 hnb).trans hC.2⟩, _, ⟨by rw [← hIDH.out, hfx.out]; exact g1, (ChgS.of_belowF (hb0H.out ▸ hK.2 : Below w.heap.size w W)).trans g2⟩, rfl⟩
        rintro _ _ rfl
        simp only [Act.put]
        refine k_nil ?_
        intro W' _ hK'
        have hK' := hide hK'
        clear hup hlk hln hnx c3 ln3 hi4
        go_wp2
        go_ret2
        rw [hRH.out, hres.out]
        exact ⟨rfl, hK'.out.1, hK'.out.2⟩
end Go.Proofs.YtnlphbfjeekooaaGreatDoor
