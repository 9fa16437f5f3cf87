/-
  Package ballot: a box's Add: what it returns and what the box then holds; beside the box's map only new memory is written.
-/
import Derived.Test.YtcbckcojebanaaaDoorMZ2
import Derived.Test.YtcbckcojebanaaaDoorBal8
import Derived.Test.YtcbckcojebanaaaDoorMC
import Derived.Test.YtcbckcojebanaaaDoorMA
import Derived.Test.YtcbckcojebanaaaDoorMZ0
namespace Go.Proofs.YtcbckcojebanaaaDoor
open Go.RowKit RG
/-- beside block mb nothing that was there has turned -/
structure KeptBut (mb : Nat) (w w' : World) : Prop where
  os : w'.os = w.os
  tape : w'.tape = w.tape
  output : w'.output = w.output
  size : w.heap.size ≤ w'.heap.size
  block : ∀ k, k < w.heap.size → k ≠ mb → w'.heap[k]? = w.heap[k]?
theorem KeptBut.of_below {mb : Nat} {w w' : World} (h : Below w.heap.size w w') : KeptBut mb w w' := ⟨h.os, h.tape, h.output, h.size, fun k hk _ => h.block k hk⟩
theorem KeptBut.trans {mb : Nat} {a b c : World} (h : KeptBut mb a b) (g : KeptBut mb b c) : KeptBut mb a c :=
  ⟨g.os.trans h.os, g.tape.trans h.tape, g.output.trans h.output, Nat.le_trans h.size g.size, fun k hk hm => (g.block k (Nat.lt_of_lt_of_le hk h.size) hm).trans (h.block k hk hm)⟩
namespace RW
def vk (n : Nat → Int) : Vk := (n 1, n 0, n 3, n 4)
def hasK (k : Vk) (L : List (Vk × ByteArray)) : Bool := L.any fun x => decide (x.1 = k)
/-- may a message be put into a box of N sites? -/
def voteOk (K : Nat → Int) (N : Int) (n : Nat → Int) (d : List UInt8) (l : List (List UInt8)) : Bool := voteK (n 0) && msgB K n d l && !decide (N ≤ n 1)
def addOk (ok : Bool) (k : Vk) (L : List (Vk × ByteArray)) : Bool := ok && !hasK k L
def addL (ok : Bool) (k : Vk) (d : ByteArray) (L : List (Vk × ByteArray)) : List (Vk × ByteArray) := if addOk ok k L = true then L ++ [(k, d)] else L
theorem get_has (k : Vk) (L : List (Vk × ByteArray)) : (KM.get k (L.map fun x => (x.1, Value.string x.2))).isSome = hasK k L := by
  induction L with
  | nil => rfl
  | cons x L ih =>
    rw [List.map_cons, KM.get_cons]
    unfold hasK
    rw [List.any_cons]
    by_cases h : k = x.1
    · rw [if_pos h, decide_eq_true h.symm]; rfl
    · rw [if_neg h, decide_eq_false (Ne.symm h), Bool.false_or]; exact ih
end RW
theorem cf_vote : ∀ args w, (callFunc 51 args).run Tryd.prog w = .ok (.enter 51 args) w := fun args w => by go_simp
theorem cf_valid : ∀ args w, (callFunc 14 args).run Tryd.prog w = .ok (.enter 14 args) w := fun args w => by go_simp
theorem ballot_info (k : RW.Vk) : (Tryd.prog.info? 94).map (·.size) = some #[Value.int .i64 k.1, .int .i64 k.2.1, .int .i64 k.2.2.1, .int .i64 k.2.2.2].size := by kernel_rfl
set_option maxRecDepth 100000 in
set_option maxHeartbeats 4000000 in
theorem bxadd_any (n : Nat → Int) (d : ByteArray) (v : Value) (l : List ByteArray) (w : World) (K : Nat → Int) (hv : StrsV w v l) (hl : l.length ≤ 140737488355328) (hs : ∀ s ∈ l, s.size ≤ 9223372036854775807) (ks : Array Value) (hks : RW.WsOk ks K) (hK : KLaid w ks)
    (bx mb : Nat) (N : Int) (L : List (RW.Vk × ByteArray)) (hb : BoxAt w bx mb N L) :
    Calls Tryd.prog 31 #[.pointer (some ⟨bx, 0, none⟩), .agg (RW.mcells n d v)] w fun e w' => e = .returned (.bool (RW.addOk (RW.voteOk K N n d.data.toList (RW.bl l)) (RW.vk n) L)) ∧ BoxAt w' bx mb N (RW.addL (RW.voteOk K N n d.data.toList (RW.bl l)) (RW.vk n) d L) ∧ KeptBut mb w w' := by
  obtain ⟨x, hx⟩ : ∃ x, x = RW.voteK (n 0) := ⟨_, rfl⟩
  obtain ⟨y, hy⟩ : ∃ y, y = RW.msgB K n d.data.toList (RW.bl l) := ⟨_, rfl⟩
  obtain ⟨ok, hok⟩ : ∃ ok, ok = RW.voteOk K N n d.data.toList (RW.bl l) := ⟨_, rfl⟩
  have hV : ∀ W, Below w.heap.size w W → Calls Tryd.prog 14 #[.agg (RW.mcells n d v)] W fun e w' => e = .returned (.bool y) ∧ Below W.heap.size W w' := fun W hB => by
    rw [hy]; exact valid_any n d v l W K (hv.next hB) hl hs ks hks (bklaid hK hB)
  have hI : ∀ W, Calls Tryd.prog 51 #[.int .i64 (n 0)] W fun e w' => e = .returned (.bool x) ∧ W = w' := fun W => by rw [hx]; exact vote_any (n 0) W
  rw [← hok]
  obtain ⟨q, hq⟩ : ∃ q, q = decide (N ≤ n 1) := ⟨_, rfl⟩
  have hok2 : ok = ((x && y) && !q) := by rw [hok, RW.voteOk, hx, hy, hq]
  have hqH := hide hq
  obtain ⟨p, hp⟩ : ∃ p, p = (x && y) := ⟨_, rfl⟩
  rw [← hp] at hok2
  have hlt := hb.lt
  have hi1 := msg_info n d v
  obtain ⟨cs, hcs⟩ : ∃ cs, cs = RW.mcells n d v := ⟨_, rfl⟩
  rw [← hcs] at hi1 hV ⊢
  have hok2H := hide hok2
  have hpH := hide hp
  have hVH := hide hV
  have hIH := hide hI
  have hcsH := hide hcs
  have hbH := hide hb
  have hltH := hide hlt
  clear hx hy hok hq hok2 hp hV hI hcs hv hl hs hks hK hb hlt
  go_enter Tryd.func31, Tryd.ntmps31
  go_upto_region 1 with fail
  obtain ⟨b1, hb1⟩ : ∃ b, b = w.heap.size := ⟨_, rfl⟩
  have hR := MRows.new (MRows.nil (Below.refl w.heap.size w)) cs
  rw [← hb1] at hR ⊢
  refine wp_region_staged (fun _ w' => MRows [(b1, cs)] w w') [] (by kernel_rfl) (by kernel_rfl) (by rfl) (hR.drewN 1) ?_
  clear hR
  refine st_val (.pointer (some ⟨bx, 0, none⟩)) (by rfl) (by rfl) (fun w => op_mv rfl rfl) ?_
  simp only [Act.put, List.setIfInBounds_toArray, List.set_cons_zero, List.set_cons_succ]
  refine st_val (.bool false) (by rfl) (by rfl) (fun w => op_eqnil rfl rfl rfl) ?_
  simp only [Act.put, List.setIfInBounds_toArray, List.set_cons_zero, List.set_cons_succ]
  refine st_val (.bool false) (by rfl) (by rfl) (fun w => op_mv rfl rfl) ?_
  simp only [Act.put, List.setIfInBounds_toArray, List.set_cons_zero, List.set_cons_succ]
  refine st_val (.pointer (some ⟨b1, 0, none⟩)) (by rfl) (by rfl) (fun w => op_fa_0 rfl rfl) ?_
  simp only [Act.put, List.setIfInBounds_toArray, List.set_cons_zero, List.set_cons_succ]
  refine st_op (.int .i64 (n 0)) (by rfl) (by rfl) (fun j w0 _ hS => by rw [op_load_int rfl rfl (n := n 0) (by rw [hS.cell b1 cs (by simp), hcsH.out]; rfl)]; exact ⟨rfl, hS⟩) ?_
  simp only [Act.put, List.setIfInBounds_toArray, List.set_cons_zero, List.set_cons_succ]
  refine st_op (.bool x) (by rfl) (by rfl) (fun j w0 _ hS => by rw [op_call1 rfl rfl rfl cf_vote]; exact (hIH.out w0).mono fun e w' h => by obtain ⟨rfl, rfl⟩ := h; exact ⟨rfl, hS⟩) ?_
  simp only [Act.put, List.setIfInBounds_toArray, List.set_cons_zero, List.set_cons_succ]
  refine st_val (.bool (!x)) (by rfl) (by rfl) (fun w => op_not rfl rfl) ?_
  simp only [Act.put, List.setIfInBounds_toArray, List.set_cons_zero, List.set_cons_succ]
  refine st_val (.bool (!x)) (by rfl) (by rfl) (fun w => op_pick rfl rfl rfl rfl rfl) ?_
  simp only [Act.put, List.setIfInBounds_toArray, List.set_cons_zero, List.set_cons_succ]
  refine st_val (.bool (!x)) (by rfl) (by rfl) (fun w => op_mv rfl rfl) ?_
  simp only [Act.put, List.setIfInBounds_toArray, List.set_cons_zero, List.set_cons_succ]
  refine st_if x (.agg cs) (by cases x <;> rfl) (by rfl) (fun h j w0 _ hS => by rw [op_load_agg (cs := cs) (T := 24) rfl rfl (ldMsg_eq _ _ _ _ _ _ _ (hS.rows (b1, cs) (by simp)) Tryd.underlying24 rfl hi1)]; exact ⟨rfl, hS⟩) ?_
  simp only [Act.put, List.setIfInBounds_toArray, List.set_cons_zero, List.set_cons_succ]
  refine st_if x (.bool y) (by cases x <;> rfl) (by rfl) (fun h j w0 _ hS => by rw [op_call1 rfl rfl (gd_pos h) cf_valid]; exact (hVH.out w0 hS.below).mono fun e w' h => by obtain ⟨rfl, hB⟩ := h; exact ⟨rfl, hS.next hB⟩) ?_
  simp only [Act.put, List.setIfInBounds_toArray, List.set_cons_zero, List.set_cons_succ]
  refine st_if x (.bool (!y)) (by cases x <;> rfl) (by rfl) (fun h j w0 _ hS => by rw [op_not rfl (gd_pos h)]; exact ⟨rfl, hS⟩) ?_
  simp only [Act.put, List.setIfInBounds_toArray, List.set_cons_zero, List.set_cons_succ]
  refine st_val (.bool (!p)) (by rfl) (by rfl) (fun w => op_pick rfl rfl rfl rfl (by rw [hpH.out]; cases x <;> rfl)) ?_
  simp only [Act.put, List.setIfInBounds_toArray, List.set_cons_zero, List.set_cons_succ]
  refine st_val (.bool (!p)) (by rfl) (by rfl) (fun w => op_mv rfl rfl) ?_
  simp only [Act.put, List.setIfInBounds_toArray, List.set_cons_zero, List.set_cons_succ]
  refine st_if p (.pointer (some ⟨b1, 1, none⟩)) (by cases p <;> rfl) (by rfl) (fun h j w0 _ hS => by rw [op_fa_1 rfl rfl]; exact ⟨rfl, hS⟩) ?_
  simp only [Act.put, List.setIfInBounds_toArray, List.set_cons_zero, List.set_cons_succ]
  refine st_if p (.int .i64 (n 1)) (by cases p <;> rfl) (by rfl) (fun h j w0 _ hS => by rw [op_load_int rfl (gd_pos h) (n := n 1) (by rw [hS.cell b1 cs (by simp), hcsH.out]; rfl)]; exact ⟨rfl, hS⟩) ?_
  simp only [Act.put, List.setIfInBounds_toArray, List.set_cons_zero, List.set_cons_succ]
  refine st_if p (.pointer (some ⟨bx, 0, none⟩)) (by cases p <;> rfl) (by rfl) (fun h j w0 _ hS => by rw [op_mv rfl rfl]; exact ⟨rfl, hS⟩) ?_
  simp only [Act.put, List.setIfInBounds_toArray, List.set_cons_zero, List.set_cons_succ]
  refine st_if p (.pointer (some ⟨bx, 0, none⟩)) (by cases p <;> rfl) (by rfl) (fun h j w0 _ hS => by rw [op_nilc rfl (gd_pos h)]; exact ⟨rfl, hS⟩) ?_
  simp only [Act.put, List.setIfInBounds_toArray, List.set_cons_zero, List.set_cons_succ]
  refine st_if p (.pointer (some ⟨bx, 0, none⟩)) (by cases p <;> rfl) (by rfl) (fun h j w0 _ hS => by rw [op_fab0 rfl (gd_pos h)]; exact ⟨rfl, hS⟩) ?_
  simp only [Act.put, List.setIfInBounds_toArray, List.set_cons_zero, List.set_cons_succ]
  refine st_if p (.int .i64 N) (by cases p <;> rfl) (by rfl) (fun h j w0 _ hS => by rw [op_load_int rfl (gd_pos h) (n := N) (by rw [cell_at ((hS.below.block _ hltH.out.1).trans hbH.out.row)]; rfl)]; exact ⟨rfl, hS⟩) ?_
  simp only [Act.put, List.setIfInBounds_toArray, List.set_cons_zero, List.set_cons_succ]
  refine st_if p (.bool q) (by cases p <;> rfl) (by rfl) (fun h j w0 _ hS => by rw [op_geq rfl (gd_pos h) (gd_pos h), ← hqH.out]; exact ⟨rfl, hS⟩) ?_
  simp only [Act.put, List.setIfInBounds_toArray, List.set_cons_zero, List.set_cons_succ]
  refine st_val (.bool (!ok)) (by rfl) (by rfl) (fun w => op_pick rfl rfl rfl rfl (by rw [hok2H.out]; cases p <;> cases q <;> rfl)) ?_
  simp only [Act.put, List.setIfInBounds_toArray, List.set_cons_zero, List.set_cons_succ]
  refine st_nil ?_
  intro W hF
  clear hb1
  cases ok with
  | false =>
    have hFb := hide hF.below
    clear hF
    go_wp2
    go_ret
    have e : RW.addOk false (RW.vk n) L = false := rfl
    refine ⟨by rw [e] <;> rfl, ?_, KeptBut.of_below hFb.out⟩
    rw [RW.addL, e, if_neg Bool.false_ne_true]
    exact hbH.out.next hFb.out
  | true =>
    have c1 : W.cell? ⟨b1, 1, none⟩ = some (.int .i64 (n 1)) := by rw [hF.cell b1 cs (by simp), hcsH.out]; rfl
    have c0 : W.cell? ⟨b1, 0, none⟩ = some (.int .i64 (n 0)) := by rw [hF.cell b1 cs (by simp), hcsH.out]; rfl
    have c3 : W.cell? ⟨b1, 3, none⟩ = some (.int .i64 (n 3)) := by rw [hF.cell b1 cs (by simp), hcsH.out]; rfl
    have c4 : W.cell? ⟨b1, 4, none⟩ = some (.int .i64 (n 4)) := by rw [hF.cell b1 cs (by simp), hcsH.out]; rfl
    have hFH := hide hF
    clear hF
    go_upto_region 4 with (refine wpList_store_new rfl 94 (.tmp 5) (.tmp 38) rfl #[.int .i64 (n 1), .int .i64 (n 0), .int .i64 (n 3), .int .i64 (n 4)] rfl rfl 94 _ (ballot_info (RW.vk n)) rfl rfl ?_)
    have hk : RW.kv4 (RW.vk n) = .agg #[.int .i64 (n 1), .int .i64 (n 0), .int .i64 (n 3), .int .i64 (n 4)] := rfl
    obtain ⟨b5, hb5⟩ : ∃ b, b = W.heap.size := ⟨_, rfl⟩
    have hB5 : Below W.heap.size W (W.alloc (.cells #[.int .i64 (n 1), .int .i64 (n 0), .int .i64 (n 3), .int .i64 (n 4)] 94)) := (Below.refl _ _).alloc (Nat.le_refl _) _
    have hF5 := hFH.out.next hB5
    have hr5 : (W.alloc (.cells #[.int .i64 (n 1), .int .i64 (n 0), .int .i64 (n 3), .int .i64 (n 4)] 94)).heap[b5]? = some (.cells #[.int .i64 (n 1), .int .i64 (n 0), .int .i64 (n 3), .int .i64 (n 4)] 94 (0, 0)) := heap_new_at hb5
    rw [← hb5]
    refine gen_world (fun W' => MRows [(b1, cs)] w W' ∧ W'.heap[b5]? = some (.cells #[.int .i64 (n 1), .int .i64 (n 0), .int .i64 (n 3), .int .i64 (n 4)] 94 (0, 0))) ⟨hF5, hr5⟩ ?_
    clear hr5 hF5 hB5 hb5 c0 c1 c3 c4 hFH
    rintro W4 ⟨hF4, hr4⟩
    have hb4 := hbH.out.next hF4.below
    have hld : (ldMsg 94 (.pointer (some ⟨b5, 0, none⟩))).run Tryd.prog W4.drew = .ok (.agg #[.int .i64 (n 1), .int .i64 (n 0), .int .i64 (n 3), .int .i64 (n 4)]) W4.drew :=
      ldMsg_eq _ _ _ _ _ _ _ (show W4.drew.heap[b5]? = _ from hr4) Tryd.underlying94 rfl (ballot_info (RW.vk n))
    have hcm : W4.drew.cell? ⟨bx, 1, none⟩ = some (.map (some mb)) := (cell_at hb4.row 1).trans rfl
    obtain ⟨has, hhas⟩ : ∃ h, h = RW.hasK (RW.vk n) L := ⟨_, rfl⟩
    obtain ⟨z, hlk⟩ : ∃ z, (Instr.lookup 88 (.map (some mb)) (.agg #[.int .i64 (n 1), .int .i64 (n 0), .int .i64 (n 3), .int .i64 (n 4)]) true).run Tryd.prog W4.drew = .ok (.tuple #[z, .bool has]) W4.drew := by
      have h1 := KM.OwnM.lookup_ok (w := W4.drew) (show KM.OwnM RW.kv4 W4.drew mb _ from hb4.own) key4 Tryd.underlying88 (z := .string ⟨#[]⟩) (by go_simp) (RW.vk n)
      rw [RW.get_has, ← hhas] at h1
      exact ⟨_, h1⟩
    have hhasH := hide hhas
    have hb4H := hide hb4
    have hF4H := hide hF4
    have hr4H := hide hr4
    clear hhas hb4 hF4 hr4 hbH
    refine wp_region_staged (fun _ w' => w' = W4.drew) [] (by kernel_rfl) (by kernel_rfl) (by rfl) rfl ?_
    refine st_val (.pointer (some ⟨bx, 0, none⟩)) (by rfl) (by rfl) (fun w => op_mv rfl rfl) ?_
    simp only [Act.put, List.setIfInBounds_toArray, List.set_cons_zero, List.set_cons_succ]
    refine st_val (.pointer (some ⟨bx, 0, none⟩)) (by rfl) (by rfl) (fun w => op_nilc rfl rfl) ?_
    simp only [Act.put, List.setIfInBounds_toArray, List.set_cons_zero, List.set_cons_succ]
    refine st_val (.pointer (some ⟨bx, 1, none⟩)) (by rfl) (by rfl) (fun w => op_fab1 rfl rfl) ?_
    simp only [Act.put, List.setIfInBounds_toArray, List.set_cons_zero, List.set_cons_succ]
    refine st_op (.map (some mb)) (by rfl) (by rfl) (fun j w0 _ hS => by subst hS; rw [op_load_map rfl rfl hcm]; exact ⟨rfl, rfl⟩) ?_
    simp only [Act.put, List.setIfInBounds_toArray, List.set_cons_zero, List.set_cons_succ]
    refine st_op (.agg #[.int .i64 (n 1), .int .i64 (n 0), .int .i64 (n 3), .int .i64 (n 4)]) (by rfl) (by rfl) (fun j w0 _ hS => by subst hS; rw [op_load_agg (T := 94) rfl rfl hld]; exact ⟨rfl, rfl⟩) ?_
    simp only [Act.put, List.setIfInBounds_toArray, List.set_cons_zero, List.set_cons_succ]
    refine st_op (.tuple #[z, .bool has]) (by rfl) (by rfl) (fun j w0 _ hS => by subst hS; rw [op_lookup rfl rfl rfl hlk]; exact ⟨rfl, rfl⟩) ?_
    simp only [Act.put, List.setIfInBounds_toArray, List.set_cons_zero, List.set_cons_succ]
    refine st_val (.tuple #[z, .bool has]) (by rfl) (by rfl) (fun w => op_mv rfl rfl) ?_
    simp only [Act.put, List.setIfInBounds_toArray, List.set_cons_zero, List.set_cons_succ]
    refine st_val z (by rfl) (by rfl) (fun w => op_ext rfl rfl rfl) ?_
    simp only [Act.put, List.setIfInBounds_toArray, List.set_cons_zero, List.set_cons_succ]
    refine st_val (.bool has) (by rfl) (by rfl) (fun w => op_ext rfl rfl rfl) ?_
    simp only [Act.put, List.setIfInBounds_toArray, List.set_cons_zero, List.set_cons_succ]
    refine st_val z (by rfl) (by rfl) (fun w => op_asg rfl rfl) ?_
    simp only [Act.put, List.setIfInBounds_toArray, List.set_cons_zero, List.set_cons_succ]
    refine st_val (.bool has) (by rfl) (by rfl) (fun w => op_asg rfl rfl) ?_
    simp only [Act.put, List.setIfInBounds_toArray, List.set_cons_zero, List.set_cons_succ]
    refine st_nil ?_
    intro W5 hW5
    cases has with
    | true =>
      clear hlk hld hcm
      go_wp2
      go_ret
      have e : RW.addOk true (RW.vk n) L = false := by rw [RW.addOk, ← hhasH.out]; rfl
      have hB : Below w.heap.size w W5 := by rw [hW5]; exact hF4H.out.below.drew
      refine ⟨by rw [e] <;> rfl, ?_, KeptBut.of_below hB⟩
      rw [RW.addL, e, if_neg Bool.false_ne_true, hW5]
      exact hb4H.out.keep rfl rfl
    | false =>
      clear hlk hld hcm
      have hb5 : BoxAt W5 bx mb N L := by rw [hW5]; exact hb4H.out.keep rfl rfl
      have hF5 : MRows [(b1, cs)] w W5 := by rw [hW5]; exact hF4H.out.drewN 1
      have hr5 : W5.heap[b5]? = some (.cells #[.int .i64 (n 1), .int .i64 (n 0), .int .i64 (n 3), .int .i64 (n 4)] 94 (0, 0)) := by rw [hW5]; exact hr4H.out
      have hld : (ldMsg 94 (.pointer (some ⟨b5, 0, none⟩))).run Tryd.prog W5.drew = .ok (.agg #[.int .i64 (n 1), .int .i64 (n 0), .int .i64 (n 3), .int .i64 (n 4)]) W5.drew :=
        ldMsg_eq _ _ _ _ _ _ _ (show W5.drew.heap[b5]? = _ from hr5) Tryd.underlying94 rfl (ballot_info (RW.vk n))
      have hcm : W5.drew.cell? ⟨bx, 1, none⟩ = some (.map (some mb)) := (cell_at hb5.row 1).trans rfl
      have hcd : W5.drew.cell? ⟨b1, 6, none⟩ = some (.string d) := (hF5.cell b1 cs (by simp) 6).trans (by rw [hcsH.out]; rfl)
      obtain ⟨W6, hup, hown6, h1, h2, h3, h4, h5⟩ := KM.OwnM.update (show KM.OwnM RW.kv4 W5.drew mb _ from hb5.own) key4 Tryd.underlying88 (RW.vk n) (.string d)
      have hg : KM.get (RW.vk n) (L.map fun x => (x.1, Value.string x.2)) = none := by
        have := RW.get_has (RW.vk n) L
        rw [← hhasH.out] at this
        cases e : KM.get (RW.vk n) (L.map fun x => (x.1, Value.string x.2)) with
        | none => rfl
        | some u => rw [e] at this; cases this
      rw [KM.put_new hg] at hown6
      have hb6 : BoxAt W6 bx mb N (L ++ [(RW.vk n, d)]) := ⟨(h5 bx hb5.ne).trans hb5.row, by rw [List.map_append]; exact hown6⟩
      have hK6 : KeptBut mb w W6 := ⟨h1.trans hF5.below.os, h2.trans hF5.below.tape, h3.trans hF5.below.output, by rw [h4]; exact hF5.below.size, fun k hk hm => (h5 k hm).trans (hF5.below.block k hk)⟩
      have hb6H := hide hb6
      have hK6H := hide hK6
      clear hb6 hK6 hown6 h1 h2 h3 h4 h5 hg hb5 hF5 hr5
      go_upto_region 7 with fail
      refine wp_region_staged (fun j w' => (j = 0 → w' = W5.drew) ∧ (j = 1 → w' = W6)) [7] (by kernel_rfl) (by kernel_rfl) (by rfl) ⟨fun _ => rfl, fun h => by cases h⟩ ?_
      refine st_val (.pointer (some ⟨bx, 0, none⟩)) (by rfl) (by rfl) (fun w => op_mv rfl rfl) ?_
      simp only [Act.put, List.setIfInBounds_toArray, List.set_cons_zero, List.set_cons_succ]
      refine st_val (.pointer (some ⟨bx, 0, none⟩)) (by rfl) (by rfl) (fun w => op_nilc rfl rfl) ?_
      simp only [Act.put, List.setIfInBounds_toArray, List.set_cons_zero, List.set_cons_succ]
      refine st_val (.pointer (some ⟨bx, 1, none⟩)) (by rfl) (by rfl) (fun w => op_fab1 rfl rfl) ?_
      simp only [Act.put, List.setIfInBounds_toArray, List.set_cons_zero, List.set_cons_succ]
      refine st_op_in 0 0 (.map (some mb)) (by rfl) (by rfl) (.inl rfl) (.inr (by decide +kernel)) (fun j w0 _ hj hS => by obtain rfl : j = 0 := (by omega); have hS' := hS.1 rfl; subst hS'; rw [op_load_map rfl rfl hcm]; exact ⟨rfl, hS⟩) ?_
      simp only [Act.put, List.setIfInBounds_toArray, List.set_cons_zero, List.set_cons_succ]
      refine st_op_in 0 0 (.agg #[.int .i64 (n 1), .int .i64 (n 0), .int .i64 (n 3), .int .i64 (n 4)]) (by rfl) (by rfl) (.inl rfl) (.inr (by decide +kernel)) (fun j w0 _ hj hS => by obtain rfl : j = 0 := (by omega); have hS' := hS.1 rfl; subst hS'; rw [op_load_agg (T := 94) rfl rfl hld]; exact ⟨rfl, hS⟩) ?_
      simp only [Act.put, List.setIfInBounds_toArray, List.set_cons_zero, List.set_cons_succ]
      refine st_val (.pointer (some ⟨b1, 6, none⟩)) (by rfl) (by rfl) (fun w => op_fa_6 rfl rfl) ?_
      simp only [Act.put, List.setIfInBounds_toArray, List.set_cons_zero, List.set_cons_succ]
      refine st_op_in 0 0 (.string d) (by rfl) (by rfl) (.inl rfl) (.inr (by decide +kernel)) (fun j w0 _ hj hS => by obtain rfl : j = 0 := (by omega); have hS' := hS.1 rfl; subst hS'; rw [op_load_str rfl rfl hcd]; exact ⟨rfl, hS⟩) ?_
      simp only [Act.put, List.setIfInBounds_toArray, List.set_cons_zero, List.set_cons_succ]
      refine st_step 0 undef (by rfl) (by rfl) (by decide +kernel) (fun w' hS => by have hS' := hS.1 rfl; subst hS'; rw [op_upd rfl rfl rfl rfl hup]; exact ⟨rfl, (show (1 = 0 → W6 = W5.drew) ∧ (1 = 1 → W6 = W6) from ⟨fun h => absurd h (by decide), fun _ => rfl⟩)⟩) ?_
      simp only [Act.put]
      refine st_nil ?_
      intro W7 hW7
      obtain rfl := hW7.2 rfl
      clear hW7 hup hcd hcm hld
      go_wp2
      go_ret
      have e : RW.addOk true (RW.vk n) L = true := by rw [RW.addOk, ← hhasH.out]; rfl
      refine ⟨by rw [e] <;> rfl, ?_, hK6H.out⟩
      rw [RW.addL, e, if_pos rfl]
      exact hb6H.out
end Go.Proofs.YtcbckcojebanaaaDoor

/-
  Package ballot: a box's Ahead: what it returns; only new memory is written.
-/
namespace Go.Proofs.YtcbckcojebanaaaDoor
open Go.RowKit RG
namespace RW
def intK (x : Int) : Value := .int .i64 x
def aheadK (h r : Int) (k : Vk) : Bool := (k.2.2.1 == h) && decide (r ≤ k.2.2.2)
/-- the sites that have voted at a height in a round or a later one -/
def AheadOf (L : List (Vk × ByteArray)) (h r : Int) (S : List Int) : Prop := S.Nodup ∧ ∀ f, f ∈ S ↔ ∃ x ∈ L, x.1.1 = f ∧ aheadK h r x.1 = true
theorem isSome_mem {S : List (Int × Value)} {f : Int} : (KM.get f S).isSome = true ↔ f ∈ S.map (·.1) := by
  constructor
  · intro h
    obtain ⟨v, hv⟩ := Option.isSome_iff_exists.1 h
    exact List.mem_map.2 ⟨_, KM.get_mem hv, rfl⟩
  · intro h
    cases hg : KM.get f S with
    | some v => rfl
    | none =>
      obtain ⟨x, hx, rfl⟩ := List.mem_map.1 h
      exact absurd rfl (KM.get_none.1 hg x hx)
end RW
theorem intKey : KM.Key Tryd.prog 3 RW.intK := KM.int_key Tryd.underlying3
theorem ahead_nil (w : World) (h r : Int) : Calls Tryd.prog 37 #[.pointer none, .int .i64 h, .int .i64 r] w fun e w' => e = .returned (.int .i64 0) ∧ w = w' := by
  go_enter Tryd.func37, Tryd.ntmps37
  go_wp2
  go_ret
  exact ⟨rfl, rfl⟩
set_option maxRecDepth 100000 in
set_option maxHeartbeats 4000000 in
theorem ahead_any (bx mb : Nat) (N : Int) (L : List (RW.Vk × ByteArray)) (w : World) (hb : BoxAt w bx mb N L) (h r : Int) :
    Calls Tryd.prog 37 #[.pointer (some ⟨bx, 0, none⟩), .int .i64 h, .int .i64 r] w fun e w' => (∃ S : List Int, e = .returned (.int .i64 S.length) ∧ RW.AheadOf L h r S) ∧ Below w.heap.size w w' := by
  have hlt := hb.lt
  have hmk : ∀ W, (Instr.makeMap 98 none).run Tryd.prog W = .ok (.map (some W.heap.size)) (W.alloc (.map #[] 0)) := fun _ => rfl
  obtain ⟨B, hB⟩ : ∃ B, B = w.heap.size := ⟨_, rfl⟩
  have hst : KM.OwnM RW.intK (w.alloc (.map #[] 0)) B [] := by rw [hB]; exact KM.OwnM.made w
  have hB0 : Below B w (w.alloc (.map #[] 0)) := (Below.refl B w).alloc (by omega) _
  have hsz : (w.alloc (.map #[] 0)).heap.size = B + 1 := by rw [hB]; simp
  rw [← hB] at hlt
  have hbH := hide hb
  have hltH := hide hlt
  have hBH := hide hB
  clear hb hlt hB
  go_enter Tryd.func37, Tryd.ntmps37
  go_upto_region 4 with fail
  rw [← hBH.out]
  refine gen_world (fun W => KM.OwnM RW.intK W B [] ∧ Below B w W ∧ W.heap.size = B + 1) ⟨hst, hB0, hsz⟩ ?_
  clear hst hB0 hsz hmk
  rintro W1 ⟨hs1, hB1, hz1⟩
  have hb1 : BoxAt W1 bx mb N L := hbH.out.keep (hB1.block _ hltH.out.1) (hB1.block _ hltH.out.2)
  have c1 : W1.cell? ⟨bx, 1, none⟩ = some (.map (some mb)) := (cell_at hb1.row 1).trans rfl
  have hmt : Tryd.prog.underlying 88 = some (.map 94 9) := Tryd.underlying88
  obtain ⟨o, hrg, hit⟩ := hb1.own.range hmt
  have hnd := hide hb1.own.nodup
  have hs2 : KM.OwnM RW.intK (W1.alloc o) B [] := hs1.keep (Below.heap_alloc _ _ _ hs1.lt)
  have hB2 : Below B w (W1.alloc o) := hB1.alloc (by omega) o
  rw [hz1] at hit
  have hitH := hide hit
  have hs2H := hide hs2
  have hB2H := hide hB2
  have hz2 := hide hz1
  clear hit hs2 hB2 hs1 hB1 hb1 hmt hz1
  go_wp2
  rw [hz2.out]
  go_loopw [8] (fun _ wr => ∃ (done : List RW.Vk) (S : List (Int × Value)), KM.IterM RW.kv4 wr mb (B + 1) (L.map fun x => (x.1, Value.string x.2)) done ∧ KM.OwnM RW.intK wr B S ∧ Below B w wr ∧ (∀ k ∈ done, ∃ x ∈ L, x.1 = k) ∧ ∀ f, (KM.get f S).isSome = true ↔ ∃ k ∈ done, k.1 = f ∧ RW.aheadK h r k = true) (fun _ wr => KM.leftN wr mb (B + 1))
  case atStart => exact ⟨[], [], hitH.out, hs2H.out, hB2H.out, by simp, fun f => by simp [KM.get_nil]⟩
  case round =>
    clear hitH hs2H hB2H
    obtain ⟨done, S, hit, hs, hBw, hdL, hiff⟩ := hrel
    rcases hit.next (P := Tryd.prog) 0 with ⟨hall, hrun⟩ | ⟨⟨k, vx⟩, hx, hxd, w', hrun, hit', hen, hlt, h1, h2, h3, h4, h5⟩
    · have hln := hs.made_len 3 Tryd.underlying98
      have hsp : RW.AheadOf L h r (S.map (·.1)) := ⟨hs.nodup, fun f => by
        rw [← RW.isSome_mem, hiff]
        constructor
        · rintro ⟨k, hk, h1, h2⟩
          obtain ⟨x, hx, rfl⟩ := hdL k hk
          exact ⟨x, hx, h1, h2⟩
        · rintro ⟨x, hx, h1, h2⟩
          exact ⟨x.1, hall (x.1, .string x.2) (List.mem_map.2 ⟨x, hx, rfl⟩), h1, h2⟩⟩
      have hspH := hide hsp
      have hBwH := hide hBw
      have hlen : (S.map (·.1)).length = S.length := List.length_map ..
      have hlenH := hide hlen
      clear hsp hall hit hBw hiff hdL hs hlen
      go_wp2
      go_ret
      exact ⟨⟨S.map (·.1), by rw [hlenH.out] <;> rfl, hspH.out⟩, by rw [← hBH.out]; exact hBwH.out⟩
    · obtain ⟨x0, hx0, hxe⟩ := List.mem_map.1 hx
      simp only [Prod.mk.injEq] at hxe
      obtain ⟨hx1, rfl⟩ := hxe
      obtain ⟨k0, k1, k2, k3⟩ := k
      have hrun' : (Instr.next (.pointer (some ⟨B + 1, 0, none⟩)) false 0).run Tryd.prog wr = .ok (.tuple #[.bool true, .agg #[.int .i64 k0, .int .i64 k1, .int .i64 k2, .int .i64 k3], .string x0.2]) w' := hrun
      have hen' : (Instr.entry (.pointer (some ⟨B + 1, 0, none⟩))).run Tryd.prog w' = .ok (.tuple #[.agg #[.int .i64 k0, .int .i64 k1, .int .i64 k2, .int .i64 k3], .string x0.2]) w' := hen
      have hBn : Below B w w' := ⟨h1.trans hBw.os, h2.trans hBw.tape, h3.trans hBw.output, by rw [h4]; exact hBw.size, fun k hk => (h5 k (by omega)).trans (hBw.block k hk)⟩
      have hs' : KM.OwnM RW.intK w' B S := hs.keep (h5 B (by omega))
      have hw'l : B < w'.heap.size := hs'.lt
      have hdL' : ∀ k ∈ (k0, k1, k2, k3) :: done, ∃ x ∈ L, x.1 = k := fun k hk => by
        rcases List.mem_cons.1 hk with rfl | hk
        · exact ⟨x0, hx0, hx1⟩
        · exact hdL k hk
      have hA : ∀ o, KM.IterM RW.kv4 (w'.alloc o) mb (B + 1) (L.map fun x => (x.1, Value.string x.2)) ((k0, k1, k2, k3) :: done) ∧ KM.OwnM RW.intK (w'.alloc o) B S ∧ Below B w (w'.alloc o) ∧ KM.leftN (w'.alloc o) mb (B + 1) < KM.leftN wr mb (B + 1) := fun o => by
        have hl := hit'.lt
        have e1 := Below.heap_alloc w' o mb hl.1
        have e2 := Below.heap_alloc w' o (B + 1) hl.2
        exact ⟨hit'.keep e1 e2, hs'.keep (Below.heap_alloc w' o B hw'l), hBn.alloc (by omega) o, by rw [KM.leftN_keep e1 e2]; exact hlt⟩
      obtain ⟨b8, hb8⟩ : ∃ b, b = w'.heap.size := ⟨_, rfl⟩
      have hr8 : (w'.alloc (.cells #[.int .i64 k0, .int .i64 k1, .int .i64 k2, .int .i64 k3] 94)).heap[b8]? = some (.cells #[.int .i64 k0, .int .i64 k1, .int .i64 k2, .int .i64 k3] 94 (0, 0)) := heap_new_at hb8
      have hAH := hide hA
      have hr8H := hide hr8
      have hb8H := hide hb8
      have hdLH := hide hdL'
      have hiffH := hide hiff
      clear hrun hen hA hr8 hb8 hdL' hiff hit hit' hs hs' hBw hBn hlt hdL hx hxd hx1 hx0 h1 h2 h3 h4 h5 hw'l
      go_upto_region 7 with (refine wpList_store_new rfl 94 (.tmp 8) (.tmp 20) rfl #[.int .i64 k0, .int .i64 k1, .int .i64 k2, .int .i64 k3] rfl rfl 94 _ (ballot_info (k0, k1, k2, k3)) rfl rfl ?_)
      rw [← hb8H.out]
      refine gen_world (fun W => (KM.IterM RW.kv4 W mb (B + 1) (L.map fun x => (x.1, Value.string x.2)) ((k0, k1, k2, k3) :: done) ∧ KM.OwnM RW.intK W B S ∧ Below B w W ∧ KM.leftN W mb (B + 1) < KM.leftN wr mb (B + 1)) ∧ W.heap[b8]? = some (.cells #[.int .i64 k0, .int .i64 k1, .int .i64 k2, .int .i64 k3] 94 (0, 0))) ⟨hAH.out _, hr8H.out⟩ ?_
      clear hAH hr8H hb8H hrun' hen'
      rintro W ⟨⟨hit, hs, hBw, hlt⟩, hr8⟩
      have c0 : W.cell? ⟨b8, 0, none⟩ = some (.int .i64 k0) := (cell_at hr8 0).trans rfl
      have c2 : W.cell? ⟨b8, 2, none⟩ = some (.int .i64 k2) := (cell_at hr8 2).trans rfl
      have c3 : W.cell? ⟨b8, 3, none⟩ = some (.int .i64 k3) := (cell_at hr8 3).trans rfl
      have hitH := hide hit
      have hsH := hide hs
      have hBwH := hide hBw
      have hltH2 := hide hlt
      clear hr8 hit hs hBw hlt
      obtain ⟨p, hp⟩ : ∃ p, p = RW.aheadK h r (k0, k1, k2, k3) := ⟨_, rfl⟩
      have hno : p = false → ∀ f, (KM.get f S).isSome = true ↔ ∃ k ∈ (k0, k1, k2, k3) :: done, k.1 = f ∧ RW.aheadK h r k = true := fun hpf f => by
        rw [hiffH.out f]
        constructor
        · rintro ⟨k, hk, h1, h2⟩; exact ⟨k, List.mem_cons_of_mem _ hk, h1, h2⟩
        · rintro ⟨k, hk, h1, h2⟩
          rcases List.mem_cons.1 hk with rfl | hk
          · rw [← hp, hpf] at h2; cases h2
          · exact ⟨k, hk, h1, h2⟩
      have hyes : p = true → ∀ f, (KM.get f (KM.put k0 (.bool true) S)).isSome = true ↔ ∃ k ∈ (k0, k1, k2, k3) :: done, k.1 = f ∧ RW.aheadK h r k = true := fun hpt f => by
        rw [KM.get_put]
        by_cases hf : f = k0
        · subst hf
          rw [if_pos rfl]
          exact ⟨fun _ => ⟨_, List.mem_cons_self .., rfl, by rw [← hp]; exact hpt⟩, fun _ => rfl⟩
        · rw [if_neg hf, hiffH.out f]
          constructor
          · rintro ⟨k, hk, h1, h2⟩; exact ⟨k, List.mem_cons_of_mem _ hk, h1, h2⟩
          · rintro ⟨k, hk, h1, h2⟩
            rcases List.mem_cons.1 hk with rfl | hk
            · exact absurd h1.symm hf
            · exact ⟨k, hk, h1, h2⟩
      have hp2 : p = ((k2 == h) && decide (r ≤ k3)) := hp
      have hnoH := hide hno
      have hyesH := hide hyes
      clear hno hyes hp
      cases g1 : (k2 == h) with
      | false =>
        rw [g1, Bool.false_and] at hp2
        have hi := hide (hnoH.out hp2)
        clear hp2
        go_wp2
        go_roundw
        case rel => exact ⟨_, _, hitH.out, hsH.out, hBwH.out, hdLH.out, hi.out⟩
        case measure => exact hltH2.out
      | true =>
        rw [g1, Bool.true_and] at hp2
        by_cases g2 : r ≤ k3
        · rw [decide_eq_true g2] at hp2
          have hi := hide (hyesH.out hp2)
          obtain ⟨w6, hup, hown6, h1, h2, h3, h4, h5⟩ := KM.OwnM.update hsH.out intKey Tryd.underlying98 k0 (.bool true)
          have hup' : (Instr.mapUpdate 98 (.map (some B)) (.int .i64 k0) (.bool true)).run Tryd.prog W = .ok () w6 := hup
          have hB6 : Below B w w6 := ⟨h1.trans hBwH.out.os, h2.trans hBwH.out.tape, h3.trans hBwH.out.output, by rw [h4]; exact hBwH.out.size, fun k hk => (h5 k (by omega)).trans (hBwH.out.block k hk)⟩
          have hmbB := hltH.out.2
          have e1 := h5 mb (by omega)
          have e2 := h5 (B + 1) (by omega)
          have hit6 := hide (hitH.out.keep e1 e2)
          have hl6 : KM.leftN w6 mb (B + 1) < KM.leftN wr mb (B + 1) := by rw [KM.leftN_keep e1 e2]; exact hltH2.out
          have hl6H := hide hl6
          have hB6H := hide hB6
          have hown6H := hide hown6
          clear hp2 hup hown6 h1 h2 h3 h4 h5 hB6 hl6 e1 e2 hmbB
          go_wp2
          go_roundw
          case rel => exact ⟨_, _, hit6.out, hown6H.out, hB6H.out, hdLH.out, hi.out⟩
          case measure => exact hl6H.out
        · rw [decide_eq_false g2] at hp2
          have hi := hide (hnoH.out hp2)
          have g3 : k3 < r := by omega
          clear hp2 g2
          go_wp2
          go_roundw
          case rel => exact ⟨_, _, hitH.out, hsH.out, hBwH.out, hdLH.out, hi.out⟩
          case measure => exact hltH2.out
end Go.Proofs.YtcbckcojebanaaaDoor

/-
  Package ballot: input.number and input.text: what they read, and where the reading stands behind it; the input's block alone is written.
-/
namespace Go.Proofs.YtcbckcojebanaaaDoor
open Go.RowKit
namespace RW
/-- an input's cells -/
def inC (s : ByteArray) (p : Nat × Bool) : Array Value := #[.string s, .int .i64 p.1, .bool p.2]
/-- a number is read: what it is, where the reading stands, whether it failed -/
def rdI (l : List UInt8) (p : Nat × Bool) : Int × Nat × Bool := match p.2 with
  | true => (0, p)
  | false => match decI (l.drop p.1) with
    | none => (0, 0, true)
    | some (n, k) => (n, p.1 + k, false)
/-- a string is read -/
def rdS (l : List UInt8) (p : Nat × Bool) : List UInt8 × Nat × Bool := match p.2 with
  | true => ([], p)
  | false => match decS (l.drop p.1) with
    | none => ([], 0, true)
    | some (t, k) => (t, p.1 + k, false)
end RW
/-- block bi alone may have been written; none is new -/
structure Only (bi : Nat) (w w' : World) : Prop where
  os : w'.os = w.os
  tape : w'.tape = w.tape
  output : w'.output = w.output
  size : w'.heap.size = w.heap.size
  block : ∀ k, k ≠ bi → w'.heap[k]? = w.heap[k]?
theorem Only.refl (bi : Nat) (w : World) : Only bi w w := ⟨rfl, rfl, rfl, rfl, fun _ _ => rfl⟩
theorem Only.setCell {bi : Nat} {w w' : World} (h : Only bi w w') (i : Nat) (v : Value) : Only bi w (w'.setCell ⟨bi, i, none⟩ v) :=
  ⟨h.os, h.tape, h.output, by rw [← h.size]; simp [World.setCell], fun k hk => (Below.heap_setCell _ _ _ _ hk).trans (h.block k hk)⟩
theorem Only.drewN {bi : Nat} {w w' : World} (h : Only bi w w') (n : Nat) : Only bi w (w'.drewN n) := ⟨h.os, h.tape, h.output, h.size, h.block⟩
theorem Only.below {bi B : Nat} {w w' : World} (h : Only bi w w') (hB : B ≤ bi) : Below B w w' := ⟨h.os, h.tape, h.output, by rw [h.size]; exact Nat.le_refl _, fun k hk => h.block k (by omega)⟩
/-- the world behind a reading -/
def rdW (bi : Nat) (w : World) (p q : Nat × Bool) : World := match p.2 with
  | true => w
  | false => (w.drew.setCell ⟨bi, 1, none⟩ (.int .i64 q.1)).setCell ⟨bi, 2, none⟩ (.bool q.2)
def RdPost (bi : Nat) (w : World) (s : ByteArray) (v : Value) (p q : Nat × Bool) (e : Ending) (w' : World) : Prop :=
  e = .returned v ∧ w'.heap[bi]? = some (.cells (RW.inC s q) 79 (0, 0)) ∧ Only bi w w' ∧ w' = rdW bi w p q
set_option maxRecDepth 10000 in
set_option maxHeartbeats 2000000 in
theorem number_any (bi : Nat) (s : ByteArray) (hs : s.size ≤ 9223372036854775807) (p : Nat × Bool) (hp : p.1 ≤ s.size) (w : World) (h : w.heap[bi]? = some (.cells (RW.inC s p) 79 (0, 0))) :
    Calls Tryd.prog 55 #[.pointer (some ⟨bi, 0, none⟩)] w (RdPost bi w s (.int .i64 (RW.rdI s.data.toList p).1) p (RW.rdI s.data.toList p).2) := by
  obtain ⟨at_, bad⟩ := p
  have c0 : w.cell? ⟨bi, 0, none⟩ = some (.string s) := by rw [cell_at h]; rfl
  have c1 : w.cell? ⟨bi, 1, none⟩ = some (.int .i64 at_) := by rw [cell_at h]; rfl
  have c2 : w.cell? ⟨bi, 2, none⟩ = some (.bool bad) := by rw [cell_at h]; rfl
  have f1 : w.frozen? ⟨bi, 1, none⟩ = false := by simp [World.frozen?, h]
  have f2 : w.frozen? ⟨bi, 2, none⟩ = false := by simp [World.frozen?, h]
  have hH := hide h
  clear h
  cases bad with
  | true =>
    go_enter Tryd.func55, Tryd.ntmps55
    go_wp2
    go_ret
    exact ⟨rfl, hH.out, Only.refl _ _, rfl⟩
  | false =>
    have hI := fun W => int_walk s at_ W (by omega) hp
    rcases hD : RW.decI (s.data.toList.drop at_) with _ | ⟨n, k⟩
    · have e : RW.rdI s.data.toList (at_, false) = (0, 0, true) := by simp only [RW.rdI, hD]
      rw [e]
      rw [hD] at hI
      simp only [intRes] at hI
      have hIH := hide hI
      clear hI hD e
      go_enter Tryd.func55, Tryd.ntmps55
      go_upto_region 3 with fail
      go_region_held3 (fun w' => w'.cell? ⟨bi, 0, none⟩ = some (.string s) ∧ w'.cell? ⟨bi, 1, none⟩ = some (.int .i64 at_)) (go_keep)
        (first | ((with_reducible refine (hIH.out _).mono ?_); rintro e w' ⟨rfl, rfl⟩))
      go_upto_region 4 with fail
      refine gen_world (fun W => Only bi w W ∧ W.heap[bi]? = some (.cells (RW.inC s (at_, false)) 79 (0, 0)) ∧ Hid (W = w.drew)) ⟨⟨rfl, rfl, rfl, rfl, fun _ _ => rfl⟩, hH.out, rfl⟩ ?_
      clear c0 c1 c2 f1 f2 hH hIH
      rintro W ⟨hO, hW, hWe⟩
      have c1 : W.cell? ⟨bi, 1, none⟩ = some (.int .i64 at_) := by rw [cell_at hW]; rfl
      have c2 : W.cell? ⟨bi, 2, none⟩ = some (.bool false) := by rw [cell_at hW]; rfl
      have f1 : W.frozen? ⟨bi, 1, none⟩ = false := by simp [World.frozen?, hW]
      have f2 : W.frozen? ⟨bi, 2, none⟩ = false := by simp [World.frozen?, hW]
      have f2' : ∀ v, (W.setCell ⟨bi, 1, none⟩ v).frozen? ⟨bi, 2, none⟩ = false := fun v => by rw [World.frozen?_setCell]; exact f2
      have hst := hide (fun (u v : Value) => heap_setCell_same _ _ 2 _ _ v (heap_setCell_same _ _ 1 _ _ u hW))
      have hOH := hide hO
      clear hO hW
      go_wp2
      go_ret
      exact ⟨rfl, hst.out _ _, (hOH.out.setCell 1 _).setCell 2 _, by rw [hWe.out]; rfl⟩
    · have e : RW.rdI s.data.toList (at_, false) = (n, at_ + k, false) := by simp only [RW.rdI, hD]
      rw [e]
      rw [hD] at hI
      simp only [intRes] at hI
      have hIH := hide hI
      clear hI hD e
      go_enter Tryd.func55, Tryd.ntmps55
      go_upto_region 3 with fail
      go_region_held3 (fun w' => w'.cell? ⟨bi, 0, none⟩ = some (.string s) ∧ w'.cell? ⟨bi, 1, none⟩ = some (.int .i64 at_)) (go_keep)
        (first | ((with_reducible refine (hIH.out _).mono ?_); rintro e w' ⟨rfl, rfl⟩))
      go_upto_region 4 with fail
      refine gen_world (fun W => Only bi w W ∧ W.heap[bi]? = some (.cells (RW.inC s (at_, false)) 79 (0, 0)) ∧ Hid (W = w.drew)) ⟨⟨rfl, rfl, rfl, rfl, fun _ _ => rfl⟩, hH.out, rfl⟩ ?_
      clear c0 c1 c2 f1 f2 hH hIH
      rintro W ⟨hO, hW, hWe⟩
      have c1 : W.cell? ⟨bi, 1, none⟩ = some (.int .i64 at_) := by rw [cell_at hW]; rfl
      have c2 : W.cell? ⟨bi, 2, none⟩ = some (.bool false) := by rw [cell_at hW]; rfl
      have f1 : W.frozen? ⟨bi, 1, none⟩ = false := by simp [World.frozen?, hW]
      have f2 : W.frozen? ⟨bi, 2, none⟩ = false := by simp [World.frozen?, hW]
      have f2' : ∀ v, (W.setCell ⟨bi, 1, none⟩ v).frozen? ⟨bi, 2, none⟩ = false := fun v => by rw [World.frozen?_setCell]; exact f2
      have hst := hide (fun (u v : Value) => heap_setCell_same _ _ 2 _ _ v (heap_setCell_same _ _ 1 _ _ u hW))
      have hOH := hide hO
      clear hO hW
      go_wp2
      go_ret
      exact ⟨rfl, hst.out _ _, (hOH.out.setCell 1 _).setCell 2 _, by rw [hWe.out]; rfl⟩
set_option maxRecDepth 10000 in
set_option maxHeartbeats 2000000 in
theorem text_any (bi : Nat) (s : ByteArray) (hs : s.size ≤ 9223372036854775807) (p : Nat × Bool) (hp : p.1 ≤ s.size) (w : World) (h : w.heap[bi]? = some (.cells (RW.inC s p) 79 (0, 0))) :
    Calls Tryd.prog 56 #[.pointer (some ⟨bi, 0, none⟩)] w (RdPost bi w s (.string ⟨(RW.rdS s.data.toList p).1.toArray⟩) p (RW.rdS s.data.toList p).2) := by
  obtain ⟨at_, bad⟩ := p
  have c0 : w.cell? ⟨bi, 0, none⟩ = some (.string s) := by rw [cell_at h]; rfl
  have c1 : w.cell? ⟨bi, 1, none⟩ = some (.int .i64 at_) := by rw [cell_at h]; rfl
  have c2 : w.cell? ⟨bi, 2, none⟩ = some (.bool bad) := by rw [cell_at h]; rfl
  have f1 : w.frozen? ⟨bi, 1, none⟩ = false := by simp [World.frozen?, h]
  have f2 : w.frozen? ⟨bi, 2, none⟩ = false := by simp [World.frozen?, h]
  have hH := hide h
  clear h
  cases bad with
  | true =>
    go_enter Tryd.func56, Tryd.ntmps56
    go_wp2
    go_ret
    exact ⟨rfl, hH.out, Only.refl _ _, rfl⟩
  | false =>
    have hI := fun W => str_walk s at_ W (by omega) hp
    rcases hD : RW.decS (s.data.toList.drop at_) with _ | ⟨t, k⟩
    · have e : RW.rdS s.data.toList (at_, false) = ([], 0, true) := by simp only [RW.rdS, hD]
      rw [e]
      rw [hD] at hI
      simp only [strRes] at hI
      have hIH := hide hI
      clear hI hD e
      go_enter Tryd.func56, Tryd.ntmps56
      go_upto_region 3 with fail
      go_region_held3 (fun w' => w'.cell? ⟨bi, 0, none⟩ = some (.string s) ∧ w'.cell? ⟨bi, 1, none⟩ = some (.int .i64 at_)) (go_keep)
        (first | ((with_reducible refine (hIH.out _).mono ?_); rintro e w' ⟨rfl, rfl⟩))
      go_upto_region 4 with fail
      refine gen_world (fun W => Only bi w W ∧ W.heap[bi]? = some (.cells (RW.inC s (at_, false)) 79 (0, 0)) ∧ Hid (W = w.drew)) ⟨⟨rfl, rfl, rfl, rfl, fun _ _ => rfl⟩, hH.out, rfl⟩ ?_
      clear c0 c1 c2 f1 f2 hH hIH
      rintro W ⟨hO, hW, hWe⟩
      have c1 : W.cell? ⟨bi, 1, none⟩ = some (.int .i64 at_) := by rw [cell_at hW]; rfl
      have c2 : W.cell? ⟨bi, 2, none⟩ = some (.bool false) := by rw [cell_at hW]; rfl
      have f1 : W.frozen? ⟨bi, 1, none⟩ = false := by simp [World.frozen?, hW]
      have f2 : W.frozen? ⟨bi, 2, none⟩ = false := by simp [World.frozen?, hW]
      have f2' : ∀ v, (W.setCell ⟨bi, 1, none⟩ v).frozen? ⟨bi, 2, none⟩ = false := fun v => by rw [World.frozen?_setCell]; exact f2
      have hst := hide (fun (u v : Value) => heap_setCell_same _ _ 2 _ _ v (heap_setCell_same _ _ 1 _ _ u hW))
      have hOH := hide hO
      clear hO hW
      go_wp2
      go_ret
      exact ⟨rfl, hst.out _ _, (hOH.out.setCell 1 _).setCell 2 _, by rw [hWe.out]; rfl⟩
    · have e : RW.rdS s.data.toList (at_, false) = (t, at_ + k, false) := by simp only [RW.rdS, hD]
      rw [e]
      rw [hD] at hI
      simp only [strRes] at hI
      have hIH := hide hI
      clear hI hD e
      go_enter Tryd.func56, Tryd.ntmps56
      go_upto_region 3 with fail
      go_region_held3 (fun w' => w'.cell? ⟨bi, 0, none⟩ = some (.string s) ∧ w'.cell? ⟨bi, 1, none⟩ = some (.int .i64 at_)) (go_keep)
        (first | ((with_reducible refine (hIH.out _).mono ?_); rintro e w' ⟨rfl, rfl⟩))
      go_upto_region 4 with fail
      refine gen_world (fun W => Only bi w W ∧ W.heap[bi]? = some (.cells (RW.inC s (at_, false)) 79 (0, 0)) ∧ Hid (W = w.drew)) ⟨⟨rfl, rfl, rfl, rfl, fun _ _ => rfl⟩, hH.out, rfl⟩ ?_
      clear c0 c1 c2 f1 f2 hH hIH
      rintro W ⟨hO, hW, hWe⟩
      have c1 : W.cell? ⟨bi, 1, none⟩ = some (.int .i64 at_) := by rw [cell_at hW]; rfl
      have c2 : W.cell? ⟨bi, 2, none⟩ = some (.bool false) := by rw [cell_at hW]; rfl
      have f1 : W.frozen? ⟨bi, 1, none⟩ = false := by simp [World.frozen?, hW]
      have f2 : W.frozen? ⟨bi, 2, none⟩ = false := by simp [World.frozen?, hW]
      have f2' : ∀ v, (W.setCell ⟨bi, 1, none⟩ v).frozen? ⟨bi, 2, none⟩ = false := fun v => by rw [World.frozen?_setCell]; exact f2
      have hst := hide (fun (u v : Value) => heap_setCell_same _ _ 2 _ _ v (heap_setCell_same _ _ 1 _ _ u hW))
      have hOH := hide hO
      clear hO hW
      go_wp2
      go_ret
      exact ⟨rfl, hst.out _ _, (hOH.out.setCell 1 _).setCell 2 _, by rw [hWe.out]; rfl⟩
end Go.Proofs.YtcbckcojebanaaaDoor

/-
  Ballot, the plain side: what is encoded is decoded; what is decoded was encoded; neither a proper prefix nor further bytes are accepted: no program in sight.
-/
namespace Go.Proofs.YtcbckcojebanaaaDoor.RW
open Go Go.RowKit
theorem decNs_append : ∀ (k j : Nat) (f : Nat → Int) (r m : List UInt8) (g : Nat → Int) (r' : List UInt8), decNs k j f r = some (g, r') → decNs k j f (r ++ m) = some (g, r' ++ m)
  | 0, j, f, r, m, g, r', h => by
    rw [decNs] at h ⊢
    simp at h
    obtain ⟨rfl, rfl⟩ := h
    rfl
  | k + 1, j, f, r, m, g, r', h => by
    rw [decNs] at h ⊢
    rcases hI : decI r with _ | ⟨n, c⟩
    · rw [hI] at h; cases h
    · rw [hI] at h
      simp only at h
      have hk := decI_le _ _ _ hI
      rw [decI_append r m n c hI]
      simp only
      rw [List.drop_append_of_le_length hk.2.1]
      exact decNs_append k (j + 1) _ _ m _ _ h
theorem decNs_take : ∀ (k j : Nat) (f : Nat → Int) (r : List UInt8) (g : Nat → Int) (r' : List UInt8), decNs k j f r = some (g, r') →
    r = (List.range k).flatMap (fun i => putI (g (j + i))) ++ r' ∧ ∀ i, i < j → g i = f i
  | 0, j, f, r, g, r', h => by
    rw [decNs] at h
    simp at h
    obtain ⟨rfl, rfl⟩ := h
    simp
  | k + 1, j, f, r, g, r', h => by
    rw [decNs] at h
    rcases hI : decI r with _ | ⟨n, c⟩
    · rw [hI] at h; cases h
    · rw [hI] at h
      simp only at h
      obtain ⟨h1, h2⟩ := decNs_take k (j + 1) _ _ _ _ h
      have h3 := h2 j (by omega)
      simp only [if_true] at h3
      have e : (List.range (k + 1)).flatMap (fun i => putI (g (j + i))) = putI (g j) ++ (List.range k).flatMap (fun i => putI (g (j + 1 + i))) := by
        rw [List.range_succ_eq_map, List.flatMap_cons, List.flatMap_map]
        simp only [Nat.add_zero]
        congr 2
        funext i
        rw [show j + Nat.succ i = j + 1 + i by omega]
      refine ⟨?_, fun i hi => ?_⟩
      · rw [e, List.append_assoc, ← h1, h3, ← decI_take r n c hI, List.take_append_drop]
      · rw [h2 i (by omega), if_neg (by omega)]
/-- a message's numbers, nothing beyond -/
def six (n : Nat → Int) (i : Nat) : Int := if i < 6 then n i else 0
theorem msgB_congr (K f g : Nat → Int) (d : List UInt8) (l : List (List UInt8)) (h : ∀ i, i < 6 → f i = g i) : msgB K f d l = msgB K g d l := by
  unfold msgB placedB plainB
  rw [h 0 (by decide), h 1 (by decide), h 2 (by decide), h 3 (by decide), h 4 (by decide), h 5 (by decide)]
theorem encN_congr (f g : Nat → Int) : ∀ j, (∀ i, i < j → f i = g i) → encN f j = encN g j
  | 0, _ => rfl
  | j + 1, h => by rw [encN_succ, encN_succ, encN_congr f g j (fun i hi => h i (by omega)), h j (by omega)]
/-- what a valid message's parts are bounded by -/
theorem msgB_lims (K n : Nat → Int) (d : List UInt8) (l : List (List UInt8)) (h : msgB K n d l = true) : (∀ i, i < 6 → -4611686018427387903 ≤ n i ∧ n i ≤ 4611686018427387903) ∧ (l.length ≤ 4000) := by
  unfold msgB at h
  simp only [Bool.and_eq_true] at h
  obtain ⟨⟨⟨h1, h2⟩, _⟩, h4⟩ := h
  simp only [site, decide_eq_true_iff] at h1 h2
  have key : (1 ≤ n 0 ∧ n 0 ≤ 6) ∧ (0 ≤ n 3 ∧ n 3 ≤ 1200) ∧ (0 ≤ n 4 ∧ n 4 ≤ 100) ∧ (-1 ≤ n 5 ∧ n 5 ≤ 100) ∧ l.length ≤ 4000 := by
    split at h4
    · simp only [plainB, Bool.and_eq_true, decide_eq_true_iff] at h4
      omega
    · split at h4
      · simp only [plainB, asc, Bool.and_eq_true, decide_eq_true_iff] at h4
        omega
      · split at h4
        · simp only [placedB, asc, Bool.and_eq_true, decide_eq_true_iff] at h4
          omega
        · split at h4
          · rename_i hv
            simp only [voteK, decide_eq_true_iff] at hv
            simp only [placedB, Bool.and_eq_true, decide_eq_true_iff, List.isEmpty_iff] at h4
            have hl : l.length = 0 := by rw [h4.1.2]; rfl
            omega
          · cases h4
  refine ⟨fun i hi => ?_, by omega⟩
  have : i = 0 ∨ i = 1 ∨ i = 2 ∨ i = 3 ∨ i = 4 ∨ i = 5 := by omega
  rcases this with rfl | rfl | rfl | rfl | rfl | rfl <;> omega
theorem encN_flat (n : Nat → Int) (j : Nat) : encN n j = (List.range j).flatMap (fun i => putI (n (0 + i))) := by
  unfold encN; simp
theorem decM_enc (K n : Nat → Int) (d : List UInt8) (l : List (List UInt8)) (hv : msgB K n d l = true) (hd : d.length ≤ 65536) (hl : ∀ s ∈ l, s.length ≤ 65536) :
    ∃ g, decM K (encM n d l) = .msg g d l ∧ ∀ i, i < 6 → g i = n i := by
  obtain ⟨h1, h2⟩ := msgB_lims K n d l hv
  obtain ⟨g, hg, hgi⟩ := decNs_enc (six n) (fun _ => 0) (putS d ++ (putI l.length ++ (l.flatMap putS ++ []))) (fun i => by
    unfold six
    by_cases hi : i < 6
    · rw [if_pos hi]; exact h1 i hi
    · rw [if_neg hi]; omega) 6 0 (fun i hi => by omega)
  have hgi' : ∀ i, i < 6 → g i = n i := fun i hi => by rw [hgi i (by omega)]; unfold six; rw [if_pos hi]
  have e : encM n d l = (List.range 6).flatMap (fun i => putI (six n (0 + i))) ++ (putS d ++ (putI l.length ++ (l.flatMap putS ++ []))) := by
    unfold encM
    rw [encN_congr n (six n) 6 (fun i hi => by unfold six; rw [if_pos hi]), encN_flat]
    simp [List.append_assoc]
  refine ⟨g, ?_, hgi'⟩
  unfold decM
  rw [e, hg]
  simp only
  rw [decS_putS d _ hd]
  simp only [List.drop_left]
  rw [decI_putI l.length (by omega) (by omega)]
  simp only
  rw [if_neg (by omega)]
  simp only [List.drop_left, Int.toNat_natCast]
  rw [decL_put l [] hl]
  simp only [ne_eq, not_true_eq_false, if_false]
  rw [msgB_congr K g n d l hgi', if_pos hv]
/-- whatever is accepted was encoded -/
theorem decM_take (K : Nat → Int) (s : List UInt8) (n : Nat → Int) (d : List UInt8) (l : List (List UInt8)) (h : decM K s = .msg n d l) : s = encM n d l ∧ msgB K n d l = true ∧ d.length ≤ 65536 ∧ ∀ t ∈ l, t.length ≤ 65536 := by
  unfold decM at h
  rcases h1 : decNs 6 0 (fun _ => 0) s with _ | ⟨f, r⟩
  · rw [h1] at h; cases h
  · rw [h1] at h
    simp only at h
    rcases h2 : decS r with _ | ⟨d', c⟩
    · rw [h2] at h; cases h
    · rw [h2] at h
      simp only at h
      rcases h3 : decI (r.drop c) with _ | ⟨m, c2⟩
      · rw [h3] at h; cases h
      · rw [h3] at h
        simp only at h
        split at h
        · cases h
        · rename_i hm
          rcases h4 : decL m.toNat ((r.drop c).drop c2) with _ | ⟨l', r'⟩
          · rw [h4] at h; cases h
          · rw [h4] at h
            simp only at h
            split at h
            · cases h
            · rename_i hr
              split at h
              · rename_i hb
                injection h with e1 e2 e3
                subst e1 e2 e3
                obtain ⟨t1, _⟩ := decNs_take 6 0 _ s f r h1
                obtain ⟨t2, t3⟩ := decS_take r d' c h2
                have t4 := decI_take _ _ _ h3
                obtain ⟨t5, t6, t7⟩ := decL_take _ _ _ _ h4
                refine ⟨?_, hb, t3, t7⟩
                have hr' : r' = [] := by simpa using hr
                rw [hr', List.append_nil] at t5
                have hm2 : ((l'.length : Nat) : Int) = m := by omega
                unfold encM
                rw [encN_flat, hm2, ← t5, ← t4, List.append_assoc, List.append_assoc, List.take_append_drop, ← t2, List.take_append_drop]
                exact t1
              · cases h
/-- a proper prefix of an encoding is not accepted -/
theorem decM_prefix (K n : Nat → Int) (d : List UInt8) (l : List (List UInt8)) (hv : msgB K n d l = true) (hd : d.length ≤ 65536) (hl : ∀ s ∈ l, s.length ≤ 65536) (p m : List UInt8) (hp : p ++ m = encM n d l) (hm : m ≠ []) : decM K p = .wire := by
  obtain ⟨g, he, hgi⟩ := decM_enc K n d l hv hd hl
  unfold decM
  rcases h1 : decNs 6 0 (fun _ => 0) p with _ | ⟨f, r⟩
  · rfl
  · simp only
    have a1 := decNs_append 6 0 _ p m _ _ h1
    rw [hp] at a1
    unfold decM at he
    rw [a1] at he
    simp only at he
    rcases h2 : decS r with _ | ⟨d', c⟩
    · rfl
    · simp only
      rw [decS_append r m d' c h2] at he
      simp only at he
      have hc : c ≤ r.length := (decS_len r d' c h2)
      rw [List.drop_append_of_le_length hc] at he
      rcases h3 : decI (r.drop c) with _ | ⟨x, c2⟩
      · rfl
      · simp only
        have hk := decI_le _ _ _ h3
        rw [decI_append _ m x c2 h3] at he
        simp only at he
        split at he
        · cases he
        · rename_i hx
          rw [if_neg hx]
          rw [List.drop_append_of_le_length hk.2.1] at he
          rcases h4 : decL x.toNat ((r.drop c).drop c2) with _ | ⟨l', r'⟩
          · rfl
          · rw [decL_append _ _ m _ _ h4] at he
            simp only at he
            have : r' ++ m ≠ [] := by simp [hm]
            rw [if_pos this] at he
            cases he
/-- further bytes behind an encoding are not accepted -/
theorem decM_more (K n : Nat → Int) (d : List UInt8) (l : List (List UInt8)) (hv : msgB K n d l = true) (hd : d.length ≤ 65536) (hl : ∀ s ∈ l, s.length ≤ 65536) (m : List UInt8) (hm : m ≠ []) : decM K (encM n d l ++ m) = .wire := by
  obtain ⟨g, he, hgi⟩ := decM_enc K n d l hv hd hl
  unfold decM at he ⊢
  rcases h1 : decNs 6 0 (fun _ => 0) (encM n d l) with _ | ⟨f, r⟩
  · rw [h1] at he; cases he
  · rw [h1] at he
    rw [decNs_append 6 0 _ _ m _ _ h1]
    simp only at he ⊢
    rcases h2 : decS r with _ | ⟨d', c⟩
    · rw [h2] at he; cases he
    · rw [h2] at he
      rw [decS_append r m d' c h2]
      simp only at he ⊢
      rw [List.drop_append_of_le_length (decS_len r d' c h2)]
      rcases h3 : decI (r.drop c) with _ | ⟨x, c2⟩
      · rw [h3] at he; cases he
      · rw [h3] at he
        have hk := decI_le _ _ _ h3
        rw [decI_append _ m x c2 h3]
        simp only at he ⊢
        split at he
        · cases he
        · rename_i hx
          rw [if_neg hx, List.drop_append_of_le_length hk.2.1]
          rcases h4 : decL x.toNat ((r.drop c).drop c2) with _ | ⟨l', r'⟩
          · rw [h4] at he; cases he
          · rw [decL_append _ _ m _ _ h4]
            simp only
            rw [if_pos (by simp [hm])]
end Go.Proofs.YtcbckcojebanaaaDoor.RW
