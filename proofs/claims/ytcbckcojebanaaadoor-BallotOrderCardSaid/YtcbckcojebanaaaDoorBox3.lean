/-
  Package ballot: a box's Add: what it returns and what the box then holds; beside the box's map only new memory is written.
-/
import Derived.Test.YtcbckcojebanaaaDoorBox2
import Derived.Test.YtcbckcojebanaaaDoorBal8
namespace Go.Proofs.YtcbckcojebanaaaDoor
open Go.RowKit RG
/-- beside block mb nothing that was there has turned -/
structure KeptBut (mb : Nat) (w w' : World) : Prop where
  os : w'.os = w.os
  tape : w'.tape = w.tape
  output : w'.output = w.output
  size : w.heap.size ≤ w'.heap.size
  block : ∀ k, k < w.heap.size → k ≠ mb → w'.heap[k]? = w.heap[k]?
theorem KeptBut.of_below {mb : Nat} {w w' : World} (h : Below w.heap.size w w') : KeptBut mb w w' := ⟨h.os, h.tape, h.output, h.size, fun k hk _ => h.block k hk⟩
theorem KeptBut.trans {mb : Nat} {a b c : World} (h : KeptBut mb a b) (g : KeptBut mb b c) : KeptBut mb a c :=
  ⟨g.os.trans h.os, g.tape.trans h.tape, g.output.trans h.output, Nat.le_trans h.size g.size, fun k hk hm => (g.block k (Nat.lt_of_lt_of_le hk h.size) hm).trans (h.block k hk hm)⟩
namespace RW
def vk (n : Nat → Int) : Vk := (n 1, n 0, n 3, n 4)
def hasK (k : Vk) (L : List (Vk × ByteArray)) : Bool := L.any fun x => decide (x.1 = k)
/-- may a message be put into a box of N sites? -/
def voteOk (K : Nat → Int) (N : Int) (n : Nat → Int) (d : List UInt8) (l : List (List UInt8)) : Bool := voteK (n 0) && msgB K n d l && !decide (N ≤ n 1)
def addOk (ok : Bool) (k : Vk) (L : List (Vk × ByteArray)) : Bool := ok && !hasK k L
def addL (ok : Bool) (k : Vk) (d : ByteArray) (L : List (Vk × ByteArray)) : List (Vk × ByteArray) := if addOk ok k L = true then L ++ [(k, d)] else L
theorem get_has (k : Vk) (L : List (Vk × ByteArray)) : (KM.get k (L.map fun x => (x.1, Value.string x.2))).isSome = hasK k L := by
  induction L with
  | nil => rfl
  | cons x L ih =>
    rw [List.map_cons, KM.get_cons]
    unfold hasK
    rw [List.any_cons]
    by_cases h : k = x.1
    · rw [if_pos h, decide_eq_true h.symm]; rfl
    · rw [if_neg h, decide_eq_false (Ne.symm h), Bool.false_or]; exact ih
end RW
theorem cf_vote : ∀ args w, (callFunc 51 args).run Tryd.prog w = .ok (.enter 51 args) w := fun args w => by go_simp
theorem cf_valid : ∀ args w, (callFunc 14 args).run Tryd.prog w = .ok (.enter 14 args) w := fun args w => by go_simp
theorem ballot_info (k : RW.Vk) : (Tryd.prog.info? 94).map (·.size) = some #[Value.int .i64 k.1, .int .i64 k.2.1, .int .i64 k.2.2.1, .int .i64 k.2.2.2].size := by kernel_rfl
set_option maxRecDepth 100000 in
set_option maxHeartbeats 4000000 in
theorem bxadd_any (n : Nat → Int) (d : ByteArray) (v : Value) (l : List ByteArray) (w : World) (K : Nat → Int) (hv : StrsV w v l) (hl : l.length ≤ 140737488355328) (hs : ∀ s ∈ l, s.size ≤ 9223372036854775807) (ks : Array Value) (hks : RW.WsOk ks K) (hK : KLaid w ks)
    (bx mb : Nat) (N : Int) (L : List (RW.Vk × ByteArray)) (hb : BoxAt w bx mb N L) :
    Calls Tryd.prog 31 #[.pointer (some ⟨bx, 0, none⟩), .agg (RW.mcells n d v)] w fun e w' => e = .returned (.bool (RW.addOk (RW.voteOk K N n d.data.toList (RW.bl l)) (RW.vk n) L)) ∧ BoxAt w' bx mb N (RW.addL (RW.voteOk K N n d.data.toList (RW.bl l)) (RW.vk n) d L) ∧ KeptBut mb w w' := by
  obtain ⟨x, hx⟩ : ∃ x, x = RW.voteK (n 0) := ⟨_, rfl⟩
  obtain ⟨y, hy⟩ : ∃ y, y = RW.msgB K n d.data.toList (RW.bl l) := ⟨_, rfl⟩
  obtain ⟨ok, hok⟩ : ∃ ok, ok = RW.voteOk K N n d.data.toList (RW.bl l) := ⟨_, rfl⟩
  have hV : ∀ W, Below w.heap.size w W → Calls Tryd.prog 14 #[.agg (RW.mcells n d v)] W fun e w' => e = .returned (.bool y) ∧ Below W.heap.size W w' := fun W hB => by
    rw [hy]; exact valid_any n d v l W K (hv.next hB) hl hs ks hks (bklaid hK hB)
  have hI : ∀ W, Calls Tryd.prog 51 #[.int .i64 (n 0)] W fun e w' => e = .returned (.bool x) ∧ W = w' := fun W => by rw [hx]; exact vote_any (n 0) W
  rw [← hok]
  obtain ⟨q, hq⟩ : ∃ q, q = decide (N ≤ n 1) := ⟨_, rfl⟩
  have hok2 : ok = ((x && y) && !q) := by rw [hok, RW.voteOk, hx, hy, hq]
  have hqH := hide hq
  obtain ⟨p, hp⟩ : ∃ p, p = (x && y) := ⟨_, rfl⟩
  rw [← hp] at hok2
  have hlt := hb.lt
  have hi1 := msg_info n d v
  obtain ⟨cs, hcs⟩ : ∃ cs, cs = RW.mcells n d v := ⟨_, rfl⟩
  rw [← hcs] at hi1 hV ⊢
  have hok2H := hide hok2
  have hpH := hide hp
  have hVH := hide hV
  have hIH := hide hI
  have hcsH := hide hcs
  have hbH := hide hb
  have hltH := hide hlt
  clear hx hy hok hq hok2 hp hV hI hcs hv hl hs hks hK hb hlt
  go_enter Tryd.func31, Tryd.ntmps31
  go_upto_region 1 with fail
  obtain ⟨b1, hb1⟩ : ∃ b, b = w.heap.size := ⟨_, rfl⟩
  have hR := MRows.new (MRows.nil (Below.refl w.heap.size w)) cs
  rw [← hb1] at hR ⊢
  refine wp_region_staged (fun _ w' => MRows [(b1, cs)] w w') [] (by kernel_rfl) (by kernel_rfl) (by rfl) (hR.drewN 1) ?_
  clear hR
  refine st_val (.pointer (some ⟨bx, 0, none⟩)) (by rfl) (by rfl) (fun w => op_mv rfl rfl) ?_
  simp only [Act.put, List.setIfInBounds_toArray, List.set_cons_zero, List.set_cons_succ]
  refine st_val (.bool false) (by rfl) (by rfl) (fun w => op_eqnil rfl rfl rfl) ?_
  simp only [Act.put, List.setIfInBounds_toArray, List.set_cons_zero, List.set_cons_succ]
  refine st_val (.bool false) (by rfl) (by rfl) (fun w => op_mv rfl rfl) ?_
  simp only [Act.put, List.setIfInBounds_toArray, List.set_cons_zero, List.set_cons_succ]
  refine st_val (.pointer (some ⟨b1, 0, none⟩)) (by rfl) (by rfl) (fun w => op_fa_0 rfl rfl) ?_
  simp only [Act.put, List.setIfInBounds_toArray, List.set_cons_zero, List.set_cons_succ]
  refine st_op (.int .i64 (n 0)) (by rfl) (by rfl) (fun j w0 _ hS => by rw [op_load_int rfl rfl (n := n 0) (by rw [hS.cell b1 cs (by simp), hcsH.out]; rfl)]; exact ⟨rfl, hS⟩) ?_
  simp only [Act.put, List.setIfInBounds_toArray, List.set_cons_zero, List.set_cons_succ]
  refine st_op (.bool x) (by rfl) (by rfl) (fun j w0 _ hS => by rw [op_call1 rfl rfl rfl cf_vote]; exact (hIH.out w0).mono fun e w' h => by obtain ⟨rfl, rfl⟩ := h; exact ⟨rfl, hS⟩) ?_
  simp only [Act.put, List.setIfInBounds_toArray, List.set_cons_zero, List.set_cons_succ]
  refine st_val (.bool (!x)) (by rfl) (by rfl) (fun w => op_not rfl rfl) ?_
  simp only [Act.put, List.setIfInBounds_toArray, List.set_cons_zero, List.set_cons_succ]
  refine st_val (.bool (!x)) (by rfl) (by rfl) (fun w => op_pick rfl rfl rfl rfl rfl) ?_
  simp only [Act.put, List.setIfInBounds_toArray, List.set_cons_zero, List.set_cons_succ]
  refine st_val (.bool (!x)) (by rfl) (by rfl) (fun w => op_mv rfl rfl) ?_
  simp only [Act.put, List.setIfInBounds_toArray, List.set_cons_zero, List.set_cons_succ]
  refine st_if x (.agg cs) (by cases x <;> rfl) (by rfl) (fun h j w0 _ hS => by rw [op_load_agg (cs := cs) (T := 24) rfl rfl (ldMsg_eq _ _ _ _ _ _ _ (hS.rows (b1, cs) (by simp)) Tryd.underlying24 rfl hi1)]; exact ⟨rfl, hS⟩) ?_
  simp only [Act.put, List.setIfInBounds_toArray, List.set_cons_zero, List.set_cons_succ]
  refine st_if x (.bool y) (by cases x <;> rfl) (by rfl) (fun h j w0 _ hS => by rw [op_call1 rfl rfl (gd_pos h) cf_valid]; exact (hVH.out w0 hS.below).mono fun e w' h => by obtain ⟨rfl, hB⟩ := h; exact ⟨rfl, hS.next hB⟩) ?_
  simp only [Act.put, List.setIfInBounds_toArray, List.set_cons_zero, List.set_cons_succ]
  refine st_if x (.bool (!y)) (by cases x <;> rfl) (by rfl) (fun h j w0 _ hS => by rw [op_not rfl (gd_pos h)]; exact ⟨rfl, hS⟩) ?_
  simp only [Act.put, List.setIfInBounds_toArray, List.set_cons_zero, List.set_cons_succ]
  refine st_val (.bool (!p)) (by rfl) (by rfl) (fun w => op_pick rfl rfl rfl rfl (by rw [hpH.out]; cases x <;> rfl)) ?_
  simp only [Act.put, List.setIfInBounds_toArray, List.set_cons_zero, List.set_cons_succ]
  refine st_val (.bool (!p)) (by rfl) (by rfl) (fun w => op_mv rfl rfl) ?_
  simp only [Act.put, List.setIfInBounds_toArray, List.set_cons_zero, List.set_cons_succ]
  refine st_if p (.pointer (some ⟨b1, 1, none⟩)) (by cases p <;> rfl) (by rfl) (fun h j w0 _ hS => by rw [op_fa_1 rfl rfl]; exact ⟨rfl, hS⟩) ?_
  simp only [Act.put, List.setIfInBounds_toArray, List.set_cons_zero, List.set_cons_succ]
  refine st_if p (.int .i64 (n 1)) (by cases p <;> rfl) (by rfl) (fun h j w0 _ hS => by rw [op_load_int rfl (gd_pos h) (n := n 1) (by rw [hS.cell b1 cs (by simp), hcsH.out]; rfl)]; exact ⟨rfl, hS⟩) ?_
  simp only [Act.put, List.setIfInBounds_toArray, List.set_cons_zero, List.set_cons_succ]
  refine st_if p (.pointer (some ⟨bx, 0, none⟩)) (by cases p <;> rfl) (by rfl) (fun h j w0 _ hS => by rw [op_mv rfl rfl]; exact ⟨rfl, hS⟩) ?_
  simp only [Act.put, List.setIfInBounds_toArray, List.set_cons_zero, List.set_cons_succ]
  refine st_if p (.pointer (some ⟨bx, 0, none⟩)) (by cases p <;> rfl) (by rfl) (fun h j w0 _ hS => by rw [op_nilc rfl (gd_pos h)]; exact ⟨rfl, hS⟩) ?_
  simp only [Act.put, List.setIfInBounds_toArray, List.set_cons_zero, List.set_cons_succ]
  refine st_if p (.pointer (some ⟨bx, 0, none⟩)) (by cases p <;> rfl) (by rfl) (fun h j w0 _ hS => by rw [op_fab0 rfl (gd_pos h)]; exact ⟨rfl, hS⟩) ?_
  simp only [Act.put, List.setIfInBounds_toArray, List.set_cons_zero, List.set_cons_succ]
  refine st_if p (.int .i64 N) (by cases p <;> rfl) (by rfl) (fun h j w0 _ hS => by rw [op_load_int rfl (gd_pos h) (n := N) (by rw [cell_at ((hS.below.block _ hltH.out.1).trans hbH.out.row)]; rfl)]; exact ⟨rfl, hS⟩) ?_
  simp only [Act.put, List.setIfInBounds_toArray, List.set_cons_zero, List.set_cons_succ]
  refine st_if p (.bool q) (by cases p <;> rfl) (by rfl) (fun h j w0 _ hS => by rw [op_geq rfl (gd_pos h) (gd_pos h), ← hqH.out]; exact ⟨rfl, hS⟩) ?_
  simp only [Act.put, List.setIfInBounds_toArray, List.set_cons_zero, List.set_cons_succ]
  refine st_val (.bool (!ok)) (by rfl) (by rfl) (fun w => op_pick rfl rfl rfl rfl (by rw [hok2H.out]; cases p <;> cases q <;> rfl)) ?_
  simp only [Act.put, List.setIfInBounds_toArray, List.set_cons_zero, List.set_cons_succ]
  refine st_nil ?_
  intro W hF
  clear hb1
  cases ok with
  | false =>
    have hFb := hide hF.below
    clear hF
    go_wp2
    go_ret
    have e : RW.addOk false (RW.vk n) L = false := rfl
    refine ⟨by rw [e] <;> rfl, ?_, KeptBut.of_below hFb.out⟩
    rw [RW.addL, e, if_neg Bool.false_ne_true]
    exact hbH.out.next hFb.out
  | true =>
    have c1 : W.cell? ⟨b1, 1, none⟩ = some (.int .i64 (n 1)) := by rw [hF.cell b1 cs (by simp), hcsH.out]; rfl
    have c0 : W.cell? ⟨b1, 0, none⟩ = some (.int .i64 (n 0)) := by rw [hF.cell b1 cs (by simp), hcsH.out]; rfl
    have c3 : W.cell? ⟨b1, 3, none⟩ = some (.int .i64 (n 3)) := by rw [hF.cell b1 cs (by simp), hcsH.out]; rfl
    have c4 : W.cell? ⟨b1, 4, none⟩ = some (.int .i64 (n 4)) := by rw [hF.cell b1 cs (by simp), hcsH.out]; rfl
    have hFH := hide hF
    clear hF
    go_upto_region 4 with (refine wpList_store_new rfl 94 (.tmp 5) (.tmp 38) rfl #[.int .i64 (n 1), .int .i64 (n 0), .int .i64 (n 3), .int .i64 (n 4)] rfl rfl 94 _ (ballot_info (RW.vk n)) rfl rfl ?_)
    have hk : RW.kv4 (RW.vk n) = .agg #[.int .i64 (n 1), .int .i64 (n 0), .int .i64 (n 3), .int .i64 (n 4)] := rfl
    obtain ⟨b5, hb5⟩ : ∃ b, b = W.heap.size := ⟨_, rfl⟩
    have hB5 : Below W.heap.size W (W.alloc (.cells #[.int .i64 (n 1), .int .i64 (n 0), .int .i64 (n 3), .int .i64 (n 4)] 94)) := (Below.refl _ _).alloc (Nat.le_refl _) _
    have hF5 := hFH.out.next hB5
    have hr5 : (W.alloc (.cells #[.int .i64 (n 1), .int .i64 (n 0), .int .i64 (n 3), .int .i64 (n 4)] 94)).heap[b5]? = some (.cells #[.int .i64 (n 1), .int .i64 (n 0), .int .i64 (n 3), .int .i64 (n 4)] 94 (0, 0)) := heap_new_at hb5
    rw [← hb5]
    refine gen_world (fun W' => MRows [(b1, cs)] w W' ∧ W'.heap[b5]? = some (.cells #[.int .i64 (n 1), .int .i64 (n 0), .int .i64 (n 3), .int .i64 (n 4)] 94 (0, 0))) ⟨hF5, hr5⟩ ?_
    clear hr5 hF5 hB5 hb5 c0 c1 c3 c4 hFH
    rintro W4 ⟨hF4, hr4⟩
    have hb4 := hbH.out.next hF4.below
    have hld : (ldMsg 94 (.pointer (some ⟨b5, 0, none⟩))).run Tryd.prog W4.drew = .ok (.agg #[.int .i64 (n 1), .int .i64 (n 0), .int .i64 (n 3), .int .i64 (n 4)]) W4.drew :=
      ldMsg_eq _ _ _ _ _ _ _ (show W4.drew.heap[b5]? = _ from hr4) Tryd.underlying94 rfl (ballot_info (RW.vk n))
    have hcm : W4.drew.cell? ⟨bx, 1, none⟩ = some (.map (some mb)) := (cell_at hb4.row 1).trans rfl
    obtain ⟨has, hhas⟩ : ∃ h, h = RW.hasK (RW.vk n) L := ⟨_, rfl⟩
    obtain ⟨z, hlk⟩ : ∃ z, (Instr.lookup 88 (.map (some mb)) (.agg #[.int .i64 (n 1), .int .i64 (n 0), .int .i64 (n 3), .int .i64 (n 4)]) true).run Tryd.prog W4.drew = .ok (.tuple #[z, .bool has]) W4.drew := by
      have h1 := KM.OwnM.lookup_ok (w := W4.drew) (show KM.OwnM RW.kv4 W4.drew mb _ from hb4.own) key4 Tryd.underlying88 (z := .string ⟨#[]⟩) (by go_simp) (RW.vk n)
      rw [RW.get_has, ← hhas] at h1
      exact ⟨_, h1⟩
    have hhasH := hide hhas
    have hb4H := hide hb4
    have hF4H := hide hF4
    have hr4H := hide hr4
    clear hhas hb4 hF4 hr4 hbH
    refine wp_region_staged (fun _ w' => w' = W4.drew) [] (by kernel_rfl) (by kernel_rfl) (by rfl) rfl ?_
    refine st_val (.pointer (some ⟨bx, 0, none⟩)) (by rfl) (by rfl) (fun w => op_mv rfl rfl) ?_
    simp only [Act.put, List.setIfInBounds_toArray, List.set_cons_zero, List.set_cons_succ]
    refine st_val (.pointer (some ⟨bx, 0, none⟩)) (by rfl) (by rfl) (fun w => op_nilc rfl rfl) ?_
    simp only [Act.put, List.setIfInBounds_toArray, List.set_cons_zero, List.set_cons_succ]
    refine st_val (.pointer (some ⟨bx, 1, none⟩)) (by rfl) (by rfl) (fun w => op_fab1 rfl rfl) ?_
    simp only [Act.put, List.setIfInBounds_toArray, List.set_cons_zero, List.set_cons_succ]
    refine st_op (.map (some mb)) (by rfl) (by rfl) (fun j w0 _ hS => by subst hS; rw [op_load_map rfl rfl hcm]; exact ⟨rfl, rfl⟩) ?_
    simp only [Act.put, List.setIfInBounds_toArray, List.set_cons_zero, List.set_cons_succ]
    refine st_op (.agg #[.int .i64 (n 1), .int .i64 (n 0), .int .i64 (n 3), .int .i64 (n 4)]) (by rfl) (by rfl) (fun j w0 _ hS => by subst hS; rw [op_load_agg (T := 94) rfl rfl hld]; exact ⟨rfl, rfl⟩) ?_
    simp only [Act.put, List.setIfInBounds_toArray, List.set_cons_zero, List.set_cons_succ]
    refine st_op (.tuple #[z, .bool has]) (by rfl) (by rfl) (fun j w0 _ hS => by subst hS; rw [op_lookup rfl rfl rfl hlk]; exact ⟨rfl, rfl⟩) ?_
    simp only [Act.put, List.setIfInBounds_toArray, List.set_cons_zero, List.set_cons_succ]
    refine st_val (.tuple #[z, .bool has]) (by rfl) (by rfl) (fun w => op_mv rfl rfl) ?_
    simp only [Act.put, List.setIfInBounds_toArray, List.set_cons_zero, List.set_cons_succ]
    refine st_val z (by rfl) (by rfl) (fun w => op_ext rfl rfl rfl) ?_
    simp only [Act.put, List.setIfInBounds_toArray, List.set_cons_zero, List.set_cons_succ]
    refine st_val (.bool has) (by rfl) (by rfl) (fun w => op_ext rfl rfl rfl) ?_
    simp only [Act.put, List.setIfInBounds_toArray, List.set_cons_zero, List.set_cons_succ]
    refine st_val z (by rfl) (by rfl) (fun w => op_asg rfl rfl) ?_
    simp only [Act.put, List.setIfInBounds_toArray, List.set_cons_zero, List.set_cons_succ]
    refine st_val (.bool has) (by rfl) (by rfl) (fun w => op_asg rfl rfl) ?_
    simp only [Act.put, List.setIfInBounds_toArray, List.set_cons_zero, List.set_cons_succ]
    refine st_nil ?_
    intro W5 hW5
    cases has with
    | true =>
      clear hlk hld hcm
      go_wp2
      go_ret
      have e : RW.addOk true (RW.vk n) L = false := by rw [RW.addOk, ← hhasH.out]; rfl
      have hB : Below w.heap.size w W5 := by rw [hW5]; exact hF4H.out.below.drew
      refine ⟨by rw [e] <;> rfl, ?_, KeptBut.of_below hB⟩
      rw [RW.addL, e, if_neg Bool.false_ne_true, hW5]
      exact hb4H.out.keep rfl rfl
    | false =>
      clear hlk hld hcm
      have hb5 : BoxAt W5 bx mb N L := by rw [hW5]; exact hb4H.out.keep rfl rfl
      have hF5 : MRows [(b1, cs)] w W5 := by rw [hW5]; exact hF4H.out.drewN 1
      have hr5 : W5.heap[b5]? = some (.cells #[.int .i64 (n 1), .int .i64 (n 0), .int .i64 (n 3), .int .i64 (n 4)] 94 (0, 0)) := by rw [hW5]; exact hr4H.out
      have hld : (ldMsg 94 (.pointer (some ⟨b5, 0, none⟩))).run Tryd.prog W5.drew = .ok (.agg #[.int .i64 (n 1), .int .i64 (n 0), .int .i64 (n 3), .int .i64 (n 4)]) W5.drew :=
        ldMsg_eq _ _ _ _ _ _ _ (show W5.drew.heap[b5]? = _ from hr5) Tryd.underlying94 rfl (ballot_info (RW.vk n))
      have hcm : W5.drew.cell? ⟨bx, 1, none⟩ = some (.map (some mb)) := (cell_at hb5.row 1).trans rfl
      have hcd : W5.drew.cell? ⟨b1, 6, none⟩ = some (.string d) := (hF5.cell b1 cs (by simp) 6).trans (by rw [hcsH.out]; rfl)
      obtain ⟨W6, hup, hown6, h1, h2, h3, h4, h5⟩ := KM.OwnM.update (show KM.OwnM RW.kv4 W5.drew mb _ from hb5.own) key4 Tryd.underlying88 (RW.vk n) (.string d)
      have hg : KM.get (RW.vk n) (L.map fun x => (x.1, Value.string x.2)) = none := by
        have := RW.get_has (RW.vk n) L
        rw [← hhasH.out] at this
        cases e : KM.get (RW.vk n) (L.map fun x => (x.1, Value.string x.2)) with
        | none => rfl
        | some u => rw [e] at this; cases this
      rw [KM.put_new hg] at hown6
      have hb6 : BoxAt W6 bx mb N (L ++ [(RW.vk n, d)]) := ⟨(h5 bx hb5.ne).trans hb5.row, by rw [List.map_append]; exact hown6⟩
      have hK6 : KeptBut mb w W6 := ⟨h1.trans hF5.below.os, h2.trans hF5.below.tape, h3.trans hF5.below.output, by rw [h4]; exact hF5.below.size, fun k hk hm => (h5 k hm).trans (hF5.below.block k hk)⟩
      have hb6H := hide hb6
      have hK6H := hide hK6
      clear hb6 hK6 hown6 h1 h2 h3 h4 h5 hg hb5 hF5 hr5
      go_upto_region 7 with fail
      refine wp_region_staged (fun j w' => (j = 0 → w' = W5.drew) ∧ (j = 1 → w' = W6)) [7] (by kernel_rfl) (by kernel_rfl) (by rfl) ⟨fun _ => rfl, fun h => by cases h⟩ ?_
      refine st_val (.pointer (some ⟨bx, 0, none⟩)) (by rfl) (by rfl) (fun w => op_mv rfl rfl) ?_
      simp only [Act.put, List.setIfInBounds_toArray, List.set_cons_zero, List.set_cons_succ]
      refine st_val (.pointer (some ⟨bx, 0, none⟩)) (by rfl) (by rfl) (fun w => op_nilc rfl rfl) ?_
      simp only [Act.put, List.setIfInBounds_toArray, List.set_cons_zero, List.set_cons_succ]
      refine st_val (.pointer (some ⟨bx, 1, none⟩)) (by rfl) (by rfl) (fun w => op_fab1 rfl rfl) ?_
      simp only [Act.put, List.setIfInBounds_toArray, List.set_cons_zero, List.set_cons_succ]
      refine st_op_in 0 0 (.map (some mb)) (by rfl) (by rfl) (.inl rfl) (.inr (by decide +kernel)) (fun j w0 _ hj hS => by obtain rfl : j = 0 := (by omega); have hS' := hS.1 rfl; subst hS'; rw [op_load_map rfl rfl hcm]; exact ⟨rfl, hS⟩) ?_
      simp only [Act.put, List.setIfInBounds_toArray, List.set_cons_zero, List.set_cons_succ]
      refine st_op_in 0 0 (.agg #[.int .i64 (n 1), .int .i64 (n 0), .int .i64 (n 3), .int .i64 (n 4)]) (by rfl) (by rfl) (.inl rfl) (.inr (by decide +kernel)) (fun j w0 _ hj hS => by obtain rfl : j = 0 := (by omega); have hS' := hS.1 rfl; subst hS'; rw [op_load_agg (T := 94) rfl rfl hld]; exact ⟨rfl, hS⟩) ?_
      simp only [Act.put, List.setIfInBounds_toArray, List.set_cons_zero, List.set_cons_succ]
      refine st_val (.pointer (some ⟨b1, 6, none⟩)) (by rfl) (by rfl) (fun w => op_fa_6 rfl rfl) ?_
      simp only [Act.put, List.setIfInBounds_toArray, List.set_cons_zero, List.set_cons_succ]
      refine st_op_in 0 0 (.string d) (by rfl) (by rfl) (.inl rfl) (.inr (by decide +kernel)) (fun j w0 _ hj hS => by obtain rfl : j = 0 := (by omega); have hS' := hS.1 rfl; subst hS'; rw [op_load_str rfl rfl hcd]; exact ⟨rfl, hS⟩) ?_
      simp only [Act.put, List.setIfInBounds_toArray, List.set_cons_zero, List.set_cons_succ]
      refine st_step 0 undef (by rfl) (by rfl) (by decide +kernel) (fun w' hS => by have hS' := hS.1 rfl; subst hS'; rw [op_upd rfl rfl rfl rfl hup]; exact ⟨rfl, (show (1 = 0 → W6 = W5.drew) ∧ (1 = 1 → W6 = W6) from ⟨fun h => absurd h (by decide), fun _ => rfl⟩)⟩) ?_
      simp only [Act.put]
      refine st_nil ?_
      intro W7 hW7
      obtain rfl := hW7.2 rfl
      clear hW7 hup hcd hcm hld
      go_wp2
      go_ret
      have e : RW.addOk true (RW.vk n) L = true := by rw [RW.addOk, ← hhasH.out]; rfl
      refine ⟨by rw [e] <;> rfl, ?_, hK6H.out⟩
      rw [RW.addL, e, if_pos rfl]
      exact hb6H.out
end Go.Proofs.YtcbckcojebanaaaDoor
