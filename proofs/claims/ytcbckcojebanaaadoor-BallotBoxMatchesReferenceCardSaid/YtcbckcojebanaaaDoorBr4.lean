/-
  Package royaltyref25: Same: what it returns; only new memory is written.
-/
import Derived.Test.YtcbckcojebanaaaDoorMC
import Derived.Test.YtcbckcojebanaaaDoorMZ1
import Derived.Test.YtcbckcojebanaaaDoorBr1
namespace Go.Proofs.YtcbckcojebanaaaDoor
open Go.RowKit RG
theorem op_neq_str {ev : Operand → Value} {o : Oper} {x y : Operand} {m n : ByteArray} {w : World} (ho : o.op = .binOp .neq 9 x y 9) (hx : ev x = .string m) (hy : ev y = .string n) : (execOp ev o).run Tryd.prog w = .ok (.value (.bool (!(m.toList == n.toList)))) w := by
  unfold execOp
  rw [ho]
  simp only [hx, hy]
  go_simp
/-- all but the elements of the lists -/
def RW.headD (n n2 : Nat → Int) (d d2 : ByteArray) (k k2 : Nat) : Bool := decide (n 0 = n2 0 ∧ n 1 = n2 1 ∧ n 2 = n2 2 ∧ n 3 = n2 3 ∧ n 4 = n2 4 ∧ n 5 = n2 5 ∧ d.toList = d2.toList ∧ k = k2)
theorem RW.str_at (a b : ByteArray) : (a.toList == b.toList) = decide (a = b) := by
  by_cases h : a = b
  · subst h; simp
  · rw [decide_eq_false h, beq_eq_false_iff_ne]
    intro e
    apply h
    rw [ByteArray.toList_eq, ByteArray.toList_eq] at e
    exact ByteArray.ext (Array.ext' e)
theorem RW.head_no {n n2 : Nat → Int} {d d2 : ByteArray} {l l2 : List ByteArray} (h : RW.headD n n2 d d2 l.length l2.length = false) : ((decide (l = l2) && decide (d = d2)) && RW.dec (∀ i, i < 6 → n i = n2 i)) = false := by
  rw [Bool.eq_false_iff]
  intro g
  rw [Bool.and_eq_true, Bool.and_eq_true, decide_eq_true_eq, decide_eq_true_eq, RW.dec_iff] at g
  obtain ⟨⟨rfl, rfl⟩, g⟩ := g
  have h2 : RW.headD n n2 d d l.length l.length = true := decide_eq_true ⟨g 0 (by decide), g 1 (by decide), g 2 (by decide), g 3 (by decide), g 4 (by decide), g 5 (by decide), rfl, rfl⟩
  rw [h] at h2
  cases h2
theorem RW.head_yes {n n2 : Nat → Int} {d d2 : ByteArray} {l l2 : List ByteArray} (h : RW.headD n n2 d d2 l.length l2.length = true) : ((decide (l = l2) && decide (d = d2)) && RW.dec (∀ i, i < 6 → n i = n2 i)) = decide (l = l2) ∧ l.length = l2.length := by
  obtain ⟨g0, g1, g2, g3, g4, g5, g6, g7⟩ := of_decide_eq_true h
  have h6 := RW.str_at d d2
  rw [g6, beq_self_eq_true] at h6
  rw [← h6, Bool.and_true, RW.dec_true (RW.all6 g0 g1 g2 g3 g4 g5), Bool.and_true]
  exact ⟨rfl, g7⟩
theorem RW.take_both {l l2 : List ByteArray} {k : Nat} (h1 : k < l.length) (h2 : k < l2.length) (h : l.take k = l2.take k) (e : l.getD k ⟨#[]⟩ = l2.getD k ⟨#[]⟩) : l.take (k + 1) = l2.take (k + 1) := by
  rw [List.getD, List.getD, List.getElem?_eq_getElem h1, List.getElem?_eq_getElem h2] at e
  rw [List.take_succ_eq_append_getElem h1, List.take_succ_eq_append_getElem h2, h]
  exact congrArg (fun x => l2.take k ++ [x]) e
set_option maxRecDepth 100000 in
set_option maxHeartbeats 4000000 in
theorem rsame_any (n n2 : Nat → Int) (d d2 : ByteArray) (v v2 : Value) (l l2 : List ByteArray) (w : World) (hv : StrsV w v l) (hv2 : StrsV w v2 l2) (hl : l.length ≤ 140737488355328) (hl2 : l2.length ≤ 140737488355328) :
    Calls Tryd.prog 17 #[.agg (RW.mcells n d v), .agg (RW.mcells n2 d2 v2)] w fun e w' => e = .returned (.bool ((decide (l = l2) && decide (d = d2)) && RW.dec (∀ i, i < 6 → n i = n2 i))) ∧ Below w.heap.size w w' := by
  obtain ⟨a1, p1, rfl⟩ : ∃ a cap, v = .slice a l.length cap := by obtain ⟨a, cap, h, _⟩ := hv; exact ⟨a, cap, h⟩
  obtain ⟨a2, p2, rfl⟩ : ∃ a cap, v2 = .slice a l2.length cap := by obtain ⟨a, cap, h, _⟩ := hv2; exact ⟨a, cap, h⟩
  have hcc : ∀ k, k < l.length → ∃ b o, a1 = some ⟨b, o, none⟩ ∧ ∀ W, Below w.heap.size w W → W.cell? ⟨b, o + k, none⟩ = some (.string (l.getD k ⟨#[]⟩)) := fun k hk => by
    obtain ⟨a', cap', hv, _, h1 | ⟨b, o, ha', hb, hc⟩⟩ := hv
    · rw [h1] at hk; exact absurd hk (Nat.not_lt_zero _)
    · injection hv with e1 e2 e3
      exact ⟨b, o, e1.trans ha', fun W hB => (World.cell?_of_block (a := ⟨b, o + k, none⟩) (hB.block _ hb)).trans (hc k hk)⟩
  have hcc2 : ∀ k, k < l2.length → ∃ b o, a2 = some ⟨b, o, none⟩ ∧ ∀ W, Below w.heap.size w W → W.cell? ⟨b, o + k, none⟩ = some (.string (l2.getD k ⟨#[]⟩)) := fun k hk => by
    obtain ⟨a', cap', hv, _, h1 | ⟨b, o, ha', hb, hc⟩⟩ := hv2
    · rw [h1] at hk; exact absurd hk (Nat.not_lt_zero _)
    · injection hv with e1 e2 e3
      exact ⟨b, o, e1.trans ha', fun W hB => (World.cell?_of_block (a := ⟨b, o + k, none⟩) (hB.block _ hb)).trans (hc k hk)⟩
  obtain ⟨r, hr⟩ : ∃ r, r = ((decide (l = l2) && decide (d = d2)) && RW.dec (∀ i, i < 6 → n i = n2 i)) := ⟨_, rfl⟩
  rw [← hr]
  have hrH := hide hr
  obtain ⟨m, hm⟩ : ∃ m, m = l.length := ⟨_, rfl⟩
  obtain ⟨m2, hm2⟩ : ∃ m, m = l2.length := ⟨_, rfl⟩
  rw [← hm] at hl hcc
  rw [← hm2] at hl2 hcc2
  rw [← hm, ← hm2]
  obtain ⟨cs, hcs⟩ : ∃ cs, cs = RW.mcells n d (.slice a1 m p1) := ⟨_, rfl⟩
  obtain ⟨ds, hds⟩ : ∃ cs, cs = RW.mcells n2 d2 (.slice a2 m2 p2) := ⟨_, rfl⟩
  rw [← hcs, ← hds]
  have hmH := hide hm
  have hm2H := hide hm2
  have hccH := hide hcc
  have hcc2H := hide hcc2
  have hcsH := hide hcs
  have hdsH := hide hds
  clear hr hm hm2 hcc hcc2 hcs hds hv hv2
  go_enter Tryd.func17, Tryd.ntmps17
  go_upto_region 1 with fail
  obtain ⟨b1, hb1⟩ : ∃ b, b = w.heap.size := ⟨_, rfl⟩
  obtain ⟨b2, hb2⟩ : ∃ b, b = w.heap.size + 1 := ⟨_, rfl⟩
  have hR := (MRows.new (MRows.nil (Below.refl w.heap.size w)) cs).new ds
  rw [show (w.alloc (.cells cs 24)).heap.size = b2 by rw [hb2]; simp, ← hb1] at hR
  rw [← hb1] at ⊢
  rw [show b1 + 1 = b2 by omega]
  refine gen_world (MRows [(b2, ds), (b1, cs)] w) hR ?_
  clear hR hb1 hb2
  intro W hF
  have c0 : W.cell? ⟨b1, 0, none⟩ = some (.int .i64 (n 0)) := by rw [hF.cell b1 cs (by simp), hcsH.out]; rfl
  have e0 : W.cell? ⟨b2, 0, none⟩ = some (.int .i64 (n2 0)) := by rw [hF.cell b2 ds (by simp), hdsH.out]; rfl
  have c1 : W.cell? ⟨b1, 1, none⟩ = some (.int .i64 (n 1)) := by rw [hF.cell b1 cs (by simp), hcsH.out]; rfl
  have e1 : W.cell? ⟨b2, 1, none⟩ = some (.int .i64 (n2 1)) := by rw [hF.cell b2 ds (by simp), hdsH.out]; rfl
  have c2 : W.cell? ⟨b1, 2, none⟩ = some (.int .i64 (n 2)) := by rw [hF.cell b1 cs (by simp), hcsH.out]; rfl
  have e2 : W.cell? ⟨b2, 2, none⟩ = some (.int .i64 (n2 2)) := by rw [hF.cell b2 ds (by simp), hdsH.out]; rfl
  have c3 : W.cell? ⟨b1, 3, none⟩ = some (.int .i64 (n 3)) := by rw [hF.cell b1 cs (by simp), hcsH.out]; rfl
  have e3 : W.cell? ⟨b2, 3, none⟩ = some (.int .i64 (n2 3)) := by rw [hF.cell b2 ds (by simp), hdsH.out]; rfl
  have c4 : W.cell? ⟨b1, 4, none⟩ = some (.int .i64 (n 4)) := by rw [hF.cell b1 cs (by simp), hcsH.out]; rfl
  have e4 : W.cell? ⟨b2, 4, none⟩ = some (.int .i64 (n2 4)) := by rw [hF.cell b2 ds (by simp), hdsH.out]; rfl
  have c5 : W.cell? ⟨b1, 5, none⟩ = some (.int .i64 (n 5)) := by rw [hF.cell b1 cs (by simp), hcsH.out]; rfl
  have e5 : W.cell? ⟨b2, 5, none⟩ = some (.int .i64 (n2 5)) := by rw [hF.cell b2 ds (by simp), hdsH.out]; rfl
  have c6 : W.cell? ⟨b1, 6, none⟩ = some (.string d) := by rw [hF.cell b1 cs (by simp), hcsH.out]; rfl
  have e6 : W.cell? ⟨b2, 6, none⟩ = some (.string d2) := by rw [hF.cell b2 ds (by simp), hdsH.out]; rfl
  have c7 : W.cell? ⟨b1, 7, none⟩ = some (.slice a1 m p1) := by rw [hF.cell b1 cs (by simp), hcsH.out]; rfl
  have e7 : W.cell? ⟨b2, 7, none⟩ = some (.slice a2 m2 p2) := by rw [hF.cell b2 ds (by simp), hdsH.out]; rfl
  go_cut [61] (fun s wx => s = .bool (!(RW.headD n n2 d d2 m m2)) ∧ W = wx)
  case first =>
    go_wp2
    all_goals go_meet
    all_goals refine ⟨congrArg Value.bool ?_, rfl⟩
    all_goals first | (rw [show RW.headD n n2 d d2 m m2 = false from decide_eq_false (by rintro ⟨a0, a1, a2, a3, a4, a5, a6, a7⟩; first | omega | contradiction)]; rfl) | (by_cases hmm : m = m2; (subst hmm; rw [show RW.headD n n2 d d2 m m = true from decide_eq_true ⟨by assumption, by assumption, by assumption, by assumption, by assumption, by assumption, by assumption, rfl⟩]; simp); (rw [show RW.headD n n2 d d2 m m2 = false from decide_eq_false (fun a => hmm a.2.2.2.2.2.2.2)]; exact bne_iff_ne.2 (by omega)))
  case rest =>
    obtain ⟨rfl, rfl⟩ := hcut
    obtain ⟨g, hg⟩ : ∃ g, g = RW.headD n n2 d d2 m m2 := ⟨_, rfl⟩
    rw [← hg]
    have hno : g = false → r = false := fun h => by rw [hrH.out]; exact RW.head_no (by rw [← hmH.out, ← hm2H.out, ← hg, h])
    have hyes : g = true → r = decide (l = l2) ∧ m = m2 := fun h => by rw [hrH.out, hmH.out, hm2H.out]; exact RW.head_yes (by rw [← hmH.out, ← hm2H.out, ← hg, h])
    clear hg hrH c0 e0 c1 e1 c2 e2 c3 e3 c4 e4 c5 e5 c6 e6
    cases g
    · have hrr := hide (hno rfl)
      clear hno hyes
      go_wp2
      go_ret
      exact ⟨by rw [hrr.out] <;> rfl, hF.below⟩
    · obtain ⟨hr2, hmm⟩ := hyes rfl
      have hrr := hide hr2
      clear hno hyes hr2
      subst hmm
      have hFH := hide hF
      clear hF
      go_wp2
      go_loopw [5] (fun i wr => ∃ k : Nat, k ≤ m ∧ i = .int .i64 k ∧ MRows [(b2, ds), (b1, cs)] w wr ∧ Hid (l.take k = l2.take k)) (fun i _ => m - (intOf i).toNat)
      case atStart => exact ⟨0, Nat.zero_le _, rfl, hFH.out, rfl⟩
      case round =>
        clear c7 e7
        obtain ⟨k, hk, rfl, hM, hT⟩ := hrel
        have c7 : ∀ W, MRows [(b2, ds), (b1, cs)] w W → W.cell? ⟨b1, 7, none⟩ = some (.slice a1 m p1) := fun W hF => by rw [hF.cell b1 cs (by simp), hcsH.out]; rfl
        have e7 : ∀ W, MRows [(b2, ds), (b1, cs)] w W → W.cell? ⟨b2, 7, none⟩ = some (.slice a2 m p2) := fun W hF => by rw [hF.cell b2 ds (by simp), hdsH.out]; rfl
        have c7H := hide c7
        have e7H := hide e7
        have q7 := c7 wr hM
        clear c7 e7
        have hMH := hide hM
        clear hM
        by_cases hlt : k < m
        · obtain ⟨s1, o1, ra, hc⟩ := hccH.out k hlt
          obtain ⟨s2, o2, rb, hd⟩ := hcc2H.out k hlt
          subst ra rb
          have hstep := RW.take_both (by rw [← hmH.out]; exact hlt) (by rw [← hm2H.out]; exact hlt) hT.out
          obtain ⟨x, hx⟩ : ∃ s, s = l.getD k ⟨#[]⟩ := ⟨_, rfl⟩
          obtain ⟨y, hy⟩ : ∃ s, s = l2.getD k ⟨#[]⟩ := ⟨_, rfl⟩
          have hne : x ≠ y → r = false := fun h => by
            rw [hrr.out]
            exact decide_eq_false fun e => h (by rw [hx, hy, e])
          rw [← hx] at hc hstep
          rw [← hy] at hd hstep
          have hcH := hide hc
          have hdH := hide hd
          have hneH := hide hne
          have hsH := hide hstep
          clear hx hy hc hd hne hstep
          go_upto_region 6 with fail
          clear q7
          refine wp_region_staged (fun _ w' => MRows [(b2, ds), (b1, cs)] w w') [] (by kernel_rfl) (by kernel_rfl) (by rfl) (hMH.out.drewN 1) ?_
          refine st_val (.pointer (some ⟨b1, 7, none⟩)) (by rfl) (by rfl) (fun w => op_fa_7 rfl rfl) ?_
          simp only [Act.put, List.setIfInBounds_toArray, List.set_cons_zero, List.set_cons_succ]
          refine st_op (.slice (some ⟨s1, o1, none⟩) m p1) (by rfl) (by rfl) (fun j w0 _ hS => by rw [op_load_sl rfl rfl (c7H.out w0 hS)]; exact ⟨rfl, hS⟩) ?_
          simp only [Act.put, List.setIfInBounds_toArray, List.set_cons_zero, List.set_cons_succ]
          refine st_val (.int .i64 k) (by rfl) (by rfl) (fun w => op_mv rfl rfl) ?_
          simp only [Act.put, List.setIfInBounds_toArray, List.set_cons_zero, List.set_cons_succ]
          refine st_val (.pointer (some ⟨s1, o1 + k, none⟩)) (by rfl) (by rfl) (fun w => op_idxs rfl rfl rfl hlt) ?_
          simp only [Act.put, List.setIfInBounds_toArray, List.set_cons_zero, List.set_cons_succ]
          refine st_op (.string x) (by rfl) (by rfl) (fun j w0 _ hS => by rw [op_load_str rfl rfl (hcH.out w0 hS.below)]; exact ⟨rfl, hS⟩) ?_
          simp only [Act.put, List.setIfInBounds_toArray, List.set_cons_zero, List.set_cons_succ]
          refine st_val (.pointer (some ⟨b2, 7, none⟩)) (by rfl) (by rfl) (fun w => op_fa_7 rfl rfl) ?_
          simp only [Act.put, List.setIfInBounds_toArray, List.set_cons_zero, List.set_cons_succ]
          refine st_op (.slice (some ⟨s2, o2, none⟩) m p2) (by rfl) (by rfl) (fun j w0 _ hS => by rw [op_load_sl rfl rfl (e7H.out w0 hS)]; exact ⟨rfl, hS⟩) ?_
          simp only [Act.put, List.setIfInBounds_toArray, List.set_cons_zero, List.set_cons_succ]
          refine st_val (.int .i64 k) (by rfl) (by rfl) (fun w => op_mv rfl rfl) ?_
          simp only [Act.put, List.setIfInBounds_toArray, List.set_cons_zero, List.set_cons_succ]
          refine st_val (.pointer (some ⟨s2, o2 + k, none⟩)) (by rfl) (by rfl) (fun w => op_idxs rfl rfl rfl hlt) ?_
          simp only [Act.put, List.setIfInBounds_toArray, List.set_cons_zero, List.set_cons_succ]
          refine st_op (.string y) (by rfl) (by rfl) (fun j w0 _ hS => by rw [op_load_str rfl rfl (hdH.out w0 hS.below)]; exact ⟨rfl, hS⟩) ?_
          simp only [Act.put, List.setIfInBounds_toArray, List.set_cons_zero, List.set_cons_succ]
          refine st_val (.bool (!(decide (x = y)))) (by rfl) (by rfl) (fun w => by rw [← RW.str_at]; exact op_neq_str rfl rfl rfl) ?_
          simp only [Act.put, List.setIfInBounds_toArray, List.set_cons_zero, List.set_cons_succ]
          refine st_nil ?_
          intro W3 hF3
          by_cases hxy : x = y
          · rw [decide_eq_true hxy]
            have hsk := hide (hsH.out hxy)
            go_wp2
            go_roundw
            case rel => exact ⟨k + 1, by omega, by go_num, hF3, hsk.out⟩
            case measure => (simp [intOf] <;> omega)
          · rw [decide_eq_false hxy]
            have hrf := hide (hneH.out hxy)
            go_wp2
            go_ret
            exact ⟨by rw [hrf.out] <;> rfl, hF3.below⟩
        · obtain rfl : k = m := by omega
          have hll : l = l2 := by
            have := hT.out
            rw [hmH.out, List.take_length] at this
            rw [this, ← hmH.out, hm2H.out, List.take_length]
          have hrt := hide (show r = true by rw [hrr.out]; exact decide_eq_true hll)
          clear hll hrr
          go_wp2
          go_ret
          exact ⟨by rw [hrt.out] <;> rfl, hMH.out.below⟩
end Go.Proofs.YtcbckcojebanaaaDoor
