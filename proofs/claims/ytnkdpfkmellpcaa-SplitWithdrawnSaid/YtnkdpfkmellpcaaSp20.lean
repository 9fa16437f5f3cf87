/-
  Package royaltylaw12: SplitWithdrawn: it returns true; only new memory is written.
-/
import Derived.Test.YtnkdpfkmellpcaaSp20P
import Derived.Test.YtnkdpfkmellpcaaSp20Q
import Derived.Test.YtnkdpfkmellpcaaSp14
import Derived.Test.YtnkdpfkmellpcaaStg3
import Derived.Test.YtnkdpfkmellpcaaSpB
namespace Go.Proofs.Ytnkdpfkmellpcaa
open Go.RowKit RG
attribute [local go_sem ↓] ldRow_shares ldRow_fact
/-- shares that were just made -/
def ShB (n0 b : Nat) (W : World) : Prop := n0 ≤ b ∧ W.heap[b]? = some (.cells (RW.scl (.slice none 0 0) 0 0) 32 (0, 0))
theorem ShB.next {n0 b : Nat} {W W' : World} (h : ShB n0 b W) (hB : Below W.heap.size W W') : ShB n0 b W' := ⟨h.1, (hB.block _ (Array.getElem?_eq_some_iff.1 h.2).1).trans h.2⟩
theorem ShB.new {n0 : Nat} {W : World} (hn : n0 ≤ W.heap.size) : ShB n0 W.heap.size (W.alloc (.cells (RW.scl (.slice none 0 0) 0 0) 32)) := ⟨hn, newAt rfl⟩
theorem ShB.put {n0 b : Nat} {W : World} {v : Value} {l : List RW.Pt} {c u : Int} (h : ShB n0 b W) (ho : OwnP W n0 v l) : ShAt (W.setRow b (RW.scl v c u)) b v (l, c, u) := by
  refine ⟨setRow_heap _ _ _ _ _ _ h.2, OwnP.parts (B := n0) ⟨ho.1, ho.2.imp id ?_⟩⟩
  rintro ⟨g, cap, cur, h1, h2, h3, h4⟩
  refine ⟨g, cap, cur, h1, h2, (setRow_else _ _ _ _ fun he => ?_).trans h3, h4⟩
  subst he
  rw [h.2] at h3
  injection h3 with h3
  injection h3 with _ h3
  cases h3
section
variable {ev : Operand → Value} {o : Oper} {x y z : Operand} {w : World}
theorem op_alloc_sh (ho : o.op = .alloc 32) : (execOp ev o).run Try.prog w = .ok (.value (.pointer (some ⟨w.heap.size, 0, none⟩))) (w.alloc (.cells (RW.scl (.slice none 0 0) 0 0) 32)) := by
  unfold execOp
  rw [ho]
  go_simp
  rfl
theorem op_store_sh {b : Nat} {v : Value} {c u : Int} {v0 : Value} {c0 u0 : Int} (ho : o.op = .store 32 x y) (hx : ev x = .pointer (some ⟨b, 0, none⟩)) (hy : ev y = .agg (RW.scl v c u)) (hv : v.oneCell' = true) (hr : w.heap[b]? = some (.cells (RW.scl v0 c0 u0) 32 (0, 0))) :
    (execOp ev o).run Try.prog w = .ok .skip (w.setRow b (RW.scl v c u)) := by
  have h1 : (Instr.storeAt 32 (.pointer (some ⟨b, 0, none⟩)) (.agg (RW.scl v c u))).run Try.prog w = .ok () (w.setRow b (RW.scl v c u)) := by
    simp only [Instr.storeAt, Instr.sureAddr, Sem.run_bind, Sem.run_pure, Result.andThen]
    exact run_storeVar_row w b 32 32 (RW.scl v0 c0 u0) (RW.scl v c u) hr (shares_size _ _ _) rfl (shares_one _ _ _ hv)
  unfold execOp
  rw [ho]
  simp only [hx, hy, Sem.run_bind, h1, Result.andThen_ok, Sem.run_pure]
theorem op_idx_a {b i : Nat} (ho : o.op = .indexAddr 51 x y) (hx : ev x = .pointer (some ⟨b, 0, none⟩)) (hy : ev y = .int .i64 i) (hi : i < 4) : (execOp ev o).run Try.prog w = .ok (.value (.pointer (some ⟨b, i, none⟩))) w := by
  have h4 : (i : Int) < 4 := by omega
  unfold execOp
  rw [ho]
  simp only [hx, hy]
  go_simp
theorem op_fa_p1 {b i : Nat} (ho : o.op = .fieldAddr 39 x 1) (hx : ev x = .pointer (some ⟨b, i, none⟩)) : (execOp ev o).run Try.prog w = .ok (.value (.pointer (some ⟨b, i + 1, none⟩))) w := by
  unfold execOp
  rw [ho]
  simp only [hx]
  go_simp
theorem op_x3 {D : Value → World → Prop} {k : Nat} {ts : Array TypeId} {a b c : Value} (ho : o.op = .call ⟨.value (.func k), #[x, y, z], ts⟩) (hf : ev (.func k) = .func (.func k) #[] #[]) (hx : ev x = a) (hy : ev y = b) (hz : ev z = c) (hk : ∀ args w, (callFunc k args).run Try.prog w = .ok (.enter k args) w)
    (h : Calls Try.prog k #[a, b, c] w fun e w'' => ∃ u, e = .returned u ∧ D u w'') : XUp Try.prog D ((execOp ev o).run Try.prog w) := by
  have h1 : (execOp ev o).run Try.prog w = .ok (.enter k #[a, b, c]) w := by
    unfold execOp
    rw [ho]
    go_simp
  rw [h1]
  exact h
end
theorem same_true (v u : Value) (l : List RW.Pt) (c d : Int) (hl : l.length ≤ 1000000) (w : World) (hv : PartsV w v l) (hu : PartsV w u l) :
    Calls Try.prog 16 #[.agg (RW.scl v c d), .agg (RW.scl u c d)] w fun e w' => e = .returned (.bool true) ∧ Below w.heap.size w w' :=
  (rsame_any v u l l c c d d hl hl w hv hu).mono fun e w' h => ⟨by rw [h.1]; simp, h.2⟩
theorem facts_two (W : World) (one two s : Int) : FactsV (W.alloc (.cells (rowCells RW.fce (RW.twoF one two s)).toArray 43)) (.slice (some ⟨W.heap.size, 0, none⟩) 2 2) (RW.twoF one two s) := rows_lit W 43 fcl_len (RW.twoF one two s)
set_option maxRecDepth 10000 in
set_option maxHeartbeats 2000000 in
theorem splitwithdrawn_any (v : Value) (l : List RW.Pt) (a0 a1 a2 a3 one two : Int) (ha0 : -9223372036854775808 ≤ a0 ∧ a0 ≤ 9223372036854775807) (ha1 : -9223372036854775808 ≤ a1 ∧ a1 ≤ 9223372036854775807) (ha2 : -9223372036854775808 ≤ a2 ∧ a2 ≤ 9223372036854775807) (ha3 : -9223372036854775808 ≤ a3 ∧ a3 ≤ 9223372036854775807) (w : World) (hv : PartsV w v l) :
    Calls Try.prog 10 #[v, .agg #[.int .i64 a0, .int .i64 a1, .int .i64 a2, .int .i64 a3], .int .i64 one, .int .i64 two] w fun e w' => e = .returned (.bool true) ∧ Below w.heap.size w w' := by
  have hS := hide (fun W => sane_any W)
  have hClm := hide (fun id h s W => claim_any id h s W)
  have hp0 := hide (pick_any a0 8 ha0.1 ha0.2 (by decide) (by decide))
  have hp1 := hide (pick_any a1 8 ha1.1 ha1.2 (by decide) (by decide))
  have hp2 := hide (pick_any a2 1200 ha2.1 ha2.2 (by decide) (by decide))
  have hp3 := hide (pick_any a3 1200 ha3.1 ha3.2 (by decide) (by decide))
  have hq0 := RW.pickI_bd a0 8 (by decide)
  have hq1 := RW.pickI_bd a1 8 (by decide)
  have hq2 := RW.pickI_bd a2 1200 (by decide)
  have hq3 := RW.pickI_bd a3 1200 (by decide)
  obtain ⟨k0, hk0⟩ : ∃ k, k = RW.pickI a0 8 := ⟨_, rfl⟩
  obtain ⟨k1, hk1⟩ : ∃ k, k = RW.pickI a1 8 := ⟨_, rfl⟩
  obtain ⟨k2, hk2⟩ : ∃ k, k = RW.pickI a2 1200 := ⟨_, rfl⟩
  obtain ⟨k3, hk3⟩ : ∃ k, k = RW.pickI a3 1200 := ⟨_, rfl⟩
  rw [← hk0] at hp0 hq0
  rw [← hk1] at hp1 hq1
  rw [← hk2] at hp2 hq2
  rw [← hk3] at hp3 hq3
  have hqx := hide (And.intro hq0 hq2)
  have hqy := hide (And.intro hq1 hq3)
  obtain ⟨ab, hab⟩ : ∃ b, b = w.heap.size := ⟨_, rfl⟩
  have hg0 := hide (show (w.alloc (.cells #[.int .i64 a0, .int .i64 a1, .int .i64 a2, .int .i64 a3] 51)).heap[ab]? = some (.cells #[.int .i64 a0, .int .i64 a1, .int .i64 a2, .int .i64 a3] 51 (0, 0)) from newAt hab)
  have hA0 := hide (show Below ab w (w.alloc (.cells #[.int .i64 a0, .int .i64 a1, .int .i64 a2, .int .i64 a3] 51)) by rw [hab]; exact (Below.refl _ w).alloc (Nat.le_refl _) _)
  have hv0 := hide (hv.next (hab ▸ hA0.out))
  have habH := hide hab
  clear hk0 hk1 hk2 hk3 hq0 hq1 hq2 hq3 ha0 ha1 ha2 ha3 hv hab
  go_enter Try.func10, Try.ntmps10
  go_upto_region 1 with fail
  rw [← habH.out]
  refine gen_w (fun W => W.heap[ab]? = some (.cells #[.int .i64 a0, .int .i64 a1, .int .i64 a2, .int .i64 a3] 51 (0, 0)) ∧ Below ab w W ∧ PartsV W v l) ⟨hg0.out, hA0.out, hv0.out⟩ ?_
  clear hg0 hA0 hv0
  rintro w0 ⟨g1, g2, g3⟩
  have hg0 := hide g1
  have hB0 := hide g2
  have hv0 := hide g3
  clear g1 g2 g3
  have hl0 := hide (Array.getElem?_eq_some_iff.1 hg0.out).1
  go_upto_region 2 with (go_at_call 11; refine (hS.out _).mono ?_; rintro e w1 ⟨rfl, hB1⟩; have hg1 := hide ((hB1.block _ hl0.out).trans hg0.out); have hv1 := hide (hv0.out.next hB1); have hB1H := hide (hB0.out.trans (hB1.mono (Nat.le_of_lt hl0.out))); clear hB1)
  have hl1 := hide (Array.getElem?_eq_some_iff.1 hg1.out).1
  clear hg0 hB0 hv0 hl0 hS
  go_upto_region 3 with fail
  obtain ⟨bd, hbd⟩ : ∃ b, b = w1.heap.size := ⟨_, rfl⟩
  have hA4 := (Below.refl w1.heap.size w1).alloc (Nat.le_refl _) (.cells (RW.bcl (.slice none 0 0)) 25)
  refine gen_w (fun W => OrdD w1 bd [] (.slice none 0 0) W) ⟨newAt hbd, World.ownsRow_nil _ _ _ _, by rw [hbd]; exact hA4⟩ ?_
  rw [← hbd]
  have hbdH := hide hbd
  clear hbd hA4
  rintro w5 hO5
  have hO5H := hide hO5
  clear hO5
  obtain ⟨av, cv, rfl, hcv, hav⟩ := hv1.out
  obtain ⟨n, hn⟩ : ∃ n, n = l.length := ⟨_, rfl⟩
  have hnH := hide hn
  have havH := hide hav
  rw [← hn] at hcv ⊢
  clear hn hav hcv hv1
  go_wp2
  go_loopw [11] (fun i wr => ∃ j : Nat, i = .int .i64 j ∧ j ≤ 10 ∧ Hid (∃ Fl z, OrdD w1 bd Fl z wr ∧ Fl.length = j ∧ RW.AllC (Fl.map (·.1)))) (fun i _ => 10 - (intOf i).toNat)
  case atStart => exact ⟨0, rfl, by decide, [], _, hO5H.out, rfl, by simp [RW.AllC]⟩
  case round =>
    obtain ⟨j, rfl, hj, hQ⟩ := hrel
    clear hO5H
    obtain ⟨wo, hwo⟩ : ∃ wo, wo = wr := ⟨_, rfl⟩
    subst hwo
    obtain ⟨c, hc⟩ : ∃ c : Bool, c = decide (j < n ∧ j < 10) := ⟨_, rfl⟩
    have hcH := hide hc
    clear hc
    go_upto_region 4 with fail
    go_cut [24] (fun s wx => s = .bool c ∧ wx = wo)
    case first =>
      by_cases h1 : j < n
      · by_cases h2 : j < 10
        · have h2i : (j : Int) < 10 := by omega
          go_wp2
          all_goals go_meet
          all_goals exact ⟨by rw [hcH.out, decide_eq_true (show j < n ∧ j < 10 from ⟨h1, h2⟩)] <;> rfl, rfl⟩
        · obtain rfl : j = 10 := by omega
          go_wp2
          all_goals go_meet
          all_goals exact ⟨by rw [hcH.out, decide_eq_false (show ¬ (10 < n ∧ 10 < 10) by omega)] <;> rfl, rfl⟩
      · go_wp2
        all_goals go_meet
        all_goals exact ⟨by rw [hcH.out, decide_eq_false (show ¬ (j < n ∧ j < 10) by omega)] <;> rfl, rfl⟩
    case rest =>
    obtain ⟨rfl, hwx⟩ := hcut
    have hwx' := hwx.symm
    subst hwx'
    obtain ⟨Fl, z, hz, hFj, hFA⟩ := hQ.out
    have hzH := hide hz
    have hFAH := hide hFA
    have hFjH := hide hFj
    clear hQ hFA
    obtain ⟨az, cz, rfl⟩ : ∃ a c, z = .slice a Fl.length c := by
      obtain ⟨a, c, e, _⟩ := hz.own.facts
      exact ⟨a, c, e⟩
    obtain ⟨nz, hnz⟩ : ∃ n, n = Fl.length := ⟨_, rfl⟩
    rw [← hnz] at hzH
    clear hz hnz hFj
    cases c
    · have hl6 := hide (show Fl.length ≤ 1000000 by have := hFjH.out; omega)
      have hbx0 := hide (((hzH.out.below).block _ (show ab < bd by rw [hbdH.out]; exact hl1.out)).trans hg1.out)
      have hBw := hide (hB1H.out.trans (hzH.out.below.mono (by rw [hbdH.out]; exact Nat.le_of_lt hl1.out)))
      have hke0 := hide (show KE (.slice az nz cz) Fl bd wo from ⟨hzH.out.row, hzH.out.own.facts⟩)
      obtain ⟨cl, hcl⟩ : ∃ cl, cl = RW.claimsL 3 1 0 0 (Fl.map (·.1)) := ⟨_, rfl⟩
      obtain ⟨R, hR⟩ : ∃ R, R = RW.resolve cl := ⟨_, rfl⟩
      have hOx := hide (fun W (h : FactsV W (.slice az nz cz) Fl) => of_any (RW.bcl (.slice az nz cz)) _ Fl 3 1 k0 k2 rfl rfl hl6.out W h)
      have hOy := hide (fun W (h : FactsV W (.slice az nz cz) Fl) => of_any (RW.bcl (.slice az nz cz)) _ Fl 3 1 k1 k3 rfl rfl hl6.out W h)
      rw [RW.claims_wd hqx.out.1.1 hqx.out.1.2 hqx.out.2.1 hqx.out.2.2 hFAH.out, ← hcl, ← hR] at hOx
      rw [RW.claims_wd hqy.out.1.1 hqy.out.1.2 hqy.out.2.1 hqy.out.2.2 hFAH.out, ← hcl, ← hR] at hOy
      have hcn := RW.claims_len 3 1 0 0 (Fl.map (·.1))
      rw [List.length_map, ← hcl] at hcn
      have hRl := hide (show R.1.length ≤ 1000000 by rw [hR]; exact rlen cl (Nat.le_trans hcn hl6.out))
      clear hcl hR hcn hzH hFAH hFjH hl6 hqx hqy havH hnH hcH hj
      obtain ⟨R1, Rc, Ru⟩ := R
      go_upto_region 7 with fail
      obtain ⟨n0, hn0e⟩ : ∃ n, n = wo.heap.size := ⟨_, rfl⟩
      have hn0 := hide hn0e
      have hke := hke0
      have hbx := hide (fun W (h : Below n0 wo W) => (Below.block h ab (by rw [hn0e]; exact (Array.getElem?_eq_some_iff.1 hbx0.out).1)).trans hbx0.out)
      clear hn0e
      go_cut [12] (fun s wx => ∃ b va, s = .pointer (some ⟨b, 0, none⟩) ∧ ShAt wx b va (R1, Rc, Ru) ∧ Below n0 wo wx)
      case first =>
        refine wp_region_k (fun _ W => Below n0 wo W) (fun _ => True) [3, 6, 7, 8, 9] (.op 0 (.op 1 (.op 2 (.op 4 (.op 5 (.fork 3 (.fork 6 (.fork 7 (.op 8 (.op 9 .nil)) 8 (.op 7 (.op 9 .nil))) 8 (.op 6 (.op 7 (.op 9 .nil)))) 8 (.op 3 (.op 6 (.op 7 (.op 9 .nil)))))))))) (by kernel_rfl) (by kernel_rfl) (by rfl) (by kernel_rfl) ((Below.refl _ _).drew) trivial ?_
        refine k_val (.agg (RW.bcl (.slice az nz cz))) (by apply opN; repeat' (first | apply OpAt.z | apply OpAt.s)) (by rfl) (by rfl) (fun _ W hS => op_load_base rfl rfl (hke.out.next (hn0.out ▸ hS))) ?_
        simp only [Act.put, List.setIfInBounds_toArray, List.set_cons_zero, List.set_cons_succ]
        refine k_val (.pointer (some ⟨ab, 0, none⟩)) (by apply opN; repeat' (first | apply OpAt.z | apply OpAt.s)) (by rfl) (by rfl) (fun _ W hS => op_idx_a rfl rfl rfl (by decide)) ?_
        simp only [Act.put, List.setIfInBounds_toArray, List.set_cons_zero, List.set_cons_succ]
        refine k_val (.int .i64 a0) (by apply opN; repeat' (first | apply OpAt.z | apply OpAt.s)) (by rfl) (by rfl) (fun _ W hS => op_load_int rfl rfl ((cellAt (hbx.out W hS) 0).trans rfl)) ?_
        simp only [Act.put, List.setIfInBounds_toArray, List.set_cons_zero, List.set_cons_succ]
        refine k_val (.pointer (some ⟨ab, 2, none⟩)) (by apply opN; repeat' (first | apply OpAt.z | apply OpAt.s)) (by rfl) (by rfl) (fun _ W hS => op_idx_a rfl rfl rfl (by decide)) ?_
        simp only [Act.put, List.setIfInBounds_toArray, List.set_cons_zero, List.set_cons_succ]
        refine k_val (.int .i64 a2) (by apply opN; repeat' (first | apply OpAt.z | apply OpAt.s)) (by rfl) (by rfl) (fun _ W hS => op_load_int rfl rfl ((cellAt (hbx.out W hS) 2).trans rfl)) ?_
        simp only [Act.put, List.setIfInBounds_toArray, List.set_cons_zero, List.set_cons_succ]
        refine h_fork ?_ ?_
        · refine k_one (fun K' u => u = .int .i64 k0 ∧ K' = (fun _ => True)) (by apply opN; repeat' (first | apply OpAt.z | apply OpAt.s)) (by rfl) (by rfl) (by rfl) (fun W hC hK => ?_) ?_
          · refine op_x2 rfl rfl rfl rfl (fun _ _ => rfl) ((hp0.out W).mono ?_)
            rintro e W' ⟨rfl, rfl⟩
            exact ⟨_, rfl, hC, _, hK, rfl, rfl⟩
          rintro _ _ ⟨rfl, rfl⟩
          simp only [Act.put, List.setIfInBounds_toArray, List.set_cons_zero, List.set_cons_succ]
          refine h_fork ?_ ?_
          · refine k_one (fun K' u => u = .int .i64 k2 ∧ K' = (fun _ => True)) (by apply opN; repeat' (first | apply OpAt.z | apply OpAt.s)) (by rfl) (by rfl) (by rfl) (fun W hC hK => ?_) ?_
            · refine op_x2 rfl rfl rfl rfl (fun _ _ => rfl) ((hp2.out W).mono ?_)
              rintro e W' ⟨rfl, rfl⟩
              exact ⟨_, rfl, hC, _, hK, rfl, rfl⟩
            rintro _ _ ⟨rfl, rfl⟩
            simp only [Act.put, List.setIfInBounds_toArray, List.set_cons_zero, List.set_cons_succ]
            refine h_fork ?_ ?_
            · refine k_one (fun K' u => ∃ v, u = .agg (RW.scl v Rc Ru) ∧ K' = (fun W => OwnP W n0 v R1)) (by apply opN; repeat' (first | apply OpAt.z | apply OpAt.s)) (by rfl) (by rfl) (by rfl) (fun W hC hK => ?_) ?_
              · refine op_x5 rfl rfl rfl rfl rfl rfl rfl (fun _ _ => rfl) ((hOx.out W (hke.out.next (hn0.out ▸ hC)).2).mono ?_)
                rintro e W' ⟨⟨v, rfl, hv⟩, hB⟩
                exact ⟨_, rfl, Below.trans hC (hB.mono (Nat.le_trans (Nat.le_of_eq hn0.out) (Below.size hC))), _, own_base hv (hn0.out ▸ Below.size hC), v, rfl, rfl⟩
              rintro _ _ ⟨v3, rfl, rfl⟩
              simp only [Act.put, List.setIfInBounds_toArray, List.set_cons_zero, List.set_cons_succ]
              refine k_step (fun K' u => ∃ b, u = .pointer (some ⟨b, 0, none⟩) ∧ K' = (fun W => ShB n0 b W ∧ OwnP W n0 v3 R1)) (by apply opN; repeat' (first | apply OpAt.z | apply OpAt.s)) (by rfl) (by rfl) (by rfl) (fun W hC hK => ?_) ?_
              · rw [op_alloc_sh rfl]
                exact ⟨Below.alloc hC (hn0.out ▸ Below.size hC) _, _, ⟨ShB.new (hn0.out ▸ Below.size hC), own_next hK ((Below.refl _ _).alloc (Nat.le_refl _) _)⟩, W.heap.size, rfl, rfl⟩
              rintro _ _ ⟨b4, rfl, rfl⟩
              simp only [Act.put, List.setIfInBounds_toArray, List.set_cons_zero, List.set_cons_succ]
              refine k_step (fun K' u => u = undef ∧ K' = fun W => ShAt W b4 v3 (R1, Rc, Ru)) (by apply opN; repeat' (first | apply OpAt.z | apply OpAt.s)) (by rfl) (by rfl) (by rfl) (fun W hC hK => ?_) ?_
              · rw [op_store_sh rfl rfl rfl hK.2.parts.one hK.1.2]
                exact ⟨belowSetRow hC hK.1.1 _, _, hK.1.put hK.2, rfl, rfl⟩
              rintro _ _ ⟨rfl, rfl⟩
              simp only [Act.put]
              refine k_nil ?_
              intro W hC hK
              go_wp2
              go_meet
              exact ⟨_, _, rfl, hK, hC⟩
            · refine k_one (fun K' u => ∃ b, u = .pointer (some ⟨b, 0, none⟩) ∧ K' = (fun W => ShB n0 b W)) (by apply opN; repeat' (first | apply OpAt.z | apply OpAt.s)) (by rfl) (by rfl) (by rfl) (fun W hC hK => ?_) ?_
              · rw [op_alloc_sh rfl]
                exact ⟨Below.alloc hC (hn0.out ▸ Below.size hC) _, _, ShB.new (hn0.out ▸ Below.size hC), W.heap.size, rfl, rfl⟩
              rintro _ _ ⟨b6, rfl, rfl⟩
              simp only [Act.put, List.setIfInBounds_toArray, List.set_cons_zero, List.set_cons_succ]
              refine k_step (fun K' u => ∃ v, u = .agg (RW.scl v Rc Ru) ∧ K' = (fun W => ShB n0 b6 W ∧ OwnP W n0 v R1)) (by apply opN; repeat' (first | apply OpAt.z | apply OpAt.s)) (by rfl) (by rfl) (by rfl) (fun W hC hK => ?_) ?_
              · refine op_x5 rfl rfl rfl rfl rfl rfl rfl (fun _ _ => rfl) ((hOx.out W (hke.out.next (hn0.out ▸ hC)).2).mono ?_)
                rintro e W' ⟨⟨v, rfl, hv⟩, hB⟩
                exact ⟨_, rfl, Below.trans hC (hB.mono (Nat.le_trans (Nat.le_of_eq hn0.out) (Below.size hC))), _, ⟨hK.next hB, own_base hv (hn0.out ▸ Below.size hC)⟩, v, rfl, rfl⟩
              rintro _ _ ⟨v7, rfl, rfl⟩
              simp only [Act.put, List.setIfInBounds_toArray, List.set_cons_zero, List.set_cons_succ]
              refine k_step (fun K' u => u = undef ∧ K' = fun W => ShAt W b6 v7 (R1, Rc, Ru)) (by apply opN; repeat' (first | apply OpAt.z | apply OpAt.s)) (by rfl) (by rfl) (by rfl) (fun W hC hK => ?_) ?_
              · rw [op_store_sh rfl rfl rfl hK.2.parts.one hK.1.2]
                exact ⟨belowSetRow hC hK.1.1 _, _, hK.1.put hK.2, rfl, rfl⟩
              rintro _ _ ⟨rfl, rfl⟩
              simp only [Act.put]
              refine k_nil ?_
              intro W hC hK
              go_wp2
              go_meet
              exact ⟨_, _, rfl, hK, hC⟩
          · refine k_one (fun K' u => ∃ b, u = .pointer (some ⟨b, 0, none⟩) ∧ K' = (fun W => ShB n0 b W)) (by apply opN; repeat' (first | apply OpAt.z | apply OpAt.s)) (by rfl) (by rfl) (by rfl) (fun W hC hK => ?_) ?_
            · rw [op_alloc_sh rfl]
              exact ⟨Below.alloc hC (hn0.out ▸ Below.size hC) _, _, ShB.new (hn0.out ▸ Below.size hC), W.heap.size, rfl, rfl⟩
            rintro _ _ ⟨b9, rfl, rfl⟩
            simp only [Act.put, List.setIfInBounds_toArray, List.set_cons_zero, List.set_cons_succ]
            refine k_step (fun K' u => u = .int .i64 k2 ∧ K' = (fun W => ShB n0 b9 W)) (by apply opN; repeat' (first | apply OpAt.z | apply OpAt.s)) (by rfl) (by rfl) (by rfl) (fun W hC hK => ?_) ?_
            · refine op_x2 rfl rfl rfl rfl (fun _ _ => rfl) ((hp2.out W).mono ?_)
              rintro e W' ⟨rfl, rfl⟩
              exact ⟨_, rfl, hC, _, hK, rfl, rfl⟩
            rintro _ _ ⟨rfl, rfl⟩
            simp only [Act.put, List.setIfInBounds_toArray, List.set_cons_zero, List.set_cons_succ]
            refine k_step (fun K' u => ∃ v, u = .agg (RW.scl v Rc Ru) ∧ K' = (fun W => ShB n0 b9 W ∧ OwnP W n0 v R1)) (by apply opN; repeat' (first | apply OpAt.z | apply OpAt.s)) (by rfl) (by rfl) (by rfl) (fun W hC hK => ?_) ?_
            · refine op_x5 rfl rfl rfl rfl rfl rfl rfl (fun _ _ => rfl) ((hOx.out W (hke.out.next (hn0.out ▸ hC)).2).mono ?_)
              rintro e W' ⟨⟨v, rfl, hv⟩, hB⟩
              exact ⟨_, rfl, Below.trans hC (hB.mono (Nat.le_trans (Nat.le_of_eq hn0.out) (Below.size hC))), _, ⟨hK.next hB, own_base hv (hn0.out ▸ Below.size hC)⟩, v, rfl, rfl⟩
            rintro _ _ ⟨v11, rfl, rfl⟩
            simp only [Act.put, List.setIfInBounds_toArray, List.set_cons_zero, List.set_cons_succ]
            refine k_step (fun K' u => u = undef ∧ K' = fun W => ShAt W b9 v11 (R1, Rc, Ru)) (by apply opN; repeat' (first | apply OpAt.z | apply OpAt.s)) (by rfl) (by rfl) (by rfl) (fun W hC hK => ?_) ?_
            · rw [op_store_sh rfl rfl rfl hK.2.parts.one hK.1.2]
              exact ⟨belowSetRow hC hK.1.1 _, _, hK.1.put hK.2, rfl, rfl⟩
            rintro _ _ ⟨rfl, rfl⟩
            simp only [Act.put]
            refine k_nil ?_
            intro W hC hK
            go_wp2
            go_meet
            exact ⟨_, _, rfl, hK, hC⟩
        · refine k_one (fun K' u => ∃ b, u = .pointer (some ⟨b, 0, none⟩) ∧ K' = (fun W => ShB n0 b W)) (by apply opN; repeat' (first | apply OpAt.z | apply OpAt.s)) (by rfl) (by rfl) (by rfl) (fun W hC hK => ?_) ?_
          · rw [op_alloc_sh rfl]
            exact ⟨Below.alloc hC (hn0.out ▸ Below.size hC) _, _, ShB.new (hn0.out ▸ Below.size hC), W.heap.size, rfl, rfl⟩
          rintro _ _ ⟨b13, rfl, rfl⟩
          simp only [Act.put, List.setIfInBounds_toArray, List.set_cons_zero, List.set_cons_succ]
          refine k_step (fun K' u => u = .int .i64 k0 ∧ K' = (fun W => ShB n0 b13 W)) (by apply opN; repeat' (first | apply OpAt.z | apply OpAt.s)) (by rfl) (by rfl) (by rfl) (fun W hC hK => ?_) ?_
          · refine op_x2 rfl rfl rfl rfl (fun _ _ => rfl) ((hp0.out W).mono ?_)
            rintro e W' ⟨rfl, rfl⟩
            exact ⟨_, rfl, hC, _, hK, rfl, rfl⟩
          rintro _ _ ⟨rfl, rfl⟩
          simp only [Act.put, List.setIfInBounds_toArray, List.set_cons_zero, List.set_cons_succ]
          refine k_step (fun K' u => u = .int .i64 k2 ∧ K' = (fun W => ShB n0 b13 W)) (by apply opN; repeat' (first | apply OpAt.z | apply OpAt.s)) (by rfl) (by rfl) (by rfl) (fun W hC hK => ?_) ?_
          · refine op_x2 rfl rfl rfl rfl (fun _ _ => rfl) ((hp2.out W).mono ?_)
            rintro e W' ⟨rfl, rfl⟩
            exact ⟨_, rfl, hC, _, hK, rfl, rfl⟩
          rintro _ _ ⟨rfl, rfl⟩
          simp only [Act.put, List.setIfInBounds_toArray, List.set_cons_zero, List.set_cons_succ]
          refine k_step (fun K' u => ∃ v, u = .agg (RW.scl v Rc Ru) ∧ K' = (fun W => ShB n0 b13 W ∧ OwnP W n0 v R1)) (by apply opN; repeat' (first | apply OpAt.z | apply OpAt.s)) (by rfl) (by rfl) (by rfl) (fun W hC hK => ?_) ?_
          · refine op_x5 rfl rfl rfl rfl rfl rfl rfl (fun _ _ => rfl) ((hOx.out W (hke.out.next (hn0.out ▸ hC)).2).mono ?_)
            rintro e W' ⟨⟨v, rfl, hv⟩, hB⟩
            exact ⟨_, rfl, Below.trans hC (hB.mono (Nat.le_trans (Nat.le_of_eq hn0.out) (Below.size hC))), _, ⟨hK.next hB, own_base hv (hn0.out ▸ Below.size hC)⟩, v, rfl, rfl⟩
          rintro _ _ ⟨v16, rfl, rfl⟩
          simp only [Act.put, List.setIfInBounds_toArray, List.set_cons_zero, List.set_cons_succ]
          refine k_step (fun K' u => u = undef ∧ K' = fun W => ShAt W b13 v16 (R1, Rc, Ru)) (by apply opN; repeat' (first | apply OpAt.z | apply OpAt.s)) (by rfl) (by rfl) (by rfl) (fun W hC hK => ?_) ?_
          · rw [op_store_sh rfl rfl rfl hK.2.parts.one hK.1.2]
            exact ⟨belowSetRow hC hK.1.1 _, _, hK.1.put hK.2, rfl, rfl⟩
          rintro _ _ ⟨rfl, rfl⟩
          simp only [Act.put]
          refine k_nil ?_
          intro W hC hK
          go_wp2
          go_meet
          exact ⟨_, _, rfl, hK, hC⟩
      case rest =>
      obtain ⟨bx, vx, rfl, hsx, hBc⟩ := hcut
      have hBc' : Below wo.heap.size wo wc := hn0.out ▸ hBc
      have hke1 := hide (hke0.out.next hBc')
      have hbx1 := hide ((hBc'.block _ (Array.getElem?_eq_some_iff.1 hbx0.out).1).trans hbx0.out)
      have hBw1 := hide (hBw.out.trans (hBc'.mono (by rw [habH.out]; exact hBw.out.size)))
      have hsxH := hide hsx
      clear hke hbx hn0 hBc hBc' hsx hke0 hbx0 hBw
      go_upto_region 8 with fail
      obtain ⟨wq, hwq⟩ : ∃ wq, wq = wc := ⟨_, rfl⟩
      subst hwq
      obtain ⟨n0, hn0e⟩ : ∃ n, n = wq.heap.size := ⟨_, rfl⟩
      have hn0 := hide hn0e
      have hke := hke1
      have hbx := hide (fun W (h : Below n0 wq W) => (Below.block h ab (by rw [hn0e]; exact (Array.getElem?_eq_some_iff.1 hbx1.out).1)).trans hbx1.out)
      clear hn0e
      go_cut [13] (fun s wx => ∃ b va, s = .pointer (some ⟨b, 0, none⟩) ∧ ShAt wx b va (R1, Rc, Ru) ∧ Below n0 wq wx)
      case first =>
        refine wp_region_k (fun _ W => Below n0 wq W) (fun _ => True) [3, 6, 7, 8, 9] (.op 0 (.op 1 (.op 2 (.op 4 (.op 5 (.fork 3 (.fork 6 (.fork 7 (.op 8 (.op 9 .nil)) 8 (.op 7 (.op 9 .nil))) 8 (.op 6 (.op 7 (.op 9 .nil)))) 8 (.op 3 (.op 6 (.op 7 (.op 9 .nil)))))))))) (by kernel_rfl) (by kernel_rfl) (by rfl) (by kernel_rfl) ((Below.refl _ _).drew) trivial ?_
        refine k_val (.agg (RW.bcl (.slice az nz cz))) (by apply opN; repeat' (first | apply OpAt.z | apply OpAt.s)) (by rfl) (by rfl) (fun _ W hS => op_load_base rfl rfl (hke.out.next (hn0.out ▸ hS))) ?_
        simp only [Act.put, List.setIfInBounds_toArray, List.set_cons_zero, List.set_cons_succ]
        refine k_val (.pointer (some ⟨ab, 1, none⟩)) (by apply opN; repeat' (first | apply OpAt.z | apply OpAt.s)) (by rfl) (by rfl) (fun _ W hS => op_idx_a rfl rfl rfl (by decide)) ?_
        simp only [Act.put, List.setIfInBounds_toArray, List.set_cons_zero, List.set_cons_succ]
        refine k_val (.int .i64 a1) (by apply opN; repeat' (first | apply OpAt.z | apply OpAt.s)) (by rfl) (by rfl) (fun _ W hS => op_load_int rfl rfl ((cellAt (hbx.out W hS) 1).trans rfl)) ?_
        simp only [Act.put, List.setIfInBounds_toArray, List.set_cons_zero, List.set_cons_succ]
        refine k_val (.pointer (some ⟨ab, 3, none⟩)) (by apply opN; repeat' (first | apply OpAt.z | apply OpAt.s)) (by rfl) (by rfl) (fun _ W hS => op_idx_a rfl rfl rfl (by decide)) ?_
        simp only [Act.put, List.setIfInBounds_toArray, List.set_cons_zero, List.set_cons_succ]
        refine k_val (.int .i64 a3) (by apply opN; repeat' (first | apply OpAt.z | apply OpAt.s)) (by rfl) (by rfl) (fun _ W hS => op_load_int rfl rfl ((cellAt (hbx.out W hS) 3).trans rfl)) ?_
        simp only [Act.put, List.setIfInBounds_toArray, List.set_cons_zero, List.set_cons_succ]
        refine h_fork ?_ ?_
        · refine k_one (fun K' u => u = .int .i64 k1 ∧ K' = (fun _ => True)) (by apply opN; repeat' (first | apply OpAt.z | apply OpAt.s)) (by rfl) (by rfl) (by rfl) (fun W hC hK => ?_) ?_
          · refine op_x2 rfl rfl rfl rfl (fun _ _ => rfl) ((hp1.out W).mono ?_)
            rintro e W' ⟨rfl, rfl⟩
            exact ⟨_, rfl, hC, _, hK, rfl, rfl⟩
          rintro _ _ ⟨rfl, rfl⟩
          simp only [Act.put, List.setIfInBounds_toArray, List.set_cons_zero, List.set_cons_succ]
          refine h_fork ?_ ?_
          · refine k_one (fun K' u => u = .int .i64 k3 ∧ K' = (fun _ => True)) (by apply opN; repeat' (first | apply OpAt.z | apply OpAt.s)) (by rfl) (by rfl) (by rfl) (fun W hC hK => ?_) ?_
            · refine op_x2 rfl rfl rfl rfl (fun _ _ => rfl) ((hp3.out W).mono ?_)
              rintro e W' ⟨rfl, rfl⟩
              exact ⟨_, rfl, hC, _, hK, rfl, rfl⟩
            rintro _ _ ⟨rfl, rfl⟩
            simp only [Act.put, List.setIfInBounds_toArray, List.set_cons_zero, List.set_cons_succ]
            refine h_fork ?_ ?_
            · refine k_one (fun K' u => ∃ v, u = .agg (RW.scl v Rc Ru) ∧ K' = (fun W => OwnP W n0 v R1)) (by apply opN; repeat' (first | apply OpAt.z | apply OpAt.s)) (by rfl) (by rfl) (by rfl) (fun W hC hK => ?_) ?_
              · refine op_x5 rfl rfl rfl rfl rfl rfl rfl (fun _ _ => rfl) ((hOy.out W (hke.out.next (hn0.out ▸ hC)).2).mono ?_)
                rintro e W' ⟨⟨v, rfl, hv⟩, hB⟩
                exact ⟨_, rfl, Below.trans hC (hB.mono (Nat.le_trans (Nat.le_of_eq hn0.out) (Below.size hC))), _, own_base hv (hn0.out ▸ Below.size hC), v, rfl, rfl⟩
              rintro _ _ ⟨v20, rfl, rfl⟩
              simp only [Act.put, List.setIfInBounds_toArray, List.set_cons_zero, List.set_cons_succ]
              refine k_step (fun K' u => ∃ b, u = .pointer (some ⟨b, 0, none⟩) ∧ K' = (fun W => ShB n0 b W ∧ OwnP W n0 v20 R1)) (by apply opN; repeat' (first | apply OpAt.z | apply OpAt.s)) (by rfl) (by rfl) (by rfl) (fun W hC hK => ?_) ?_
              · rw [op_alloc_sh rfl]
                exact ⟨Below.alloc hC (hn0.out ▸ Below.size hC) _, _, ⟨ShB.new (hn0.out ▸ Below.size hC), own_next hK ((Below.refl _ _).alloc (Nat.le_refl _) _)⟩, W.heap.size, rfl, rfl⟩
              rintro _ _ ⟨b21, rfl, rfl⟩
              simp only [Act.put, List.setIfInBounds_toArray, List.set_cons_zero, List.set_cons_succ]
              refine k_step (fun K' u => u = undef ∧ K' = fun W => ShAt W b21 v20 (R1, Rc, Ru)) (by apply opN; repeat' (first | apply OpAt.z | apply OpAt.s)) (by rfl) (by rfl) (by rfl) (fun W hC hK => ?_) ?_
              · rw [op_store_sh rfl rfl rfl hK.2.parts.one hK.1.2]
                exact ⟨belowSetRow hC hK.1.1 _, _, hK.1.put hK.2, rfl, rfl⟩
              rintro _ _ ⟨rfl, rfl⟩
              simp only [Act.put]
              refine k_nil ?_
              intro W hC hK
              go_wp2
              go_meet
              exact ⟨_, _, rfl, hK, hC⟩
            · refine k_one (fun K' u => ∃ b, u = .pointer (some ⟨b, 0, none⟩) ∧ K' = (fun W => ShB n0 b W)) (by apply opN; repeat' (first | apply OpAt.z | apply OpAt.s)) (by rfl) (by rfl) (by rfl) (fun W hC hK => ?_) ?_
              · rw [op_alloc_sh rfl]
                exact ⟨Below.alloc hC (hn0.out ▸ Below.size hC) _, _, ShB.new (hn0.out ▸ Below.size hC), W.heap.size, rfl, rfl⟩
              rintro _ _ ⟨b23, rfl, rfl⟩
              simp only [Act.put, List.setIfInBounds_toArray, List.set_cons_zero, List.set_cons_succ]
              refine k_step (fun K' u => ∃ v, u = .agg (RW.scl v Rc Ru) ∧ K' = (fun W => ShB n0 b23 W ∧ OwnP W n0 v R1)) (by apply opN; repeat' (first | apply OpAt.z | apply OpAt.s)) (by rfl) (by rfl) (by rfl) (fun W hC hK => ?_) ?_
              · refine op_x5 rfl rfl rfl rfl rfl rfl rfl (fun _ _ => rfl) ((hOy.out W (hke.out.next (hn0.out ▸ hC)).2).mono ?_)
                rintro e W' ⟨⟨v, rfl, hv⟩, hB⟩
                exact ⟨_, rfl, Below.trans hC (hB.mono (Nat.le_trans (Nat.le_of_eq hn0.out) (Below.size hC))), _, ⟨hK.next hB, own_base hv (hn0.out ▸ Below.size hC)⟩, v, rfl, rfl⟩
              rintro _ _ ⟨v24, rfl, rfl⟩
              simp only [Act.put, List.setIfInBounds_toArray, List.set_cons_zero, List.set_cons_succ]
              refine k_step (fun K' u => u = undef ∧ K' = fun W => ShAt W b23 v24 (R1, Rc, Ru)) (by apply opN; repeat' (first | apply OpAt.z | apply OpAt.s)) (by rfl) (by rfl) (by rfl) (fun W hC hK => ?_) ?_
              · rw [op_store_sh rfl rfl rfl hK.2.parts.one hK.1.2]
                exact ⟨belowSetRow hC hK.1.1 _, _, hK.1.put hK.2, rfl, rfl⟩
              rintro _ _ ⟨rfl, rfl⟩
              simp only [Act.put]
              refine k_nil ?_
              intro W hC hK
              go_wp2
              go_meet
              exact ⟨_, _, rfl, hK, hC⟩
          · refine k_one (fun K' u => ∃ b, u = .pointer (some ⟨b, 0, none⟩) ∧ K' = (fun W => ShB n0 b W)) (by apply opN; repeat' (first | apply OpAt.z | apply OpAt.s)) (by rfl) (by rfl) (by rfl) (fun W hC hK => ?_) ?_
            · rw [op_alloc_sh rfl]
              exact ⟨Below.alloc hC (hn0.out ▸ Below.size hC) _, _, ShB.new (hn0.out ▸ Below.size hC), W.heap.size, rfl, rfl⟩
            rintro _ _ ⟨b26, rfl, rfl⟩
            simp only [Act.put, List.setIfInBounds_toArray, List.set_cons_zero, List.set_cons_succ]
            refine k_step (fun K' u => u = .int .i64 k3 ∧ K' = (fun W => ShB n0 b26 W)) (by apply opN; repeat' (first | apply OpAt.z | apply OpAt.s)) (by rfl) (by rfl) (by rfl) (fun W hC hK => ?_) ?_
            · refine op_x2 rfl rfl rfl rfl (fun _ _ => rfl) ((hp3.out W).mono ?_)
              rintro e W' ⟨rfl, rfl⟩
              exact ⟨_, rfl, hC, _, hK, rfl, rfl⟩
            rintro _ _ ⟨rfl, rfl⟩
            simp only [Act.put, List.setIfInBounds_toArray, List.set_cons_zero, List.set_cons_succ]
            refine k_step (fun K' u => ∃ v, u = .agg (RW.scl v Rc Ru) ∧ K' = (fun W => ShB n0 b26 W ∧ OwnP W n0 v R1)) (by apply opN; repeat' (first | apply OpAt.z | apply OpAt.s)) (by rfl) (by rfl) (by rfl) (fun W hC hK => ?_) ?_
            · refine op_x5 rfl rfl rfl rfl rfl rfl rfl (fun _ _ => rfl) ((hOy.out W (hke.out.next (hn0.out ▸ hC)).2).mono ?_)
              rintro e W' ⟨⟨v, rfl, hv⟩, hB⟩
              exact ⟨_, rfl, Below.trans hC (hB.mono (Nat.le_trans (Nat.le_of_eq hn0.out) (Below.size hC))), _, ⟨hK.next hB, own_base hv (hn0.out ▸ Below.size hC)⟩, v, rfl, rfl⟩
            rintro _ _ ⟨v28, rfl, rfl⟩
            simp only [Act.put, List.setIfInBounds_toArray, List.set_cons_zero, List.set_cons_succ]
            refine k_step (fun K' u => u = undef ∧ K' = fun W => ShAt W b26 v28 (R1, Rc, Ru)) (by apply opN; repeat' (first | apply OpAt.z | apply OpAt.s)) (by rfl) (by rfl) (by rfl) (fun W hC hK => ?_) ?_
            · rw [op_store_sh rfl rfl rfl hK.2.parts.one hK.1.2]
              exact ⟨belowSetRow hC hK.1.1 _, _, hK.1.put hK.2, rfl, rfl⟩
            rintro _ _ ⟨rfl, rfl⟩
            simp only [Act.put]
            refine k_nil ?_
            intro W hC hK
            go_wp2
            go_meet
            exact ⟨_, _, rfl, hK, hC⟩
        · refine k_one (fun K' u => ∃ b, u = .pointer (some ⟨b, 0, none⟩) ∧ K' = (fun W => ShB n0 b W)) (by apply opN; repeat' (first | apply OpAt.z | apply OpAt.s)) (by rfl) (by rfl) (by rfl) (fun W hC hK => ?_) ?_
          · rw [op_alloc_sh rfl]
            exact ⟨Below.alloc hC (hn0.out ▸ Below.size hC) _, _, ShB.new (hn0.out ▸ Below.size hC), W.heap.size, rfl, rfl⟩
          rintro _ _ ⟨b30, rfl, rfl⟩
          simp only [Act.put, List.setIfInBounds_toArray, List.set_cons_zero, List.set_cons_succ]
          refine k_step (fun K' u => u = .int .i64 k1 ∧ K' = (fun W => ShB n0 b30 W)) (by apply opN; repeat' (first | apply OpAt.z | apply OpAt.s)) (by rfl) (by rfl) (by rfl) (fun W hC hK => ?_) ?_
          · refine op_x2 rfl rfl rfl rfl (fun _ _ => rfl) ((hp1.out W).mono ?_)
            rintro e W' ⟨rfl, rfl⟩
            exact ⟨_, rfl, hC, _, hK, rfl, rfl⟩
          rintro _ _ ⟨rfl, rfl⟩
          simp only [Act.put, List.setIfInBounds_toArray, List.set_cons_zero, List.set_cons_succ]
          refine k_step (fun K' u => u = .int .i64 k3 ∧ K' = (fun W => ShB n0 b30 W)) (by apply opN; repeat' (first | apply OpAt.z | apply OpAt.s)) (by rfl) (by rfl) (by rfl) (fun W hC hK => ?_) ?_
          · refine op_x2 rfl rfl rfl rfl (fun _ _ => rfl) ((hp3.out W).mono ?_)
            rintro e W' ⟨rfl, rfl⟩
            exact ⟨_, rfl, hC, _, hK, rfl, rfl⟩
          rintro _ _ ⟨rfl, rfl⟩
          simp only [Act.put, List.setIfInBounds_toArray, List.set_cons_zero, List.set_cons_succ]
          refine k_step (fun K' u => ∃ v, u = .agg (RW.scl v Rc Ru) ∧ K' = (fun W => ShB n0 b30 W ∧ OwnP W n0 v R1)) (by apply opN; repeat' (first | apply OpAt.z | apply OpAt.s)) (by rfl) (by rfl) (by rfl) (fun W hC hK => ?_) ?_
          · refine op_x5 rfl rfl rfl rfl rfl rfl rfl (fun _ _ => rfl) ((hOy.out W (hke.out.next (hn0.out ▸ hC)).2).mono ?_)
            rintro e W' ⟨⟨v, rfl, hv⟩, hB⟩
            exact ⟨_, rfl, Below.trans hC (hB.mono (Nat.le_trans (Nat.le_of_eq hn0.out) (Below.size hC))), _, ⟨hK.next hB, own_base hv (hn0.out ▸ Below.size hC)⟩, v, rfl, rfl⟩
          rintro _ _ ⟨v33, rfl, rfl⟩
          simp only [Act.put, List.setIfInBounds_toArray, List.set_cons_zero, List.set_cons_succ]
          refine k_step (fun K' u => u = undef ∧ K' = fun W => ShAt W b30 v33 (R1, Rc, Ru)) (by apply opN; repeat' (first | apply OpAt.z | apply OpAt.s)) (by rfl) (by rfl) (by rfl) (fun W hC hK => ?_) ?_
          · rw [op_store_sh rfl rfl rfl hK.2.parts.one hK.1.2]
            exact ⟨belowSetRow hC hK.1.1 _, _, hK.1.put hK.2, rfl, rfl⟩
          rintro _ _ ⟨rfl, rfl⟩
          simp only [Act.put]
          refine k_nil ?_
          intro W hC hK
          go_wp2
          go_meet
          exact ⟨_, _, rfl, hK, hC⟩
      case rest =>
      obtain ⟨by', vy, rfl, hsy, hBc⟩ := hcut
      have hBc' : Below wq.heap.size wq wc := hn0.out ▸ hBc
      have hBw2 := hide (hBw1.out.trans (hBc'.mono (by rw [habH.out]; exact hBw1.out.size)))
      have hsx2 := hide (hsxH.out.next hBc')
      have hsyH := hide hsy
      clear hke hbx hn0 hBc hBc' hsy hke1 hbx1 hBw1 hsxH hOx hOy hp0 hp1 hp2 hp3
      have hlx := hsx2.out.ld
      have hly := hsyH.out.ld
      have hSxy := hide (fun W (h1 : PartsV W vx R1) (h2 : PartsV W vy R1) => same_true vx vy R1 Rc Ru hRl.out W h1 h2)
      obtain ⟨wp, hwp⟩ : ∃ wp, wp = wc := ⟨_, rfl⟩
      subst hwp
      by_cases h12 : one = two
      · have h12b : (one == two) = true := by simp [h12]
        clear h12
        go_wp2_with (go_at_call 16; refine (hSxy.out _ hsx2.out.parts hsyH.out.parts).mono ?_; rintro e w9 ⟨rfl, hB9⟩; have hB9H := hide (hBw2.out.trans (hB9.mono (by rw [habH.out]; exact hBw2.out.size))); clear hB9)
        go_ret
        exact ⟨rfl, habH.out ▸ hB9H.out⟩
      · have h12b : (one == two) = false := by simp [h12]
        have hOb := hide (fun sb W (h : FactsV W (.slice (some ⟨sb, 0, none⟩) 2 2) (RW.twoF one two 1000000)) => of_any (RW.bcl (.slice (some ⟨sb, 0, none⟩) 2 2)) _ (RW.twoF one two 1000000) 3 1 0 0 rfl rfl (show (2 : Nat) ≤ 1000000 by decide) W h)
        have hOl := hide (fun sb W (h : FactsV W (.slice (some ⟨sb, 0, none⟩) 2 2) (RW.twoF one two 0)) => of_any (RW.bcl (.slice (some ⟨sb, 0, none⟩) 2 2)) _ (RW.twoF one two 0) 3 1 0 0 rfl rfl (show (2 : Nat) ≤ 1000000 by decide) W h)
        rw [RW.wd_both h12] at hOb
        rw [RW.wd_left] at hOl
        have hBp := hide (Below.refl wp.heap.size wp)
        have tok1 : True := trivial
        have hC1 := hide (fun W => claim_any 1 one 1000000 W)
        have hC2 := hide (fun W => claim_any 2 two 1000000 W)
        have hC3 := hide (fun W => claim_any 2 two 0 W)
        obtain ⟨X1, hX1⟩ : ∃ X, X = RW.fcells (RW.claimF 1 one 1000000) ⟨#[]⟩ := ⟨_, rfl⟩
        obtain ⟨X2, hX2⟩ : ∃ X, X = RW.fcells (RW.claimF 2 two 1000000) ⟨#[]⟩ := ⟨_, rfl⟩
        obtain ⟨X3, hX3⟩ : ∃ X, X = RW.fcells (RW.claimF 2 two 0) ⟨#[]⟩ := ⟨_, rfl⟩
        rw [← hX1] at hC1
        rw [← hX2] at hC2
        rw [← hX3] at hC3
        have hX1s : X1.size = 18 := by rw [hX1]; rfl
        have hX2s : X2.size = 18 := by rw [hX2]; rfl
        have hX3s : X3.size = 18 := by rw [hX3]; rfl
        have hfd1 := fold_two1 (RW.claimF 1 one 1000000, ⟨#[]⟩)
        have hfd2 := fold_two2 (RW.claimF 1 one 1000000, ⟨#[]⟩) (RW.claimF 2 two 1000000, ⟨#[]⟩)
        have hfd3 := fold_two2 (RW.claimF 1 one 1000000, ⟨#[]⟩) (RW.claimF 2 two 0, ⟨#[]⟩)
        obtain ⟨Y1, hY1⟩ : ∃ Y, Y = (RW.fce (RW.claimF 1 one 1000000, ⟨#[]⟩) ++ ([.int .i64 0, .int .i64 0, .int .i64 0, .int .i64 0, .int .i64 0, .int .i64 0, .int .i64 0, .int .i64 0, .int .i64 0, .int .i64 0, .int .i64 0, .int .i64 0, .int .i64 0, .int .i64 0, .int .i64 0, .int .i64 0, .int .i64 0, .string ⟨#[]⟩] : List Value)).toArray := ⟨_, rfl⟩
        have hY1s : Y1.size = 36 := by rw [hY1]; rfl
        rw [← hY1] at hfd1 hfd2 hfd3
        rw [show (RW.fce (RW.claimF 1 one 1000000, ⟨#[]⟩)).toArray = X1 from hX1.symm] at hfd1
        rw [show (RW.fce (RW.claimF 2 two 1000000, ⟨#[]⟩)).toArray = X2 from hX2.symm] at hfd2
        rw [show (RW.fce (RW.claimF 2 two 0, ⟨#[]⟩)).toArray = X3 from hX3.symm] at hfd3
        obtain ⟨Y2, hY2⟩ : ∃ Y, Y = (rowCells RW.fce (RW.twoF one two 1000000)).toArray := ⟨_, rfl⟩
        obtain ⟨Y3, hY3⟩ : ∃ Y, Y = (rowCells RW.fce (RW.twoF one two 0)).toArray := ⟨_, rfl⟩
        rw [show (rowCells RW.fce [(RW.claimF 1 one 1000000, ⟨#[]⟩), (RW.claimF 2 two 1000000, ⟨#[]⟩)]).toArray = Y2 from hY2.symm] at hfd2
        rw [show (rowCells RW.fce [(RW.claimF 1 one 1000000, ⟨#[]⟩), (RW.claimF 2 two 0, ⟨#[]⟩)]).toArray = Y3 from hY3.symm] at hfd3
        have hft2 := hide (fun W => facts_two W one two 1000000)
        have hft3 := hide (fun W => facts_two W one two 0)
        rw [← hY2] at hft2
        rw [← hY3] at hft3
        have hX1H := hide hX1
        have hX2H := hide hX2
        have hX3H := hide hX3
        clear h12 hX1 hX2 hX3 hY1 hY2 hY3
        go_upto_region 12 with (first
          | (go_at_call 26; have _t := tok1; refine (hC1.out _).mono ?_; rintro e wa ⟨rfl, hBa⟩; have hBaH := hide hBa; clear hBa tok1)
          | (go_at_call 26; refine (hC2.out _).mono ?_; rintro e wb ⟨rfl, hBb⟩; have hBbH := hide ((hBaH.out.trans (hBb.mono hBaH.out.size)).alloc (Nat.le_trans hBaH.out.size hBb.size) (.cells Y2 43)); clear hBb)
          | (go_at_call 17; refine (hOb.out _ _ (hft2.out _)).mono ?_; rintro e w14 ⟨⟨vb, rfl, hvb⟩, hBo⟩; have hB14 := hide (hBbH.out.trans (hBo.mono hBbH.out.size)); obtain ⟨pb, cb, rfl⟩ : ∃ p c, vb = .slice p 0 c := (by obtain ⟨p, c, e, _⟩ := hvb.parts; exact ⟨p, c, e⟩); clear hvb hBo)
          | (refine wpListStoreNew rfl 32 (.tmp 14) (.tmp 75) rfl (RW.scl (.slice pb 0 cb) 1000000 0) rfl rfl 32 _ (shares_size _ _ _) rfl (shares_one _ _ _ rfl) ?_))
        obtain ⟨b14, hb14⟩ : ∃ b, b = w14.heap.size := ⟨_, rfl⟩
        have hA14 := hide (hB14.out.alloc hB14.out.size (.cells (RW.scl (.slice pb 0 cb) 1000000 0) 32))
        refine gen_w (fun W => ShAt W bx vx (R1, Rc, Ru) ∧ ShAt W by' vy (R1, Rc, Ru) ∧ W.heap[b14]? = some (.cells (RW.scl (.slice pb 0 cb) 1000000 0) 32 (0, 0)) ∧ Below ab w W) ⟨hsx2.out.next hA14.out, hsyH.out.next hA14.out, newAt hb14, hBw2.out.trans (hA14.out.mono (by rw [habH.out]; exact hBw2.out.size))⟩ ?_
        rw [← hb14]
        clear hb14 hA14 hB14 hBbH hBaH hsx2 hsyH hBw2 hBp hlx hly hOb
        rintro w15 ⟨g1, g2, g3, g4⟩
        have hx15 := hide g1
        have hy15 := hide g2
        have h15 := hide g3
        have hB15 := hide g4
        clear g1 g2 g3 g4
        have tok2 : True := trivial
        go_upto_region 13 with (first
          | (go_at_call 26; have _t := tok2; refine (hC1.out _).mono ?_; rintro e wa ⟨rfl, hBa⟩; have hBaH := hide hBa; clear hBa tok2)
          | (go_at_call 26; refine (hC3.out _).mono ?_; rintro e wb ⟨rfl, hBb⟩; have hBbH := hide ((hBaH.out.trans (hBb.mono hBaH.out.size)).alloc (Nat.le_trans hBaH.out.size hBb.size) (.cells Y3 43)); clear hBb)
          | (go_at_call 17; refine (hOl.out _ _ (hft3.out _)).mono ?_; rintro e w16 ⟨⟨vl, rfl, hvl⟩, hBo⟩; have hB16 := hide (hBbH.out.trans (hBo.mono hBbH.out.size)); have hvlH := hide hvl.parts; clear hvl hBo)
          | (refine wpListStoreNew rfl 32 (.tmp 15) (.tmp 82) rfl (RW.scl vl 0 0) rfl rfl 32 _ (shares_size _ _ _) rfl (shares_one _ _ _ hvlH.out.one) ?_))
        obtain ⟨b15, hb15⟩ : ∃ b, b = w16.heap.size := ⟨_, rfl⟩
        have hA16 := hide (hB16.out.alloc hB16.out.size (.cells (RW.scl vl 0 0) 32))
        refine gen_w (fun W => ShAt W bx vx (R1, Rc, Ru) ∧ ShAt W by' vy (R1, Rc, Ru) ∧ W.heap[b14]? = some (.cells (RW.scl (.slice pb 0 cb) 1000000 0) 32 (0, 0)) ∧ ShAt W b15 vl ([(one, 1000000)], 0, 0) ∧ Below ab w W) ⟨hx15.out.next hA16.out, hy15.out.next hA16.out, (hA16.out.block _ (Array.getElem?_eq_some_iff.1 h15.out).1).trans h15.out, by rw [hb15]; exact ShAt.new (s := ([(one, 1000000)], 0, 0)) hvlH.out, hB15.out.trans (hA16.out.mono (by rw [habH.out]; exact hB15.out.size))⟩ ?_
        rw [← hb15]
        clear hb15 hA16 hB16 hBbH hBaH hx15 hy15 h15 hB15 hvlH hOl hClm
        rintro w17 ⟨g1, g2, g3, g5, g4⟩
        have hlx := g1.ld
        have hly := g2.ld
        have hx17 := hide g1.parts
        have hy17 := hide g2.parts
        have h17 := hide g3
        have hl17 := hide g5
        have hB17 := hide g4
        have hSl := hide (fun u W (h1 : PartsV W vl [(one, 1000000)]) (h2 : PartsV W u [(one, 1000000)]) => same_true vl u [(one, 1000000)] 0 0 (show (1 : Nat) ≤ 1000000 by decide) W h1 h2)
        have tok3 : True := trivial
        clear g1 g2 g3 g4 g5
        go_wp2_with (first
          | (go_at_call 16; have _t := tok3; refine (hSxy.out _ hx17.out hy17.out).mono ?_; rintro e w18 ⟨rfl, hB18⟩; have hl18 := hl17.out.next hB18; have hl15 := hl18.ld; have hl18H := hide hl18.parts; have h18 := (hB18.block _ (Array.getElem?_eq_some_iff.1 h17.out).1).trans h17.out; have c0 : w18.cell? ⟨b14, 0, none⟩ = some (.slice pb 0 cb) := cellAt h18 0; have c1 : w18.cell? ⟨b14, 1, none⟩ = some (.int .i64 1000000) := cellAt h18 1; have hBw18 := hide (hB17.out.trans (hB18.mono (by rw [habH.out]; exact hB17.out.size))); clear hl18 h18 hB18 tok3 hlx hly)
          | (go_at_call 16; refine (hSl.out _ _ (hl18H.out.next ((Below.refl _ _).alloc (Nat.le_refl _) _)) (parts_lit _ [(one, 1000000)])).mono ?_; rintro e w19 ⟨rfl, hB19⟩; have hB19H := hide ((hBw18.out.alloc (by rw [habH.out]; exact hBw18.out.size) (.cells (rowCells RW.pcl [(one, 1000000)]).toArray 39)).trans (hB19.mono (by rw [habH.out]; exact Nat.le_trans hBw18.out.size (by simp)))); clear hB19))
        go_ret
        exact ⟨rfl, habH.out ▸ hB19H.out⟩
    · have hc' : j < n ∧ j < 10 := of_decide_eq_true hcH.out.symm
      obtain ⟨hlt, hj10⟩ := hc'
      obtain ⟨x, hx⟩ : ∃ x, l[j]? = some x := ⟨_, List.getElem?_eq_getElem (by rw [← hnH.out]; exact hlt)⟩
      obtain ⟨b, o, rfl, hb, hcx⟩ := havH.out.resolve_left (by rintro rfl; simp at hx)
      have hc0 := hide (fun W (h : Below bd w1 W) => (World.cell?_of_block (a := ⟨b, o + j * 2 + 0, none⟩) (h.block _ (hbdH.out ▸ hb))).trans (hcx j x hx 0 _ rfl))
      have hc1 := hide (fun W (h : Below bd w1 W) => (World.cell?_of_block (a := ⟨b, o + j * 2 + 1, none⟩) (h.block _ (hbdH.out ▸ hb))).trans (hcx j x hx 1 _ rfl))
      obtain ⟨q, hq⟩ : ∃ q : RW.Fc, q = (RW.claimF j x.1 x.2, ⟨#[]⟩) := ⟨_, rfl⟩
      have hClx := hide (fun W => claim_any (j : Int) x.1 x.2 W)
      rw [show RW.fcells (RW.claimF (j : Int) x.1 x.2) ⟨#[]⟩ = (RW.fce q).toArray by rw [hq]; rfl] at hClx
      have hFA2 := hide (show RW.AllC ((Fl ++ [q]).map (·.1)) by
        rw [List.map_append, List.map_singleton, hq]
        intro f hf
        rcases List.mem_append.1 hf with h | h
        · exact hFAH.out f h
        · rw [List.mem_singleton] at h
          exact ⟨_, _, _, h⟩)
      have hln := hide (show Fl.length + 1 ≤ 1000000 by have := hFjH.out; omega)
      clear hb hcx hx hq hcH
      go_upto_region 6 with fail
      refine wp_region_k (fun g W => Below bd w1 W ∧ (17 ∉ g → W.heap[bd]? = some (.cells (RW.bcl (.slice az nz cz)) 25 (0, 0)))) (fun W => OrdD w1 bd Fl (.slice az nz cz) W) [13, 14, 15, 17] (.op 0 (.op 1 (.op 2 (.op 3 (.op 4 (.op 5 (.op 6 (.op 7 (.op 8 (.op 9 (.op 10 (.op 11 (.op 12 (.op 13 (.op 14 (.op 15 (.op 16 (.op 17 .nil)))))))))))))))))) (by kernel_rfl) (by kernel_rfl) (by rfl) (by kernel_rfl) ⟨(hzH.out.next ((Below.refl _ _).drew)).below, fun _ => (hzH.out.next ((Below.refl _ _).drew)).row⟩ (hzH.out.next ((Below.refl _ _).drew)) ?_
      refine k_val (.pointer (some ⟨bd, 2, none⟩)) (by apply opN; repeat' (first | apply OpAt.z | apply OpAt.s)) (by rfl) (by rfl) (fun _ W hS => op_fa_b2 rfl rfl) ?_
      simp only [Act.put, List.setIfInBounds_toArray, List.set_cons_zero, List.set_cons_succ]
      refine k_bef 17 (.slice az nz cz) (by apply opN; repeat' (first | apply OpAt.z | apply OpAt.s)) (by rfl) (by rfl) (by decide +kernel) (by rfl) (fun g W hg hS => op_load_fs rfl rfl ((cellAt (hS.2 hg) 2).trans rfl)) ?_
      simp only [Act.put, List.setIfInBounds_toArray, List.set_cons_zero, List.set_cons_succ]
      refine k_val (.int .i64 (j : Int)) (by apply opN; repeat' (first | apply OpAt.z | apply OpAt.s)) (by rfl) (by rfl) (fun _ W hS => op_mv rfl rfl) ?_
      simp only [Act.put, List.setIfInBounds_toArray, List.set_cons_zero, List.set_cons_succ]
      refine k_val (.slice (some ⟨b, o, none⟩) n cv) (by apply opN; repeat' (first | apply OpAt.z | apply OpAt.s)) (by rfl) (by rfl) (fun _ W hS => op_mv rfl rfl) ?_
      simp only [Act.put, List.setIfInBounds_toArray, List.set_cons_zero, List.set_cons_succ]
      refine k_val (.int .i64 (j : Int)) (by apply opN; repeat' (first | apply OpAt.z | apply OpAt.s)) (by rfl) (by rfl) (fun _ W hS => op_mv rfl rfl) ?_
      simp only [Act.put, List.setIfInBounds_toArray, List.set_cons_zero, List.set_cons_succ]
      refine k_val (.pointer (some ⟨b, o + j * 2, none⟩)) (by apply opN; repeat' (first | apply OpAt.z | apply OpAt.s)) (by rfl) (by rfl) (fun _ W hS => op_idx_p rfl rfl rfl hlt) ?_
      simp only [Act.put, List.setIfInBounds_toArray, List.set_cons_zero, List.set_cons_succ]
      refine k_val (.pointer (some ⟨b, o + j * 2, none⟩)) (by apply opN; repeat' (first | apply OpAt.z | apply OpAt.s)) (by rfl) (by rfl) (fun _ W hS => op_fa_p0 rfl rfl) ?_
      simp only [Act.put, List.setIfInBounds_toArray, List.set_cons_zero, List.set_cons_succ]
      refine k_val (.int .i64 x.1) (by apply opN; repeat' (first | apply OpAt.z | apply OpAt.s)) (by rfl) (by rfl) (fun _ W hS => op_load_int rfl rfl (hc0.out W hS.1)) ?_
      simp only [Act.put, List.setIfInBounds_toArray, List.set_cons_zero, List.set_cons_succ]
      refine k_val (.slice (some ⟨b, o, none⟩) n cv) (by apply opN; repeat' (first | apply OpAt.z | apply OpAt.s)) (by rfl) (by rfl) (fun _ W hS => op_mv rfl rfl) ?_
      simp only [Act.put, List.setIfInBounds_toArray, List.set_cons_zero, List.set_cons_succ]
      refine k_val (.int .i64 (j : Int)) (by apply opN; repeat' (first | apply OpAt.z | apply OpAt.s)) (by rfl) (by rfl) (fun _ W hS => op_mv rfl rfl) ?_
      simp only [Act.put, List.setIfInBounds_toArray, List.set_cons_zero, List.set_cons_succ]
      refine k_val (.pointer (some ⟨b, o + j * 2, none⟩)) (by apply opN; repeat' (first | apply OpAt.z | apply OpAt.s)) (by rfl) (by rfl) (fun _ W hS => op_idx_p rfl rfl rfl hlt) ?_
      simp only [Act.put, List.setIfInBounds_toArray, List.set_cons_zero, List.set_cons_succ]
      refine k_val (.pointer (some ⟨b, o + j * 2 + 1, none⟩)) (by apply opN; repeat' (first | apply OpAt.z | apply OpAt.s)) (by rfl) (by rfl) (fun _ W hS => op_fa_p1 rfl rfl) ?_
      simp only [Act.put, List.setIfInBounds_toArray, List.set_cons_zero, List.set_cons_succ]
      refine k_val (.int .i64 x.2) (by apply opN; repeat' (first | apply OpAt.z | apply OpAt.s)) (by rfl) (by rfl) (fun _ W hS => op_load_int rfl rfl (hc1.out W hS.1)) ?_
      simp only [Act.put, List.setIfInBounds_toArray, List.set_cons_zero, List.set_cons_succ]
      refine k_step (fun K' u => u = .agg (RW.fce q).toArray ∧ K' = fun W => OrdD w1 bd Fl (.slice az nz cz) W) (by apply opN; repeat' (first | apply OpAt.z | apply OpAt.s)) (by rfl) (by rfl) (by rfl) (fun W hC hK => ?_) ?_
      · refine op_x3 rfl rfl rfl rfl rfl (fun _ _ => rfl) ((hClx.out W).mono ?_)
        rintro e W' ⟨rfl, hB⟩
        exact ⟨_, rfl, ⟨(hK.next hB).below, fun _ => (hK.next hB).row⟩, _, hK.next hB, rfl, rfl⟩
      rintro _ _ ⟨rfl, rfl⟩
      simp only [Act.put, List.setIfInBounds_toArray, List.set_cons_zero, List.set_cons_succ]
      refine k_step (fun K' u => ∃ g, u = .slice (some ⟨g, 0, none⟩) 1 1 ∧ K' = fun W => OrdD w1 bd Fl (.slice az nz cz) W ∧ FactsV W u [q]) (by apply opN; repeat' (first | apply OpAt.z | apply OpAt.s)) (by rfl) (by rfl) (by rfl) (fun W hC hK => ?_) ?_
      · rw [op_bs_f rfl rfl]
        have hA := (Below.refl W.heap.size W).alloc (Nat.le_refl _) (.cells (RW.fce q).toArray 43)
        have hl : FactsV (W.alloc (.cells (rowCells RW.fce [q]).toArray 43)) (.slice (some ⟨W.heap.size, 0, none⟩) 1 1) [q] := rows_lit W 43 fcl_len [q]
        rw [show rowCells RW.fce [q] = RW.fce q by rw [rowCells, List.flatMap_cons, List.flatMap_nil, List.append_nil]] at hl
        exact ⟨⟨(hK.next hA).below, fun _ => (hK.next hA).row⟩, _, ⟨hK.next hA, hl⟩, W.heap.size, rfl, rfl⟩
      rintro _ _ ⟨g7, rfl, rfl⟩
      simp only [Act.put, List.setIfInBounds_toArray, List.set_cons_zero, List.set_cons_succ]
      refine k_step (fun K' u => ∃ a n c, u = .slice a n c ∧ K' = fun W => OwnF W (bd + 1) u (Fl ++ [q]) ∧ W.heap[bd]? = some (.cells (RW.bcl (.slice az nz cz)) 25 (0, 0)) ∧ Below bd w1 W) (by apply opN; repeat' (first | apply OpAt.z | apply OpAt.s)) (by rfl) (by rfl) (by rfl) (fun W hC hK => ?_) ?_
      · obtain ⟨a, n, c, W2, h1, h2, h3, h4, h5⟩ := hK.1.app hK.2 hln.out 22
        rw [op_app rfl rfl rfl h1]
        exact ⟨⟨h4, fun _ => h3⟩, _, ⟨h2, h3, h4⟩, a, n, c, rfl, rfl⟩
      rintro _ _ ⟨a8, n8, c8, rfl, rfl⟩
      simp only [Act.put, List.setIfInBounds_toArray, List.set_cons_zero, List.set_cons_succ]
      refine k_val (.pointer (some ⟨bd, 2, none⟩)) (by apply opN; repeat' (first | apply OpAt.z | apply OpAt.s)) (by rfl) (by rfl) (fun _ W hS => op_fa_b2 rfl rfl) ?_
      simp only [Act.put, List.setIfInBounds_toArray, List.set_cons_zero, List.set_cons_succ]
      refine k_step (fun K' u => u = undef ∧ K' = fun W => OrdD w1 bd (Fl ++ [q]) (.slice a8 n8 c8) W) (by apply opN; repeat' (first | apply OpAt.z | apply OpAt.s)) (by rfl) (by rfl) (by rfl) (fun W hC hK => ?_) ?_
      · rw [op_store_fs rfl rfl rfl ((cellAt hK.2.1 2).trans rfl) (by simp [World.frozen?, hK.2.1])]
        exact ⟨⟨(OrdD.put hK.2.1 hK.1 hK.2.2).below, fun h => absurd (by simp) h⟩, _, OrdD.put hK.2.1 hK.1 hK.2.2, rfl, rfl⟩
      rintro _ _ ⟨rfl, rfl⟩
      simp only [Act.put]
      refine k_nil ?_
      intro W hC hK
      have hKH := hide hK
      clear hK hC
      go_wp2
      go_roundw
      case rel => exact ⟨j + 1, by go_num, by omega, Fl ++ [q], _, hKH.out, by rw [List.length_append, hFjH.out]; rfl, hFA2.out⟩
      case measure => simp [intOf]; omega
end Go.Proofs.Ytnkdpfkmellpcaa
