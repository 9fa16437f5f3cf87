/-
  Package royaltylaw12: SplitMatchesReference: it returns true; only new memory is written.
-/
import Derived.Test.YtnkdpfkmellpcaaSp23
import Derived.Test.YtnkdpfkmellpcaaSp14
import Derived.Test.YtnkdpfkmellpcaaStg3
import Derived.Test.YtnkdpfkmellpcaaSpB
namespace Go.Proofs.Ytnkdpfkmellpcaa
open Go.RowKit RG
set_option maxRecDepth 10000 in
set_option maxHeartbeats 2000000 in
theorem splitmatches_any (v : Value) (l : List RW.Fc) (r ro t p : Int) (hl : l.length ≤ 9223372036854775807) (w : World) (hv : FactsV w v l) :
    Calls Try.prog 3 #[v, .int .i64 r, .int .i64 ro, .int .i64 t, .int .i64 p] w fun e w' => e = .returned (.bool true) ∧ Below w.heap.size w w' := by
  obtain ⟨L, hL⟩ : ∃ L, L = l.take 30 := ⟨_, rfl⟩
  have hLn : L.length ≤ 30 := by rw [hL, List.length_take]; omega
  have hS := hide (sane_any w)
  have hC := hide (fun W (h : FactsV W v l) => cut_any v l hl W h)
  rw [← hL] at hC
  have hvH := hide hv
  have hLnH := hide hLn
  clear hv hL hl hLn
  go_enter Try.func3, Try.ntmps3
  go_upto_region 3 with (first
    | (go_at_call 11; refine hS.out.mono ?_; rintro e w1 ⟨rfl, hB1⟩; have hB1H := hide hB1; clear hB1)
    | (go_at_call 12; refine (hC.out _ (hvH.out.next hB1H.out)).mono ?_; rintro e w2 ⟨⟨v2, rfl, hO2⟩, hB2⟩; have hO2H := hide hO2; have hB2H := hide (hB1H.out.trans (hB2.mono hB1H.out.size)); clear hO2 hB2)
    | (refine wpListStoreNew rfl 25 (.tmp 12) (.tmp 15) rfl (RW.bcl v2) rfl rfl 25 _ (base_size _) rfl (base_one _ hO2H.out.facts.one) ?_))
  obtain ⟨bb, hbb⟩ : ∃ b, b = w2.heap.size := ⟨_, rfl⟩
  have hA2 := (Below.refl w2.heap.size w2).alloc (Nat.le_refl _) (.cells (RW.bcl v2) 25)
  refine gen_w (fun W => KE v2 L bb W ∧ Below w.heap.size w W) ⟨⟨newAt hbb, hO2H.out.facts.next hA2⟩, hB2H.out.alloc hB2H.out.size _⟩ ?_
  rw [← hbb]
  clear hbb hA2 hO2H hB2H hB1H hC hS hvH
  rintro w3 ⟨hk3, hB3⟩
  have hk := hide hk3
  have hB3H := hide hB3
  obtain ⟨n0, hn0e⟩ : ∃ n, n = w3.heap.size := ⟨_, rfl⟩
  have hn0 := hide hn0e
  obtain ⟨cl, hcl⟩ : ∃ cl, cl = RW.claimsL r ro t p (L.map (·.1)) := ⟨_, rfl⟩
  obtain ⟨R, hR⟩ : ∃ R, R = RW.resolve cl := ⟨_, rfl⟩
  have hL6 : L.length ≤ 1000000 := Nat.le_trans hLnH.out (by decide)
  have hL4 : L.length ≤ 400000 := Nat.le_trans hLnH.out (by decide)
  have hCl := hide (fun W (h : FactsV W v2 L) => claims_any (RW.bcl v2) v2 L r ro t p rfl hL6 W h)
  have hCr := hide (fun W (h : FactsV W v2 L) => rclaims_any (RW.bcl v2) v2 L r ro t p rfl hL4 W h)
  have hOf := hide (fun W (h : FactsV W v2 L) => of_any (RW.bcl v2) v2 L r ro t p rfl rfl hL6 W h)
  have hOr := hide (fun W (h : FactsV W v2 L) => rof_any (RW.bcl v2) v2 L r ro t p rfl rfl hL4 W h)
  rw [← hcl] at hCl hCr hOf hOr
  rw [← hR] at hOf hOr
  have hcn := RW.claims_len r ro t p (L.map (·.1))
  rw [List.length_map, ← hcl] at hcn
  have hcl6 := hide (show cl.length ≤ 1000000 from Nat.le_trans hcn hL6)
  have hRl := hide (show R.1.length ≤ 1000000 by rw [hR]; exact rlen cl hcl6.out)
  clear hk3 hB3 hn0e hcl hR hcn hL6 hL4 hLnH
  obtain ⟨R1, Rc, Ru⟩ := R
  simp only [Act.put]
  refine wp_region_k (fun _ W => Below n0 w3 W) (fun _ => True) [7, 13, 14, 22, 28, 29] (.op 0 (.op 1 (.op 2 (.op 3 (.op 4 (.op 5 (.op 6 (.op 8 (.op 9 (.op 10 (.op 11 (.op 12 (.op 7 (.op 13 (.op 14 (.op 15 (.op 16 (.op 17 (.op 18 (.op 19 (.op 20 (.op 21 (.op 23 (.op 24 (.op 25 (.op 26 (.op 27 (.op 22 (.op 28 (.op 29 (.op 30 (.op 31 .nil)))))))))))))))))))))))))))))))) (by kernel_rfl) (by kernel_rfl) (by rfl) (by kernel_rfl) ((Below.refl _ _).drew) trivial ?_
  refine k_val (.bool true) (by apply opN; repeat' (first | apply OpAt.z | apply OpAt.s)) (by rfl) (by rfl) (fun _ W hS => op_mv rfl rfl) ?_
  simp only [Act.put, List.setIfInBounds_toArray, List.set_cons_zero, List.set_cons_succ]
  refine k_val (.bool true) (by apply opN; repeat' (first | apply OpAt.z | apply OpAt.s)) (by rfl) (by rfl) (fun _ W hS => op_mv rfl rfl) ?_
  simp only [Act.put, List.setIfInBounds_toArray, List.set_cons_zero, List.set_cons_succ]
  refine k_val (.agg (RW.bcl v2)) (by apply opN; repeat' (first | apply OpAt.z | apply OpAt.s)) (by rfl) (by rfl) (fun _ W hS => op_load_base rfl rfl (hk.out.next (hn0.out ▸ hS))) ?_
  simp only [Act.put, List.setIfInBounds_toArray, List.set_cons_zero, List.set_cons_succ]
  refine k_val (.int .i64 r) (by apply opN; repeat' (first | apply OpAt.z | apply OpAt.s)) (by rfl) (by rfl) (fun _ W hS => op_mv rfl rfl) ?_
  simp only [Act.put, List.setIfInBounds_toArray, List.set_cons_zero, List.set_cons_succ]
  refine k_val (.int .i64 ro) (by apply opN; repeat' (first | apply OpAt.z | apply OpAt.s)) (by rfl) (by rfl) (fun _ W hS => op_mv rfl rfl) ?_
  simp only [Act.put, List.setIfInBounds_toArray, List.set_cons_zero, List.set_cons_succ]
  refine k_val (.int .i64 t) (by apply opN; repeat' (first | apply OpAt.z | apply OpAt.s)) (by rfl) (by rfl) (fun _ W hS => op_mv rfl rfl) ?_
  simp only [Act.put, List.setIfInBounds_toArray, List.set_cons_zero, List.set_cons_succ]
  refine k_val (.int .i64 p) (by apply opN; repeat' (first | apply OpAt.z | apply OpAt.s)) (by rfl) (by rfl) (fun _ W hS => op_mv rfl rfl) ?_
  simp only [Act.put, List.setIfInBounds_toArray, List.set_cons_zero, List.set_cons_succ]
  refine k_val (.agg (RW.bcl v2)) (by apply opN; repeat' (first | apply OpAt.z | apply OpAt.s)) (by rfl) (by rfl) (fun _ W hS => op_load_base rfl rfl (hk.out.next (hn0.out ▸ hS))) ?_
  simp only [Act.put, List.setIfInBounds_toArray, List.set_cons_zero, List.set_cons_succ]
  refine k_val (.int .i64 r) (by apply opN; repeat' (first | apply OpAt.z | apply OpAt.s)) (by rfl) (by rfl) (fun _ W hS => op_mv rfl rfl) ?_
  simp only [Act.put, List.setIfInBounds_toArray, List.set_cons_zero, List.set_cons_succ]
  refine k_val (.int .i64 ro) (by apply opN; repeat' (first | apply OpAt.z | apply OpAt.s)) (by rfl) (by rfl) (fun _ W hS => op_mv rfl rfl) ?_
  simp only [Act.put, List.setIfInBounds_toArray, List.set_cons_zero, List.set_cons_succ]
  refine k_val (.int .i64 t) (by apply opN; repeat' (first | apply OpAt.z | apply OpAt.s)) (by rfl) (by rfl) (fun _ W hS => op_mv rfl rfl) ?_
  simp only [Act.put, List.setIfInBounds_toArray, List.set_cons_zero, List.set_cons_succ]
  refine k_val (.int .i64 p) (by apply opN; repeat' (first | apply OpAt.z | apply OpAt.s)) (by rfl) (by rfl) (fun _ W hS => op_mv rfl rfl) ?_
  simp only [Act.put, List.setIfInBounds_toArray, List.set_cons_zero, List.set_cons_succ]
  refine k_step (fun K' u => ∃ a n c, u = .slice a n c ∧ K' = fun W => PartsV W u cl) (by apply opN; repeat' (first | apply OpAt.z | apply OpAt.s)) (by rfl) (by rfl) (by rfl) (fun W hS hK => ?_) ?_
  · refine op_x5 rfl rfl rfl rfl rfl rfl rfl (fun _ _ => rfl) ((hCl.out W ((hk.out.next (hn0.out ▸ hS)).2)).mono ?_)
    rintro e W' ⟨⟨v7, rfl, hv7⟩, hB⟩
    obtain ⟨a7, c7, rfl⟩ := hv7.form
    exact ⟨_, rfl, Below.trans hS (hB.mono (Nat.le_trans (Nat.le_of_eq hn0.out) (Below.size hS))), _, hv7.parts, _, _, _, rfl, rfl⟩
  rintro _ _ ⟨a7, n7, c7, rfl, rfl⟩
  simp only [Act.put, List.setIfInBounds_toArray, List.set_cons_zero, List.set_cons_succ]
  refine k_step (fun K' u => ∃ a n c, u = .slice a n c ∧ K' = fun W => PartsV W (.slice a7 n7 c7) cl ∧ PartsV W u cl) (by apply opN; repeat' (first | apply OpAt.z | apply OpAt.s)) (by rfl) (by rfl) (by rfl) (fun W hS hK => ?_) ?_
  · refine op_x5 rfl rfl rfl rfl rfl rfl rfl (fun _ _ => rfl) ((hCr.out W ((hk.out.next (hn0.out ▸ hS)).2)).mono ?_)
    rintro e W' ⟨⟨v7, rfl, hv7⟩, hB⟩
    obtain ⟨a7, c7, rfl⟩ := hv7.form
    exact ⟨_, rfl, Below.trans hS (hB.mono (Nat.le_trans (Nat.le_of_eq hn0.out) (Below.size hS))), _, ⟨hK.next hB, hv7.parts⟩, _, _, _, rfl, rfl⟩
  rintro _ _ ⟨a13, n13, c13, rfl, rfl⟩
  simp only [Act.put, List.setIfInBounds_toArray, List.set_cons_zero, List.set_cons_succ]
  refine k_step (fun K' u => u = .bool true ∧ K' = fun _ => True) (by apply opN; repeat' (first | apply OpAt.z | apply OpAt.s)) (by rfl) (by rfl) (by rfl) (fun W hS hK => ?_) ?_
  · refine op_x2 rfl rfl rfl rfl (fun _ _ => rfl) ((same_parts (.slice a7 n7 c7) (.slice a13 n13 c13) cl cl hcl6.out hcl6.out W hK.1 hK.2).mono ?_)
    rintro e W' ⟨rfl, hB⟩
    exact ⟨_, rfl, Below.trans hS (hB.mono (Nat.le_trans (Nat.le_of_eq hn0.out) (Below.size hS))), _, trivial, by simp, rfl⟩
  rintro _ _ ⟨rfl, rfl⟩
  simp only [Act.put, List.setIfInBounds_toArray, List.set_cons_zero, List.set_cons_succ]
  refine k_val (.bool true) (by apply opN; repeat' (first | apply OpAt.z | apply OpAt.s)) (by rfl) (by rfl) (fun _ W hS => op_pk rfl rfl rfl rfl rfl) ?_
  simp only [Act.put, List.setIfInBounds_toArray, List.set_cons_zero, List.set_cons_succ]
  refine k_val (.bool true) (by apply opN; repeat' (first | apply OpAt.z | apply OpAt.s)) (by rfl) (by rfl) (fun _ W hS => op_mv rfl rfl) ?_
  simp only [Act.put, List.setIfInBounds_toArray, List.set_cons_zero, List.set_cons_succ]
  refine k_val (.agg (RW.bcl v2)) (by apply opN; repeat' (first | apply OpAt.z | apply OpAt.s)) (by rfl) (by rfl) (fun _ W hS => op_load_base rfl rfl (hk.out.next (hn0.out ▸ hS))) ?_
  simp only [Act.put, List.setIfInBounds_toArray, List.set_cons_zero, List.set_cons_succ]
  refine k_val (.int .i64 r) (by apply opN; repeat' (first | apply OpAt.z | apply OpAt.s)) (by rfl) (by rfl) (fun _ W hS => op_mv rfl rfl) ?_
  simp only [Act.put, List.setIfInBounds_toArray, List.set_cons_zero, List.set_cons_succ]
  refine k_val (.int .i64 ro) (by apply opN; repeat' (first | apply OpAt.z | apply OpAt.s)) (by rfl) (by rfl) (fun _ W hS => op_mv rfl rfl) ?_
  simp only [Act.put, List.setIfInBounds_toArray, List.set_cons_zero, List.set_cons_succ]
  refine k_val (.int .i64 t) (by apply opN; repeat' (first | apply OpAt.z | apply OpAt.s)) (by rfl) (by rfl) (fun _ W hS => op_mv rfl rfl) ?_
  simp only [Act.put, List.setIfInBounds_toArray, List.set_cons_zero, List.set_cons_succ]
  refine k_val (.int .i64 p) (by apply opN; repeat' (first | apply OpAt.z | apply OpAt.s)) (by rfl) (by rfl) (fun _ W hS => op_mv rfl rfl) ?_
  simp only [Act.put, List.setIfInBounds_toArray, List.set_cons_zero, List.set_cons_succ]
  refine k_val (.agg (RW.bcl v2)) (by apply opN; repeat' (first | apply OpAt.z | apply OpAt.s)) (by rfl) (by rfl) (fun _ W hS => op_load_base rfl rfl (hk.out.next (hn0.out ▸ hS))) ?_
  simp only [Act.put, List.setIfInBounds_toArray, List.set_cons_zero, List.set_cons_succ]
  refine k_val (.int .i64 r) (by apply opN; repeat' (first | apply OpAt.z | apply OpAt.s)) (by rfl) (by rfl) (fun _ W hS => op_mv rfl rfl) ?_
  simp only [Act.put, List.setIfInBounds_toArray, List.set_cons_zero, List.set_cons_succ]
  refine k_val (.int .i64 ro) (by apply opN; repeat' (first | apply OpAt.z | apply OpAt.s)) (by rfl) (by rfl) (fun _ W hS => op_mv rfl rfl) ?_
  simp only [Act.put, List.setIfInBounds_toArray, List.set_cons_zero, List.set_cons_succ]
  refine k_val (.int .i64 t) (by apply opN; repeat' (first | apply OpAt.z | apply OpAt.s)) (by rfl) (by rfl) (fun _ W hS => op_mv rfl rfl) ?_
  simp only [Act.put, List.setIfInBounds_toArray, List.set_cons_zero, List.set_cons_succ]
  refine k_val (.int .i64 p) (by apply opN; repeat' (first | apply OpAt.z | apply OpAt.s)) (by rfl) (by rfl) (fun _ W hS => op_mv rfl rfl) ?_
  simp only [Act.put, List.setIfInBounds_toArray, List.set_cons_zero, List.set_cons_succ]
  refine k_step (fun K' u => ∃ v7, u = .agg (RW.scl v7 Rc Ru) ∧ K' = fun W => PartsV W v7 R1) (by apply opN; repeat' (first | apply OpAt.z | apply OpAt.s)) (by rfl) (by rfl) (by rfl) (fun W hS hK => ?_) ?_
  · refine op_x5 rfl rfl rfl rfl rfl rfl rfl (fun _ _ => rfl) ((hOf.out W ((hk.out.next (hn0.out ▸ hS)).2)).mono ?_)
    rintro e W' ⟨⟨v7, rfl, hv7⟩, hB⟩
    exact ⟨_, rfl, Below.trans hS (hB.mono (Nat.le_trans (Nat.le_of_eq hn0.out) (Below.size hS))), _, hv7.parts, v7, rfl, rfl⟩
  rintro _ _ ⟨v22, rfl, rfl⟩
  simp only [Act.put, List.setIfInBounds_toArray, List.set_cons_zero, List.set_cons_succ]
  refine k_step (fun K' u => ∃ v7, u = .agg (RW.scl v7 Rc Ru) ∧ K' = fun W => PartsV W v22 R1 ∧ PartsV W v7 R1) (by apply opN; repeat' (first | apply OpAt.z | apply OpAt.s)) (by rfl) (by rfl) (by rfl) (fun W hS hK => ?_) ?_
  · refine op_x5 rfl rfl rfl rfl rfl rfl rfl (fun _ _ => rfl) ((hOr.out W ((hk.out.next (hn0.out ▸ hS)).2)).mono ?_)
    rintro e W' ⟨⟨v7, rfl, hv7⟩, hB⟩
    exact ⟨_, rfl, Below.trans hS (hB.mono (Nat.le_trans (Nat.le_of_eq hn0.out) (Below.size hS))), _, ⟨hK.next hB, hv7.parts⟩, v7, rfl, rfl⟩
  rintro _ _ ⟨v28, rfl, rfl⟩
  simp only [Act.put, List.setIfInBounds_toArray, List.set_cons_zero, List.set_cons_succ]
  refine k_step (fun K' u => u = .bool true ∧ K' = fun _ => True) (by apply opN; repeat' (first | apply OpAt.z | apply OpAt.s)) (by rfl) (by rfl) (by rfl) (fun W hS hK => ?_) ?_
  · refine op_x2 rfl rfl rfl rfl (fun _ _ => rfl) ((rsame_any v22 v28 R1 R1 Rc Rc Ru Ru hRl.out hRl.out W hK.1 hK.2).mono ?_)
    rintro e W' ⟨rfl, hB⟩
    exact ⟨_, rfl, Below.trans hS (hB.mono (Nat.le_trans (Nat.le_of_eq hn0.out) (Below.size hS))), _, trivial, by simp, rfl⟩
  rintro _ _ ⟨rfl, rfl⟩
  simp only [Act.put, List.setIfInBounds_toArray, List.set_cons_zero, List.set_cons_succ]
  refine k_val (.bool true) (by apply opN; repeat' (first | apply OpAt.z | apply OpAt.s)) (by rfl) (by rfl) (fun _ W hS => op_pk rfl rfl rfl rfl rfl) ?_
  simp only [Act.put, List.setIfInBounds_toArray, List.set_cons_zero, List.set_cons_succ]
  refine k_val (.bool true) (by apply opN; repeat' (first | apply OpAt.z | apply OpAt.s)) (by rfl) (by rfl) (fun _ W hS => op_asg rfl rfl) ?_
  simp only [Act.put, List.setIfInBounds_toArray, List.set_cons_zero, List.set_cons_succ]
  refine k_nil ?_
  intro W' hb _
  have hbH := hide hb
  clear hb
  go_wp2
  go_ret
  exact ⟨rfl, hB3H.out.trans (hbH.out.mono (by rw [hn0.out]; exact hB3H.out.size))⟩
end Go.Proofs.Ytnkdpfkmellpcaa
