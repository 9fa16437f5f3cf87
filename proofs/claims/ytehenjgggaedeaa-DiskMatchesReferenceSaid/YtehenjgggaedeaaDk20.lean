/-
  Package royaltylaw22: DiskMatchesReference: it returns true; only new memory is written.
-/
import Derived.Test.YtehenjgggaedeaaDk19
namespace Go.Proofs.Ytehenjgggaedeaa
open Go.RowKit RG
section
variable {ev : Operand → Value} {o : Oper} {x y z : Operand} {w : World}
theorem op_nei {a : Int} (ho : o.op = .binOp .neq 3 x y 3) (hx : ev x = .int .i64 a) (hy : ev y = .int .i64 a) : (execOp ev o).run Try.prog w = .ok (.value (.bool false)) w := by
  unfold execOp
  rw [ho]
  simp only [hx, hy]
  go_simp
theorem op_not {a : Bool} (ho : o.op = .unOp .not 4 x) (hx : ev x = .bool a) : (execOp ev o).run Try.prog w = .ok (.value (.bool (!a))) w := by
  unfold execOp
  rw [ho]
  simp only [hx]
  go_simp
theorem op_pkb {p : Bool} {u v r : Value} (ho : o.op = .pick x y z) (hx : ev x = .bool p) (hy : ev y = u) (hz : ev z = v) (hq : (if p = true then u else v) = r) : (execOp ev o).run Try.prog w = .ok (.value r) w := by
  unfold execOp
  rw [ho]
  simp only [hx, hy, hz]
  rw [← hq]
  go_simp
theorem op_len_cs {p : Option Addr} {n c : Nat} (ho : o.op = .call { callee := .builtin .len, args := #[x], argTypes := #[41] }) (hx : ev x = .slice p n c) : (execOp ev o).run Try.prog w = .ok (.value (.int .i64 n)) w := by
  unfold execOp
  rw [ho]
  simp only [hx]
  go_simp
theorem op_idx_sp {b ao i n c : Nat} (ho : o.op = .indexAddr 32 x y) (hx : ev x = .slice (some ⟨b, ao, none⟩) n c) (hy : ev y = .int .i64 i) (hi : i < n) : (execOp ev o).run Try.prog w = .ok (.value (.pointer (some ⟨b, ao + i * 5, none⟩))) w := by
  unfold execOp
  rw [ho]
  simp only [hx, hy]
  go_simp
theorem ldRow_spF (x : Value) : Instr.loadAt 39 x = ldRow 39 x := rfl
theorem sp_ld {W : World} {g o : Nat} {x : RW.Sp} (h : W.rangeAt g o (RW.spl x)) : (ldRow 39 (.pointer (some ⟨g, o, none⟩))).run Try.prog W = .ok (.agg (RW.spl x).toArray) W :=
  ldRow_mid (fun j u hj => h j u (by simpa using hj)) Try.underlying39 rfl (sp_size x)
attribute [local go_sem ↓] ldRow_spF in
theorem op_load_sp {b i : Nat} {v : Value} (ho : o.op = .load 39 x) (hx : ev x = .pointer (some ⟨b, i, none⟩)) (hv : (ldRow 39 (.pointer (some ⟨b, i, none⟩))).run Try.prog w = .ok v w) : (execOp ev o).run Try.prog w = .ok (.value v) w := by
  unfold execOp
  rw [ho]
  simp only [hx]
  go_simp
theorem xup_val {D : Value → World → Prop} {r : Result Next} {v : Value} (h : r = .ok (.value v) w) (hD : D v w) : XUp Try.prog D r := by
  rw [h]
  exact hD
end
theorem ints_of_row {W : World} {v : Value} {l : List Int} (h : RowV 1 (fun z => [Value.int .i64 z]) W v l) : IntsB W.heap.size W v l := by
  obtain ⟨a, c, e, _, h⟩ := h
  refine ⟨a, c, e, h.imp id ?_⟩
  rintro ⟨b, o, rfl, hb, hc⟩
  exact ⟨b, o, rfl, hb, fun j x hx => by simpa using hc j x hx 0 _ rfl⟩
set_option maxRecDepth 10000 in
set_option maxHeartbeats 2000000 in
theorem diskmatches_any (z : Int) (hz : -9223372036854775808 ≤ z) (hz2 : z ≤ 9223372036854775807) (v : Value) (l : List RW.Sp) (w : World) (hl : ∀ x ∈ l, x.good ∧ RowV 1 (fun z => [Value.int .i64 z]) w x.kv x.k ∧ x.k.length ≤ 9223372036854775807) (hv : RowV 5 RW.spl w v l) :
    Calls Try.prog 4 #[.int .i64 z, v] w fun e w' => e = .returned (.bool true) ∧ Below w.heap.size w w' := by
  have hS := hide (sane_any w)
  have hP := hide (fun W => pick_any z 400 hz hz2 (by decide) (by decide) W)
  have hpb := RW.pickI_bd z 400 (by decide)
  obtain ⟨p, hp⟩ : ∃ p, p = RW.pickI z 400 := ⟨_, rfl⟩
  rw [← hp] at hP hpb
  obtain ⟨n, hn⟩ : ∃ n : Nat, (n : Int) = 1 + p := ⟨(1 + p).toNat, by omega⟩
  have hn1 : 1 ≤ n := by omega
  have hn2 : n ≤ 400 := by omega
  have hn3 : n ≤ 4194304 := by omega
  have hN := hide (fun W => new_any n hn1 hn3 W)
  have hNr := hide (fun W => rnew_any n hn1 hn3 W)
  have hn1H := hide hn1
  have hnH := hide hn
  have hlH := hide hl
  obtain ⟨av, cv, rfl, hcv, hav⟩ := hv
  obtain ⟨m, hm⟩ : ∃ m, m = l.length := ⟨_, rfl⟩
  have hmH := hide hm
  have havH := hide hav
  rw [← hm] at hcv ⊢
  obtain ⟨B, hB⟩ : ∃ B, B = w.heap.size := ⟨_, rfl⟩
  have hBH := hide hB
  rw [← hB] at hS ⊢
  obtain ⟨hp0, hp1⟩ := hpb
  clear hz hz2 hp hn hl hm hav hB hcv
  go_enter Try.func4, Try.ntmps4
  go_upto_region 3 with (first
    | (go_at_call 12; refine hS.out.mono ?_; rintro e w1 ⟨rfl, hB1⟩; have hB1H := hide hB1; clear hB1)
    | (go_at_call 15; refine (hP.out _).mono ?_; rintro e w' ⟨rfl, rfl⟩))
  rw [← hnH.out]
  clear hp0 hp1 hP
  go_upto_region 4 with (go_at_call 13; refine (hN.out _).mono ?_; rintro e w2 ⟨b, rfl, ⟨db, vb, hd1⟩, hB2⟩; have hd1H := hide hd1; have hB2e := hide hB2; have hB2H := hide (hB1H.out.trans (hB2.mono (by rw [hBH.out]; exact hBH.out ▸ hB1H.out.size))); clear hd1 hB2)
  go_upto_region 5 with (go_at_call 18; refine (hNr.out _).mono ?_; rintro e w3 ⟨rb, rfl, ⟨sb, hd2⟩, hB3⟩; have hd2H := hide hd2; have hB3e := hide hB3; have hB3H := hide (hB2H.out.trans (hB3.mono (by rw [hBH.out]; exact hBH.out ▸ hB2H.out.size))); clear hd2 hB3)
  have h0 := hide (show JAt w3 n w1.heap.size b db vb w2.heap.size rb (RW.dk0 n) (.slice none 0 0) sb (List.replicate n 0) (.slice none 0 0) from
    ⟨hd1H.out.next hB3e.out, hd2H.out, by have := hd2H.out.hs; have := hd1H.out.lt.2.1; omega, by have := hd2H.out.hs; have := hd1H.out.lt.2.2; omega⟩)
  obtain ⟨B1, hE1⟩ : ∃ x, x = w1.heap.size := ⟨_, rfl⟩
  obtain ⟨B2, hE2⟩ : ∃ x, x = w2.heap.size := ⟨_, rfl⟩
  rw [← hE1, ← hE2] at h0
  have hL1 := hide (show B ≤ B1 by rw [hE1, hBH.out]; exact hBH.out ▸ hB1H.out.size)
  have hL2 := hide (show B ≤ B2 by rw [hE2, hBH.out]; exact hBH.out ▸ hB2H.out.size)
  have hf0 := hide (⟨fun x hx => (by cases hx), rfl, Nat.le_refl _⟩ : (RW.dk0 n).fine n 0)
  clear hd1H hd2H hE1 hE2 hB1H hB2H hB2e hB3e hN hNr hS
  go_wp2
  go_loopw [10] (fun i wr => ∃ j : Nat, i = .int .i64 j ∧ j ≤ 60 ∧ Hid (∃ S p sb L q, JAt wr n B1 b db vb B2 rb S p sb L q ∧ S.fine n j ∧ Below B w wr)) (fun i _ => 60 - (intOf i).toNat)
  case atStart => exact ⟨0, rfl, Nat.zero_le _, _, _, _, _, _, h0.out, hf0.out, hB3H.out⟩
  case round =>
    obtain ⟨j, rfl, hj, hQ⟩ := hrel
    clear h0 hB3H hf0
    obtain ⟨wo, hwo⟩ : ∃ wo, wo = wr := ⟨_, rfl⟩
    subst hwo
    obtain ⟨S, p1, sb1, L1, q1, hI0, hf, hBw⟩ := hQ.out
    have hI := hide hI0
    have hfH := hide hf
    have hBwH := hide hBw
    obtain ⟨c, hc⟩ : ∃ c : Bool, c = decide (j < m ∧ j < 60) := ⟨_, rfl⟩
    have hcH := hide hc
    clear hc hQ hI0 hf hBw
    go_upto_region 8 with fail
    go_cut [42] (fun s wx => s = .bool c ∧ wx = wo)
    case first =>
      by_cases h1 : j < m
      · by_cases h2 : j < 60
        · have h2i : (j : Int) < 60 := by omega
          go_wp2
          all_goals go_meet
          all_goals exact ⟨by rw [hcH.out, decide_eq_true (show j < m ∧ j < 60 from ⟨h1, h2⟩)] <;> rfl, rfl⟩
        · have h2i : ¬ (j : Int) < 60 := by omega
          go_wp2
          all_goals go_meet
          all_goals exact ⟨by rw [hcH.out, decide_eq_false (show ¬ (j < m ∧ j < 60) from fun h => h2 h.2)] <;> rfl, rfl⟩
      · go_wp2
        all_goals go_meet
        all_goals exact ⟨by rw [hcH.out, decide_eq_false (show ¬ (j < m ∧ j < 60) from fun h => h1 h.1)] <;> rfl, rfl⟩
    case rest =>
    obtain ⟨rfl, hwx⟩ := hcut
    have hwx' := hwx.symm
    subst hwx'
    cases c
    · clear hcH
      go_wp2
      go_ret
      exact ⟨rfl, hBwH.out⟩
    · obtain ⟨hlt, hj60⟩ : j < m ∧ j < 60 := of_decide_eq_true hcH.out.symm
      obtain ⟨x, hx⟩ : ∃ x, l[j]? = some x := ⟨_, List.getElem?_eq_getElem (by rw [← hmH.out]; exact hlt)⟩
      have hxb := hide (hlH.out x (List.mem_of_getElem? hx))
      obtain ⟨bq, oq, rfl, hbq, hcq⟩ := havH.out.resolve_left (by rintro rfl; simp at hx)
      have hrg := hide (fun (W : World) (hW : Below B w W) => (fun i u hu => (World.cell?_of_block (a := ⟨bq, oq + j * 5 + i, none⟩) (hW.block _ (by rw [hBH.out]; exact hbq))).trans (hcq j x hx i u hu) : W.rangeAt bq (oq + j * 5) (RW.spl x)))
      have hps := sp_size x
      have hpsH := hide hps
      obtain ⟨S1, hS1⟩ : ∃ S1, S1 = RW.stepS n S x := ⟨_, rfl⟩
      have hS1H := hide hS1
      have hf1 := hide (show S1.fine n (j + 1) by rw [hS1]; exact RW.stepS_fine hfH.out x)
      have hltH := hide hlt
      clear hbq hcq hx hcH hS1
      go_upto_region 10 with fail
      refine wp_region_k (fun _ W => Below B w W) (fun W => JAt W n B1 b db vb B2 rb S p1 sb1 L1 q1) [6, 10, 14, 20] (.op 0 (.op 1 (.op 2 (.op 3 (.op 4 (.op 5 (.op 6 (.op 7 (.op 8 (.op 9 (.op 11 (.op 12 (.op 13 (.fork 10 (.op 14 (.op 15 (.op 16 (.op 17 (.op 18 (.op 19 (.op 21 (.op 20 (.op 22 (.op 23 .nil)))))))))) 14 (.op 15 (.op 10 (.op 16 (.op 17 (.op 18 (.op 19 (.op 21 (.op 20 (.op 22 (.op 23 .nil)))))))))))))))))))))))) (by kernel_rfl) (by kernel_rfl) (by rfl) (by kernel_rfl) (hBwH.out.trans (Below.refl _ _).drew) (hI.out.next (Below.refl _ _).drew) ?_
      refine k_val (.pointer (some ⟨b, 0, none⟩)) (by apply opN; repeat' (first | apply OpAt.z | apply OpAt.s)) (by rfl) (by rfl) (fun _ W hS => op_mv rfl rfl) ?_
      simp only [Act.put, List.setIfInBounds_toArray, List.set_cons_zero, List.set_cons_succ]
      refine k_val (.pointer (some ⟨rb, 0, none⟩)) (by apply opN; repeat' (first | apply OpAt.z | apply OpAt.s)) (by rfl) (by rfl) (fun _ W hS => op_mv rfl rfl) ?_
      simp only [Act.put, List.setIfInBounds_toArray, List.set_cons_zero, List.set_cons_succ]
      refine k_val (.slice (some ⟨bq, oq, none⟩) m cv) (by apply opN; repeat' (first | apply OpAt.z | apply OpAt.s)) (by rfl) (by rfl) (fun _ W hS => op_mv rfl rfl) ?_
      simp only [Act.put, List.setIfInBounds_toArray, List.set_cons_zero, List.set_cons_succ]
      refine k_val (.int .i64 (j : Int)) (by apply opN; repeat' (first | apply OpAt.z | apply OpAt.s)) (by rfl) (by rfl) (fun _ W hS => op_mv rfl rfl) ?_
      simp only [Act.put, List.setIfInBounds_toArray, List.set_cons_zero, List.set_cons_succ]
      refine k_val (.pointer (some ⟨bq, oq + j * 5, none⟩)) (by apply opN; repeat' (first | apply OpAt.z | apply OpAt.s)) (by rfl) (by rfl) (fun _ W hS => op_idx_sp rfl rfl rfl hltH.out) ?_
      simp only [Act.put, List.setIfInBounds_toArray, List.set_cons_zero, List.set_cons_succ]
      refine k_val (.agg (RW.spl x).toArray) (by apply opN; repeat' (first | apply OpAt.z | apply OpAt.s)) (by rfl) (by rfl) (fun _ W hS => op_load_sp rfl rfl (sp_ld (hrg.out W (hBH.out ▸ hS)))) ?_
      simp only [Act.put, List.setIfInBounds_toArray, List.set_cons_zero, List.set_cons_succ]
      refine k_step (fun K' u => u = .bool true ∧ ∃ p2 sb2 L2 a2 c2, K' = fun W => JAt W n B1 b db vb B2 rb S1 p2 sb2 L2 (.slice a2 S1.pend.length c2)) (by apply opN; repeat' (first | apply OpAt.z | apply OpAt.s)) (by rfl) (by rfl) (by rfl) (fun W hC hK => ?_) ?_
      · have hw := hide (show Below w.heap.size w W from hBH.out ▸ hC)
        refine op_x3 rfl rfl rfl rfl rfl (fun _ _ => rfl) ((step_any n B1 b db vb B2 rb S p1 sb1 L1 q1 j (by omega) hn1H.out hfH.out x hxb.out.1 W B hL1.out hL2.out hK (hxb.out.2.1.next hw.out) (by rw [hBH.out]; exact (ints_of_row hxb.out.2.1).below hw.out) hxb.out.2.2).mono ?_)
        rintro e W' ⟨rfl, hx⟩
        obtain ⟨⟨p2, sb2, L2, q2, h1⟩, h2⟩ : (∃ p2 sb2 L2 q2, JAt W' n B1 b db vb B2 rb (RW.stepS n S x) p2 sb2 L2 q2) ∧ Below B W W' := by
          obtain ⟨p2, sb2, L2, q2, h1, h2⟩ := hx
          exact ⟨⟨p2, sb2, L2, q2, h1⟩, h2⟩
        rw [← hS1H.out] at h1
        obtain ⟨a2, c2, rfl⟩ := h1.r.form
        exact ⟨_, rfl, hC.trans h2, _, h1, rfl, p2, sb2, L2, a2, c2, rfl⟩
      rintro _ _ ⟨rfl, p2, sb2, L2, a2, c2, rfl⟩
      simp only [Act.put, List.setIfInBounds_toArray, List.set_cons_zero, List.set_cons_succ]
      refine k_val (.bool false) (by apply opN; repeat' (first | apply OpAt.z | apply OpAt.s)) (by rfl) (by rfl) (fun _ W hS => op_not (a := true) rfl rfl) ?_
      simp only [Act.put, List.setIfInBounds_toArray, List.set_cons_zero, List.set_cons_succ]
      refine k_val (.bool false) (by apply opN; repeat' (first | apply OpAt.z | apply OpAt.s)) (by rfl) (by rfl) (fun _ W hS => op_mv rfl rfl) ?_
      simp only [Act.put, List.setIfInBounds_toArray, List.set_cons_zero, List.set_cons_succ]
      refine k_val (.pointer (some ⟨b, 0, none⟩)) (by apply opN; repeat' (first | apply OpAt.z | apply OpAt.s)) (by rfl) (by rfl) (fun _ W hS => op_mv rfl rfl) ?_
      simp only [Act.put, List.setIfInBounds_toArray, List.set_cons_zero, List.set_cons_succ]
      refine k_val (.pointer (some ⟨rb, 0, none⟩)) (by apply opN; repeat' (first | apply OpAt.z | apply OpAt.s)) (by rfl) (by rfl) (fun _ W hS => op_mv rfl rfl) ?_
      simp only [Act.put, List.setIfInBounds_toArray, List.set_cons_zero, List.set_cons_succ]
      refine k_val (.pointer (some ⟨rb, 0, none⟩)) (by apply opN; repeat' (first | apply OpAt.z | apply OpAt.s)) (by rfl) (by rfl) (fun _ W hS => op_nc rfl rfl) ?_
      simp only [Act.put, List.setIfInBounds_toArray, List.set_cons_zero, List.set_cons_succ]
      refine k_val (.pointer (some ⟨rb, 1, none⟩)) (by apply opN; repeat' (first | apply OpAt.z | apply OpAt.s)) (by rfl) (by rfl) (fun _ W hS => op_fa_r (by decide) rfl rfl) ?_
      simp only [Act.put, List.setIfInBounds_toArray, List.set_cons_zero, List.set_cons_succ]
      refine h_fork ?_ ?_
      · refine k_one (fun K' u => u = .int .i64 (S1.pend.length : Int) ∧ K' = fun W => JAt W n B1 b db vb B2 rb S1 p2 sb2 L2 (.slice a2 S1.pend.length c2)) (by apply opN; repeat' (first | apply OpAt.z | apply OpAt.s)) (by rfl) (by rfl) (by rfl) (fun W hC hK => ?_) ?_
        · refine op_x1 rfl rfl rfl (fun _ _ => rfl) ((pending_any W hK.a).mono ?_)
          rintro e W' ⟨rfl, rfl⟩
          exact ⟨_, rfl, hC, _, hK, rfl, rfl⟩
        rintro _ _ ⟨rfl, rfl⟩
        simp only [Act.put, List.setIfInBounds_toArray, List.set_cons_zero, List.set_cons_succ]
        refine k_step (fun K' u => u = .slice a2 S1.pend.length c2 ∧ K' = fun W => JAt W n B1 b db vb B2 rb S1 p2 sb2 L2 (.slice a2 S1.pend.length c2)) (by apply opN; repeat' (first | apply OpAt.z | apply OpAt.s)) (by rfl) (by rfl) (by rfl) (fun W hC hK => ?_) ?_
        · exact xup_val (op_load_cs rfl rfl (cellAt hK.r.row 1)) ⟨hC, _, hK, rfl, rfl⟩
        rintro _ _ ⟨rfl, rfl⟩
        simp only [Act.put, List.setIfInBounds_toArray, List.set_cons_zero, List.set_cons_succ]
        refine k_val (.int .i64 (S1.pend.length : Int)) (by apply opN; repeat' (first | apply OpAt.z | apply OpAt.s)) (by rfl) (by rfl) (fun _ W hS => op_len_cs rfl rfl) ?_
        simp only [Act.put, List.setIfInBounds_toArray, List.set_cons_zero, List.set_cons_succ]
        refine k_val (.bool false) (by apply opN; repeat' (first | apply OpAt.z | apply OpAt.s)) (by rfl) (by rfl) (fun _ W hS => op_nei rfl rfl rfl) ?_
        simp only [Act.put, List.setIfInBounds_toArray, List.set_cons_zero, List.set_cons_succ]
        refine k_val (.bool false) (by apply opN; repeat' (first | apply OpAt.z | apply OpAt.s)) (by rfl) (by rfl) (fun _ W hS => op_pkb rfl rfl rfl rfl rfl) ?_
        simp only [Act.put, List.setIfInBounds_toArray, List.set_cons_zero, List.set_cons_succ]
        refine k_val (.bool false) (by apply opN; repeat' (first | apply OpAt.z | apply OpAt.s)) (by rfl) (by rfl) (fun _ W hS => op_mv rfl rfl) ?_
        simp only [Act.put, List.setIfInBounds_toArray, List.set_cons_zero, List.set_cons_succ]
        refine k_val (.pointer (some ⟨b, 0, none⟩)) (by apply opN; repeat' (first | apply OpAt.z | apply OpAt.s)) (by rfl) (by rfl) (fun _ W hS => op_mv rfl rfl) ?_
        simp only [Act.put, List.setIfInBounds_toArray, List.set_cons_zero, List.set_cons_succ]
        refine k_val (.int .i64 (n : Int)) (by apply opN; repeat' (first | apply OpAt.z | apply OpAt.s)) (by rfl) (by rfl) (fun _ W hS => op_mv rfl rfl) ?_
        simp only [Act.put, List.setIfInBounds_toArray, List.set_cons_zero, List.set_cons_succ]
        refine k_step (fun K' u => u = .int .i64 (n : Int) ∧ K' = fun W => JAt W n B1 b db vb B2 rb S1 p2 sb2 L2 (.slice a2 S1.pend.length c2)) (by apply opN; repeat' (first | apply OpAt.z | apply OpAt.s)) (by rfl) (by rfl) (by rfl) (fun W hC hK => ?_) ?_
        · refine op_x1 rfl rfl rfl (fun _ _ => rfl) ((size_any W hK.a).mono ?_)
          rintro e W' ⟨rfl, rfl⟩
          exact ⟨_, rfl, hC, _, hK, rfl, rfl⟩
        rintro _ _ ⟨rfl, rfl⟩
        simp only [Act.put, List.setIfInBounds_toArray, List.set_cons_zero, List.set_cons_succ]
        refine k_val (.bool false) (by apply opN; repeat' (first | apply OpAt.z | apply OpAt.s)) (by rfl) (by rfl) (fun _ W hS => op_nei rfl rfl rfl) ?_
        simp only [Act.put, List.setIfInBounds_toArray, List.set_cons_zero, List.set_cons_succ]
        refine k_val (.bool false) (by apply opN; repeat' (first | apply OpAt.z | apply OpAt.s)) (by rfl) (by rfl) (fun _ W hS => op_pkb rfl rfl rfl rfl rfl) ?_
        simp only [Act.put, List.setIfInBounds_toArray, List.set_cons_zero, List.set_cons_succ]
        refine k_nil ?_
        intro W hC hK
        have hJ2 := hide hK
        have hB2 := hide hC
        clear hC hK
        have hRd := hide (read_any B1 b n db vb p2 S1 0 (n : Int) W hJ2.out.a)
        have hRr := hide (rread_any B2 rb n sb2 L2 _ S1 hn1H.out hf1.out.ok (by have := hf1.out.len; omega) hf1.out.rp 0 (n : Int) (by decide) (by decide) (by omega) (by omega) W hJ2.out.r)
        obtain ⟨rs, hrs⟩ : ∃ x, x = (S1.read n 0 (n : Int)).1 := ⟨_, rfl⟩
        obtain ⟨re, hre⟩ : ∃ x, x = (S1.read n 0 (n : Int)).2 := ⟨_, rfl⟩
        rw [← hrs, ← hre] at hRd hRr
        clear hrs hre
        go_wp2_with (first
          | (go_at_call 14; refine hRd.out.mono ?_; rintro e w' ⟨rfl, rfl⟩)
          | (go_at_call 20; refine hRr.out.mono ?_; rintro e w5 ⟨rfl, h1⟩; have hJ5 := hide (hJ2.out.next h1); have hB5 := hide (hB2.out.trans (h1.mono (by have := hL1.out; have := hJ2.out.a.hb; have := hJ2.out.a.lt.1; omega))); clear h1))
        go_roundw
        case rel => exact ⟨j + 1, by go_num, by omega, S1, p2, sb2, L2, _, hJ5.out, hf1.out, hB5.out⟩
        case measure => simp [intOf]; omega
      · refine k_one (fun K' u => u = .slice a2 S1.pend.length c2 ∧ K' = fun W => JAt W n B1 b db vb B2 rb S1 p2 sb2 L2 (.slice a2 S1.pend.length c2)) (by apply opN; repeat' (first | apply OpAt.z | apply OpAt.s)) (by rfl) (by rfl) (by rfl) (fun W hC hK => ?_) ?_
        · exact xup_val (op_load_cs rfl rfl (cellAt hK.r.row 1)) ⟨hC, _, hK, rfl, rfl⟩
        rintro _ _ ⟨rfl, rfl⟩
        simp only [Act.put, List.setIfInBounds_toArray, List.set_cons_zero, List.set_cons_succ]
        refine k_val (.int .i64 (S1.pend.length : Int)) (by apply opN; repeat' (first | apply OpAt.z | apply OpAt.s)) (by rfl) (by rfl) (fun _ W hS => op_len_cs rfl rfl) ?_
        simp only [Act.put, List.setIfInBounds_toArray, List.set_cons_zero, List.set_cons_succ]
        refine k_step (fun K' u => u = .int .i64 (S1.pend.length : Int) ∧ K' = fun W => JAt W n B1 b db vb B2 rb S1 p2 sb2 L2 (.slice a2 S1.pend.length c2)) (by apply opN; repeat' (first | apply OpAt.z | apply OpAt.s)) (by rfl) (by rfl) (by rfl) (fun W hC hK => ?_) ?_
        · refine op_x1 rfl rfl rfl (fun _ _ => rfl) ((pending_any W hK.a).mono ?_)
          rintro e W' ⟨rfl, rfl⟩
          exact ⟨_, rfl, hC, _, hK, rfl, rfl⟩
        rintro _ _ ⟨rfl, rfl⟩
        simp only [Act.put, List.setIfInBounds_toArray, List.set_cons_zero, List.set_cons_succ]
        refine k_val (.bool false) (by apply opN; repeat' (first | apply OpAt.z | apply OpAt.s)) (by rfl) (by rfl) (fun _ W hS => op_nei rfl rfl rfl) ?_
        simp only [Act.put, List.setIfInBounds_toArray, List.set_cons_zero, List.set_cons_succ]
        refine k_val (.bool false) (by apply opN; repeat' (first | apply OpAt.z | apply OpAt.s)) (by rfl) (by rfl) (fun _ W hS => op_pkb rfl rfl rfl rfl rfl) ?_
        simp only [Act.put, List.setIfInBounds_toArray, List.set_cons_zero, List.set_cons_succ]
        refine k_val (.bool false) (by apply opN; repeat' (first | apply OpAt.z | apply OpAt.s)) (by rfl) (by rfl) (fun _ W hS => op_mv rfl rfl) ?_
        simp only [Act.put, List.setIfInBounds_toArray, List.set_cons_zero, List.set_cons_succ]
        refine k_val (.pointer (some ⟨b, 0, none⟩)) (by apply opN; repeat' (first | apply OpAt.z | apply OpAt.s)) (by rfl) (by rfl) (fun _ W hS => op_mv rfl rfl) ?_
        simp only [Act.put, List.setIfInBounds_toArray, List.set_cons_zero, List.set_cons_succ]
        refine k_val (.int .i64 (n : Int)) (by apply opN; repeat' (first | apply OpAt.z | apply OpAt.s)) (by rfl) (by rfl) (fun _ W hS => op_mv rfl rfl) ?_
        simp only [Act.put, List.setIfInBounds_toArray, List.set_cons_zero, List.set_cons_succ]
        refine k_step (fun K' u => u = .int .i64 (n : Int) ∧ K' = fun W => JAt W n B1 b db vb B2 rb S1 p2 sb2 L2 (.slice a2 S1.pend.length c2)) (by apply opN; repeat' (first | apply OpAt.z | apply OpAt.s)) (by rfl) (by rfl) (by rfl) (fun W hC hK => ?_) ?_
        · refine op_x1 rfl rfl rfl (fun _ _ => rfl) ((size_any W hK.a).mono ?_)
          rintro e W' ⟨rfl, rfl⟩
          exact ⟨_, rfl, hC, _, hK, rfl, rfl⟩
        rintro _ _ ⟨rfl, rfl⟩
        simp only [Act.put, List.setIfInBounds_toArray, List.set_cons_zero, List.set_cons_succ]
        refine k_val (.bool false) (by apply opN; repeat' (first | apply OpAt.z | apply OpAt.s)) (by rfl) (by rfl) (fun _ W hS => op_nei rfl rfl rfl) ?_
        simp only [Act.put, List.setIfInBounds_toArray, List.set_cons_zero, List.set_cons_succ]
        refine k_val (.bool false) (by apply opN; repeat' (first | apply OpAt.z | apply OpAt.s)) (by rfl) (by rfl) (fun _ W hS => op_pkb rfl rfl rfl rfl rfl) ?_
        simp only [Act.put, List.setIfInBounds_toArray, List.set_cons_zero, List.set_cons_succ]
        refine k_nil ?_
        intro W hC hK
        have hJ2 := hide hK
        have hB2 := hide hC
        clear hC hK
        have hRd := hide (read_any B1 b n db vb p2 S1 0 (n : Int) W hJ2.out.a)
        have hRr := hide (rread_any B2 rb n sb2 L2 _ S1 hn1H.out hf1.out.ok (by have := hf1.out.len; omega) hf1.out.rp 0 (n : Int) (by decide) (by decide) (by omega) (by omega) W hJ2.out.r)
        obtain ⟨rs, hrs⟩ : ∃ x, x = (S1.read n 0 (n : Int)).1 := ⟨_, rfl⟩
        obtain ⟨re, hre⟩ : ∃ x, x = (S1.read n 0 (n : Int)).2 := ⟨_, rfl⟩
        rw [← hrs, ← hre] at hRd hRr
        clear hrs hre
        go_wp2_with (first
          | (go_at_call 14; refine hRd.out.mono ?_; rintro e w' ⟨rfl, rfl⟩)
          | (go_at_call 20; refine hRr.out.mono ?_; rintro e w5 ⟨rfl, h1⟩; have hJ5 := hide (hJ2.out.next h1); have hB5 := hide (hB2.out.trans (h1.mono (by have := hL1.out; have := hJ2.out.a.hb; have := hJ2.out.a.lt.1; omega))); clear h1))
        go_roundw
        case rel => exact ⟨j + 1, by go_num, by omega, S1, p2, sb2, L2, _, hJ5.out, hf1.out, hB5.out⟩
        case measure => simp [intOf]; omega
end Go.Proofs.Ytehenjgggaedeaa
