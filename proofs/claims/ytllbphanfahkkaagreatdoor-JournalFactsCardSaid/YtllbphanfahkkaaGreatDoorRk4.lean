/-
  Package royaltyref22: Crash: what it changes.
-/
import Derived.Test.YtllbphanfahkkaaGreatDoorRk3
import Derived.Test.YtllbphanfahkkaaGreatDoorMY7
namespace Go.Proofs.YtllbphanfahkkaaGreatDoor
open Go.RowKit RG
theorem change_size (x : Nat × ByteArray) : (Tryz.prog.info? 111).map (·.size) = some (RW.wrl x).length := by kernel_rfl
theorem rowV_below {α : Type} {k : Nat} {enc : α → List Value} {W W' : World} {v : Value} {l : List α} (h : RowV k enc W v l) (hB : Below W.heap.size W W') : RowV k enc W' v l := by
  obtain ⟨a, c, e, h1, h2⟩ := h
  refine ⟨a, c, e, h1, h2.imp id ?_⟩
  rintro ⟨b, o, e', hb, hc⟩
  exact ⟨b, o, e', Nat.lt_of_lt_of_le hb hB.size, fun i x hx j u hu => (World.cell?_of_block (a := ⟨b, o + i * k + j, none⟩) (hB.block b hb)).trans (hc i x hx j u hu)⟩
theorem own_rowL {W : World} {B q : Nat} {e : TypeId} {v : Value} {l : List (Nat × ByteArray)} (h : W.ownsRow B e 2 v q (rowCells RW.wrl l)) (_hl : l.length = q) : RowV 2 RW.wrl W v l := rowV_own (enc := RW.wrl) wrl_len (by decide) h
theorem own_formN {W : World} {B k m q : Nat} {e : TypeId} {v : Value} {xs : List Value} (h : W.ownsRow B e k v m xs) (hm : m = q) : ∃ a c, v = .slice a q c := by
  subst hm
  rcases h.2 with ⟨rfl, h0⟩ | ⟨g, cap, cur, rfl, _⟩
  · exact ⟨none, 0, by rw [h0]⟩
  · exact ⟨_, _, rfl⟩
theorem RefAt.sureChg {W W' : World} {B b n sb : Nat} {L s : List UInt8} {pv : Value} {S : RW.Dk} {o : Nat} (h : RefAt W B b n sb L pv S) (h1 : W'.heap[sb]? = some (.cells (RW.byl (RW.lay L o s)).toArray 5 (0, 0))) (h2 : Chg sb W W') (hs : o + s.length ≤ n) :
    RefAt W' B b n sb (RW.lay L o s) pv ⟨S.off, S.left, RW.lay S.dur o s, S.vis, S.pend⟩ ∧ RFr b sb W sb W' ∧ Below B W W' := by
  obtain ⟨a1, a2⟩ := h.apart
  have hl : (RW.lay L o s).length = L.length := lay_len (Nat.le_trans hs h.ln)
  exact ⟨⟨by rw [hl]; exact (h2.block b h.lt.1 a1).trans h.row, h1, by rw [RW.lay_take hs h.ln, h.ld], by rw [hl]; exact h.ln, own_keep h.pend fun g hg => h2.block g (h.pend.lt g hg).2 (a2 g hg).2, h.hb, h.hs, h.hn, h.lf⟩, h2.rfr (.inr rfl), h2.below h.hs (Nat.le_trans h.hb (Nat.le_of_lt h.lt.1))⟩
set_option maxRecDepth 10000 in
set_option maxHeartbeats 2000000 in
theorem rcrash_any (B b n sb : Nat) (L : List UInt8) (pv : Value) (S : RW.Dk) (hn1 : 1 ≤ n) (hok : S.ok n) (hpl : S.pend.length ≤ 1000000) (kv : Value) (keep : List Int) (torn : Int) (ht : -9223372036854775808 ≤ torn) (ht2 : torn ≤ 9223372036854775807) (hss : ∀ x ∈ S.pend, x.2.size ≤ 4194304) (hkl : keep.length ≤ 1000000) (w : World) (hK : RowV 1 (fun z => [Value.int .i64 z]) w kv keep) (h : RefAt w B b n sb L pv S) :
    Calls Tryz.prog 72 #[.pointer (some ⟨b, 0, none⟩), kv, .int .i64 torn] w fun e w' => (∃ v, e = .returned v) ∧ ∃ L' pv', RefAt w' B b n sb L' pv' (S.crash keep torn) ∧ RFr b sb w sb w' ∧ Below B w w' := by
  obtain ⟨ap, cp, rfl⟩ := h.form
  obtain ⟨kp, hkp⟩ : ∃ k, k = S.pend.length := ⟨_, rfl⟩
  have hKH := hide hK
  obtain ⟨ak, ck, rfl, _⟩ := hK
  obtain ⟨nk, hnk⟩ : ∃ k, k = keep.length := ⟨_, rfl⟩
  rw [← hnk] at hKH ⊢
  rw [← hkp] at h hpl
  have hH := hide h
  have hokH := hide hok
  have hssH := hide hss
  have hkpH := hide hkp
  have hnkH := hide hnk
  have hklH := hide hkl
  obtain ⟨B1, hB1⟩ : ∃ x, x = w.heap.size := ⟨_, rfl⟩
  have hB1H := hide hB1
  have hBB := hide (show B ≤ B1 by rw [hB1]; exact Nat.le_trans h.hb (Nat.le_of_lt h.lt.1))
  clear h hok hkp hnk hkl hss hB1
  go_enter Tryz.func72, Tryz.ntmps72
  go_wp2
  go_loopw [6, 7] (fun z i wr => ∃ j : Nat, i = .int .i64 j ∧ j ≤ kp ∧ Hid (wr.ownsRow B1 111 2 z (RW.keptL S.pend (fun q => keep.contains (q : Int)) j).length (rowCells RW.wrl (RW.keptL S.pend (fun q => keep.contains (q : Int)) j)) ∧ Below B1 w wr)) (fun _ i _ => kp - (intOf i).toNat)
  case atStart => exact ⟨0, rfl, Nat.zero_le _, World.ownsRow_nil _ _ _ _, Below.refl _ _⟩
  case round =>
    obtain ⟨j, rfl, hj, hQ⟩ := hrel
    obtain ⟨wo, hwo⟩ : ∃ wo, wo = wr := ⟨_, rfl⟩
    subst hwo
    obtain ⟨hO0, hB0⟩ := hQ.out
    obtain ⟨nq, hnq⟩ : ∃ q, q = (RW.keptL S.pend (fun q => keep.contains (q : Int)) j).length := ⟨_, rfl⟩
    have hnql := hide (show nq ≤ j by rw [hnq, RW.kept_len (by rw [← hkpH.out]; exact hj)]; exact RW.ascK_len _ _)
    have hnqH := hide hnq
    obtain ⟨az, cz, rfl⟩ := own_formN hO0 hnq.symm
    have hO := hide hO0
    have hBw := hide hB0
    have hR := hide (hH.out.next (hB1H.out ▸ hB0))
    have c1 : wo.cell? ⟨b, 1, none⟩ = some (.slice ap kp cp) := cellAt hR.out.row 1
    clear hQ hO0 hB0 hnq
    by_cases hlt : j < kp
    · have hltH := hide hlt
      obtain ⟨x, hx⟩ : ∃ x, S.pend[j]? = some x := ⟨_, List.getElem?_eq_getElem (by rw [← hkpH.out]; exact hlt)⟩
      have hxp := hide hx
      have hHas := hide (has_any (.slice ak nk ck) keep (j : Int) hklH.out wo (hKH.out.next (hB1H.out ▸ hBw.out)))
      obtain ⟨q, hq⟩ : ∃ q, q = keep.contains (j : Int) := ⟨_, rfl⟩
      rw [← hq] at hHas
      have hqH := hide hq.symm
      obtain ⟨pg, po, cap, he, _, _, hrgs⟩ := (rowV_own (enc := RW.wrl) wrl_len (by decide) hR.out.pend).at (by rintro e; rw [e] at hx; simp at hx)
      obtain ⟨rfl, rfl⟩ : ap = some ⟨pg, po, none⟩ ∧ cp = cap := by injection he; exact ⟨by assumption, by assumption⟩
      have hrg := hrgs j x hx
      have hps := change_size x
      have hl2 := wrl_len x
      clear hx he hrgs hq
      cases q
      · go_wp2_with (go_at_call 110; refine hHas.out.mono ?_; rintro e w' ⟨rfl, rfl⟩)
        go_roundw
        case rel => exact ⟨j + 1, by go_num, hltH.out, by rw [RW.kept_no hqH.out, ← hnqH.out]; exact ⟨hnqH.out ▸ hO.out, hBw.out⟩⟩
        case measure => have := hltH.out; simp [intOf]; omega
      · have hsz := hide (show B1 ≤ wo.heap.size by rw [hB1H.out]; exact hB1H.out ▸ hBw.out.size)
        have hlit : RowV 2 RW.wrl (wo.alloc (.cells (rowCells RW.wrl [x]).toArray 111)) (.slice (some ⟨wo.heap.size, 0, none⟩) 1 1) [x] := rows_lit wo 111 wrl_len [x]
        rw [show rowCells RW.wrl [x] = RW.wrl x by rw [rowCells, List.flatMap_cons, List.flatMap_nil, List.append_nil]] at hlit
        obtain ⟨v9, w9, hrun, hO9, hB9, _⟩ := run_app_rows (P := Tryz.prog) 65 Tryz.underlying65 change_info (by rfl) (by decide) wrl_len wrl_one (hO.out.alloc (.cells (RW.wrl x).toArray 111)) (by have := hsz.out; simp; omega) hlit (by rw [← hnqH.out]; have := hnql.out; unfold maxLen; simp; omega) (by rw [← hnqH.out]; have := hnql.out; simp; omega)
        rw [← RW.kept_yes hxp.out hqH.out] at hO9
        obtain ⟨a9, c9, hv9⟩ : ∃ a c, v9 = .slice a (nq + 1) c := by
          have hl9 : (RW.keptL S.pend (fun q => keep.contains (q : Int)) (j + 1)).length = nq + 1 := by rw [RW.kept_yes hxp.out hqH.out, List.length_append, ← hnqH.out]; rfl
          rcases hO9.2 with ⟨e, h0⟩ | ⟨g', cap', cur', e, _⟩
          · rw [hl9] at h0; omega
          · exact ⟨_, _, by rw [e, hl9]⟩
        subst hv9
        have hO9H := hide hO9
        have hBw9 := hide (hBw.out.trans (((Below.refl B1 wo).alloc hsz.out (.cells (RW.wrl x).toArray 111)).trans hB9))
        clear hlit hO9 hB9
        go_wp2_with (first
          | (go_at_call 110; refine hHas.out.mono ?_; rintro e w' ⟨rfl, rfl⟩)
          | (refine wpList_load_mid rfl 111 (.tmp 28) rfl pg (po + j * 2) rfl (RW.wrl x) _ hrg Tryz.underlying111 rfl hps ?_)
          | (at_builtin; refine wpList_app_run rfl (.tmp 22) (.tmp 30) rfl rfl rfl hrun ?_))
        go_roundw
        case rel => exact ⟨j + 1, by go_num, hltH.out, hO9H.out, hBw9.out⟩
        case measure => have := hltH.out; simp [intOf]; omega
    · obtain rfl : kp = j := by omega
      obtain ⟨kl, hkl⟩ : ∃ l, l = RW.keptL S.pend (fun q => keep.contains (q : Int)) kp := ⟨_, rfl⟩
      rw [← hkl] at hO hnqH
      have hklL := hide (show kl.length = nq from hnqH.out.symm)
      have hklH := hide hkl
      have hOn := hide (show wo.ownsRow B1 111 2 (.slice az nq cz) nq (rowCells RW.wrl kl) by have := hO.out; rw [hklL.out] at this; exact this)
      obtain ⟨T, hT⟩ : ∃ T, T = RW.kfold torn nq 0 kl S.dur := ⟨_, rfl⟩
      have hTH := hide hT
      have hnq2 : nq ≤ 1000000 := Nat.le_trans hnql.out hpl
      have hmemH := hide (show ∀ y ∈ kl, y ∈ S.pend from fun y hy => RW.kept_mem (hkl ▸ hy))
      have hFw := hide (RFr.of_below (b := b) (sb := sb) (hB1H.out ▸ hBw.out : Below w.heap.size w wo))
      have hBw2 := hide (hBw.out.mono hBB.out)
      clear hkl hT hO
      go_wp2
      go_loopw [8] (fun i wr => ∃ m : Nat, i = .int .i64 m ∧ m ≤ nq ∧ Hid (∃ dd Lj, RefAt wr B b n sb Lj (.slice ap kp cp) ⟨S.off, S.left, dd, S.vis, S.pend⟩ ∧ RW.kfold torn nq m (kl.drop m) dd = T ∧ wr.ownsRow B1 111 2 (.slice az nq cz) nq (rowCells RW.wrl kl) ∧ RFr b sb w sb wr ∧ Below B w wr)) (fun i _ => nq - (intOf i).toNat)
      case atStart => exact ⟨0, rfl, Nat.zero_le _, S.dur, L, hR.out, by rw [List.drop_zero]; exact hTH.out.symm, hOn.out, hFw.out, hBw2.out⟩
      case round =>
        clear c1
        obtain ⟨m, rfl, hm, hQ⟩ := hrel
        obtain ⟨w2, hw2⟩ : ∃ w2, w2 = wr := ⟨_, rfl⟩
        subst hw2
        obtain ⟨dd, Lj, hRj0, hfold0, hOj0, hFj0, hBj0⟩ := hQ.out
        have hRj := hide hRj0
        have hfold := hide hfold0
        have hOj := hide hOj0
        have hFj := hide hFj0
        have hBj := hide hBj0
        clear hQ hRj0 hfold0 hOj0 hFj0 hBj0
        by_cases hlt : m < nq
        · have hltH := hide hlt
          obtain ⟨x, hx⟩ : ∃ x, kl[m]? = some x := ⟨_, List.getElem?_eq_getElem (by rw [hklL.out]; exact hlt)⟩
          have hxp := hide hx
          have hxm := hmemH.out x (List.mem_of_getElem? hx)
          have hbx := hide (hokH.out x hxm)
          have hsx := hssH.out x hxm
          have hdrop := hide (show kl.drop m = x :: kl.drop (m + 1) by rw [List.drop_eq_getElem_cons (by rw [hklL.out]; exact hlt), (List.getElem?_eq_some_iff.1 hx).2])
          obtain ⟨g6, o6, cap6, he, _, _, _⟩ := (own_rowL hOj.out hklL.out).at (by rintro e; rw [e] at hx; simp at hx)
          obtain ⟨rfl, rfl⟩ : az = some ⟨g6, o6, none⟩ ∧ cz = cap6 := by injection he; exact ⟨by assumption, by assumption⟩
          obtain ⟨ci0, ci⟩ := rowV_cell2 (a := none) (own_rowL hOj.out hklL.out) m x hx
          have hgsb := hide (show g6 ≠ sb from by
            rcases hOj.out.2 with ⟨e', _⟩ | ⟨g', cap', cur', e', _, hh, _⟩
            · cases e'
            · cases e'; exact blocks_ne hh hRj.out.sure (by decide))
          clear hx he ci0 hxm
          obtain ⟨q, hq⟩ : ∃ q : Bool, q = decide (m + 1 = nq ∧ (0 ≤ torn ∧ torn < x.2.size)) := ⟨_, rfl⟩
          have hqH := hide hq
          clear hq
          have hN1 : 1 ≤ nq := by omega
          go_upto_region 10 with fail
          go_cut [57] (fun s wx => s = .bool q ∧ wx = w2)
          case first =>
            by_cases hm1 : m + 1 = nq
            · have hb : ((m : Int) == (nq : Int) - 1) = true := by rw [beq_iff_eq]; omega
              by_cases ht0 : 0 ≤ torn
              · by_cases htx : torn < x.2.size
                · have e := hide (show q = true by rw [hqH.out, decide_eq_true ⟨hm1, ht0, htx⟩])
                  clear hm1
                  go_wp2
                  all_goals go_meet
                  all_goals exact ⟨by rw [e.out] <;> rfl, rfl⟩
                · have e := hide (show q = false by rw [hqH.out, decide_eq_false fun h => htx h.2.2])
                  clear hm1
                  go_wp2
                  all_goals go_meet
                  all_goals exact ⟨by rw [e.out] <;> rfl, rfl⟩
              · have e := hide (show q = false by rw [hqH.out, decide_eq_false fun h => ht0 h.2.1])
                clear hm1
                go_wp2
                all_goals go_meet
                all_goals exact ⟨by rw [e.out] <;> rfl, rfl⟩
            · have hb : ((m : Int) == (nq : Int) - 1) = false := by rw [beq_eq_false_iff_ne]; omega
              have e := hide (show q = false by rw [hqH.out, decide_eq_false fun h => hm1 h.1])
              clear hm1
              go_wp2
              all_goals go_meet
              all_goals exact ⟨by rw [e.out] <;> rfl, rfl⟩
          case rest =>
          obtain ⟨rfl, hwx⟩ := hcut
          have hwx' := hwx.symm
          subst hwx'
          cases q
          · have hqf := of_decide_eq_false hqH.out.symm
            have hte : (if m + 1 = nq ∧ 0 ≤ torn then RW.tear torn x.2 else x.2) = x.2 := by
              split
              · rename_i hc
                rw [RW.tear, Nat.min_eq_right (by have := hc.1; have := hc.2; omega)]
                exact ByteArray.extract_zero_size
              · rfl
            have hby := hbx
            have hfold2 := hide (show RW.kfold torn nq (m + 1) (kl.drop (m + 1)) (RW.lay dd x.1 x.2.data.toList) = T by
              have h1 := hfold.out
              rw [hdrop.out, RW.kfold, hte] at h1
              exact h1)
            clear hte ci hqf hfold
            go_upto_region 12 with fail
            refine wp_region_k (fun _ W => W.heap[b]? = some (.cells #[.slice (some ⟨sb, 0, none⟩) n Lj.length, .slice ap kp cp, .bool S.off, .int .i64 (S.left : Int)] 67 (0, 0)) ∧ W.ownsRow B1 111 2 (.slice (some ⟨g6, o6, none⟩) nq cz) nq (rowCells RW.wrl kl)) (fun W => RefAt W B b n sb Lj (.slice ap kp cp) ⟨S.off, S.left, dd, S.vis, S.pend⟩ ∧ RFr b sb w sb W ∧ Below B w W) [10] (.op 0 (.op 1 (.op 2 (.op 3 (.op 4 (.op 5 (.op 6 (.op 7 (.op 8 (.op 9 (.op 10 .nil))))))))))) (by kernel_rfl) (by kernel_rfl) (by rfl) (by kernel_rfl) ⟨hRj.out.row, hOj.out⟩ ⟨hRj.out.next (Below.refl _ _).drew, hFj.out.trans (RFr.of_below (Below.refl _ _).drew), hBj.out.drew⟩ ?_
            refine k_val (.pointer (some ⟨b, 0, none⟩)) (by apply opN; repeat' (first | apply OpAt.z | apply OpAt.s)) (by rfl) (by rfl) (fun _ W hS => op_mv rfl rfl) ?_
            simp only [Act.put, List.setIfInBounds_toArray, List.set_cons_zero, List.set_cons_succ]
            refine k_val (.pointer (some ⟨b, 0, none⟩)) (by apply opN; repeat' (first | apply OpAt.z | apply OpAt.s)) (by rfl) (by rfl) (fun _ W hS => op_nc rfl rfl) ?_
            simp only [Act.put, List.setIfInBounds_toArray, List.set_cons_zero, List.set_cons_succ]
            refine k_val (.pointer (some ⟨b, 0, none⟩)) (by apply opN; repeat' (first | apply OpAt.z | apply OpAt.s)) (by rfl) (by rfl) (fun _ W hS => op_fa_r (by decide) rfl rfl) ?_
            simp only [Act.put, List.setIfInBounds_toArray, List.set_cons_zero, List.set_cons_succ]
            refine k_val (.slice (some ⟨sb, 0, none⟩) n Lj.length) (by apply opN; repeat' (first | apply OpAt.z | apply OpAt.s)) (by rfl) (by rfl) (fun _ W hS => op_load_by rfl rfl (cellAt hS.1 0)) ?_
            simp only [Act.put, List.setIfInBounds_toArray, List.set_cons_zero, List.set_cons_succ]
            refine k_val (.slice (some ⟨g6, o6, none⟩) nq cz) (by apply opN; repeat' (first | apply OpAt.z | apply OpAt.s)) (by rfl) (by rfl) (fun _ W hS => op_mv rfl rfl) ?_
            simp only [Act.put, List.setIfInBounds_toArray, List.set_cons_zero, List.set_cons_succ]
            refine k_val (.int .i64 (m : Int)) (by apply opN; repeat' (first | apply OpAt.z | apply OpAt.s)) (by rfl) (by rfl) (fun _ W hS => op_mv rfl rfl) ?_
            simp only [Act.put, List.setIfInBounds_toArray, List.set_cons_zero, List.set_cons_succ]
            refine k_val (.pointer (some ⟨g6, o6 + m * 2, none⟩)) (by apply opN; repeat' (first | apply OpAt.z | apply OpAt.s)) (by rfl) (by rfl) (fun _ W hS => op_idx_ch rfl rfl rfl hltH.out) ?_
            simp only [Act.put, List.setIfInBounds_toArray, List.set_cons_zero, List.set_cons_succ]
            refine k_val (.pointer (some ⟨g6, o6 + m * 2, none⟩)) (by apply opN; repeat' (first | apply OpAt.z | apply OpAt.s)) (by rfl) (by rfl) (fun _ W hS => op_fa_c0 rfl rfl) ?_
            simp only [Act.put, List.setIfInBounds_toArray, List.set_cons_zero, List.set_cons_succ]
            refine k_val (.int .i64 (x.1 : Int)) (by apply opN; repeat' (first | apply OpAt.z | apply OpAt.s)) (by rfl) (by rfl) (fun _ W hS => op_load_int rfl rfl (rowV_cell2 (a := none) (own_rowL hS.2 hklL.out) m x hxp.out).1) ?_
            simp only [Act.put, List.setIfInBounds_toArray, List.set_cons_zero, List.set_cons_succ]
            refine k_val (.string x.2) (by apply opN; repeat' (first | apply OpAt.z | apply OpAt.s)) (by rfl) (by rfl) (fun _ W hS => op_mv rfl rfl) ?_
            simp only [Act.put, List.setIfInBounds_toArray, List.set_cons_zero, List.set_cons_succ]
            refine k_step (fun K' u => K' = fun W => (RefAt W B b n sb (RW.lay Lj x.1 x.2.data.toList) (.slice ap kp cp) ⟨S.off, S.left, RW.lay dd x.1 x.2.data.toList, S.vis, S.pend⟩ ∧ W.ownsRow B1 111 2 (.slice (some ⟨g6, o6, none⟩) nq cz) nq (rowCells RW.wrl kl)) ∧ RFr b sb w sb W ∧ Below B w W) (by apply opN; repeat' (first | apply OpAt.z | apply OpAt.s)) (by rfl) (by rfl) (by rfl) (fun W hC hK => ?_) ?_
            · refine op_x3 rfl rfl rfl rfl rfl (fun _ _ => rfl) ((apply_any sb n Lj.length Lj x.1 x.2 hK.1.hn hK.1.ln hby.out W hK.1.sure).mono ?_)
              rintro e W' ⟨⟨v, rfl⟩, h1, h2⟩
              obtain ⟨k1, k2, k3⟩ := hK.1.sureChg h1 h2 (by rw [Array.length_toList]; exact hby.out)
              have hOw := own_keep hC.2 fun k hk => h2.block k (hC.2.lt k hk).2 (by cases hk; exact hgsb.out)
              exact ⟨_, rfl, ⟨(h2.block b hK.1.lt.1 hK.1.apart.1).trans hC.1, hOw⟩, _, ⟨⟨k1, hOw⟩, hK.2.1.trans k2, hK.2.2.trans k3⟩, rfl⟩
            rintro _ _ rfl
            simp only [Act.put, List.setIfInBounds_toArray, List.set_cons_zero, List.set_cons_succ]
            refine k_nil ?_
            intro W hC hK
            have hKH := hide hK
            clear hC hK
            go_wp2
            go_roundw
            case rel => exact ⟨m + 1, by go_num, hltH.out, RW.lay dd x.1 x.2.data.toList, RW.lay Lj x.1 x.2.data.toList, hKH.out.1.1, hfold2.out, hKH.out.1.2, hKH.out.2.1, hKH.out.2.2⟩
            case measure => have := hltH.out; simp [intOf]; omega
          · have hqt := of_decide_eq_true hqH.out.symm
            obtain ⟨tn, rfl⟩ : ∃ tn : Nat, torn = tn := ⟨torn.toNat, by omega⟩
            have htl : tn ≤ x.2.size := by omega
            have hte : (if m + 1 = nq ∧ 0 ≤ (tn : Int) then RW.tear (tn : Int) x.2 else x.2) = x.2.extract 0 tn := by
              rw [if_pos ⟨hqt.1, hqt.2.1⟩, RW.tear, Int.toNat_natCast, Nat.min_eq_left htl]
            have hby := hide (show x.1 + (x.2.extract 0 tn).size ≤ n by rw [ByteArray.size_extract]; have := hbx.out; omega)
            have hfold2 := hide (show RW.kfold (tn : Int) nq (m + 1) (kl.drop (m + 1)) (RW.lay dd x.1 (x.2.extract 0 tn).data.toList) = T by
              have h1 := hfold.out
              rw [hdrop.out, RW.kfold, hte] at h1
              exact h1)
            clear hte ci hqt hfold
            go_upto_region 12 with fail
            refine wp_region_k (fun _ W => W.heap[b]? = some (.cells #[.slice (some ⟨sb, 0, none⟩) n Lj.length, .slice ap kp cp, .bool S.off, .int .i64 (S.left : Int)] 67 (0, 0)) ∧ W.ownsRow B1 111 2 (.slice (some ⟨g6, o6, none⟩) nq cz) nq (rowCells RW.wrl kl)) (fun W => RefAt W B b n sb Lj (.slice ap kp cp) ⟨S.off, S.left, dd, S.vis, S.pend⟩ ∧ RFr b sb w sb W ∧ Below B w W) [10] (.op 0 (.op 1 (.op 2 (.op 3 (.op 4 (.op 5 (.op 6 (.op 7 (.op 8 (.op 9 (.op 10 .nil))))))))))) (by kernel_rfl) (by kernel_rfl) (by rfl) (by kernel_rfl) ⟨hRj.out.row, hOj.out⟩ ⟨hRj.out.next (Below.refl _ _).drew, hFj.out.trans (RFr.of_below (Below.refl _ _).drew), hBj.out.drew⟩ ?_
            refine k_val (.pointer (some ⟨b, 0, none⟩)) (by apply opN; repeat' (first | apply OpAt.z | apply OpAt.s)) (by rfl) (by rfl) (fun _ W hS => op_mv rfl rfl) ?_
            simp only [Act.put, List.setIfInBounds_toArray, List.set_cons_zero, List.set_cons_succ]
            refine k_val (.pointer (some ⟨b, 0, none⟩)) (by apply opN; repeat' (first | apply OpAt.z | apply OpAt.s)) (by rfl) (by rfl) (fun _ W hS => op_nc rfl rfl) ?_
            simp only [Act.put, List.setIfInBounds_toArray, List.set_cons_zero, List.set_cons_succ]
            refine k_val (.pointer (some ⟨b, 0, none⟩)) (by apply opN; repeat' (first | apply OpAt.z | apply OpAt.s)) (by rfl) (by rfl) (fun _ W hS => op_fa_r (by decide) rfl rfl) ?_
            simp only [Act.put, List.setIfInBounds_toArray, List.set_cons_zero, List.set_cons_succ]
            refine k_val (.slice (some ⟨sb, 0, none⟩) n Lj.length) (by apply opN; repeat' (first | apply OpAt.z | apply OpAt.s)) (by rfl) (by rfl) (fun _ W hS => op_load_by rfl rfl (cellAt hS.1 0)) ?_
            simp only [Act.put, List.setIfInBounds_toArray, List.set_cons_zero, List.set_cons_succ]
            refine k_val (.slice (some ⟨g6, o6, none⟩) nq cz) (by apply opN; repeat' (first | apply OpAt.z | apply OpAt.s)) (by rfl) (by rfl) (fun _ W hS => op_mv rfl rfl) ?_
            simp only [Act.put, List.setIfInBounds_toArray, List.set_cons_zero, List.set_cons_succ]
            refine k_val (.int .i64 (m : Int)) (by apply opN; repeat' (first | apply OpAt.z | apply OpAt.s)) (by rfl) (by rfl) (fun _ W hS => op_mv rfl rfl) ?_
            simp only [Act.put, List.setIfInBounds_toArray, List.set_cons_zero, List.set_cons_succ]
            refine k_val (.pointer (some ⟨g6, o6 + m * 2, none⟩)) (by apply opN; repeat' (first | apply OpAt.z | apply OpAt.s)) (by rfl) (by rfl) (fun _ W hS => op_idx_ch rfl rfl rfl hltH.out) ?_
            simp only [Act.put, List.setIfInBounds_toArray, List.set_cons_zero, List.set_cons_succ]
            refine k_val (.pointer (some ⟨g6, o6 + m * 2, none⟩)) (by apply opN; repeat' (first | apply OpAt.z | apply OpAt.s)) (by rfl) (by rfl) (fun _ W hS => op_fa_c0 rfl rfl) ?_
            simp only [Act.put, List.setIfInBounds_toArray, List.set_cons_zero, List.set_cons_succ]
            refine k_val (.int .i64 (x.1 : Int)) (by apply opN; repeat' (first | apply OpAt.z | apply OpAt.s)) (by rfl) (by rfl) (fun _ W hS => op_load_int rfl rfl (rowV_cell2 (a := none) (own_rowL hS.2 hklL.out) m x hxp.out).1) ?_
            simp only [Act.put, List.setIfInBounds_toArray, List.set_cons_zero, List.set_cons_succ]
            refine k_val (.string (x.2.extract 0 tn)) (by apply opN; repeat' (first | apply OpAt.z | apply OpAt.s)) (by rfl) (by rfl) (fun _ W hS => op_mv rfl rfl) ?_
            simp only [Act.put, List.setIfInBounds_toArray, List.set_cons_zero, List.set_cons_succ]
            refine k_step (fun K' u => K' = fun W => (RefAt W B b n sb (RW.lay Lj x.1 (x.2.extract 0 tn).data.toList) (.slice ap kp cp) ⟨S.off, S.left, RW.lay dd x.1 (x.2.extract 0 tn).data.toList, S.vis, S.pend⟩ ∧ W.ownsRow B1 111 2 (.slice (some ⟨g6, o6, none⟩) nq cz) nq (rowCells RW.wrl kl)) ∧ RFr b sb w sb W ∧ Below B w W) (by apply opN; repeat' (first | apply OpAt.z | apply OpAt.s)) (by rfl) (by rfl) (by rfl) (fun W hC hK => ?_) ?_
            · refine op_x3 rfl rfl rfl rfl rfl (fun _ _ => rfl) ((apply_any sb n Lj.length Lj x.1 (x.2.extract 0 tn) hK.1.hn hK.1.ln hby.out W hK.1.sure).mono ?_)
              rintro e W' ⟨⟨v, rfl⟩, h1, h2⟩
              obtain ⟨k1, k2, k3⟩ := hK.1.sureChg h1 h2 (by rw [Array.length_toList]; exact hby.out)
              have hOw := own_keep hC.2 fun k hk => h2.block k (hC.2.lt k hk).2 (by cases hk; exact hgsb.out)
              exact ⟨_, rfl, ⟨(h2.block b hK.1.lt.1 hK.1.apart.1).trans hC.1, hOw⟩, _, ⟨⟨k1, hOw⟩, hK.2.1.trans k2, hK.2.2.trans k3⟩, rfl⟩
            rintro _ _ rfl
            simp only [Act.put, List.setIfInBounds_toArray, List.set_cons_zero, List.set_cons_succ]
            refine k_nil ?_
            intro W hC hK
            have hKH := hide hK
            clear hC hK
            go_wp2
            go_roundw
            case rel => exact ⟨m + 1, by go_num, hltH.out, RW.lay dd x.1 (x.2.extract 0 tn).data.toList, RW.lay Lj x.1 (x.2.extract 0 tn).data.toList, hKH.out.1.1, hfold2.out, hKH.out.1.2, hKH.out.2.1, hKH.out.2.2⟩
            case measure => have := hltH.out; simp [intOf]; omega
        · obtain rfl : m = nq := by omega
          have hdT : dd = T := by
            have h1 := hfold.out
            rw [List.drop_eq_nil_iff.2 (by rw [hklL.out]; exact Nat.le_refl _), RW.kfold] at h1
            exact h1
          have e1 : w2.cell? ⟨b, 1, none⟩ = some (.slice ap kp cp) := cellAt hRj.out.row 1
          have e2 : w2.cell? ⟨b, 2, none⟩ = some (.bool S.off) := cellAt hRj.out.row 2
          have e3 : w2.cell? ⟨b, 3, none⟩ = some (.int .i64 (S.left : Int)) := cellAt hRj.out.row 3
          have f1 : w2.frozen? ⟨b, 1, none⟩ = false := by simp [World.frozen?, hRj.out.row]
          have f2 : w2.frozen? ⟨b, 2, none⟩ = false := by simp [World.frozen?, hRj.out.row]
          have f3 : w2.frozen? ⟨b, 3, none⟩ = false := by simp [World.frozen?, hRj.out.row]
          have hdTH := hide hdT
          clear hdT
          go_wp2
          go_end0
          have hc : Chg b w2 (((w2.setCell ⟨b, 1, none⟩ (.slice none 0 0)).setCell ⟨b, 2, none⟩ (.bool false)).setCell ⟨b, 3, none⟩ (.int .i64 0)) := (((Chg.refl b w2).set _).set _).set _
          have hr := hRj.out
          refine ⟨⟨_, rfl⟩, Lj, .slice none 0 0, ?_, hFj.out.trans (hc.rfr (.inl rfl)), hBj.out.trans (hc.below hr.hb (Nat.le_trans hr.hb (Nat.le_of_lt hr.lt.1)))⟩
          rw [RW.crash_eq, ← hkpH.out, ← hklH.out, ← hnqH.out, ← hTH.out, ← hdTH.out]
          exact ⟨(heap_setCell_same _ _ _ _ _ _ (heap_setCell_same _ _ _ _ _ _ (heap_setCell_same _ _ _ _ _ _ hr.row))).trans rfl, (hc.block sb hr.lt.2 (Ne.symm hr.apart.1)).trans hr.sure, hr.ld, hr.ln, World.ownsRow_nil _ _ _ _, hr.hb, hr.hs, hr.hn, by show (0 : Int) ≤ _; decide⟩
end Go.Proofs.YtllbphanfahkkaaGreatDoor
