/-
  slices.DeleteFunc with Resolve's closure at a row of parts of the call's own: the parts that are considered; only new memory and that row are written.
-/
import Derived.Test.YtnkdpfkmellpcaaSp3
namespace Go.Proofs.Ytnkdpfkmellpcaa
open Go.RowKit
namespace RW
theorem okL_take_succ {l : List Pt} {j : Nat} {x : Pt} (h : l[j]? = some x) : okL (l.take (j + 1)) = okL (l.take j) ++ if cntB x.2 then [x] else [] := by
  rw [List.take_add_one, h]
  simp [okL, List.filter_append, List.filter_cons]
theorem okL_all {l : List Pt} (h : ∀ x ∈ l, cntB x.2 = true) : okL l = l := List.filter_eq_self.2 h
end RW
theorem part_zero (w : World) : (zeroValue 39).run Try.prog w = .ok (.agg #[.int .i64 0, .int .i64 0]) w := by
  obtain ⟨i0, hi, hz0, _, _⟩ := info_parts info_part
  simp [zeroValue, typeInfo, hi, hz0]
theorem part_one (x : RW.Pt) : (RW.pcl x).toArray.all (·.oneCell') = true := by
  simp [RW.pcl]
  exact ⟨rfl, rfl⟩
set_option maxRecDepth 10000 in
set_option maxHeartbeats 4000000 in
theorem delete_parts (B g cap : Nat) (l : List RW.Pt) (hl : l.length ≤ 1000000) (w : World) (hB : B ≤ w.heap.size) (h : OwnP w B (.slice (some ⟨g, 0, none⟩) l.length cap) l) :
    Calls Try.prog 34 #[.slice (some ⟨g, 0, none⟩) l.length cap, .func (.func 33) #[] #[]] w fun e w' => ∃ v', e = .returned v' ∧ OwnP w' B v' (RW.okL l) ∧ Below B w w' := by
  obtain ⟨cur, hBg, hgl, hg, hncap, hcm, hcs, hct⟩ := own_row h rfl
  have hI := hide (index_at g 0 cap l hl w hgl fun i x hx => own_range h (0 + i * 2) _ fun j u hj => by rw [Nat.zero_add]; exact rowCells_get pcl_len l i x hx j u hj)
  obtain ⟨n, hn⟩ : ∃ n, n = l.length := ⟨_, rfl⟩
  have hnH := hide hn
  have hH := hide h
  have hBH := hide hB
  have hBgH := hide hBg
  rw [← hn] at hl hI hncap ⊢
  clear hg hcs hct hcm hn h hB hBg cur
  go_enter Try.func34, Try.ntmps34
  go_upto_region 2 with (go_at_call 40; refine hI.out.mono ?_; rintro e w1 ⟨⟨r, rfl, hr⟩, hB1⟩; have hrH := hide hr; have hB1H := hide hB1; clear hr hB1)
  have hOwn1 := hide (show OwnP w1 B (.slice (some ⟨g, 0, none⟩) l.length cap) l from hH.out.next hB1H.out)
  have hW1 := hide (show Below B w w1 from hB1H.out.mono hBH.out)
  rcases hrH.out with ⟨rfl, hall⟩ | ⟨i, rfl, hil, hpre, hit⟩
  · have hok := hide (RW.okL_all hall)
    clear hrH hall hI
    go_wp2
    go_ret
    exact ⟨_, rfl, by rw [hok.out, hnH.out]; exact hOwn1.out, hW1.out⟩
  · have hpreH := hide hpre
    have hitH := hide hit
    rw [← hnH.out] at hil
    have hi1 : ((i : Int) == -1) = false := by rw [beq_eq_false_iff_ne]; omega
    clear hrH hpre hit hI
    go_wp2
    go_loopw [5, 6] (fun a b wr => ∃ (i j : Nat) (ps : List RW.Pt), a = .int .i64 i ∧ b = .int .i64 j ∧ i < j ∧ j ≤ n ∧ Hid (ps.length = n ∧ OwnP wr B (.slice (some ⟨g, 0, none⟩) ps.length cap) ps ∧ ps.take i = RW.okL (l.take j) ∧ ps.drop j = l.drop j ∧ Below B w wr)) (fun _ b _ => n - (intOf b).toNat)
    case atStart =>
      refine ⟨i, i + 1, l, rfl, by go_num, by omega, by omega, hnH.out.symm, hOwn1.out, ?_, rfl, hW1.out⟩
      obtain ⟨x, hx⟩ : ∃ x, l[i]? = some x := ⟨_, List.getElem?_eq_getElem (by rw [← hnH.out]; exact hil)⟩
      rw [RW.okL_take_succ hx, hitH.out x hx, RW.okL_all hpreH.out]
      simp
    case round =>
      clear hW1 hOwn1 hB1H hpreH hitH hi1 hil
      obtain ⟨i, j, ps, rfl, rfl, hij, hjn, hP⟩ := hrel
      by_cases hlt : j < n
      · obtain ⟨x, hx⟩ : ∃ x, l[j]? = some x := ⟨_, List.getElem?_eq_getElem (by rw [← hnH.out]; exact hlt)⟩
        have hpx : ps[j]? = some x := by
          have := congrArg (·[0]?) hP.out.2.2.2.1
          simp only [List.getElem?_drop, Nat.add_zero] at this
          rw [this, hx]
        have hil : i < ps.length := by rw [hP.out.1]; omega
        have hrg : wr.rangeAt g (j * 2) (RW.pcl x) := own_range hP.out.2.1 (j * 2) _ fun k u hk => rowCells_get pcl_len ps j x hpx k u hk
        have hps := part_size x
        have hone := part_one x
        have hN := hide (none_any x (wr.alloc (.cells (RW.pcl x).toArray 39)))
        have hgn : (wr.alloc (.cells (RW.pcl x).toArray 39)).heap[wr.heap.size]? = some (.cells (RW.pcl x).toArray 39 (0, 0)) := newAt rfl
        have hxH := hide hx
        have hilH := hide hil
        obtain ⟨q, hq⟩ : ∃ q, q = RW.cntB x.2 := ⟨_, rfl⟩
        have hqH := hide hq
        rw [← hq] at hN
        clear hx hpx hq hil
        cases q
        · go_wp2_with (first
            | (refine wpList_load_mid rfl 39 (.tmp 24) rfl g (j * 2) rfl (RW.pcl x) _ hrg Try.underlying39 rfl hps ?_)
            | (refine wpListStoreNew rfl 39 (.tmp 7) (.tmp 25) rfl (RW.pcl x).toArray rfl rfl 39 _ hps rfl hone ?_)
            | (refine wpList_load_row rfl 39 (.tmp 7) rfl wr.heap.size rfl 39 (RW.pcl x).toArray (0, 0) _ hgn Try.underlying39 rfl hps ?_)
            | (go_at_call 33; refine hN.out.mono ?_; rintro e w2 ⟨rfl, hB2⟩; have hB2H := hide hB2; clear hB2 hgn hrg))
          go_roundw
          case rel =>
            have hO := hP.out.2.1
            have hB2' : Below wr.heap.size wr w2 := ((Below.refl wr.heap.size wr).alloc (Nat.le_refl _) _).trans (hB2H.out.mono (by simp))
            refine ⟨i, j + 1, ps, rfl, by go_num, by omega, by omega, hP.out.1, hO.next hB2', ?_, ?_, hP.out.2.2.2.2.trans (hB2'.mono (Nat.le_trans hBH.out hP.out.2.2.2.2.size))⟩
            · rw [RW.okL_take_succ hxH.out, ← hqH.out, hP.out.2.2.1]; simp
            · have := congrArg (List.drop 1) hP.out.2.2.2.1
              rwa [List.drop_drop, List.drop_drop] at this
          case measure => simp [intOf]; omega
        · go_upto_region 9 with (first
            | (refine wpList_load_mid rfl 39 (.tmp 24) rfl g (j * 2) rfl (RW.pcl x) _ hrg Try.underlying39 rfl hps ?_)
            | (refine wpListStoreNew rfl 39 (.tmp 7) (.tmp 25) rfl (RW.pcl x).toArray rfl rfl 39 _ hps rfl hone ?_)
            | (refine wpList_load_row rfl 39 (.tmp 7) rfl wr.heap.size rfl 39 (RW.pcl x).toArray (0, 0) _ hgn Try.underlying39 rfl hps ?_)
            | (go_at_call 33; refine hN.out.mono ?_; rintro e w2 ⟨rfl, hB2⟩; have hB2H := hide hB2; have hg2 := (hB2.block wr.heap.size (by simp)).trans hgn; clear hB2 hgn hrg))
          have hO := hP.out.2.1
          have hB2' : Below wr.heap.size wr w2 := ((Below.refl wr.heap.size wr).alloc (Nat.le_refl _) _).trans (hB2H.out.mono (by simp))
          have hO2 := hO.next hB2'
          have hth : w2.there g (i * 2) (RW.pcl x).toArray.size := own_there hO2 (i * 2) 2 (by have := hilH.out; omega)
          have hset := hide (own_set pcl_len (by decide) hO2 i hilH.out x)
          have hB3 := hide (hP.out.2.2.2.2.trans (hB2'.mono (Nat.le_trans hBH.out hP.out.2.2.2.2.size)))
          clear hO hO2 hB2' hB2H hN
          go_wp2_with (first
            | (refine wpList_load_row rfl 39 (.tmp 7) rfl wr.heap.size rfl 39 (RW.pcl x).toArray (0, 0) _ hg2 Try.underlying39 rfl hps ?_)
            | (refine wpList_store_mid rfl 39 (.tmp 33) (.tmp 32) rfl g (i * 2) (RW.pcl x).toArray rfl rfl hth hps hone ?_))
          go_roundw
          case rel =>
            have hlen : (ps.set i x).length = ps.length := List.length_set
            refine ⟨i + 1, j + 1, ps.set i x, by go_num, by go_num, by omega, by omega, hlen.trans hP.out.1, by rw [OwnP, hlen]; exact hset.out, ?_, ?_, hB3.out.grown (setCells_grown _ _ _ _) (Nat.le_trans hBH.out hB3.out.size) (fun k e => by cases e; exact hBgH.out)⟩
            · rw [List.take_add_one, List.getElem?_set_self hilH.out, List.take_set, List.set_eq_of_length_le (by rw [List.length_take]; omega), RW.okL_take_succ hxH.out, ← hqH.out, hP.out.2.2.1]; rfl
            · rw [List.drop_set_of_lt (by omega)]
              have := congrArg (List.drop 1) hP.out.2.2.2.1
              rwa [List.drop_drop, List.drop_drop] at this
          case measure => simp [intOf]; omega
      · obtain rfl : j = n := by omega
        have e1 : (0 : Int) ≤ (i : Int) := by omega
        have e2 : (i : Int) ≤ (j : Int) := by omega
        have hth : wr.there g (i * 2) ((j - i) * (Value.agg #[.int .i64 0, .int .i64 0]).cells.size) := own_there hP.out.2.1 (i * 2) _ (by show i * 2 + (j - i) * 2 ≤ ps.length * 2; rw [hP.out.1]; omega)
        obtain ⟨vs, _, hcl⟩ := run_clear_rows (P := Try.prog) wr 28 39 (.agg #[.int .i64 0, .int .i64 0]) Try.underlying28 part_zero (by intro u hu; simp [Value.cells] at hu; subst hu; rfl) g (i * 2) (j - i) (cap - i) (by omega) hth
        have hcut := own_cut pcl_len hP.out.2.1 i (by rw [hP.out.1]; omega)
        rw [hP.out.2.2.1, List.take_of_length_le (by rw [← hnH.out]; exact Nat.le_refl _)] at hcut
        have hil : i = (RW.okL l).length := by
          have := congrArg List.length hP.out.2.2.1
          rw [List.length_take, hP.out.1, List.take_of_length_le (by rw [← hnH.out]; exact Nat.le_refl _)] at this
          omega
        have hend := hide (own_tail hcut (i * 2) (Nat.le_refl _) vs)
        have hilH := hide hil
        have hB3 := hide (hP.out.2.2.2.2.grown (setCells_grown vs wr g (i * 2)) (Nat.le_trans hBH.out hP.out.2.2.2.2.size) (fun k e => by cases e; exact hBgH.out))
        clear hth hcut hil hP
        go_wp2
        go_ret
        exact ⟨_, rfl, by rw [OwnP, ← hilH.out]; exact hend.out, hB3.out⟩
end Go.Proofs.Ytnkdpfkmellpcaa
