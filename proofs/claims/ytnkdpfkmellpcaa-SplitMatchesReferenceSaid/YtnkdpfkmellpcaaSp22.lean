/-
  Package royaltyref12: add: what it returns; only new memory is written.
-/
import Derived.Test.YtnkdpfkmellpcaaSp21
namespace Go.Proofs.Ytnkdpfkmellpcaa
open Go.RowKit
attribute [local go_sem ↓] ldRow_part ldRow_fact
namespace RW
/-- one part of the loop of add -/
def addS (h s : Int) (d : Bool) (x : Pt) : List Pt := (if !d && decide (x.1 > h) then [(h, s)] else []) ++ [(x.1, if x.1 = h then min (x.2 + s) 1000000 else x.2)]
def addD (h : Int) (d : Bool) (x : Pt) : Bool := d || decide (x.1 > h) || decide (x.1 = h)
theorem addR_cons (h s : Int) (d : Bool) (x : Pt) (l : List Pt) : addR h s d (x :: l) = addS h s d x ++ addR h s (addD h d x) l := by
  rw [addR, addS, addD, List.append_assoc]
  rfl
theorem addS_gt {h s : Int} {x : Pt} (hx : x.1 > h) : addS h s false x = [(h, s), x] ∧ addD h false x = true := by
  have h1 : ¬ x.1 = h := by omega
  simp [addS, addD, hx, h1]
theorem addS_eq {h s : Int} {x : Pt} (d : Bool) (hx : x.1 = h) : addS h s d x = [(x.1, min (x.2 + s) 1000000)] ∧ addD h d x = true := by
  have h1 : ¬ x.1 > h := by omega
  simp [addS, addD, hx]
theorem addS_lt {h s : Int} {x : Pt} (hx : x.1 < h) : addS h s false x = [x] ∧ addD h false x = false := by
  have h1 : ¬ x.1 > h := by omega
  have h2 : ¬ x.1 = h := by omega
  simp [addS, addD, h1, h2]
theorem addS_ne {h s : Int} {x : Pt} (hx : ¬ x.1 = h) : addS h s true x = [x] ∧ addD h true x = true := by
  simp [addS, addD, hx]
end RW
theorem part_ldAt {W : World} {g : Nat} {x : RW.Pt} (h : W.heap[g]? = some (.cells (RW.pcl x).toArray 39 (0, 0))) : (ldRow 39 (.pointer (some ⟨g, 0, none⟩))).run Try.prog W = .ok (.agg (RW.pcl x).toArray) W :=
  ldRow_mid (fun j u hj => by rw [cellAt h, Nat.zero_add]; simpa using hj) Try.underlying39 rfl (part_size x)
set_option maxRecDepth 10000 in
set_option maxHeartbeats 2000000 in
theorem radd_any (v : Value) (l : List RW.Pt) (h s : Int) (hl : l.length ≤ 400000) (hs : RW.Sound l) (hs0 : 1 ≤ s) (hs1 : s ≤ 1000000) (w : World) (hv : PartsV w v l) :
    Calls Try.prog 32 #[v, .int .i64 h, .int .i64 s] w fun e w' => (∃ v', e = .returned v' ∧ OwnP w' w.heap.size v' (RW.addR h s false l)) ∧ Below w.heap.size w w' := by
  obtain ⟨a, ca, rfl, hca, ha⟩ := hv
  obtain ⟨n, hn⟩ : ∃ n, n = l.length := ⟨_, rfl⟩
  obtain ⟨B, hBe⟩ : ∃ B, B = w.heap.size := ⟨_, rfl⟩
  rw [← hn] at hl ⊢
  rw [← hBe]
  have hnH := hide hn
  have haH := hide ha
  have hsH := hide hs
  have hBH := hide hBe
  clear ha hn hca hs hBe
  go_enter Try.func32, Try.ntmps32
  go_wp2
  go_loopw [7, 8, 9] (fun z d i wr => ∃ (j : Nat) (db : Bool), d = .bool db ∧ i = .int .i64 j ∧ j ≤ n ∧ Hid (∃ acc, OwnP wr B z acc ∧ acc ++ RW.addR h s db (l.drop j) = RW.addR h s false l ∧ acc.length ≤ 2 * j ∧ Below B w wr)) (fun _ _ i _ => n - (intOf i).toNat)
  case atStart => exact ⟨0, false, rfl, rfl, Nat.zero_le _, [], World.ownsRow_nil _ _ _ _, by simp, by simp, by rw [hBH.out]; exact Below.refl _ _⟩
  case round =>
    obtain ⟨j, db, rfl, rfl, hjn, hQ⟩ := hrel
    obtain ⟨acc, hO, hacc, hal, hB⟩ := hQ.out
    obtain ⟨az, cz, rfl⟩ := hO.form
    obtain ⟨nz, hnz⟩ : ∃ n, n = acc.length := ⟨_, rfl⟩
    rw [← hnz] at hO ⊢
    have hOH := hide hO
    have haccH := hide hacc
    have hBwH := hide hB
    have hsz := hide (show B ≤ wr.heap.size by rw [hBH.out]; exact hBH.out ▸ hB.size)
    have hln := hide (show acc.length ≤ 800000 by omega)
    have halH := hide hal
    clear hQ hO hacc hB hal hnz
    by_cases hlt : j < n
    · obtain ⟨x, hx⟩ : ∃ x, l[j]? = some x := ⟨_, List.getElem?_eq_getElem (by rw [← hnH.out]; exact hlt)⟩
      have hdr := hide (show l.drop j = x :: l.drop (j + 1) by
        rw [List.drop_eq_getElem_cons (by rw [← hnH.out]; exact hlt), (List.getElem?_eq_some_iff.1 hx).2])
      have hxs := hsH.out x (List.mem_of_getElem? hx)
      obtain ⟨b, o, rfl, hb, hc⟩ := haH.out.resolve_left (by rintro rfl; have := hnH.out; simp at this; omega)
      have hrg : wr.rangeAt b (o + j * 2) (RW.pcl x) := fun i u hu => (World.cell?_of_block (a := ⟨b, o + j * 2 + i, none⟩) (hBwH.out.block _ (by rw [hBH.out]; exact hb))).trans (hc j x hx i u hu)
      have hps := part_size x
      have hpo : (RW.pcl x).toArray.all (·.oneCell') = true := part_one x
      have hstep := hide (show acc ++ RW.addS h s db x ++ RW.addR h s (RW.addD h db x) (l.drop (j + 1)) = RW.addR h s false l by rw [List.append_assoc, ← RW.addR_cons, ← hdr.out]; exact haccH.out)
      obtain ⟨bx, hbx⟩ : ∃ b, b = wr.heap.size := ⟨_, rfl⟩
      have hA := hide ((Below.refl wr.heap.size wr).alloc (Nat.le_refl _) (.cells (RW.pcl x).toArray 39))
      have hg0 := hide (show (wr.alloc (.cells (RW.pcl x).toArray 39)).heap[bx]? = some (.cells (RW.pcl x).toArray 39 (0, 0)) from newAt hbx)
      have hbxH := hide hbx
      clear hbx hx hb hc
      go_upto_region 7 with (first
        | (refine wpList_load_mid rfl 39 (.tmp 19) rfl b (o + j * 2) rfl (RW.pcl x) _ hrg Try.underlying39 rfl hps ?_)
        | (refine wpListStoreNew rfl 39 (.tmp 10) (.tmp 20) rfl (RW.pcl x).toArray rfl rfl 39 _ hps rfl hpo ?_))
      refine gen_w (fun W => W.heap[bx]? = some (.cells (RW.pcl x).toArray 39 (0, 0)) ∧ OwnP W B (.slice az nz cz) acc ∧ Below B w W ∧ ∀ u, OwnP (W.setCell ⟨bx, 1, none⟩ u) B (.slice az nz cz) acc) ⟨hg0.out, own_next hOH.out hA.out, hBwH.out.alloc hsz.out _, fun u => ?_⟩ ?_
      · refine ⟨hOH.out.1, hOH.out.2.imp id ?_⟩
        rintro ⟨g, cap, cur, h1, h2, h3, h4⟩
        have hgl := (Array.getElem?_eq_some_iff.1 h3).1
        exact ⟨g, cap, cur, h1, h2, ((Below.heap_setCell _ _ _ _ (by show g ≠ bx; rw [hbxH.out]; exact Nat.ne_of_lt hgl)).trans (Below.heap_alloc _ _ _ hgl)).trans h3, h4⟩
      rw [← hbxH.out]
      have hob := hide (show ∀ k, (Value.slice az nz cz).ownBlock = some k → k < bx from fun k hk => by rw [hbxH.out]; exact (hOH.out.lt k hk).2)
      have hbB := hide (show B ≤ bx by rw [hbxH.out]; exact hsz.out)
      clear hg0 hA hOH hBwH hsz hbxH hrg hps hpo
      rintro w5 ⟨g1, g2, g3, g4⟩
      have c0 : w5.cell? ⟨bx, 0, none⟩ = some (.int .i64 x.1) := cellAt g1 0
      have c1 : w5.cell? ⟨bx, 1, none⟩ = some (.int .i64 x.2) := cellAt g1 1
      have hfz : w5.frozen? ⟨bx, 1, none⟩ = false := by simp [World.frozen?, g1]
      have hld : (ldRow 39 (.pointer (some ⟨bx, 0, none⟩))).run Try.prog w5 = .ok (.agg (RW.pcl x).toArray) w5 := part_ldAt g1
      have hpl := pcl_len x
      have hg1 := hide g1
      have hO5 := hide g2
      have hB5 := hide g3
      have hO5s := hide g4
      have hsz5 := hide (show B ≤ w5.heap.size from Nat.le_trans hbB.out (Nat.le_of_lt (Array.getElem?_eq_some_iff.1 g1).1))
      clear g1 g2 g3 g4
      by_cases heq : x.1 = h
      · obtain ⟨e1, e2⟩ := RW.addS_eq (s := s) db heq
        have hst2 := hide hstep.out
        rw [e1, e2] at hst2
        have heqb : (x.1 == h) = true := by simp [heq]
        have hgt : ¬ h < x.1 := by omega
        have hg6 : (w5.setCell ⟨bx, 1, none⟩ (.int .i64 (min (x.2 + s) 1000000))).heap[bx]? = some (.cells (RW.pcl (x.1, min (x.2 + s) 1000000)).toArray 39 (0, 0)) := (heap_setCell_same _ _ _ _ _ _ hg1.out).trans rfl
        have hO6 := hide (hO5s.out (.int .i64 (min (x.2 + s) 1000000)))
        have hB6 := hide (hB5.out.setCell (p := ⟨bx, 1, none⟩) hbB.out (.int .i64 (min (x.2 + s) 1000000)))
        have hg6H := hide hg6
        obtain ⟨hx1, hx2⟩ := hxs
        obtain ⟨y, hy⟩ : ∃ y : RW.Pt, y = (x.1, min (x.2 + s) 1000000) := ⟨_, rfl⟩
        have hpy := pcl_len y
        rw [← hy] at hst2 hg6H
        clear e1 e2 hg6 heq hstep hld hy
        cases db
        · go_upto_region 13 with fail
          refine gen_w (fun W => W.heap[bx]? = some (.cells (RW.pcl y).toArray 39 (0, 0)) ∧ OwnP W B (.slice az nz cz) acc ∧ Below B w W) ⟨hg6H.out, hO6.out, hB6.out⟩ ?_
          clear hg6H hO6 hB6
          rintro w6 ⟨g1, hO6, hB6⟩
          have hld6 := part_ldAt g1
          have hsz6 := hide (show B ≤ w6.heap.size from Nat.le_trans hbB.out (Nat.le_of_lt (Array.getElem?_eq_some_iff.1 g1).1))
          have hO6H := hide hO6
          have hB6H := hide hB6
          clear g1 hO6 hB6
          go_wp2_with (at_builtin; refine wpList_app_part rfl (.tmp 45) (.tmp 47) rfl rfl hO6H.out y rfl hsz6.out (Nat.le_trans hln.out (by decide)) ?_; intro z' w7 hO7 hB7; have hO7H := hide hO7; have hB7H := hide (hB6H.out.trans hB7); clear hO7 hB7)
          go_roundw
          case rel => exact ⟨j + 1, true, rfl, by go_num, by omega, acc ++ [y], hO7H.out, hst2.out, by have := halH.out; simp; omega, hB7H.out⟩
          case measure => simp [intOf]; omega
        · go_upto_region 13 with fail
          refine gen_w (fun W => W.heap[bx]? = some (.cells (RW.pcl y).toArray 39 (0, 0)) ∧ OwnP W B (.slice az nz cz) acc ∧ Below B w W) ⟨hg6H.out, hO6.out, hB6.out⟩ ?_
          clear hg6H hO6 hB6
          rintro w6 ⟨g1, hO6, hB6⟩
          have hld6 := part_ldAt g1
          have hsz6 := hide (show B ≤ w6.heap.size from Nat.le_trans hbB.out (Nat.le_of_lt (Array.getElem?_eq_some_iff.1 g1).1))
          have hO6H := hide hO6
          have hB6H := hide hB6
          clear g1 hO6 hB6
          go_wp2_with (at_builtin; refine wpList_app_part rfl (.tmp 45) (.tmp 47) rfl rfl hO6H.out y rfl hsz6.out (Nat.le_trans hln.out (by decide)) ?_; intro z' w7 hO7 hB7; have hO7H := hide hO7; have hB7H := hide (hB6H.out.trans hB7); clear hO7 hB7)
          go_roundw
          case rel => exact ⟨j + 1, true, rfl, by go_num, by omega, acc ++ [y], hO7H.out, hst2.out, by have := halH.out; simp; omega, hB7H.out⟩
          case measure => simp [intOf]; omega
      · have heqb : (x.1 == h) = false := by simp [heq]
        have hfin : ∀ W : World, True := fun _ => trivial
        cases db
        · by_cases hgt : h < x.1
          · obtain ⟨e1, e2⟩ := RW.addS_gt (s := s) hgt
            have hst2 := hide hstep.out
            rw [e1, e2] at hst2
            obtain ⟨v6, w6, hrun, hO6, hB6, hg6⟩ := app_parts (W := w5.alloc (.cells (rowCells RW.pcl [(h, s)]).toArray 39)) (hO5.out.alloc _) (by have := hsz5.out; simp; omega) (parts_lit w5 [(h, s)]) (by have := hln.out; simp; omega) 28
            obtain ⟨a6, c6, rfl⟩ := hO6.form
            obtain ⟨n6, hn6⟩ : ∃ n, n = (acc ++ [(h, s)]).length := ⟨_, rfl⟩
            rw [← hn6] at hrun hO6
            have hlt5 := (Array.getElem?_eq_some_iff.1 hg1.out).1
            have g6 := (hg6.block bx (by simp; omega) (fun e => Nat.lt_irrefl _ (hob.out bx e.symm))).trans ((Below.heap_alloc _ _ _ hlt5).trans hg1.out)
            have d0 : w6.cell? ⟨bx, 0, none⟩ = some (.int .i64 x.1) := cellAt g6 0
            have hld6 := part_ldAt g6
            have hO6H := hide hO6
            have hB6H := hide (hB5.out.trans (((Below.refl B w5).alloc hsz5.out (.cells (rowCells RW.pcl [(h, s)]).toArray 39)).trans hB6))
            have hsz6 := hide (show B ≤ w6.heap.size by have h1 := hsz5.out; have h2 := hB6.size; simp at h2; omega)
            have tok1 : True := trivial
            clear e1 e2 heq hstep hfin hxs hO6 hB6 hg6 g6 hlt5 hn6
            go_wp2_with (first
              | (at_builtin; have _t := tok1; refine wpList_app_run rfl (.tmp 29) (.tmp 33) rfl rfl rfl hrun ?_; clear tok1 c0 c1 hld)
              | (at_builtin; refine wpList_app_part rfl (.tmp 45) (.tmp 47) rfl rfl hO6H.out x rfl hsz6.out (by rw [List.length_append]; exact Nat.le_trans (Nat.add_le_add_right hln.out 1) (by decide)) ?_; intro z' w7 hO7 hB7; have hO7H := hide hO7; have hB7H := hide (hB6H.out.trans hB7); clear hO7 hB7))
            go_roundw
            case rel => exact ⟨j + 1, true, rfl, by go_num, by omega, acc ++ [(h, s)] ++ [x], hO7H.out, by rw [List.append_assoc acc]; exact hst2.out, by have := halH.out; simp; omega, hB7H.out⟩
            case measure => simp [intOf]; omega
          · obtain ⟨e1, e2⟩ := RW.addS_lt (s := s) (show x.1 < h by omega)
            have hst2 := hide hstep.out
            rw [e1, e2] at hst2
            clear e1 e2 heq hstep hfin hxs
            go_wp2_with (at_builtin; refine wpList_app_part rfl (.tmp 45) (.tmp 47) rfl rfl hO5.out x rfl hsz5.out (Nat.le_trans hln.out (by decide)) ?_; intro z' w7 hO7 hB7; have hO7H := hide hO7; have hB7H := hide (hB5.out.trans hB7); clear hO7 hB7)
            go_roundw
            case rel => exact ⟨j + 1, false, rfl, by go_num, by omega, acc ++ [x], hO7H.out, hst2.out, by have := halH.out; simp; omega, hB7H.out⟩
            case measure => simp [intOf]; omega
        · obtain ⟨e1, e2⟩ := RW.addS_ne (s := s) heq
          have hst2 := hide hstep.out
          rw [e1, e2] at hst2
          clear e1 e2 heq hstep hfin hxs
          go_wp2_with (at_builtin; refine wpList_app_part rfl (.tmp 45) (.tmp 47) rfl rfl hO5.out x rfl hsz5.out (Nat.le_trans hln.out (by decide)) ?_; intro z' w7 hO7 hB7; have hO7H := hide hO7; have hB7H := hide (hB5.out.trans hB7); clear hO7 hB7)
          go_roundw
          case rel => exact ⟨j + 1, true, rfl, by go_num, by omega, acc ++ [x], hO7H.out, hst2.out, by have := halH.out; simp; omega, hB7H.out⟩
          case measure => simp [intOf]; omega
    · obtain rfl : j = n := by omega
      have hd0 : l.drop j = [] := by rw [List.drop_eq_nil_iff, ← hnH.out]; exact Nat.le_refl _
      have hac := haccH.out
      rw [hd0] at hac
      cases db
      · have hac2 := hide (show acc ++ [(h, s)] = RW.addR h s false l from hac)
        clear hac hd0 haccH haH
        go_wp2_with (at_builtin; refine wpList_app_part rfl (.tmp 51) (.tmp 55) rfl rfl hOH.out (h, s) rfl hsz.out (Nat.le_trans hln.out (by decide)) ?_; intro z' w7 hO7 hB7; have hO7H := hide hO7; have hB7H := hide (hBwH.out.trans hB7); clear hO7 hB7)
        go_ret
        exact ⟨⟨_, rfl, by rw [← hac2.out]; exact hO7H.out⟩, hB7H.out⟩
      · have hac2 := hide (show acc = RW.addR h s false l by rw [← hac]; exact (List.append_nil _).symm)
        clear hac hd0 haccH haH
        go_wp2
        go_ret
        exact ⟨⟨_, rfl, by rw [← hac2.out]; exact hOH.out⟩, hBwH.out⟩
end Go.Proofs.Ytnkdpfkmellpcaa
