/-
  Package split: Of; package royaltylaw12: pick, claim, parts, share, whole: what they return; only new memory is written.
-/
import Derived.Test.YtnkdpfkmellpcaaSp10
import Derived.Test.YtnkdpfkmellpcaaSb3
import Derived.Test.YtnkdpfkmellpcaaSp9
namespace Go.Proofs.Ytnkdpfkmellpcaa
open Go.RowKit
namespace RW
def pickI (c n : Int) : Int := (if c < 0 then -(c + 1) else c) % n
theorem pickI_bd (c n : Int) (h : 1 ≤ n) : 0 ≤ pickI c n ∧ pickI c n < n := ⟨Int.emod_nonneg _ (by omega), Int.emod_lt_of_pos _ (by omega)⟩
/-- a claim of the whole world -/
def claimF (id h s : Int) : Nat → Int := fun i => if i = 0 then 3 else if i = 1 then id else if i = 2 then 1 else if i = 7 then 3 else if i = 8 then 255 else if i = 9 then h else if i = 10 then 1 else if i = 12 then 1200 else if i = 14 then s else 0
end RW
theorem pick_any (c n : Int) (hc : -9223372036854775808 ≤ c) (hc2 : c ≤ 9223372036854775807) (h : 1 ≤ n) (hn : n ≤ 9223372036854775807) (w : World) : Calls Try.prog 25 #[.int .i64 c, .int .i64 n] w fun e w' => e = .returned (.int .i64 (RW.pickI c n)) ∧ w = w' := by
  by_cases h0 : c < 0
  · have h1 : 0 ≤ -(c + 1) := by omega
    have e : RW.pickI c n = -(c + 1) % n := by unfold RW.pickI; rw [if_pos h0]
    have eH := hide e
    clear e
    go_enter Try.func25, Try.ntmps25
    go_wp2
    go_ret
    refine ⟨?_, rfl⟩
    rw [eH.out, ← Int.tmod_eq_emod_of_nonneg h1, Int.neg_tmod]
    rfl
  · have e : RW.pickI c n = c % n := by unfold RW.pickI; rw [if_neg h0]
    have eH := hide e
    clear e
    go_enter Try.func25, Try.ntmps25
    go_wp2
    go_ret
    exact ⟨by rw [eH.out]; rfl, rfl⟩
theorem claim_any (id h s : Int) (w : World) : Calls Try.prog 26 #[.int .i64 id, .int .i64 h, .int .i64 s] w fun e w' => e = .returned (.agg (RW.fcells (RW.claimF id h s) ⟨#[]⟩)) ∧ Below w.heap.size w w' := by
  have hi : (Try.prog.info? 43).map (·.size) = some (RW.fcells (RW.claimF id h s) ⟨#[]⟩).size := by kernel_rfl
  have ho : (RW.fcells (RW.claimF id h s) ⟨#[]⟩).all (·.oneCell') = true := fact_one (RW.claimF id h s, ⟨#[]⟩)
  have hB := hide ((Below.refl w.heap.size w).alloc (Nat.le_refl _) (.cells (RW.fcells (RW.claimF id h s) ⟨#[]⟩) 43))
  go_enter Try.func26, Try.ntmps26
  go_wp2_with (refine wpListStoreNew rfl 43 (.tmp 6) (.tmp 10) rfl (RW.fcells (RW.claimF id h s) ⟨#[]⟩) rfl rfl 43 _ hi rfl ho ?_)
  exact bodyPost_ret (results_cell_row rfl _ _ w.heap.size 43 (RW.fcells (RW.claimF id h s) ⟨#[]⟩) (0, 0) _ rfl (newAt rfl) Try.underlying43 rfl hi) rfl ⟨rfl, hB.out⟩
set_option maxRecDepth 10000 in
set_option maxHeartbeats 2000000 in
theorem of_any (bs : Array Value) (v : Value) (fs : List RW.Fc) (r ro t p : Int) (hbz : bs.size = 10) (hbs : bs[2]? = some v) (hl : fs.length ≤ 1000000) (w : World) (hv : FactsV w v fs) :
    Calls Try.prog 17 #[.agg bs, .int .i64 r, .int .i64 ro, .int .i64 t, .int .i64 p] w fun e w' => (∃ v', e = .returned (.agg (RW.scl v' (RW.resolve (RW.claimsL r ro t p (fs.map (·.1)))).2.1 (RW.resolve (RW.claimsL r ro t p (fs.map (·.1)))).2.2)) ∧ OwnP w' w.heap.size v' (RW.resolve (RW.claimsL r ro t p (fs.map (·.1)))).1) ∧ Below w.heap.size w w' := by
  obtain ⟨rb, hrb⟩ : ∃ b, b = w.heap.size := ⟨_, rfl⟩
  obtain ⟨W0, hW0⟩ : ∃ W, W = (w.alloc (.cells bs 25)).alloc (.cells #[.slice none 0 0, .int .i64 0, .int .i64 0] 32) := ⟨_, rfl⟩
  have h1 : W0.heap[rb]? = some (.cells bs 25 (0, 0)) := by rw [hW0]; exact (Below.heap_alloc _ _ _ (by simp; omega)).trans (newAt hrb)
  have h2 : W0.heap[rb + 1]? = some (.cells #[.slice none 0 0, .int .i64 0, .int .i64 0] 32 (0, 0)) := by rw [hW0]; exact newAt (by simp; omega)
  have hB0 : Below rb w W0 := by rw [hW0, hrb]; exact ((Below.refl _ w).alloc (Nat.le_refl _) _).alloc (by simp) _
  obtain ⟨cl, hcl⟩ : ∃ cl, cl = RW.claimsL r ro t p (fs.map (·.1)) := ⟨_, rfl⟩
  have hC := claims_any bs v fs r ro t p hbs hl W0 (hv.next (hrb ▸ hB0))
  rw [← hcl] at hC ⊢
  have hcln : cl.length ≤ 1000000 := by rw [hcl]; have := RW.claims_len r ro t p (fs.map (·.1)); rw [List.length_map] at this; omega
  have hi0 : (Try.prog.info? 25).map (·.size) = some bs.size := by rw [hbz]; kernel_rfl
  obtain ⟨R, hR⟩ : ∃ R, R = RW.resolve cl := ⟨_, rfl⟩
  have hRs : ∀ v W, PartsV W v cl → Calls Try.prog 20 #[v] W fun e w' => (∃ v', e = .returned (.agg (RW.scl v' R.2.1 R.2.2)) ∧ OwnP w' W.heap.size v' R.1) ∧ Below W.heap.size W w' := fun v W h => by rw [hR]; exact resolve_any v cl hcln W h
  rw [← hR]
  have hCH := hide hC
  have hRsH := hide hRs
  have hW0H := hide hW0
  have hrbH := hide hrb
  have h2H := hide h2
  have hB0H := hide hB0
  have hlt := hide (Array.getElem?_eq_some_iff.1 h2).1
  clear hC hRs hW0 hv hcl hR hbs h2 hB0 hrb
  go_enter Try.func17, Try.ntmps17
  go_upto_region 1 with fail
  rw [← hW0H.out, ← hrbH.out]
  have hi := fun v => shares_size v R.2.1 R.2.2
  have ho := fun (v : Value) (hv : v.oneCell' = true) => shares_one v R.2.1 R.2.2 hv
  go_wp2_with (first
    | (refine wpList_load_row rfl 25 (.tmp 5) rfl rb rfl 25 bs (0, 0) _ h1 Try.underlying25 rfl hi0 ?_)
    | (go_at_call 14; refine hCH.out.mono ?_; rintro e w2 ⟨⟨v2, rfl, hv2⟩, hB2⟩; have hv2H := hide hv2.parts; have hB2H := hide hB2; clear hv2 hB2)
    | (go_at_call 20; refine (hRsH.out _ _ hv2H.out).mono ?_; rintro e w3 ⟨⟨v3, rfl, hv3⟩, hB3⟩; have hr3 := (hB3.block (rb + 1) (Nat.lt_of_lt_of_le hlt.out hB2H.out.size)).trans ((hB2H.out.block _ hlt.out).trans h2H.out); have hv3H := hide hv3; have hB3H := hide hB3; clear hv3 hB3)
    | (refine wpList_store_row rfl 32 (.tmp 10) (.tmp 17) rfl (rb + 1) (RW.scl v3 R.2.1 R.2.2) rfl rfl 32 _ hr3 (hi _) rfl (ho _ hv3H.out.parts.one) ?_))
  have hB := hB0H.out.trans ((hB2H.out.mono (by have := hlt.out; omega)).trans (hB3H.out.mono (by have := hlt.out; have := hB2H.out.size; omega)))
  refine bodyPost_ret (results_cell_row rfl _ _ (rb + 1) 32 (RW.scl v3 R.2.1 R.2.2) (0, 0) _ rfl (setRow_heap _ _ _ _ _ _ hr3) Try.underlying32 rfl (hi _)) rfl ⟨⟨v3, rfl, ?_⟩, hrbH.out ▸ belowSetRow hB (Nat.le_succ _) _⟩
  exact own_base (own_setRow hv3H.out (rb + 1) (Nat.lt_of_lt_of_le hlt.out hB2H.out.size) _) (by have := hlt.out; have := hB2H.out.size; have := hrbH.out; omega)
theorem app_parts {W : World} {B : Nat} {v y : Value} {l m : List RW.Pt} (hown : OwnP W B v l) (hB : B ≤ W.heap.size) (hy : PartsV W y m) (hlen : l.length + m.length ≤ 1000000) (ty : TypeId) :
    ∃ v' W', (Builtin.append_ #[28, 28] ty #[v, y]).run Try.prog W = .ok v' W' ∧ OwnP W' B v' (l ++ m) ∧ Below B W W' ∧ W.grownBy W' v.ownBlock :=
  run_app_rows (P := Try.prog) ty Try.underlying28 info_part rfl (by decide) pcl_len pcl_one hown hB hy (by unfold maxLen; omega) (by omega)
theorem own_empty (W : World) : OwnP (W.alloc (.cells #[] 39)) W.heap.size (.slice (some ⟨W.heap.size, 0, none⟩) 0 0) [] :=
  World.ownsRow_made (base := W.heap.size) (e := 39) (size := 2) W #[] 0 (Nat.le_refl _) (Nat.zero_le _) (by simp)
set_option maxRecDepth 10000 in
set_option maxHeartbeats 2000000 in
/-- what 'parts' takes -/
theorem parts_any (v : Value) (l : List RW.Pt) (hl : l.length ≤ 9223372036854775807) (w : World) (hv : PartsV w v l) :
    Calls Try.prog 19 #[v] w fun e w' => (∃ v', e = .returned v' ∧ OwnP w' w.heap.size v' (l.take 30)) ∧ Below w.heap.size w w' := by
  obtain ⟨a, ca, rfl, hca, ha⟩ := hv
  obtain ⟨m, hm⟩ : ∃ m, m = min l.length 30 := ⟨_, rfl⟩
  have hB0 := hide ((Below.refl w.heap.size w).alloc (Nat.le_refl _) (.cells #[] 39))
  have hf : PartsV (w.alloc (.cells #[] 39)) (.slice a m ca) (l.take m) := RowV.first (RowV.next ⟨a, ca, rfl, hca, ha⟩ hB0.out) m (by omega)
  obtain ⟨v', W', hrun, hO, hB, _⟩ := app_parts (own_empty w) (by simp) hf (by rw [List.length_take]; simp; omega) 28
  have ht : l.take m = l.take 30 := by
    rw [hm]
    rcases Nat.le_total l.length 30 with h | h
    · rw [Nat.min_eq_left h, List.take_of_length_le (Nat.le_refl _), List.take_of_length_le h]
    · rw [Nat.min_eq_right h]
  rw [List.nil_append, ht] at hO
  have hOH := hide hO
  have hBH := hide hB
  obtain ⟨n, hn⟩ : ∃ n, n = l.length := ⟨_, rfl⟩
  rw [← hn] at hl hca hm ⊢
  have hq : m ≤ n ∧ m ≤ 30 := by omega
  obtain ⟨hq1, hq2⟩ := hq
  have hx1 : min (n : Int) 30 = (m : Int) := by omega
  have hzn : a = none → n = 0 ∧ m = 0 := by
    rintro rfl
    rcases ha with rfl | ⟨b, o, hab, _⟩
    · simp at hn; omega
    · cases hab
  have hsp : ∀ ad, a = some ad → n = 0 ∨ ∃ b o, ad = ⟨b, o, none⟩ := by
    rintro ad rfl
    rcases ha with rfl | ⟨b, o, hab, _⟩
    · left; simpa using hn
    · right; cases hab; exact ⟨b, o, rfl⟩
  clear hO hB hf ht ha hm hn
  cases a with
  | none =>
    obtain ⟨rfl, rfl⟩ := hzn rfl
    clear hzn hsp
    go_enter Try.func19, Try.ntmps19
    go_wp2_with (at_builtin; refine wpList_app_run rfl (.tmp 3) (.tmp 8) rfl rfl rfl hrun ?_)
    go_ret
    exact ⟨⟨_, rfl, hOH.out⟩, hB0.out.trans hBH.out⟩
  | some ad =>
    have hspH := hide hsp
    clear hzn hsp
    go_enter Try.func19, Try.ntmps19
    go_wp2_with (at_builtin; refine wpList_app_run rfl (.tmp 3) (.tmp 8) rfl rfl rfl hrun ?_)
    go_ret
    exact ⟨⟨_, rfl, hOH.out⟩, hB0.out.trans hBH.out⟩
namespace RW
theorem shareOf_append (h : Int) : ∀ l m : List Pt, shareOf h (l ++ m) = shareOf h l + shareOf h m
  | [], m => by simp [shareOf]
  | x :: l, m => by rw [List.cons_append, shareOf, shareOf, shareOf_append h l m]; omega
theorem shareOf_bd (h : Int) : ∀ {l : List Pt}, Sound l → 0 ≤ shareOf h l ∧ shareOf h l ≤ 1000000 * l.length
  | [], _ => by simp [shareOf]
  | x :: l, hs => by
    have h1 := hs x (List.mem_cons_self ..)
    have h2 := shareOf_bd h (l := l) fun y hy => hs y (List.mem_cons_of_mem _ hy)
    rw [shareOf, List.length_cons]
    split <;> omega
theorem shareOf_take {l : List Pt} {j : Nat} {x : Pt} (h : Int) (hx : l[j]? = some x) : shareOf h (l.take (j + 1)) = shareOf h (l.take j) + if x.1 = h then x.2 else 0 := by
  rw [List.take_add_one, hx, Option.toList_some, shareOf_append]
  simp [shareOf]
end RW
set_option maxRecDepth 10000 in
set_option maxHeartbeats 2000000 in
theorem share_any (v : Value) (l : List RW.Pt) (h : Int) (hS : RW.Sound l) (hl : l.length ≤ 1000000) (w : World) (hv : PartsV w v l) :
    Calls Try.prog 24 #[v, .int .i64 h] w fun e w' => e = .returned (.int .i64 (RW.shareOf h l)) ∧ w = w' := by
  obtain ⟨a, ca, rfl, hca, ha⟩ := hv
  have haH := hide ha
  have hSH := hide hS
  obtain ⟨n, hn⟩ : ∃ n, n = l.length := ⟨_, rfl⟩
  rw [← hn] at hl hca ⊢
  have hnH := hide hn
  clear hn ha hS
  go_enter Try.func24, Try.ntmps24
  go_wp2
  go_loop [5, 6] (fun q i => ∃ (j : Nat) (s : Int), q = .int .i64 s ∧ i = .int .i64 j ∧ j ≤ n ∧ Hid (s = RW.shareOf h (l.take j))) (fun _ i => n - (intOf i).toNat)
  case atStart => exact ⟨0, 0, rfl, rfl, Nat.zero_le _, rfl⟩
  case round =>
    obtain ⟨j, s, rfl, rfl, hjn, hs⟩ := hrel
    have hb := RW.shareOf_bd h (hSH.out.take j)
    rw [← hs.out] at hb
    have htl : (l.take j).length ≤ n := by rw [List.length_take, ← hnH.out]; omega
    have hb' : 0 ≤ s ∧ s ≤ 1000000 * (n : Int) := ⟨hb.1, by have := hb.2; omega⟩
    clear hb htl
    by_cases hlt : j < n
    · obtain ⟨x, hx⟩ : ∃ x, l[j]? = some x := ⟨_, List.getElem?_eq_getElem (by rw [← hnH.out]; exact hlt)⟩
      obtain ⟨b, o, rfl, hb, hc⟩ := haH.out.resolve_left (by rintro rfl; have := hnH.out; simp at this; omega)
      have c0 : w.cell? ⟨b, o + j * 2, none⟩ = some (.int .i64 x.1) := part_c0 (hc j x hx)
      have c1 : w.cell? ⟨b, o + j * 2 + 1, none⟩ = some (.int .i64 x.2) := part_c1 (hc j x hx)
      have hx1 := hSH.out x (List.mem_of_getElem? hx)
      have hst := hide (RW.shareOf_take h hx)
      clear hb hc hx
      by_cases he : x.1 = h
      · have he' : (x.1 == h) = true := by simp [he]
        have hst2 := hide (show RW.shareOf h (l.take (j + 1)) = s + x.2 by rw [hst.out, if_pos he, hs.out])
        clear he hst
        go_wp2
        go_round
        case rel => exact ⟨j + 1, s + x.2, by go_num, by go_num, by omega, hst2.out.symm⟩
        case measure => simp [intOf]; omega
      · have he' : (x.1 == h) = false := by simp [he]
        have hst2 := hide (show RW.shareOf h (l.take (j + 1)) = s by rw [hst.out, if_neg he, hs.out]; omega)
        clear he hst
        go_wp2
        go_round
        case rel => exact ⟨j + 1, s, rfl, by go_num, by omega, hst2.out.symm⟩
        case measure => simp [intOf]; omega
    · obtain rfl : j = n := by omega
      have hA := hide (show s = RW.shareOf h l by rw [hs.out, List.take_of_length_le (by rw [← hnH.out]; exact Nat.le_refl _)])
      go_wp2
      go_ret
      exact ⟨by rw [← hA.out] <;> rfl, rfl⟩
set_option maxRecDepth 10000 in
set_option maxHeartbeats 2000000 in
theorem whole_any (v : Value) (l : List RW.Pt) (c u : Int) (hS : RW.Sound l) (hl : l.length ≤ 1000000) (hw : RW.wholeB (l, c, u) = true) (w : World) (hv : PartsV w v l) :
    Calls Try.prog 23 #[.agg (RW.scl v c u)] w fun e w' => e = .returned (.bool true) ∧ Below w.heap.size w w' := by
  obtain ⟨a, ca, rfl, hca, ha⟩ := hv
  have haH := hide ha
  have hSH := hide hS
  have hw2 : c + u + RW.tot l = 1000000 ∧ 0 ≤ c ∧ 0 ≤ u ∧ (c = 0 ∨ u = 0) := by
    simp only [RW.wholeB, Bool.and_eq_true, Bool.or_eq_true, decide_eq_true_eq] at hw
    exact hw.2
  obtain ⟨hw3, hc0, hu0, hcu⟩ := hw2
  have htb := RW.tot_nonneg hS
  obtain ⟨n, hn⟩ : ∃ n, n = l.length := ⟨_, rfl⟩
  rw [← hn] at hl hca ⊢
  have hnH := hide hn
  obtain ⟨r, hr⟩ : ∃ r, r = w.heap.size := ⟨_, rfl⟩
  have h1 : (w.alloc (.cells (RW.scl (.slice a n ca) c u) 32)).heap[r]? = some (.cells (RW.scl (.slice a n ca) c u) 32 (0, 0)) := newAt hr
  have hB := hide ((Below.refl w.heap.size w).alloc (Nat.le_refl _) (.cells (RW.scl (.slice a n ca) c u) 32))
  obtain ⟨W0, hW0⟩ : ∃ W, W = w.alloc (.cells (RW.scl (.slice a n ca) c u) 32) := ⟨_, rfl⟩
  rw [← hW0] at h1 hB
  have k0 : W0.cell? ⟨r, 0, none⟩ = some (.slice a n ca) := (cellAt h1 0).trans rfl
  have k1 : W0.cell? ⟨r, 1, none⟩ = some (.int .i64 c) := (cellAt h1 1).trans rfl
  have k2 : W0.cell? ⟨r, 2, none⟩ = some (.int .i64 u) := (cellAt h1 2).trans rfl
  have hW0H := hide hW0
  have hrH := hide hr
  have hw3H := hide hw3
  have hcuH := hide hcu
  have hbu : c ≤ 1000000 ∧ u ≤ 1000000 := by omega
  clear hn ha hS hw h1 hW0 hr hw3 hcu htb
  go_enter Try.func23, Try.ntmps23
  go_upto_region 1 with fail
  rw [← hW0H.out, ← hrH.out]
  go_wp2
  go_loop [3, 4] (fun q i => ∃ (j : Nat) (s : Int), q = .int .i64 s ∧ i = .int .i64 j ∧ j ≤ n ∧ Hid (s = c + u + RW.tot (l.take j))) (fun _ i => n - (intOf i).toNat)
  case atStart => exact ⟨0, c + u, rfl, rfl, Nat.zero_le _, by show c + u = c + u + 0; omega⟩
  case round =>
    obtain ⟨j, s, rfl, rfl, hjn, hs⟩ := hrel
    have hb := RW.tot_take_le hSH.out j
    rw [← hnH.out] at hb
    have hb' : 0 ≤ s ∧ s ≤ 2000000 + 1000000 * (n : Int) := by have := hs.out; omega
    clear hb
    by_cases hlt : j < n
    · obtain ⟨x, hx⟩ : ∃ x, l[j]? = some x := ⟨_, List.getElem?_eq_getElem (by rw [← hnH.out]; exact hlt)⟩
      obtain ⟨b, o, rfl, hb, hc⟩ := haH.out.resolve_left (by rintro rfl; have := hnH.out; simp at this; omega)
      have c1 : W0.cell? ⟨b, o + j * 2 + 1, none⟩ = some (.int .i64 x.2) := (World.cell?_of_block (a := ⟨b, o + j * 2 + 1, none⟩) (hB.out.block b hb)).trans (part_c1 (hc j x hx))
      have hx1 := hSH.out x (List.mem_of_getElem? hx)
      have hst := hide (show RW.tot (l.take (j + 1)) = RW.tot (l.take j) + x.2 from RW.tot_take_succ hx)
      have hx2 : ¬ x.2 < 1 := by omega
      clear hb hc hx
      go_wp2
      go_round
      case rel => exact ⟨j + 1, s + x.2, by go_num, by go_num, by omega, by rw [hst.out, hs.out]; show _ = _; omega⟩
      case measure => simp [intOf]; omega
    · obtain rfl : j = n := by omega
      have hA : s = 1000000 := by
        have h2 := hs.out
        rw [List.take_of_length_le (by rw [← hnH.out]; exact Nat.le_refl _)] at h2
        have := hw3H.out
        omega
      subst hA
      by_cases hc : c = 0
      · subst hc
        go_wp2
        go_ret
        exact ⟨rfl, hB.out⟩
      · obtain rfl : u = 0 := hcuH.out.resolve_left hc
        have hc' : (c == 0) = false := by simp [hc]
        clear hc
        go_wp2
        go_ret
        exact ⟨rfl, hB.out⟩
end Go.Proofs.Ytnkdpfkmellpcaa
