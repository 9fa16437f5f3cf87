/-
  Package statement: Decode: what it returns; only new memory is written.
-/
import Derived.Test.YtillplhadimgmaaSt20
namespace Go.Proofs.Ytillplhadimgmaa
open Go.RowKit RG
theorem st_arr (h c : Int) (a : Option Addr) (n k : Nat) : (Try.prog.info? 39).map (·.size) = some (#[Value.int .i64 h, .int .i64 c, .slice a n k] : Array Value).size := st_size (h, c, .slice a n k)
theorem st_arr1 (h c : Int) (a : Option Addr) (n k : Nat) : (#[Value.int .i64 h, .int .i64 c, .slice a n k] : Array Value).all (·.oneCell') = true := by simp; exact ⟨rfl, rfl, rfl⟩
theorem dec_results (tmps : Array Value) (w : World) (B : Nat) (cs : Array Value) (v : Int) (hn : cs.size = 3) (h2 : tmps[2]? = some (.pointer (some ⟨B, 0, none⟩))) (h3 : tmps[3]? = some (.int .i64 v))
    (hx : w.heap[B]? = some (.cells cs 39 (0, 0))) :
    (results Try.f22 tmps).run Try.prog w = .ok (.tuple #[.agg cs, .int .i64 v]) w := by
  have hi1 : (Try.prog.info? 39).map (·.size) = some cs.size := by rw [hn]; kernel_rfl
  have e1 := run_loadVar_row (P := Try.prog) w B 39 39 cs (0, 0) _ hx Try.underlying39 rfl hi1
  simp [results, Try.results22, h2, h3, asAddr, e1]
theorem rows_three (W : World) {g : Nat} {x y z : Int} (h : W.heap[g]? = some (.cells #[.int .i64 x, .int .i64 y, .int .i64 z] 61 (0, 0))) : W.rangeAt g 0 (RW.lnl (x, y, z)) := fun i u hu => by
  rw [Nat.zero_add]
  exact (cellAt h i).trans (by
    rcases i with _ | _ | _ | i
    · exact hu
    · exact hu
    · exact hu
    · simp [RW.lnl] at hu)
set_option maxRecDepth 10000 in
set_option maxHeartbeats 8000000 in
theorem decode_any (s : ByteArray) (hs : s.size ≤ 9223372036854775807) (w : World) :
    Calls Try.prog 22 #[.string s] w fun e w' => DecOut (RW.decT s.data.toList) e w.heap.size w' ∧ Below w.heap.size w w' := by
  obtain ⟨B, hBe⟩ : ∃ B, B = w.heap.size := ⟨_, rfl⟩
  obtain ⟨L, hLe⟩ : ∃ L, L = s.data.toList := ⟨_, rfl⟩
  obtain ⟨G, hGe⟩ : ∃ G, G = RW.decT L := ⟨_, rfl⟩
  have hlen : L.length = s.size := by rw [hLe, Array.length_toList]; rfl
  rw [← hLe, ← hGe]
  have hBH := hide hBe
  have hLH := hide hLe
  have hGH := hide hGe
  have hlenH := hide hlen
  have hS0 := hide (DW.start w s)
  rw [← hBe] at hS0 ⊢
  clear hLe hGe hlen
  go_enter Try.func22, Try.ntmps22
  go_upto_region 4 with fail
  rw [← hBe]
  refine gen_w (fun W => DW W B w s 0 0 0 (.slice none 0 0) 0 false) hS0.out ?_
  clear hS0 hBe
  intro w4 hD4
  have hD4H := hide hD4
  obtain ⟨g4, hg4⟩ : ∃ g, g = w4.heap.size := ⟨_, rfl⟩
  have hlt4 := hide (show B + 1 + 1 + 1 < g4 by rw [hg4]; exact hD4.lt)
  have hA4 := hide (alloc_bel (Below.refl w4.heap.size w4) (Nat.le_refl _) (.cells #[.pointer (some ⟨B + 1, 0, none⟩), .pointer (some ⟨B + 1, 1, none⟩), .pointer (some ⟨B + 1 + 1, 0, none⟩)] 84))
  have hq4 := hide (show (w4.alloc (.cells #[.pointer (some ⟨B + 1, 0, none⟩), .pointer (some ⟨B + 1, 1, none⟩), .pointer (some ⟨B + 1 + 1, 0, none⟩)] 84)).heap[g4]? = some (.cells #[.pointer (some ⟨B + 1, 0, none⟩), .pointer (some ⟨B + 1, 1, none⟩), .pointer (some ⟨B + 1 + 1, 0, none⟩)] 84 (0, 0)) from newAt hg4)
  have hD5 := hide (hD4.next hA4.out hD4.lt)
  rw [← hg4] at hA4
  obtain ⟨W5, hW5⟩ : ∃ W, W = w4.alloc (.cells #[.pointer (some ⟨B + 1, 0, none⟩), .pointer (some ⟨B + 1, 1, none⟩), .pointer (some ⟨B + 1 + 1, 0, none⟩)] 84) := ⟨_, rfl⟩
  rw [← hW5] at hq4 hD5 hA4
  have hlt' := hlt4.out
  have hR5 := hide (show RdI W5 (B + 1 + 1 + 1) g4 s 0 [(B + 1, 0), (B + 1, 1), (B + 1 + 1, 0)] from ⟨hD5.out.b3, fun j p hp => by
      rw [cellAt hq4.out]
      rcases j with _ | _ | _ | j
      · cases hp; rfl
      · cases hp; rfl
      · cases hp; rfl
      · simp at hp, by omega, fun p hp => by
      simp only [List.mem_cons, List.not_mem_nil, or_false] at hp
      rcases hp with rfl | rfl | rfl
      · exact ⟨by show B + 1 ≠ _; omega, by show B + 1 ≠ _; omega, ⟨_, cellAt hD5.out.b1 0⟩, by simp [World.frozen?, hD5.out.b1]⟩
      · exact ⟨by show B + 1 ≠ _; omega, by show B + 1 ≠ _; omega, ⟨_, cellAt hD5.out.b1 1⟩, by simp [World.frozen?, hD5.out.b1]⟩
      · exact ⟨by show B + 1 + 1 ≠ _; omega, by show B + 1 + 1 ≠ _; omega, ⟨_, cellAt hD5.out.b2 0⟩, by simp [World.frozen?, hD5.out.b2]⟩, Nat.zero_le _⟩)
  have hRd := hide (read_any s (by omega) (B + 1 + 1 + 1) g4 (B + 1, 0) (B + 1, 1) (B + 1 + 1, 0) 0 W5 hR5.out)
  have hout := hide (rdA L (gr := B + 1 + 1 + 1) (gS := B + 1) (gn := B + 1 + 1) (by omega) (by omega) (by omega) hD5.out.b3 hD5.out.b1 hD5.out.b2 (Nat.zero_le _))
  have hchg := hide (rdW_chg L (B + 1 + 1 + 1) (fun k => B + 1 ≤ k ∧ k ≤ B + 1 + 1 + 1) ⟨by omega, Nat.le_refl _⟩ [(B + 1, 0), (B + 1, 1), (B + 1 + 1, 0)] W5 W5 0 (fun p hp => by
      simp only [List.mem_cons, List.not_mem_nil, or_false] at hp
      rcases hp with rfl | rfl | rfl
      · exact ⟨Nat.le_refl _, by show B + 1 ≤ _; omega⟩
      · exact ⟨Nat.le_refl _, by show B + 1 ≤ _; omega⟩
      · exact ⟨by show B + 1 ≤ B + 1 + 1; omega, by show B + 1 + 1 ≤ _; omega⟩) (ChgS.refl _ _))
  rw [← hLH.out] at hRd
  have hW5H := hide hW5
  rw [hW5] at hRd
  clear hlt' hD4 hW5 hq4 hR5
  rw [hg4] at hRd
  go_upto_region 5 with (go_at_call 40; refine hRd.out.mono ?_; rintro e w6 ⟨rfl, hm6⟩; have hm6H := hide hm6; clear hm6)
  have hfin := hide (show ∃ x y z a2 bad, DW w6 B w s x y z (.slice none 0 0) a2 bad ∧ g4 ≤ w6.heap.size ∧ RdOut L 0 x y z a2 bad ∧ (bad = true → z = 0) by
    obtain ⟨m, hm⟩ := hm6H.out
    rw [← hW5H.out] at hm
    obtain ⟨x, y, z, a2, bad, k1, k2, k3, k4, k5⟩ := hout.out
    have hc := hchg.out
    have hl := hlt4.out
    refine ⟨x, y, z, a2, bad, ?_, ?_, k4, k5⟩
    · rw [hm]
      refine DW.drew ⟨(hc.block B (by have := hD5.out.lt; omega) (by omega)).trans hD5.out.b0, k2, k3, k1, hD5.out.bel.trans (hc.below (fun k hk => by omega) (by have := hD5.out.lt; omega))⟩ m
    · rw [hm]
      have h1 := hA4.out.size
      have h2 := hc.size
      show g4 ≤ (rdW L _ _ W5 0).heap.size
      omega)
  obtain ⟨w7, hw7⟩ : ∃ w7, w7 = w6 := ⟨_, rfl⟩
  subst hw7
  obtain ⟨x, y, z, a2, bad, hD, hgz, hro, hbz⟩ := hfin.out
  have hDH := hide hD
  have hgzH := hide hgz
  have hroH := hide hro
  have hbzH := hide hbz
  have hnoI := st_arr 0 0 none 0 0
  have hnoO := st_arr1 0 0 none 0 0
  clear hfin hm6H hout hchg hRd hW5H hD5 hA4 hD4H hD hgz hro hbz hg4
  clear W5
  cases bad
  · obtain ⟨hz, hle⟩ : RW.decZ 3 (L.drop 0) = some ([x, y, z], L.drop a2) ∧ a2 ≤ L.length := by
      rcases hroH.out with ⟨h1, _⟩ | ⟨_, h1, h2⟩
      · cases h1
      · exact ⟨h1, h2⟩
    have hGl := hide (show G = RW.lines x y z (L.drop a2) by rw [hGH.out]; exact RW.decT_some hz)
    have hleH := hide hle
    clear hz hle
    have c2 : w7.cell? ⟨B + 1 + 1 + 1, 2, none⟩ = some (.bool false) := cellAt hDH.out.b3 2
    have cn : w7.cell? ⟨B + 1 + 1, 0, none⟩ = some (.int .i64 z) := cellAt hDH.out.b2 0
    by_cases hlow : z < 1
    · have hGb := hide (show G = .bad by rw [hGl.out, RW.lines_bad (.inl hlow)])
      have hres := hDH.out.b0
      go_wp2_with (refine wpList_store_row rfl 39 (.tmp 2) (.tmp 30) rfl B #[.int .i64 0, .int .i64 0, .slice none 0 0] rfl rfl 39 _ hres hnoI rfl hnoO ?_)
      refine bodyPost_ret (dec_results _ _ B #[.int .i64 0, .int .i64 0, .slice none 0 0] 190 rfl rfl rfl (setRow_heap _ _ _ _ _ _ hDH.out.b0)) rfl ⟨by rw [hGb.out]; rfl, belowSetRow (hBH.out ▸ hDH.out.bel) (by omega) _⟩
    by_cases hhigh : 1200 < z
    · have hGb := hide (show G = .bad by rw [hGl.out, RW.lines_bad (.inr hhigh)])
      have hres := hDH.out.b0
      go_wp2_with (refine wpList_store_row rfl 39 (.tmp 2) (.tmp 30) rfl B #[.int .i64 0, .int .i64 0, .slice none 0 0] rfl rfl 39 _ hres hnoI rfl hnoO ?_)
      refine bodyPost_ret (dec_results _ _ B #[.int .i64 0, .int .i64 0, .slice none 0 0] 190 rfl rfl rfl (setRow_heap _ _ _ _ _ _ hDH.out.b0)) rfl ⟨by rw [hGb.out]; rfl, belowSetRow (hBH.out ▸ hDH.out.bel) (by omega) _⟩
    obtain ⟨n, hn⟩ : ∃ n : Nat, (n : Int) = z := ⟨z.toNat, by omega⟩
    have hn1 : 1 ≤ n := by omega
    have hn2 : n ≤ 1200 := by omega
    subst hn
    have hGr := hide (show G = RW.rest x y [] n (L.drop a2) by rw [hGl.out, RW.lines_go (by omega) (by omega), Int.toNat_natCast])
    clear hlow hhigh hGl
    go_wp2
    go_loopw [7] (fun i wr => ∃ (j a : Nat) (v : Value) (ls : List RW.Ln) (bad : Bool), i = .int .i64 j ∧ j ≤ n ∧ Hid (DW wr B w s x y n v a bad ∧ LnsO wr g4 v ls ∧ g4 ≤ wr.heap.size ∧ ls.length ≤ j ∧ ((bad = true ∧ G = .wire) ∨ (bad = false ∧ G = RW.rest x y ls (n - j) (L.drop a) ∧ a ≤ L.length)))) (fun i _ => n - (intOf i).toNat)
    case atStart => exact ⟨0, a2, _, [], false, rfl, Nat.zero_le _, hDH.out, LnsO.nil _ _, hgzH.out, Nat.zero_le _, .inr ⟨rfl, hGr.out, hleH.out⟩⟩
    case round =>
      obtain ⟨j, a, v, ls, bad, rfl, hj, hQ⟩ := hrel
      obtain ⟨wo, hwo⟩ : ∃ wo, wo = wr := ⟨_, rfl⟩
      subst hwo
      have hD := hide hQ.out.1
      have hL := hide hQ.out.2.1
      have hgo := hide hQ.out.2.2.1
      have hll := hide hQ.out.2.2.2.1
      have hst := hide hQ.out.2.2.2.2
      clear hQ c2 cn
      have cn : wo.cell? ⟨B + 1 + 1, 0, none⟩ = some (.int .i64 (n : Int)) := cellAt hD.out.b2 0
      have c2 : wo.cell? ⟨B + 1 + 1 + 1, 2, none⟩ = some (.bool bad) := cellAt hD.out.b3 2
      have c1 : wo.cell? ⟨B + 1 + 1 + 1, 1, none⟩ = some (.int .i64 (a : Int)) := cellAt hD.out.b3 1
      cases bad
      · obtain ⟨hGr', hal⟩ : G = RW.rest x y ls (n - j) (L.drop a) ∧ a ≤ L.length := by
          rcases hst.out with ⟨h1, _⟩ | ⟨_, h1, h2⟩
          · cases h1
          · exact ⟨h1, h2⟩
        have hGrH := hide hGr'
        have halH := hide hal
        clear hGr' hal hst
        by_cases hlt : j < n
        · obtain ⟨gx, hgx⟩ : ∃ g, g = wo.heap.size := ⟨_, rfl⟩
          have hgxl := hide (show g4 ≤ gx by rw [hgx]; exact hgo.out)
          have hA1 := hide (alloc_bel (Below.refl wo.heap.size wo) (Nat.le_refl _) (.cells #[.int .i64 0, .int .i64 0, .int .i64 0] 61))
          have hx1 := hide (show (wo.alloc (.cells #[.int .i64 0, .int .i64 0, .int .i64 0] 61)).heap[gx]? = some (.cells #[.int .i64 0, .int .i64 0, .int .i64 0] 61 (0, 0)) from newAt hgx)
          have hD1 := hide (hD.out.next hA1.out hD.out.lt)
          have hL1 := hide (hL.out.next hA1.out)
          have hgo1 := hide (Nat.le_trans hgo.out hA1.out.size)
          have hown := hide (fun g (hg : v.ownBlock = some g) => (show g < gx by rw [hgx]; exact (own_block hL.out hg).2.1))
          go_upto_region 11 with fail
          rw [← hgx]
          clear c1 c2 cn
          refine gen_w (fun W => DW W B w s x y n v a false ∧ LnsO W g4 v ls ∧ g4 ≤ W.heap.size ∧ W.heap[gx]? = some (.cells #[.int .i64 0, .int .i64 0, .int .i64 0] 61 (0, 0))) ⟨hD1.out, hL1.out, hgo1.out, hx1.out⟩ ?_
          clear hD1 hL1 hgo1 hx1 hA1 hgx hD hL hgo
          rintro w2 ⟨hD2, hL2, hg2, hx2⟩
          have hD2H := hide hD2
          have hL2H := hide hL2
          have hg2H := hide hg2
          have hx2H := hide hx2
          obtain ⟨gq, hgq⟩ : ∃ g, g = w2.heap.size := ⟨_, rfl⟩
          have hA2 := hide (alloc_bel (Below.refl w2.heap.size w2) (Nat.le_refl _) (.cells #[.pointer (some ⟨gx, 0, none⟩), .pointer (some ⟨gx, 1, none⟩), .pointer (some ⟨gx, 2, none⟩)] 84))
          have hq2 := hide (show (w2.alloc (.cells #[.pointer (some ⟨gx, 0, none⟩), .pointer (some ⟨gx, 1, none⟩), .pointer (some ⟨gx, 2, none⟩)] 84)).heap[gq]? = some (.cells #[.pointer (some ⟨gx, 0, none⟩), .pointer (some ⟨gx, 1, none⟩), .pointer (some ⟨gx, 2, none⟩)] 84 (0, 0)) from newAt hgq)
          obtain ⟨W3, hW3⟩ : ∃ W, W = w2.alloc (.cells #[.pointer (some ⟨gx, 0, none⟩), .pointer (some ⟨gx, 1, none⟩), .pointer (some ⟨gx, 2, none⟩)] 84) := ⟨_, rfl⟩
          have hltx := hide (show gx < gq by rw [hgq]; exact (Array.getElem?_eq_some_iff.1 hx2).1)
          rw [← hW3] at hA2 hq2
          have hD3 := hide (hD2.next hA2.out hD2.lt)
          have hL3 := hide (hL2.next hA2.out)
          have hx3 := hide (show W3.heap[gx]? = some (.cells #[.int .i64 0, .int .i64 0, .int .i64 0] 61 (0, 0)) from (hA2.out.block _ (Array.getElem?_eq_some_iff.1 hx2).1).trans hx2)
          have hl4 := hlt4.out
          have hlx := hltx.out
          have hgl := hgxl.out
          have hR3 := hide (show RdI W3 (B + 1 + 1 + 1) gq s a [(gx, 0), (gx, 1), (gx, 2)] from ⟨hD3.out.b3, fun j p hp => by
              rw [cellAt hq2.out]
              rcases j with _ | _ | _ | j
              · cases hp; rfl
              · cases hp; rfl
              · cases hp; rfl
              · simp at hp, by omega, fun p hp => by
              simp only [List.mem_cons, List.not_mem_nil, or_false] at hp
              rcases hp with rfl | rfl | rfl
              · exact ⟨by show gx ≠ _; omega, by show gx ≠ _; omega, ⟨_, cellAt hx3.out 0⟩, by simp [World.frozen?, hx3.out]⟩
              · exact ⟨by show gx ≠ _; omega, by show gx ≠ _; omega, ⟨_, cellAt hx3.out 1⟩, by simp [World.frozen?, hx3.out]⟩
              · exact ⟨by show gx ≠ _; omega, by show gx ≠ _; omega, ⟨_, cellAt hx3.out 2⟩, by simp [World.frozen?, hx3.out]⟩, by rw [← hlenH.out]; exact halH.out⟩)
          have hRd := hide (read_any s (by omega) (B + 1 + 1 + 1) gq (gx, 0) (gx, 1) (gx, 2) a W3 hR3.out)
          have hout := hide (rdB L (gr := B + 1 + 1 + 1) (gx := gx) (by omega) hD3.out.b3 hx3.out halH.out)
          have hchg := hide (rdW_chg L (B + 1 + 1 + 1) (fun k => k = B + 1 + 1 + 1 ∨ k = gx) (.inl rfl) [(gx, 0), (gx, 1), (gx, 2)] W3 W3 a (fun p hp => by
              simp only [List.mem_cons, List.not_mem_nil, or_false] at hp
              rcases hp with rfl | rfl | rfl <;> exact .inr rfl) (ChgS.refl _ _))
          rw [← hLH.out] at hRd
          have hW3H := hide hW3
          rw [hW3, hgq] at hRd
          clear hD2 hL2 hg2 hx2 hW3 hq2 hR3 hgq hl4 hlx hgl
          go_upto_region 12 with (go_at_call 40; refine hRd.out.mono ?_; rintro e w6 ⟨rfl, hm6⟩; have hm6H := hide hm6; clear hm6)
          have hfin := hide (show ∃ p q r a2 bad, DW w6 B w s x y n v a2 bad ∧ LnsO w6 g4 v ls ∧ g4 ≤ w6.heap.size ∧ w6.heap[gx]? = some (.cells #[.int .i64 p, .int .i64 q, .int .i64 r] 61 (0, 0)) ∧ RdOut L a p q r a2 bad by
            obtain ⟨m, hm⟩ := hm6H.out
            rw [← hW3H.out] at hm
            obtain ⟨p, q, r, a2, bad, k1, k2, k3⟩ := hout.out
            have hc := hchg.out
            have hl := hlt4.out
            have hgl := hgxl.out
            have hlx := hltx.out
            have hlt3 := hD3.out.lt
            refine ⟨p, q, r, a2, bad, ?_, ?_, ?_, by rw [hm]; exact k2, k3⟩
            · rw [hm]
              refine DW.drew ⟨(hc.block B (by omega) (by omega)).trans hD3.out.b0, (hc.block (B + 1) (by omega) (by omega)).trans hD3.out.b1, (hc.block (B + 1 + 1) (by omega) (by omega)).trans hD3.out.b2, k1, hD3.out.bel.trans (hc.below (fun k hk => by omega) (by omega))⟩ m
            · rw [hm]
              have h1 : LnsO (rdW L (B + 1 + 1 + 1) [(gx, 0), (gx, 1), (gx, 2)] W3 a) g4 v ls := own_keep hL3.out fun g hg => hc.block g (own_block hL3.out hg).2.1 (by
                have h1 := (own_block hL3.out hg).1
                have h2 := hown.out g hg
                omega)
              exact own_keep h1 fun g hg => rfl
            · rw [hm]
              have h1 := hA2.out.size
              have h2 := hc.size
              have h3 := hg2H.out
              show g4 ≤ (rdW L _ _ W3 a).heap.size
              omega)
          obtain ⟨p, q, r, a3, bad, k1, k2, k3, k4, k5⟩ := hfin.out
          have hD6 := hide k1
          have hL6 := hide k2
          have hg6 := hide k3
          have hro := hide k5
          have hrow := rows_three w6 k4
          have hps := ln_size (p, q, r)
          have hl3 : (RW.lnl (p, q, r)).length = 3 := rfl
          clear k1 k2 k3 k4 k5 hfin hm6H hout hchg hRd hW3H hD3 hL3 hx3 hA2 hD2H hL2H hg2H hx2H
          clear W3
          obtain ⟨v8, w8, hrun, hL8, hB8⟩ := hL6.out.appNew (p, q, r) (by have := hll.out; omega) hg6.out
          have hL8H := hide hL8
          have hB8H := hide hB8
          have hD8 := hide (hD6.out.next hB8 hlt4.out)
          have f4 : w8.cell? ⟨B + 1, 2, none⟩ = some v := cellAt hD8.out.b1 2
          have f4f : w8.frozen? ⟨B + 1, 2, none⟩ = false := by simp [World.frozen?, hD8.out.b1]
          have e4 : w6.cell? ⟨B + 1, 2, none⟩ = some v := cellAt hD6.out.b1 2
          obtain ⟨a8, n8, hv8⟩ := lnl_block hL8
          obtain ⟨q8, hq8⟩ : ∃ q', q' = (ls ++ [(p, q, r)]).length := ⟨_, rfl⟩
          rw [← hq8] at hv8
          subst hv8
          obtain ⟨av0, cv0, hv0⟩ := lnl_block hL6.out
          obtain ⟨q0, hq0⟩ : ∃ q', q' = ls.length := ⟨_, rfl⟩
          have hq0H := hide hq0
          rw [← hq0] at hv0
          subst hv0
          clear hL8 hB8 hq8 hq0
          go_wp2_with (first
            | (refine wpList_load_mid rfl 61 (.tmp 8) rfl gx 0 rfl (RW.lnl (p, q, r)) _ hrow Try.underlying61 rfl hps ?_)
            | (at_builtin; refine wpList_app_run rfl (.tmp 50) (.tmp 52) rfl rfl rfl hrun ?_))
          have hkeep : ∀ k, k ≠ B + 1 → (w8.setCell ⟨B + 1, 2, none⟩ (.slice a8 q8 n8)).heap[k]? = w8.heap[k]? := fun k hk => Below.heap_setCell _ _ _ _ hk
          have hl4 := hlt4.out
          have hnj : n - j = (n - (j + 1)) + 1 := by omega
          have hst2 := hide (show (bad = true ∧ G = .wire) ∨ (bad = false ∧ G = RW.rest x y (ls ++ [(p, q, r)]) (n - (j + 1)) (L.drop a3) ∧ a3 ≤ L.length) by
            rcases hro.out with ⟨h1, h2⟩ | ⟨h1, h2, h3⟩
            · exact .inl ⟨h1, by rw [hGrH.out, hnj, RW.rest_none h2]⟩
            · exact .inr ⟨h1, by rw [hGrH.out, hnj, RW.rest_some h2], h3⟩)
          clear hnj
          go_roundw
          case rel => exact ⟨j + 1, a3, .slice a8 q8 n8, ls ++ [(p, q, r)], bad, by go_num, by omega, hD8.out.setv _, own_keep hL8H.out fun g hg => hkeep g (by have := (own_block hL8H.out hg).1; omega), by rw [show (w8.setCell ⟨B + 1, 2, none⟩ (.slice a8 q8 n8)).heap.size = w8.heap.size by simp [World.setCell]]; exact Nat.le_trans hg6.out hB8H.out.size, by rw [List.length_append]; have := hll.out; simp; exact this, hst2.out⟩
          case measure => simp [intOf]; omega
        · obtain rfl : j = n := by omega
          have hGf := hide (show G = RW.fin x y ls (L.drop a) by rw [hGrH.out, Nat.sub_self, RW.rest_zero])
          have hl4 := hlt4.out
          by_cases hae : a = s.size
          · have hGv := hide (show G = if RW.valB (x, y, ls) = true then .st (x, y, ls) else .bad by
              rw [hGf.out]
              unfold RW.fin
              rw [List.drop_eq_nil_of_le (by rw [hlenH.out, hae]; exact Nat.le_refl _), if_neg (by simp)])
            obtain ⟨av0, cv0, hv0⟩ := lnl_block hL.out
            obtain ⟨q0, hq0⟩ : ∃ q', q' = ls.length := ⟨_, rfl⟩
            rw [← hq0] at hv0
            subst hv0
            obtain ⟨vb, hvb⟩ : ∃ b, b = RW.valB (x, y, ls) := ⟨_, rfl⟩
            have hvbH := hide hvb
            have hV := hide (valid_any x y (.slice av0 q0 cv0) ls (by have := hll.out; omega) wo hL.out.row)
            rw [← hvb] at hV
            have hi := st_arr x y av0 q0 cv0
            have hone := st_arr1 x y av0 q0 cv0
            have g4' := hD.out.b1
            have hDn := hide (fun W (hW : Below wo.heap.size wo W) => hD.out.next hW hD.out.lt)
            have hLn := hide (fun W (hW : Below wo.heap.size wo W) => hL.out.next hW)
            subst hae
            clear hq0 hvb hGf
            cases vb
            · have hGb := hide (show G = .bad by rw [hGv.out, ← hvbH.out, if_neg (by decide)])
              go_wp2_with (first
                | (refine wpList_load_row rfl 39 (.tmp 4) rfl (B + 1) rfl 39 _ (0, 0) _ g4' Try.underlying39 rfl hi ?_)
                | (go_at_call 33; refine hV.out.mono ?_; rintro e w9 ⟨rfl, hB9⟩; have hB9H := hide hB9; have hres := (hDn.out w9 hB9).b0; clear hB9)
                | (refine wpList_store_row rfl 39 (.tmp 2) (.tmp 72) rfl B #[.int .i64 0, .int .i64 0, .slice none 0 0] rfl rfl 39 _ hres hnoI rfl hnoO ?_))
              refine bodyPost_ret (dec_results _ _ B #[.int .i64 0, .int .i64 0, .slice none 0 0] 190 rfl rfl rfl (setRow_heap _ _ _ _ _ _ (hDn.out w9 hB9H.out).b0)) rfl ⟨by rw [hGb.out]; rfl, belowSetRow (hBH.out ▸ (hDn.out w9 hB9H.out).bel) (by omega) _⟩
            · have hGb := hide (show G = .st (x, y, ls) by rw [hGv.out, ← hvbH.out, if_pos rfl])
              go_wp2_with (first
                | (refine wpList_load_row rfl 39 (.tmp 4) rfl (B + 1) rfl 39 _ (0, 0) _ g4' Try.underlying39 rfl hi ?_)
                | (go_at_call 33; refine hV.out.mono ?_; rintro e w9 ⟨rfl, hB9⟩; have hB9H := hide hB9; have hres := (hDn.out w9 hB9).b0; have g5' := (hDn.out w9 hB9).b1; clear hB9)
                | (refine wpList_load_row rfl 39 (.tmp 4) rfl (B + 1) rfl 39 _ (0, 0) _ g5' Try.underlying39 rfl hi ?_)
                | (refine wpList_store_row rfl 39 (.tmp 2) (.tmp 73) rfl B #[.int .i64 x, .int .i64 y, .slice av0 q0 cv0] rfl rfl 39 _ hres hi rfl hone ?_))
              refine bodyPost_ret (dec_results _ _ B #[.int .i64 x, .int .i64 y, .slice av0 q0 cv0] 0 rfl rfl rfl (setRow_heap _ _ _ _ _ _ (hDn.out w9 hB9H.out).b0)) rfl ⟨?_, belowSetRow (hBH.out ▸ (hDn.out w9 hB9H.out).bel) (by omega) _⟩
              rw [hGb.out]
              exact ⟨_, rfl, own_base (own_setRow (hLn.out w9 hB9H.out) _ (by omega) _) (by omega)⟩
          · have hGb := hide (show G = .wire by
              rw [hGf.out]
              unfold RW.fin
              rw [if_pos (fun e => hae (by
                have h1 := List.drop_eq_nil_iff.1 e
                have h2 := halH.out
                have h3 := hlenH.out
                omega))])
            have hres := hD.out.b0
            go_wp2_with (refine wpList_store_row rfl 39 (.tmp 2) (.tmp 68) rfl B #[.int .i64 0, .int .i64 0, .slice none 0 0] rfl rfl 39 _ hres hnoI rfl hnoO ?_)
            refine bodyPost_ret (dec_results _ _ B #[.int .i64 0, .int .i64 0, .slice none 0 0] 10 rfl rfl rfl (setRow_heap _ _ _ _ _ _ hD.out.b0)) rfl ⟨by rw [hGb.out]; rfl, belowSetRow (hBH.out ▸ hD.out.bel) (by omega) _⟩
      · have hGb := hide (show G = .wire by
          rcases hst.out with ⟨_, h1⟩ | ⟨h1, _⟩
          · exact h1
          · cases h1)
        have hres := hD.out.b0
        by_cases hlt : j < n
        · go_wp2_with (refine wpList_store_row rfl 39 (.tmp 2) (.tmp 68) rfl B #[.int .i64 0, .int .i64 0, .slice none 0 0] rfl rfl 39 _ hres hnoI rfl hnoO ?_)
          refine bodyPost_ret (dec_results _ _ B #[.int .i64 0, .int .i64 0, .slice none 0 0] 10 rfl rfl rfl (setRow_heap _ _ _ _ _ _ hD.out.b0)) rfl ⟨by rw [hGb.out]; rfl, belowSetRow (hBH.out ▸ hD.out.bel) (by omega) _⟩
        · go_wp2_with (refine wpList_store_row rfl 39 (.tmp 2) (.tmp 68) rfl B #[.int .i64 0, .int .i64 0, .slice none 0 0] rfl rfl 39 _ hres hnoI rfl hnoO ?_)
          refine bodyPost_ret (dec_results _ _ B #[.int .i64 0, .int .i64 0, .slice none 0 0] 10 rfl rfl rfl (setRow_heap _ _ _ _ _ _ hD.out.b0)) rfl ⟨by rw [hGb.out]; rfl, belowSetRow (hBH.out ▸ hD.out.bel) (by omega) _⟩
  · have hz : RW.decZ 3 (L.drop 0) = none := by
      rcases hroH.out with ⟨_, h1⟩ | ⟨h1, _⟩
      · exact h1
      · cases h1
    have hGb := hide (show G = .wire by rw [hGH.out]; exact RW.decT_none hz)
    obtain rfl : z = 0 := hbzH.out rfl
    have c2 : w7.cell? ⟨B + 1 + 1 + 1, 2, none⟩ = some (.bool true) := cellAt hDH.out.b3 2
    have cn : w7.cell? ⟨B + 1 + 1, 0, none⟩ = some (.int .i64 0) := cellAt hDH.out.b2 0
    have hres := hDH.out.b0
    clear hz
    go_wp2
    refine wp_loop_rounds 1 ?_
    rw [rounds_succ]
    go_wp2_with (refine wpList_store_row rfl 39 (.tmp 2) (.tmp 68) rfl B #[.int .i64 0, .int .i64 0, .slice none 0 0] rfl rfl 39 _ hres hnoI rfl hnoO ?_)
    refine bodyPost_ret (dec_results _ _ B #[.int .i64 0, .int .i64 0, .slice none 0 0] 10 rfl rfl rfl (setRow_heap _ _ _ _ _ _ hDH.out.b0)) rfl ⟨by rw [hGb.out]; rfl, belowSetRow (hBH.out ▸ hDH.out.bel) (by omega) _⟩
end Go.Proofs.Ytillplhadimgmaa
