/-
  Package royaltyref23: Open: what it returns, what it changes.
-/
import Derived.Test.YtllbphanfahkkaaGreatDoorRj1
import Derived.Test.YtllbphanfahkkaaGreatDoorRjP
namespace Go.Proofs.YtllbphanfahkkaaGreatDoor
open Go.RowKit RG
/-- a journal of the reference in memory -/
structure RjAt (W : World) (B kb rb : Nat) (lv : Value) (rs : List ByteArray) (e : Nat) (br : Bool) : Prop where
  row : W.heap[kb]? = some (.cells #[.pointer (some ⟨rb, 0, none⟩), lv, .int .i64 (e : Int), .bool br] 43 (0, 0))
  own : StrsOwn W B lv rs
  hb : B ≤ kb
theorem RjAt.lt {W : World} {B kb rb : Nat} {lv : Value} {rs : List ByteArray} {e : Nat} {br : Bool} (h : RjAt W B kb rb lv rs e br) : kb < W.heap.size := (Array.getElem?_eq_some_iff.1 h.row).1
theorem RjAt.keep {W W' : World} {B kb rb : Nat} {lv : Value} {rs : List ByteArray} {e : Nat} {br : Bool} (h : RjAt W B kb rb lv rs e br) (hk : ∀ k, k < W.heap.size → (k = kb ∨ lv.ownBlock = some k) → W'.heap[k]? = W.heap[k]?) : RjAt W' B kb rb lv rs e br :=
  ⟨(hk kb h.lt (.inl rfl)).trans h.row, own_keep h.own fun g hg => hk g (own_blk h.own hg).2.1 (.inr hg), h.hb⟩
theorem RjAt.next {W W' : World} {B kb rb : Nat} {lv : Value} {rs : List ByteArray} {e : Nat} {br : Bool} (h : RjAt W B kb rb lv rs e br) (hB : Below W.heap.size W W') : RjAt W' B kb rb lv rs e br := h.keep fun k hk _ => hB.block k hk
theorem RjAt.mono {W : World} {B B' kb rb : Nat} {lv : Value} {rs : List ByteArray} {e : Nat} {br : Bool} (h : RjAt W B kb rb lv rs e br) (hb : B' ≤ B) : RjAt W B' kb rb lv rs e br := ⟨h.row, own_base h.own hb, Nat.le_trans hb h.hb⟩
/-- the journal under way -/
structure RjA (W w : World) (N kb rb : Nat) (lv : Value) (rs : List ByteArray) (e : Nat) (br : Bool) : Prop where
  at_ : RjAt W N kb rb lv rs e br
  bel : Below N w W
theorem RjA.next {W W' w : World} {N kb rb : Nat} {lv : Value} {rs : List ByteArray} {e : Nat} {br : Bool} (h : RjA W w N kb rb lv rs e br) (hB : Below W.heap.size W W') : RjA W' w N kb rb lv rs e br := ⟨h.at_.next hB, h.bel.trans (hB.mono (Nat.le_trans h.at_.hb (Nat.le_of_lt h.at_.lt)))⟩
theorem RjA.new {W w : World} {N rb : Nat} (h : Below N w W) (hN : N ≤ W.heap.size) (br : Bool) : RjA (W.alloc (.cells #[.pointer (some ⟨rb, 0, none⟩), .slice none 0 0, .int .i64 0, .bool br] 43)) w N W.heap.size rb (.slice none 0 0) [] 0 br :=
  ⟨⟨alloc_at1 _ _, strs_nil _ _, hN⟩, h.trans ((alloc_bel (Below.refl W.heap.size W) (Nat.le_refl _) _).mono hN)⟩
theorem RjA.c1 {W w : World} {N kb rb : Nat} {lv : Value} {rs : List ByteArray} {e : Nat} {br : Bool} (h : RjA W w N kb rb lv rs e br) : W.cell? ⟨kb, 1, none⟩ = some lv := cellAt h.at_.row 1
theorem RjA.c2 {W w : World} {N kb rb : Nat} {lv : Value} {rs : List ByteArray} {e : Nat} {br : Bool} (h : RjA W w N kb rb lv rs e br) : W.cell? ⟨kb, 2, none⟩ = some (.int .i64 (e : Int)) := cellAt h.at_.row 2
/-- a cell of the journal's row is written -/
theorem RjA.set1 {W w : World} {N kb rb : Nat} {lv u : Value} {rs' : List ByteArray} {e : Nat} {br : Bool} (h : W.heap[kb]? = some (.cells #[.pointer (some ⟨rb, 0, none⟩), lv, .int .i64 (e : Int), .bool br] 43 (0, 0))) (hb : N ≤ kb) (ho : StrsOwn W N u rs') (hB : Below N w W) : RjA (W.setCell ⟨kb, 1, none⟩ u) w N kb rb u rs' e br := by
  refine ⟨⟨(heap_setCell_same _ _ _ _ _ _ h).trans ?_, own_keep ho fun g hg => ?_, hb⟩, hB.setCell (p := ⟨kb, 1, none⟩) hb _⟩
  · rfl
  · obtain ⟨_, _, c, fr, hc⟩ := own_blk ho hg
    exact Below.heap_setCell _ _ _ _ (blocks_ne hc h (by decide))
theorem RjA.set2 {W w : World} {N kb rb : Nat} {lv : Value} {rs : List ByteArray} {e : Nat} {br : Bool} (h : RjA W w N kb rb lv rs e br) (e' : Nat) : RjA (W.setCell ⟨kb, 2, none⟩ (.int .i64 (e' : Int))) w N kb rb lv rs e' br := by
  refine ⟨⟨(heap_setCell_same _ _ _ _ _ _ h.at_.row).trans ?_, own_keep h.at_.own fun g hg => ?_, h.at_.hb⟩, h.bel.setCell (p := ⟨kb, 2, none⟩) h.at_.hb _⟩
  · rfl
  · obtain ⟨_, _, c, fr, hc⟩ := own_blk h.at_.own hg
    exact Below.heap_setCell _ _ _ _ (blocks_ne hc h.at_.row (by decide))
/-- the row grows by a record, then the cell is written -/
theorem RjA.app {W w : World} {N kb rb : Nat} {lv : Value} {rs : List ByteArray} {e : Nat} {br : Bool} (h : RjA W w N kb rb lv rs e br) (R : ByteArray) (hl : rs.length ≤ 5000000) :
    ∃ v' W', (Builtin.append_ #[22, 22] 22 #[lv, .slice (some ⟨W.heap.size, 0, none⟩) 1 1]).run Tryz.prog (W.alloc (.cells #[.string R] 9)) = .ok v' W' ∧
      W'.heap[kb]? = some (.cells #[.pointer (some ⟨rb, 0, none⟩), lv, .int .i64 (e : Int), .bool br] 43 (0, 0)) ∧ RjA (W'.setCell ⟨kb, 1, none⟩ v') w N kb rb v' (rs ++ [R]) e br := by
  have hN : N ≤ W.heap.size := Nat.le_trans h.at_.hb (Nat.le_of_lt h.at_.lt)
  obtain ⟨v', W', h1, h2, h3, _⟩ := run_app_str R h.at_.own hN hl
  have hk : W'.heap[kb]? = some (.cells #[.pointer (some ⟨rb, 0, none⟩), lv, .int .i64 (e : Int), .bool br] 43 (0, 0)) := (h3.block kb h.at_.lt fun hq => by
    obtain ⟨_, _, c, fr, hc⟩ := own_blk h.at_.own hq
    exact absurd rfl (blocks_ne hc h.at_.row (by decide))).trans h.at_.row
  exact ⟨v', W', h1, hk, RjA.set1 hk h.at_.hb h2 (h.bel.trans (h3.belowJ (fun g hg => (own_blk h.at_.own hg).1) hN))⟩
/-- what Open of the reference leaves -/
def ROpenOut (H : List UInt8 → List UInt8) (B rb n sb : Nat) (S : RW.Dk) (w : World) (e : Ending) (w' : World) : Prop :=
  (∃ sb' L' pv', RefAt w' B rb n sb' L' pv' (RW.jopen H n S).2.2 ∧ RFr rb sb w sb' w') ∧ Below B w w' ∧
    (((RW.jopen H n S).2.1 = none ∧ e = .returned (.tuple #[.pointer none, .int .i64 (RW.jopen H n S).1])) ∨
      ∃ rs kb lv, (RW.jopen H n S).1 = 0 ∧ (RW.jopen H n S).2.1 = some rs ∧ e = .returned (.tuple #[.pointer (some ⟨kb, 0, none⟩), .int .i64 0]) ∧ RjAt w' w.heap.size kb rb lv rs (RW.stos H RW.z32 rs).length false)
theorem RjAt.rfr {W W' : World} {B Bd kb rb n sb sb' e : Nat} {L : List UInt8} {pv lv : Value} {S : RW.Dk} {rs : List ByteArray} {br : Bool} (h : RjAt W B kb rb lv rs e br) (hR : RefAt W Bd rb n sb L pv S) (hF : RFr rb sb W sb' W') : RjAt W' B kb rb lv rs e br :=
  h.keep fun k hk hq => (hF.frn k hk (by
    rcases hq with rfl | hq
    · exact blocks_ne h.row hR.row (by decide)
    · obtain ⟨_, _, c, fr, hc⟩ := own_blk h.own hq
      exact blocks_ne hc hR.row (by decide)) (by
    rcases hq with rfl | hq
    · exact blocks_ne h.row hR.sure (by decide)
    · obtain ⟨_, _, c, fr, hc⟩ := own_blk h.own hq
      exact blocks_ne hc hR.sure (by decide)) (fun cur fr hc => by
    rcases hq with rfl | hq
    · rw [h.row] at hc; injection hc with hc; injection hc with _ hc; exact absurd hc (by decide)
    · obtain ⟨_, _, c, fr', hc'⟩ := own_blk h.own hq
      rw [hc'] at hc; injection hc with hc; injection hc with _ hc; exact absurd hc (by decide))).1
set_option maxRecDepth 100000 in
set_option maxHeartbeats 8000000 in
theorem ropen_any (B rb n sb : Nat) (L : List UInt8) (pv : Value) (S : RW.Dk) (p : Nat) (hn1 : 1 ≤ n) (hg : RW.Rg n S p) (hp : p ≤ 900000) (w : World) (hR : RefAt w B rb n sb L pv S) (hlv : S.vis.length = n) :
    Calls Tryz.prog 55 #[.pointer (some ⟨rb, 0, none⟩)] w (ROpenOut (RW.sha RW.k0F) B rb n sb S w) := by
  have hRH := hide hR
  have hn := hR.hn
  have hpl := hg.pl
  have hRd := hide (rread_any B rb n sb L pv S hn1 hg.ok (by omega) hg.rp 0 (n : Int) (by decide) (by decide) (by omega) (by omega) w hR)
  have hBs := hide (show B ≤ w.heap.size from Nat.le_trans hR.hb (Nat.le_of_lt hR.lt.1))
  have hgH := hide hg
  obtain ⟨off, left, dur, vis, pend⟩ := S
  have c0 : w.cell? ⟨rb, 0, none⟩ = some (.slice (some ⟨sb, 0, none⟩) n L.length) := cellAt hR.row 0
  cases off
  case true =>
    rw [show (RW.Dk.read ⟨true, left, dur, vis, pend⟩ n 0 (n : Int)) = (⟨#[]⟩, 221) from rfl] at hRd
    clear hR hn hpl hg
    go_enter Tryz.func55, Tryz.ntmps55
    go_wp2_with (go_at_call 92; refine hRd.out.mono ?_; rintro e w2 ⟨rfl, hB2⟩; have hB2H := hide hB2; clear hB2)
    go_ret2
    exact ⟨⟨sb, L, pv, hRH.out.next hB2H.out, RFr.of_below hB2H.out⟩, hB2H.out.mono hBs.out, .inl ⟨rfl, rfl⟩⟩
  case false =>
    obtain ⟨s, hs⟩ : ∃ s : ByteArray, s = RW.strOf vis := ⟨_, rfl⟩
    have hsl : s.data.toList = vis := by rw [hs, RW.strOf_list]
    have hss : n = s.size := by rw [hs, RW.strOf_size]; exact hlv.symm
    rw [show (RW.Dk.read ⟨false, left, dur, vis, pend⟩ n 0 (n : Int)) = (s, 0) by
      unfold RW.Dk.read
      rw [if_neg (by simp), if_pos ((RW.insB_iff n _ _).2 ⟨by omega, by omega, by omega, by omega⟩)]
      rw [show (0 : Int).toNat = 0 from rfl, List.drop_zero, Int.toNat_natCast, ← hlv, List.take_length, hs]] at hRd
    subst hss
    have hslH := hide hsl
    have hn4 : s.size ≤ 4194304 := hn
    obtain ⟨N, hN⟩ : ∃ N, N = w.heap.size := ⟨_, rfl⟩
    have hNH := hide hN
    rw [← hN] at hRd
    obtain ⟨G, hG⟩ : ∃ G, G = RW.ldL (RW.sha RW.k0F) RW.z32 s.data.toList := ⟨_, rfl⟩
    have hGH := hide hG
    have hHn := hide (fun W => rhead_any (.slice none 0 0) [] W (RowV.nil W) (by decide) (fun r hr => by cases hr))
    have hnil := hide (show RW.hds (RW.sha RW.k0F) RW.z32 [] = RW.z32 from rfl)
    rw [hnil.out] at hHn
    have hnone := hide (fun (hG1 : G = none) => (show RW.jopen (RW.sha RW.k0F) s.size ⟨false, left, dur, vis, pend⟩ = (232, none, ⟨false, left, dur, vis, pend⟩) by
      rw [hGH.out, hslH.out] at hG1
      unfold RW.jopen
      simp only [Bool.false_eq_true, if_false, hG1]))
    clear hR hn hpl hg hlv hs hsl hN hG
    go_enter Tryz.func55, Tryz.ntmps55
    go_upto_region 5 with (go_at_call 92; refine hRd.out.mono ?_; rintro e w2 ⟨rfl, hB2⟩; have hB2H := hide hB2; clear hB2)
    clear c0
    have hA3 := hide (RjA.new (rb := rb) (W := w2) (w := w) (N := N) hB2H.out (by rw [hNH.out]; exact hB2H.out.size) false)
    obtain ⟨kb, hkb⟩ : ∃ kb, kb = w2.heap.size := ⟨_, rfl⟩
    rw [← hkb] at hA3
    go_upto_region 6 with fail
    rw [← hkb]
    refine gen_w (fun W => RjA W w N kb rb (.slice none 0 0) [] 0 false) hA3.out ?_
    clear hA3 hkb
    rintro w3 hA3
    have hA3 := hide hA3
    go_wp2_with (go_at_call 48; refine (hHn.out _).mono ?_; rintro e w4 ⟨rfl, hB4⟩; have hA4 := hide (hA3.out.next hB4); clear hB4)
    clear hA3 hB2H hHn hRd
    go_loopw [8] (fun hv wr => ∃ (qs : List ByteArray) (m : Nat) (lv : Value), m ≤ s.size ∧ hv = .string (RW.strOf (RW.hds (RW.sha RW.k0F) RW.z32 qs)) ∧ wr.cell? ⟨kb, 2, none⟩ = some (.int .i64 (m : Int)) ∧ Hid (RjA wr w N kb rb lv qs m false ∧ G = (RW.ldL (RW.sha RW.k0F) (RW.hds (RW.sha RW.k0F) RW.z32 qs) (s.data.toList.drop m)).map (fun p => (qs ++ p.1, m + p.2)) ∧ qs.length ≤ m))
      (fun _ wr => s.size - RW.natOf (wr.cell? ⟨kb, 2, none⟩))
    case atStart => exact ⟨[], 0, .slice none 0 0, Nat.zero_le _, rfl, hA4.out.c2, ⟨hA4.out, by rw [hGH.out]; simp [RW.hds], Nat.zero_le _⟩⟩
    case round =>
      obtain ⟨qs, m, lv, hm, rfl, c2, hQ⟩ := hrel
      obtain ⟨wo, hwo⟩ : ∃ wo, wo = wr := ⟨_, rfl⟩
      subst hwo
      have hA := hide hQ.out.1
      have hGo := hide hQ.out.2.1
      have hql := hide hQ.out.2.2
      clear hQ hA4
      by_cases hms : m < s.size
      · have hdc := hide (RW.drop_cons s m hms)
        by_cases h0 : s[m].toNat = 0
        · have hG1 := hide (show G = some (qs, m) from by
            rw [hGo.out, hdc.out, show s[m] = 0 from UInt8.toNat_inj.1 (by rw [h0]; rfl), RW.ldL_zero]
            simp)
          have hL : RW.ldL (RW.sha RW.k0F) RW.z32 vis = some (qs, m) := by rw [← hslH.out, ← hGH.out, hG1.out]
          obtain ⟨_, _, hst, _, _⟩ := RW.ldL_sound' (RW.sha RW.k0F) (RW.sha_len RW.k0F) hL
          have hLH := hide hL
          have hstH := hide hst
          clear hL hst
          obtain ⟨d, hd⟩ : ∃ d : Nat, (s.size : Int) - (m : Int) = (d : Int) := ⟨s.size - m, by omega⟩
          have hdn := hide (show d = s.size - m by omega)
          obtain ⟨Z, hZ⟩ : ∃ Z : List UInt8, Z = List.replicate d 0 := ⟨_, rfl⟩
          obtain ⟨X, hX⟩ : ∃ X : ByteArray, X = RW.zs d := ⟨_, rfl⟩
          have hXl : X.data.toList = List.replicate (s.size - m) 0 := by rw [hX, hdn.out]; exact RW.strOf_list _
          have hXs : X.size = d := by rw [hX]; exact RW.zs_size d
          have hXz := hide (show X = RW.strOf (List.replicate (s.size - m) 0) by rw [hX, hdn.out]; rfl)
          have hmk : (Instr.makeSlice 39 (.int .i64 ((s.size : Int) - (m : Int))) (.int .i64 ((s.size : Int) - (m : Int)))).run Tryz.prog wo = .ok (.slice (some ⟨wo.heap.size, 0, none⟩) d d) (wo.alloc (.cells (RW.byl Z).toArray 5)) := by rw [hd, hZ]; exact run_make_by d (by have := hdn.out; omega) wo
          have hcv : (convert 39 9 (.slice (some ⟨wo.heap.size, 0, none⟩) d d)).run Tryz.prog (wo.alloc (.cells (RW.byl Z).toArray 5)) = .ok (.string X) (wo.alloc (.cells (RW.byl Z).toArray 5)) := by rw [hX, hZ]; exact conv_zs wo d
          have hA5 := hide (hA.out.next (alloc_bel (Below.refl wo.heap.size wo) (Nat.le_refl _) (.cells (RW.byl Z).toArray 5)))
          have c25 := hA5.out.c2
          have hexl : (s.extract m s.size).data.toList = vis.drop m := by
            rw [RW.extract_eq s m s.size (Nat.le_refl _), ← hslH.out]
            exact List.take_of_length_le (by rw [List.length_drop, size_list]; omega)
          have q0 : (0 : Int) ≤ (m : Int) := by omega
          have q1' : (m : Int) ≤ (s.size : Int) := by omega
          have hvl : (vis.drop m).length = s.size - m := by rw [← hslH.out, List.length_drop, size_list]
          clear hd hZ hX
          by_cases hz : (vis.drop m).all (fun b => decide (b = 0)) = true
          · have hvz : vis.drop m = List.replicate (s.size - m) 0 := by
              rw [List.eq_replicate_iff]
              exact ⟨hvl, fun b hb => by simpa using List.all_eq_true.1 hz b hb⟩
            have hcmp : ((s.extract m s.size).toList == X.toList) = true := by rw [show s.extract m s.size = X from RW.bytes_eq (by rw [hexl, hXl, hvz])]; simp
            have hj := hide (show RW.jopen (RW.sha RW.k0F) s.size ⟨false, left, dur, vis, pend⟩ = (0, some qs, ⟨false, left, dur, vis, pend⟩) by
              unfold RW.jopen
              simp only [Bool.false_eq_true, if_false, hLH.out, hz, if_true])
            clear hz hvz hexl hXl hXs hvl
            go_wp2
            go_ret2
            have hbw : Below w.heap.size w _ := hNH.out ▸ hA5.out.bel
            exact ⟨⟨sb, L, pv, by rw [hj.out]; exact hRH.out.next hbw, RFr.of_below hbw⟩, hbw.mono hBs.out, .inr ⟨qs, kb, lv, by rw [hj.out], by rw [hj.out], rfl, by rw [hstH.out, ← hNH.out]; exact hA5.out.at_⟩⟩
          · have hzf : (vis.drop m).all (fun b => decide (b = 0)) = false := by simpa using hz
            have hcmp : ((s.extract m s.size).toList == X.toList) = false := beq_eq_false_iff_ne.2 (fun e => hz (by
              rw [ByteArray.toList_eq, ByteArray.toList_eq, hexl, hXl] at e
              rw [e]
              simp))
            have hjw := hide (jopen_wr (n := s.size) (left := left) (dur := dur) (pend := pend) hLH.out hzf)
            have hw1 : (RW.Dk.write ⟨false, left, dur, vis, pend⟩ s.size (m : Int) X).1 = 0 := by
              unfold RW.Dk.write
              rw [if_neg (by simp), if_pos ((RW.insB_iff _ _ _).2 ⟨by omega, by omega, by omega, by rw [hXs]; have := hdn.out; omega⟩)]
            have hrg1 := hide (hgH.out.write (m : Int) X)
            obtain ⟨S1, hS1⟩ : ∃ S1, S1 = (RW.Dk.write ⟨false, left, dur, vis, pend⟩ s.size (m : Int) X).2 := ⟨_, rfl⟩
            have hwy : RW.wrsy s.size ⟨false, left, dur, vis, pend⟩ m (List.replicate (s.size - m) 0) = S1.sync := by
              unfold RW.wrsy
              rw [← hXz.out, if_neg (by rw [hw1]; simp), ← hS1]
            rw [hwy] at hjw
            have hWr := hide (fun W (h : RjA W w N kb rb lv qs m false) => rwrite_any B rb s.size sb L pv ⟨false, left, dur, vis, pend⟩ (m : Int) X (by omega) (by omega) (by rw [hXs]; have := hdn.out; omega) (by have := hgH.out.pl; omega) W (hRH.out.next (hNH.out ▸ h.bel)))
            rw [hw1, ← hS1] at hWr
            rw [← hS1] at hrg1
            clear hz hzf hexl hXl hXs hvl hwy hw1 hS1
            go_upto_region 18 with fail
            refine gen_w (fun W => RjA W w N kb rb lv qs m false) hA5.out ?_
            clear hA5 hmk hcv hcmp c2 c25
            rintro w5 hA5
            have c25 := hA5.c2
            have hA5 := hide hA5
            have hR5 := hide (hRH.out.next (hNH.out ▸ hA5.out.bel))
            go_upto_region 20 with (go_at_call 17; refine (hWr.out _ hA5.out).mono ?_; rintro e w6 ⟨rfl, pv6, hR6, hF6, hB6⟩; have hR6H := hide hR6; have hF6H := hide hF6; have hB6H := hide hB6; clear hR6 hF6 hB6)
            have hJ6 := hide (hA5.out.at_.rfr hR5.out hF6H.out)
            have hF06 := hide ((RFr.of_below (hNH.out ▸ hA5.out.bel) : RFr rb sb w sb w5).trans hF6H.out)
            have hB06 := hide ((hA5.out.bel.mono (by rw [hNH.out]; exact hBs.out) : Below B w w5).trans hB6H.out)
            have hSy := hide (rsync_any B rb s.size sb L pv6 S1 hn1 hrg1.out.ok (by have := hrg1.out.pl; omega) hrg1.out.rp w6 hR6H.out)
            obtain ⟨x, hx⟩ : ∃ x, x = S1.sync.1 := ⟨_, rfl⟩
            obtain ⟨S2, hS2⟩ : ∃ S2, S2 = S1.sync.2 := ⟨_, rfl⟩
            rw [← hx, ← hS2] at hSy
            have hjx : RW.jopen (RW.sha RW.k0F) s.size ⟨false, left, dur, vis, pend⟩ = if x ≠ 0 then (x, none, S2) else (0, some qs, S2) := by rw [hjw.out, hx, hS2]
            clear hx hS2 hWr hA5 hR5 hF6H hB6H c25 hjw hrg1
            by_cases hx0 : x = 0
            · subst hx0
              rw [if_neg (by simp)] at hjx
              have hj := hide hjx
              clear hjx
              go_wp2_with (go_at_call 50; refine hSy.out.mono ?_; rintro e w7 ⟨rfl, sb7, L7, pv7, hR7, hF7, hB7⟩; have hR7H := hide hR7; have hF7H := hide hF7; have hB7H := hide hB7; clear hR7 hF7 hB7)
              go_ret2
              exact ⟨⟨sb7, L7, pv7, by rw [hj.out]; exact hR7H.out, hF06.out.trans hF7H.out⟩, hB06.out.trans hB7H.out, .inr ⟨qs, kb, lv, by rw [hj.out], by rw [hj.out], rfl, by rw [hstH.out, ← hNH.out]; exact hJ6.out.rfr hR6H.out hF7H.out⟩⟩
            · rw [if_pos hx0] at hjx
              have hj := hide hjx
              clear hjx
              go_wp2_with (go_at_call 50; refine hSy.out.mono ?_; rintro e w7 ⟨rfl, sb7, L7, pv7, hR7, hF7, hB7⟩; have hR7H := hide hR7; have hF7H := hide hF7; have hB7H := hide hB7; clear hR7 hF7 hB7)
              go_ret2
              exact ⟨⟨sb7, L7, pv7, by rw [hj.out]; exact hR7H.out, hF06.out.trans hF7H.out⟩, hB06.out.trans hB7H.out, .inl ⟨by rw [hj.out], by rw [hj.out] <;> rfl⟩⟩
        · have hne := hide (show s[m] ≠ 0 from fun e => h0 (by rw [e]; rfl))
          obtain ⟨X8, hX8⟩ : ∃ X, X = RW.decS (s.data.toList.drop (m + 1)) := ⟨_, rfl⟩
          have hS := hide (rstr_walk s (m + 1) wo (by omega) (by omega))
          rw [← hX8] at hS
          by_cases h1 : s[m].toNat = 1
          · have e1 := hide (show s[m] = 1 from UInt8.toNat_inj.1 (by rw [h1]; rfl))
            have q1 : ((s[m].toNat : Int) == 1) = true := by simp; omega
            rcases X8 with _ | ⟨r, c⟩
            · have hG1 := hide (show G = none by rw [hGo.out, hdc.out, e1.out, RW.ldL_none _ _ _ hX8.symm]; rfl)
              clear hX8
              go_wp2_with (go_at_call 93; refine hS.out.mono ?_; rintro e w5 ⟨rfl, hB5⟩; unfold strRes; have hA5 := hide (hA.out.next hB5); have c25 := hA5.out.c2; clear hB5)
              go_ret2
              have hj := hnone.out hG1.out
              have hbw : Below w.heap.size w _ := hNH.out ▸ hA5.out.bel
              exact ⟨⟨sb, L, pv, by rw [hj]; exact hRH.out.next hbw, RFr.of_below hbw⟩, hbw.mono hBs.out, .inl ⟨by rw [hj], by rw [hj] <;> rfl⟩⟩
            · obtain ⟨hcl, htl, hr16⟩ := hide_decS hX8.symm
              have hll : (s.data.toList.drop (m + 1)).length = s.size - (m + 1) := by rw [List.length_drop, size_list]
              rw [hll] at hcl
              have hDH := hide hX8.symm
              obtain ⟨R, hR⟩ : ∃ R : ByteArray, R = ⟨r.toArray⟩ := ⟨_, rfl⟩
              have hRl : R.data.toList = r := by rw [hR]
              have hR16 := hide (show R.size ≤ 65536 by rw [← size_list, hRl]; exact hr16)
              obtain ⟨h9, hh9⟩ : ∃ h9, h9 = RW.strOf (RW.hds (RW.sha RW.k0F) RW.z32 qs) := ⟨_, rfl⟩
              have hh9l : h9.data.toList = RW.hds (RW.sha RW.k0F) RW.z32 qs := by rw [hh9, RW.strOf_list]
              have hh9s : h9.size = 32 := by rw [hh9, RW.strOf_size]; exact hds_len32 _ _ (by simp [RW.z32])
              obtain ⟨N9, hN9⟩ : ∃ N9, N9 = RW.strOf (RW.chn (RW.sha RW.k0F) (RW.hds (RW.sha RW.k0F) RW.z32 qs) R) := ⟨_, rfl⟩
              have hN9l : N9.data.toList = RW.chn (RW.sha RW.k0F) (RW.hds (RW.sha RW.k0F) RW.z32 qs) R := by rw [hN9, RW.strOf_list]
              have hCh := hide (fun W => rchain_any h9 R (by have := hR16.out; omega) W)
              rw [hh9l, ← hN9] at hCh
              have hHd := hide (show N9 = RW.strOf (RW.hds (RW.sha RW.k0F) RW.z32 (qs ++ [R])) by rw [RW.hds_snoc, hN9])
              rw [← hh9]
              rw [show strRes (m + 1) (some (r, c)) = .tuple #[.string R, .int .i64 ((m + 1 + c : Nat) : Int), .int .i64 0] by rw [hR]; rfl] at hS
              clear hX8 hh9 hh9l hh9s hN9 hr16 hll
              by_cases hf : m + 1 + c + 32 ≤ s.size
              · obtain ⟨Y, hY⟩ : ∃ Y : ByteArray, Y = s.extract (m + 1 + c) (m + 1 + c + 32) := ⟨_, rfl⟩
                have hYl : Y.data.toList = ((s.data.toList.drop (m + 1)).drop c).take 32 := by
                  rw [hY, RW.extract_eq s (m + 1 + c) (m + 1 + c + 32) (by omega), List.drop_drop, show m + 1 + c + 32 - (m + 1 + c) = 32 by omega]
                have q2 : (0 : Int) ≤ (m : Int) + 1 + (c : Int) := by omega
                have q3 : (m : Int) + 1 + (c : Int) ≤ (m : Int) + 1 + (c : Int) + 32 := by omega
                have q4 : (m : Int) + 1 + (c : Int) + 32 ≤ (s.size : Int) := by omega
                by_cases heq : Y = N9
                · have hGn := hide (show G = (RW.ldL (RW.sha RW.k0F) (RW.hds (RW.sha RW.k0F) RW.z32 (qs ++ [R])) (s.data.toList.drop (m + (33 + c)))).map (fun p => ((qs ++ [R]) ++ p.1, (m + (33 + c)) + p.2)) by
                    rw [hGo.out, hdc.out, e1.out, RW.ldL_step _ _ _ _ _ hDH.out (by rw [← hYl, heq, hN9l, hR]), ← hR, RW.map_some, RW.hds_snoc, List.drop_drop, show m + 1 + (c + 32) = m + (33 + c) by omega])
                  have hcmp : ((s.extract (m + 1 + c) (m + 1 + c + 32)).toList == N9.toList) = true := by rw [← hY, heq]; simp
                  clear hRl hYl hY heq hN9l hR htl
                  have hcmpH := hide hcmp
                  have c2H := hide c2
                  go_upto_region 14 with (first
                    | (go_at_call 93; refine hS.out.mono ?_; rintro e w5 ⟨rfl, hB5⟩; have hA5 := hide (hA.out.next hB5); have c25 := hA5.out.c2; clear hB5)
                    | (go_at_call 62; refine (hCh.out _).mono ?_; rintro e w6 ⟨rfl, hB6⟩; have hA6 := hide (hA5.out.next hB6); have c26 := hA6.out.c2; clear hB6))
                  clear hcmp hCh hS
                  obtain ⟨v7, W7, hr7, hk7, hA7⟩ := hA6.out.app R (by have := hql.out; omega)
                  obtain ⟨a7, p7, e7⟩ := own_shape hA7.at_.own
                  obtain ⟨k7, hk7e⟩ : ∃ k7, k7 = (qs ++ [R]).length := ⟨_, rfl⟩
                  rw [← hk7e] at e7
                  clear hk7e
                  subst e7
                  have hA7 := hide hA7
                  have c16 := hA6.out.c1
                  have hk7H := hide hk7
                  have f7 : W7.frozen? ⟨kb, 1, none⟩ = false := unfrozen hk7
                  have c7 : W7.cell? ⟨kb, 1, none⟩ = some lv := cellAt hk7 1
                  have hc6 : ∀ v, (w6.alloc v).cell? ⟨kb, 1, none⟩ = some lv := fun v => (World.cell?_of_block (a := ⟨kb, 1, none⟩) ((alloc_bel (Below.refl _ w6) (Nat.le_refl _) v).block _ hA6.out.at_.lt)).trans c16
                  clear hk7
                  go_upto_region 15 with (at_builtin; refine wpList_app_run rfl (.tmp 88) (.tmp 90) rfl rfl rfl hr7 ?_)
                  refine gen_w (fun W => RjA W w N kb rb (.slice a7 k7 p7) (qs ++ [R]) m false) hA7.out ?_
                  clear hA7 hr7 c16 f7 c7 hc6 hk7H c2 c25 c26 hA6 hA5 hA
                  rintro w8 hA8
                  have hA8 := hide hA8
                  have c28 := hA8.out.c2
                  have f8 : w8.frozen? ⟨kb, 2, none⟩ = false := unfrozen hA8.out.at_.row
                  have hA9 := hide (hA8.out.set2 (m + (33 + c)))
                  have hnum := hide (show ((m + (33 + c) : Nat) : Int) = (m : Int) + 1 + (c : Int) + 32 by omega)
                  rw [hnum.out] at hA9
                  go_wp2
                  have c29 := hA9.out.c2
                  clear c28 f8 hA8
                  go_roundw
                  case rel => exact ⟨qs ++ [R], m + (33 + c), .slice a7 k7 p7, by omega, by rw [hHd.out], c29, ⟨hA9.out, hGn.out, by rw [List.length_append]; have := hql.out; simp; omega⟩⟩
                  case measure => rw [c29, c2H.out]; show s.size - (m + (33 + c)) < s.size - m; omega
                · have hG1 := hide (show G = none by
                    rw [hGo.out, hdc.out, e1.out, RW.ldL_head _ _ _ _ _ hDH.out (by rw [← hYl, ← hR, ← hN9l]; exact fun e => heq (RW.bytes_eq e))]
                    rfl)
                  have hcmp : ((s.extract (m + 1 + c) (m + 1 + c + 32)).toList == N9.toList) = false := by
                    rw [← hY]
                    simpa [ByteArray.toList_eq] using fun e => heq (RW.bytes_eq e)
                  clear hRl hYl hY heq hN9l hR htl
                  go_wp2_with (first
                    | (go_at_call 93; refine hS.out.mono ?_; rintro e w5 ⟨rfl, hB5⟩; have hA5 := hide (hA.out.next hB5); have c25 := hA5.out.c2; clear hB5)
                    | (go_at_call 62; refine (hCh.out _).mono ?_; rintro e w6 ⟨rfl, hB6⟩; have hA5 := hide (hA5.out.next hB6); have c26 := hA5.out.c2; clear hB6))
                  go_ret2
                  have hj := hnone.out hG1.out
                  have hbw : Below w.heap.size w _ := hNH.out ▸ hA5.out.bel
                  exact ⟨⟨sb, L, pv, by rw [hj]; exact hRH.out.next hbw, RFr.of_below hbw⟩, hbw.mono hBs.out, .inl ⟨by rw [hj], by rw [hj] <;> rfl⟩⟩
              · have hG1 := hide (show G = none by
                  rw [hGo.out, hdc.out, e1.out, RW.ldL_head _ _ _ _ _ hDH.out (fun e => by
                    have e2 := congrArg List.length e
                    rw [List.length_take, List.length_drop, List.length_drop, size_list, show (RW.chn (RW.sha RW.k0F) (RW.hds (RW.sha RW.k0F) RW.z32 qs) ⟨r.toArray⟩).length = 32 from RW.sha_len _ _] at e2
                    omega)]
                  rfl)
                clear hRl hN9l hR htl
                go_wp2_with (first
                  | (go_at_call 93; refine hS.out.mono ?_; rintro e w5 ⟨rfl, hB5⟩; have hA5 := hide (hA.out.next hB5); have c25 := hA5.out.c2; clear hB5)
                  | (go_at_call 62; refine (hCh.out _).mono ?_; rintro e w6 ⟨rfl, hB6⟩; have hA5 := hide (hA5.out.next hB6); have c26 := hA5.out.c2; clear hB6))
                go_ret2
                have hj := hnone.out hG1.out
                have hbw : Below w.heap.size w _ := hNH.out ▸ hA5.out.bel
                exact ⟨⟨sb, L, pv, by rw [hj]; exact hRH.out.next hbw, RFr.of_below hbw⟩, hbw.mono hBs.out, .inl ⟨by rw [hj], by rw [hj] <;> rfl⟩⟩
          · have q1 : ((s[m].toNat : Int) == 1) = false := by simp; omega
            have hG1 := hide (show G = none by rw [hGo.out, hdc.out, RW.ldL_bad _ _ _ hne.out (fun e => h1 (by rw [e]; rfl))]; rfl)
            rcases X8 with _ | ⟨r, c⟩
            · clear hX8
              go_wp2_with (go_at_call 93; refine hS.out.mono ?_; rintro e w5 ⟨rfl, hB5⟩; unfold strRes; have hA5 := hide (hA.out.next hB5); have c25 := hA5.out.c2; clear hB5)
              go_ret2
              have hj := hnone.out hG1.out
              have hbw : Below w.heap.size w _ := hNH.out ▸ hA5.out.bel
              exact ⟨⟨sb, L, pv, by rw [hj]; exact hRH.out.next hbw, RFr.of_below hbw⟩, hbw.mono hBs.out, .inl ⟨by rw [hj], by rw [hj] <;> rfl⟩⟩
            · clear hX8
              go_wp2_with (go_at_call 93; refine hS.out.mono ?_; rintro e w5 ⟨rfl, hB5⟩; unfold strRes; have hA5 := hide (hA.out.next hB5); have c25 := hA5.out.c2; clear hB5)
              go_ret2
              have hj := hnone.out hG1.out
              have hbw : Below w.heap.size w _ := hNH.out ▸ hA5.out.bel
              exact ⟨⟨sb, L, pv, by rw [hj]; exact hRH.out.next hbw, RFr.of_below hbw⟩, hbw.mono hBs.out, .inl ⟨by rw [hj], by rw [hj] <;> rfl⟩⟩
      · have hG1 := hide (show G = some (qs, m) from by
          rw [hGo.out, List.drop_eq_nil_of_le (by rw [size_list]; omega), RW.ldL_nil]
          simp)
        have hL : RW.ldL (RW.sha RW.k0F) RW.z32 vis = some (qs, m) := by rw [← hslH.out, ← hGH.out, hG1.out]
        obtain ⟨_, _, hst, _, _⟩ := RW.ldL_sound' (RW.sha RW.k0F) (RW.sha_len RW.k0F) hL
        have hLH := hide hL
        have hstH := hide hst
        clear hL hst
        obtain ⟨d, hd⟩ : ∃ d : Nat, (s.size : Int) - (m : Int) = (d : Int) := ⟨s.size - m, by omega⟩
        have hdn := hide (show d = s.size - m by omega)
        obtain ⟨Z, hZ⟩ : ∃ Z : List UInt8, Z = List.replicate d 0 := ⟨_, rfl⟩
        obtain ⟨X, hX⟩ : ∃ X : ByteArray, X = RW.zs d := ⟨_, rfl⟩
        have hXl : X.data.toList = List.replicate (s.size - m) 0 := by rw [hX, hdn.out]; exact RW.strOf_list _
        have hXs : X.size = d := by rw [hX]; exact RW.zs_size d
        have hXz := hide (show X = RW.strOf (List.replicate (s.size - m) 0) by rw [hX, hdn.out]; rfl)
        have hmk : (Instr.makeSlice 39 (.int .i64 ((s.size : Int) - (m : Int))) (.int .i64 ((s.size : Int) - (m : Int)))).run Tryz.prog wo = .ok (.slice (some ⟨wo.heap.size, 0, none⟩) d d) (wo.alloc (.cells (RW.byl Z).toArray 5)) := by rw [hd, hZ]; exact run_make_by d (by have := hdn.out; omega) wo
        have hcv : (convert 39 9 (.slice (some ⟨wo.heap.size, 0, none⟩) d d)).run Tryz.prog (wo.alloc (.cells (RW.byl Z).toArray 5)) = .ok (.string X) (wo.alloc (.cells (RW.byl Z).toArray 5)) := by rw [hX, hZ]; exact conv_zs wo d
        have hA5 := hide (hA.out.next (alloc_bel (Below.refl wo.heap.size wo) (Nat.le_refl _) (.cells (RW.byl Z).toArray 5)))
        have c25 := hA5.out.c2
        have hexl : (s.extract m s.size).data.toList = vis.drop m := by
          rw [RW.extract_eq s m s.size (Nat.le_refl _), ← hslH.out]
          exact List.take_of_length_le (by rw [List.length_drop, size_list]; omega)
        have q0 : (0 : Int) ≤ (m : Int) := by omega
        have q1' : (m : Int) ≤ (s.size : Int) := by omega
        have hvl : (vis.drop m).length = s.size - m := by rw [← hslH.out, List.length_drop, size_list]
        clear hd hZ hX
        by_cases hz : (vis.drop m).all (fun b => decide (b = 0)) = true
        · have hvz : vis.drop m = List.replicate (s.size - m) 0 := by
            rw [List.eq_replicate_iff]
            exact ⟨hvl, fun b hb => by simpa using List.all_eq_true.1 hz b hb⟩
          have hcmp : ((s.extract m s.size).toList == X.toList) = true := by rw [show s.extract m s.size = X from RW.bytes_eq (by rw [hexl, hXl, hvz])]; simp
          have hj := hide (show RW.jopen (RW.sha RW.k0F) s.size ⟨false, left, dur, vis, pend⟩ = (0, some qs, ⟨false, left, dur, vis, pend⟩) by
            unfold RW.jopen
            simp only [Bool.false_eq_true, if_false, hLH.out, hz, if_true])
          clear hz hvz hexl hXl hXs hvl
          go_wp2
          go_ret2
          have hbw : Below w.heap.size w _ := hNH.out ▸ hA5.out.bel
          exact ⟨⟨sb, L, pv, by rw [hj.out]; exact hRH.out.next hbw, RFr.of_below hbw⟩, hbw.mono hBs.out, .inr ⟨qs, kb, lv, by rw [hj.out], by rw [hj.out], rfl, by rw [hstH.out, ← hNH.out]; exact hA5.out.at_⟩⟩
        · have hzf : (vis.drop m).all (fun b => decide (b = 0)) = false := by simpa using hz
          have hcmp : ((s.extract m s.size).toList == X.toList) = false := beq_eq_false_iff_ne.2 (fun e => hz (by
            rw [ByteArray.toList_eq, ByteArray.toList_eq, hexl, hXl] at e
            rw [e]
            simp))
          have hjw := hide (jopen_wr (n := s.size) (left := left) (dur := dur) (pend := pend) hLH.out hzf)
          have hw1 : (RW.Dk.write ⟨false, left, dur, vis, pend⟩ s.size (m : Int) X).1 = 0 := by
            unfold RW.Dk.write
            rw [if_neg (by simp), if_pos ((RW.insB_iff _ _ _).2 ⟨by omega, by omega, by omega, by rw [hXs]; have := hdn.out; omega⟩)]
          have hrg1 := hide (hgH.out.write (m : Int) X)
          obtain ⟨S1, hS1⟩ : ∃ S1, S1 = (RW.Dk.write ⟨false, left, dur, vis, pend⟩ s.size (m : Int) X).2 := ⟨_, rfl⟩
          have hwy : RW.wrsy s.size ⟨false, left, dur, vis, pend⟩ m (List.replicate (s.size - m) 0) = S1.sync := by
            unfold RW.wrsy
            rw [← hXz.out, if_neg (by rw [hw1]; simp), ← hS1]
          rw [hwy] at hjw
          have hWr := hide (fun W (h : RjA W w N kb rb lv qs m false) => rwrite_any B rb s.size sb L pv ⟨false, left, dur, vis, pend⟩ (m : Int) X (by omega) (by omega) (by rw [hXs]; have := hdn.out; omega) (by have := hgH.out.pl; omega) W (hRH.out.next (hNH.out ▸ h.bel)))
          rw [hw1, ← hS1] at hWr
          rw [← hS1] at hrg1
          clear hz hzf hexl hXl hXs hvl hwy hw1 hS1
          go_upto_region 18 with fail
          refine gen_w (fun W => RjA W w N kb rb lv qs m false) hA5.out ?_
          clear hA5 hmk hcv hcmp c2 c25
          rintro w5 hA5
          have c25 := hA5.c2
          have hA5 := hide hA5
          have hR5 := hide (hRH.out.next (hNH.out ▸ hA5.out.bel))
          go_upto_region 20 with (go_at_call 17; refine (hWr.out _ hA5.out).mono ?_; rintro e w6 ⟨rfl, pv6, hR6, hF6, hB6⟩; have hR6H := hide hR6; have hF6H := hide hF6; have hB6H := hide hB6; clear hR6 hF6 hB6)
          have hJ6 := hide (hA5.out.at_.rfr hR5.out hF6H.out)
          have hF06 := hide ((RFr.of_below (hNH.out ▸ hA5.out.bel) : RFr rb sb w sb w5).trans hF6H.out)
          have hB06 := hide ((hA5.out.bel.mono (by rw [hNH.out]; exact hBs.out) : Below B w w5).trans hB6H.out)
          have hSy := hide (rsync_any B rb s.size sb L pv6 S1 hn1 hrg1.out.ok (by have := hrg1.out.pl; omega) hrg1.out.rp w6 hR6H.out)
          obtain ⟨x, hx⟩ : ∃ x, x = S1.sync.1 := ⟨_, rfl⟩
          obtain ⟨S2, hS2⟩ : ∃ S2, S2 = S1.sync.2 := ⟨_, rfl⟩
          rw [← hx, ← hS2] at hSy
          have hjx : RW.jopen (RW.sha RW.k0F) s.size ⟨false, left, dur, vis, pend⟩ = if x ≠ 0 then (x, none, S2) else (0, some qs, S2) := by rw [hjw.out, hx, hS2]
          clear hx hS2 hWr hA5 hR5 hF6H hB6H c25 hjw hrg1
          by_cases hx0 : x = 0
          · subst hx0
            rw [if_neg (by simp)] at hjx
            have hj := hide hjx
            clear hjx
            go_wp2_with (go_at_call 50; refine hSy.out.mono ?_; rintro e w7 ⟨rfl, sb7, L7, pv7, hR7, hF7, hB7⟩; have hR7H := hide hR7; have hF7H := hide hF7; have hB7H := hide hB7; clear hR7 hF7 hB7)
            go_ret2
            exact ⟨⟨sb7, L7, pv7, by rw [hj.out]; exact hR7H.out, hF06.out.trans hF7H.out⟩, hB06.out.trans hB7H.out, .inr ⟨qs, kb, lv, by rw [hj.out], by rw [hj.out], rfl, by rw [hstH.out, ← hNH.out]; exact hJ6.out.rfr hR6H.out hF7H.out⟩⟩
          · rw [if_pos hx0] at hjx
            have hj := hide hjx
            clear hjx
            go_wp2_with (go_at_call 50; refine hSy.out.mono ?_; rintro e w7 ⟨rfl, sb7, L7, pv7, hR7, hF7, hB7⟩; have hR7H := hide hR7; have hF7H := hide hF7; have hB7H := hide hB7; clear hR7 hF7 hB7)
            go_ret2
            exact ⟨⟨sb7, L7, pv7, by rw [hj.out]; exact hR7H.out, hF06.out.trans hF7H.out⟩, hB06.out.trans hB7H.out, .inl ⟨by rw [hj.out], by rw [hj.out] <;> rfl⟩⟩
end Go.Proofs.YtllbphanfahkkaaGreatDoor
