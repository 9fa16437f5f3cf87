/-
  Package disk: Crash: what it returns, what it changes.
-/
import Derived.Test.YtllbphanfahkkaaGreatDoorMY2
import Derived.Test.YtllbphanfahkkaaGreatDoorDkL
namespace Go.Proofs.YtllbphanfahkkaaGreatDoor
open Go.RowKit RG
namespace RW
def tear (torn : Int) (s : ByteArray) : ByteArray := s.extract 0 (min torn.toNat s.size)
/-- one survivor of N, the m-th -/
def torn1 (torn : Int) (N m : Nat) (x : Nat × ByteArray) : Nat × ByteArray := if m + 1 = N ∧ 0 ≤ torn then (x.1, tear torn x.2) else x
def crStep (pend : List (Nat × ByteArray)) (torn : Int) (N m : Nat) (i : Int) (d : List UInt8) : List UInt8 := match pend[i.toNat]? with
  | some x => lay d (torn1 torn N m x).1 (torn1 torn N m x).2.data.toList
  | none => d
def crFold (pend : List (Nat × ByteArray)) (torn : Int) (N : Nat) : Nat → List Int → List UInt8 → List UInt8
  | _, [], d => d
  | m, i :: r, d => crFold pend torn N (m + 1) r (crStep pend torn N m i d)
/-- the survivors, in order -/
def survive (k : Nat) (keep : List Int) : List Int := (Lib.compact (keep.mergeSort fun x y => decide (x ≤ y))).filter fun x => !outB k x
def Dk.crash (S : Dk) (keep : List Int) (torn : Int) : Dk :=
  let d := crFold S.pend torn (survive S.pend.length keep).length 0 (survive S.pend.length keep) S.dur
  ⟨false, 0, d, d, []⟩
/-- the pending writes lie on the disk -/
def Dk.ok (S : Dk) (n : Nat) : Prop := ∀ x ∈ S.pend, x.1 + x.2.size ≤ n
theorem survive_in {k : Nat} {keep : List Int} {i : Int} (h : i ∈ survive k keep) : 0 ≤ i ∧ i < k := by
  have := (List.mem_filter.1 h).2
  simp [outB] at this
  omega
theorem survive_len (k : Nat) (keep : List Int) : (survive k keep).length ≤ keep.length := by
  refine Nat.le_trans (List.length_filter_le _ _) (Nat.le_trans (compact_len _) ?_)
  rw [List.length_mergeSort]
  exact Nat.le_refl _
theorem tear_size (torn : Int) (s : ByteArray) : (tear torn s).size ≤ s.size := by
  rw [tear, ByteArray.size_extract]
  omega
theorem torn1_le {torn : Int} {N m n : Nat} {x : Nat × ByteArray} (h : x.1 + x.2.size ≤ n) : (torn1 torn N m x).1 + (torn1 torn N m x).2.size ≤ n := by
  rw [torn1]
  split
  · have := tear_size torn x.2
    show x.1 + (tear torn x.2).size ≤ n
    omega
  · exact h
end RW
theorem own_next {W W' : World} {B : Nat} {e : TypeId} {k n : Nat} {v : Value} {xs : List Value} (h : W.ownsRow B e k v n xs) (hB : Below W.heap.size W W') : W'.ownsRow B e k v n xs :=
  own_keep h fun g hg => hB.block g (h.lt g hg).2
theorem wrl_oneA (x : Nat × ByteArray) : (RW.wrl x).toArray.all (·.oneCell') = true := by
  simp [RW.wrl]
  exact ⟨rfl, rfl⟩
theorem own_tch {W W' : World} {B B' b n db vb : Nat} {pv v : Value} {S : RW.Dk} {e : TypeId} {k m : Nat} {xs : List Value} (h : W.ownsRow B' e k v m xs) (hd : DiskAt W B b n db vb pv S) (hT : Tch b db vb W W') (he : e ≠ 108 ∧ e ≠ 5 ∧ e ≠ 103) : W'.ownsRow B' e k v m xs := by
  refine ⟨h.1, h.2.imp id ?_⟩
  rintro ⟨g, cap, cur, h1, h2, h3, h4⟩
  exact ⟨g, cap, cur, h1, h2, (hT.block g (Array.getElem?_eq_some_iff.1 h3).1 (blocks_ne h3 hd.row he.1) (blocks_ne h3 hd.dur he.2.1) (blocks_ne h3 hd.vis he.2.1) (fun c f hc => blocks_ne h3 hc he.2.2 rfl)).trans h3, h4⟩
theorem op_load_p {ev : Operand → Value} {o : Oper} {x : Operand} {w : World} {b i : Nat} {p : Option Addr} (ho : o.op = .load 27 x) (hx : ev x = .pointer (some ⟨b, i, none⟩)) (hc : w.cell? ⟨b, i, none⟩ = some (.pointer p)) : (execOp ev o).run Tryz.prog w = .ok (.value (.pointer p)) w := by
  unfold execOp
  rw [ho]
  simp only [hx]
  go_simp
theorem IntsB.lift {n0 n1 : Nat} {W W' : World} {sv : Value} {zs : List Int} (h : IntsB n0 W sv zs) (hB : Below n0 W W') (hn : n0 ≤ n1) : IntsB n1 W' sv zs := by
  obtain ⟨a, cap, e, h⟩ := h.below hB
  refine ⟨a, cap, e, h.imp id ?_⟩
  rintro ⟨b, off, e1, hb, hc⟩
  exact ⟨b, off, e1, Nat.lt_of_lt_of_le hb hn, hc⟩
theorem crash_nil (kv : Value) (torn : Int) (w : World) : Calls Tryz.prog 31 #[.pointer none, kv, .int .i64 torn] w fun e w' => e = .returned (.int .i64 1) ∧ Below w.heap.size w w' := by
  have hB := hide ((Below.refl w.heap.size w).alloc (Nat.le_refl _) (.cells #[.pointer none] 27))
  go_enter Tryz.func31, Tryz.ntmps31
  go_wp2
  go_ret
  exact ⟨rfl, hB.out⟩
attribute [local go_sem ↓] ldRow_write ldSt_power
set_option maxRecDepth 10000 in
set_option maxHeartbeats 2000000 in
theorem crash_any (B b n db vb : Nat) (pv : Value) (S : RW.Dk) (kv : Value) (keep : List Int) (torn : Int) (w : World) (h : DiskAt w B b n db vb pv S) (hok : S.ok n) (hkl : keep.length ≤ 1000000) (hI : IntsB w.heap.size w kv keep) :
    Calls Tryz.prog 31 #[.pointer (some ⟨b, 0, none⟩), kv, .int .i64 torn] w fun e w' => e = .returned (.int .i64 0) ∧ ∃ pv', DiskAt w' B b n db vb pv' (S.crash keep torn) ∧ Tch b db vb w w' ∧ Below B w w' := by
  obtain ⟨ap, cp, rfl⟩ := h.form
  obtain ⟨kp, hkp⟩ : ∃ k, k = S.pend.length := ⟨_, rfl⟩
  have hH := hide h
  rw [← hkp] at hH
  have hkpH := hide hkp
  obtain ⟨ak, ck, rfl, hIk⟩ := hI
  obtain ⟨nk, hnk⟩ : ∃ k, k = keep.length := ⟨_, rfl⟩
  have hIH := hide (show IntsB w.heap.size w (.slice ak nk ck) keep from ⟨ak, ck, by rw [hnk], hIk⟩)
  have hklH := hide hkl
  have hokH := hide hok
  have hVal := hide (fun W => values_any ak nk ck W)
  obtain ⟨xb, hxb⟩ : ∃ x, x = w.heap.size := ⟨_, rfl⟩
  have hA0 := hide (show Below xb w (w.alloc (.cells #[.pointer (some ⟨b, 0, none⟩)] 27)) by rw [hxb]; exact (Below.refl _ w).alloc (Nat.le_refl _) _)
  have hx0 := hide (show (w.alloc (.cells #[.pointer (some ⟨b, 0, none⟩)] 27)).heap[xb]? = some (.cells #[.pointer (some ⟨b, 0, none⟩)] 27 (0, 0)) from newAt hxb)
  have hxbH := hide hxb
  have hbl := hide (show b < xb by rw [hxb]; exact h.lt.1)
  have hle := hide (show B ≤ xb by rw [hxb]; exact Nat.le_trans h.hb (Nat.le_of_lt h.lt.1))
  rw [← hnk]
  clear h hIk hkp hkl hok hxb hnk
  go_enter Tryz.func31, Tryz.ntmps31
  go_upto_region 1 with fail
  rw [← hxbH.out]
  refine gen_w (fun W => W.heap[xb]? = some (.cells #[.pointer (some ⟨b, 0, none⟩)] 27 (0, 0)) ∧ Below xb w W) ⟨hx0.out, hA0.out⟩ ?_
  clear hx0 hA0
  rintro w1 ⟨g1, g2⟩
  have hx1 := hide g1
  have hB1 := hide g2
  have cx1 : w1.cell? ⟨xb, 0, none⟩ = some (.pointer (some ⟨b, 0, none⟩)) := cellAt g1 0
  have hlt1 := hide (Array.getElem?_eq_some_iff.1 g1).1
  clear g1 g2
  go_upto_region 4 with (first
    | (go_at_call 67; refine (hVal.out _).mono ?_; rintro e w2 ⟨rfl, hw2⟩; have hA2 := hide (show Below w1.heap.size w1 w2 by rw [hw2]; exact (Below.refl _ w1).alloc (Nat.le_refl _) _); have hk2 := hide (show w2.cell? ⟨w1.heap.size, 0, none⟩ = some (.slice ak nk ck) by rw [hw2, cellAt (newAt rfl)]; rfl); have hs2 := hide (show w1.heap.size < w2.heap.size by rw [hw2]; simp); clear hw2)
    | (go_at_call 66; refine (sorted_values w1.heap.size _ keep hklH.out w2 hs2.out hk2.out (hIH.out.lift ((hxbH.out ▸ hB1.out : Below w.heap.size w w1).trans (hA2.out.mono (hxbH.out ▸ Nat.le_of_lt hlt1.out))) (by rw [← hxbH.out]; exact Nat.le_trans (Nat.le_of_lt hlt1.out) (Nat.le_of_lt hs2.out)))).mono ?_; rintro e w3 ⟨v3, rfl, h3, hB3⟩; have h3H := hide h3; have hB3H := hide hB3; clear h3 hB3)
    | (go_at_call 65; refine (compact_own h3H.out (by rw [List.length_mergeSort]; exact hklH.out)).mono ?_; rintro e w4 ⟨v4, rfl, h4, h4o, h4c⟩; have h4H := hide h4; have h4cH := hide h4c; clear h4 h4o h4c))
  have hB24 := hide (hB3H.out.trans (⟨h4cH.out.os, h4cH.out.tape, h4cH.out.output, h4cH.out.size, fun k hk => h4cH.out.block k (Nat.lt_of_lt_of_le hk hB3H.out.size) fun e => by have := (h3H.out.lt k e).1; omega⟩ : Below w2.heap.size w3 w4))
  have hB4 := hide ((hB1.out.trans (hA2.out.mono (Nat.le_of_lt hlt1.out))).trans (hB24.out.mono (Nat.le_trans (Nat.le_of_lt hlt1.out) (Nat.le_of_lt hs2.out))) : Below xb w w4)
  have hx4 := hide ((hB24.out.block xb (Nat.lt_trans hlt1.out hs2.out)).trans ((hA2.out.block xb hlt1.out).trans hx1.out))
  have hd4 := hide (hH.out.next (hxbH.out ▸ hB4.out))
  obtain ⟨B5, hB5e⟩ : ∃ x, x = w2.heap.size := ⟨_, rfl⟩
  have hB5H := hide (show xb < B5 by rw [hB5e]; exact Nat.lt_trans hlt1.out hs2.out)
  rw [← hB5e] at h4H
  have hsz4 := hide (show B5 ≤ w4.heap.size by rw [hB5e]; exact hB24.out.size)
  have hDl := hide (delete_own h4H.out (Nat.le_trans (compact_len _) (by rw [List.length_mergeSort]; exact hklH.out)) kp xb b ap cp (Nat.lt_of_lt_of_le hB5H.out hsz4.out) (Nat.lt_of_lt_of_le (Nat.lt_trans hbl.out hB5H.out) hsz4.out)
    (fun g hg => by have h1 := (h4H.out.lt g hg).1; have h2 := hB5H.out; have h3 := hbl.out; exact ⟨by omega, by omega⟩) (cellAt hx4.out 0) (cellAt hd4.out.row 4))
  clear hB5e h3H hB3H h4cH hB24 hk2 hs2 hA2 hB1 hx1 hlt1 cx1 hIH hVal
  obtain ⟨ord, hord⟩ : ∃ o, o = RW.survive kp keep := ⟨_, rfl⟩
  rw [show (Lib.compact (keep.mergeSort fun x y => decide (x ≤ y))).filter (fun x => !outB kp x) = ord from hord.symm] at hDl
  have hordH := hide hord
  clear hord
  go_upto_region 5 with (go_at_call 68; refine hDl.out.mono ?_; rintro e w5 ⟨v5, rfl, h5, h5c⟩; have h5H := hide h5; have hB45 := hide (⟨h5c.os, h5c.tape, h5c.output, h5c.size, fun k hk => h5c.block k (Nat.lt_of_lt_of_le hk hsz4.out) fun e => by have := (h4H.out.lt k e).1; omega⟩ : Below B5 w4 w5); clear h5 h5c)
  have hB5w := hide ((hB4.out.trans (hB45.out.mono (Nat.le_of_lt hB5H.out))) : Below xb w w5)
  have hx5 := hide ((hB45.out.block xb hB5H.out).trans hx4.out)
  have hd5 := hide (hH.out.next (hxbH.out ▸ hB5w.out))
  have hnl := RW.survive_len kp keep
  rw [← hordH.out] at hnl
  have hordl := hide (show ord.length ≤ 1000000 from Nat.le_trans hnl hklH.out)
  obtain ⟨a5, c5, rfl⟩ : ∃ a c, v5 = .slice a ord.length c := by
    rcases h5H.out.2 with ⟨rfl, h0⟩ | ⟨g, cap, cur, rfl, _⟩
    · exact ⟨none, 0, by rw [h0]⟩
    · exact ⟨_, _, rfl⟩
  obtain ⟨N, hN⟩ : ∃ k, k = ord.length := ⟨_, rfl⟩
  have hNH := hide hN
  rw [← hN] at hordl
  have h5N := hide (show IntsO w5 B5 (.slice a5 N c5) ord by rw [hN]; exact h5H.out)
  obtain ⟨T, hT⟩ : ∃ T, T = RW.crFold S.pend torn N 0 ord S.dur := ⟨_, rfl⟩
  have hTH := hide hT
  rw [← hN]
  have hTc := hide (Tch.of_below (b := b) (db := db) (vb := vb) (hxbH.out ▸ hB5w.out : Below w.heap.size w w5))
  have hBw := hide (hB5w.out.mono hle.out)
  clear hDl hB4 hx4 hd4 hB45 h4H hsz4 h5H hN hT hnl hB5w
  go_wp2
  go_loopw [22] (fun i wr => ∃ m : Nat, i = .int .i64 m ∧ m ≤ N ∧ Hid (∃ dd, DiskAt wr B b n db vb (.slice ap kp cp) ⟨S.off, S.left, dd, S.vis, S.pend⟩ ∧ RW.crFold S.pend torn N m (ord.drop m) dd = T ∧ wr.heap[xb]? = some (.cells #[.pointer (some ⟨b, 0, none⟩)] 27 (0, 0)) ∧ IntsO wr B5 (.slice a5 N c5) ord ∧ Tch b db vb w wr ∧ Below B w wr)) (fun i _ => N - (intOf i).toNat)
  case atStart => exact ⟨0, rfl, Nat.zero_le _, S.dur, hd5.out, by rw [List.drop_zero]; exact hTH.out.symm, hx5.out, h5N.out, hTc.out, hBw.out⟩
  case round =>
    obtain ⟨m, rfl, hmN, hQ⟩ := hrel
    obtain ⟨dd, hd, hfold, hx, hO, hTw, hBw2⟩ := hQ.out
    have hdH := hide hd
    have hxH := hide hx
    have hOH := hide hO
    have hTwH := hide hTw
    have hBw2H := hide hBw2
    have hfoldH := hide hfold
    have cx : wr.cell? ⟨xb, 0, none⟩ = some (.pointer (some ⟨b, 0, none⟩)) := cellAt hx 0
    have c4 : wr.cell? ⟨b, 4, none⟩ = some (.slice ap kp cp) := cellAt hd.row 4
    clear hQ hd hfold hx hO hTw hBw2
    by_cases hlt : m < N
    · obtain ⟨ix, hix⟩ : ∃ x, ord[m]? = some x := ⟨_, List.getElem?_eq_getElem (by rw [← hNH.out]; exact hlt)⟩
      have hir := RW.survive_in (k := kp) (keep := keep) (by rw [← hordH.out]; exact List.mem_of_getElem? hix)
      obtain ⟨ii, rfl⟩ : ∃ ii : Nat, ix = ii := ⟨ix.toNat, by omega⟩
      have hik : ii < kp := by omega
      have hdrop := hide (show ord.drop m = (ii : Int) :: ord.drop (m + 1) by rw [List.drop_eq_getElem_cons (by rw [← hNH.out]; exact hlt), (List.getElem?_eq_some_iff.1 hix).2])
      obtain ⟨x, hxp⟩ : ∃ x, S.pend[ii]? = some x := ⟨_, List.getElem?_eq_getElem (by rw [← hkpH.out]; exact hik)⟩
      have hxpH := hide hxp
      have hbx := hide (hokH.out x (List.mem_of_getElem? hxp))
      have hrow := rowV_own (enc := RW.wrl) wrl_len (by decide) hdH.out.pend
      obtain ⟨g, o, cap, he, _, _, hrgs⟩ := hrow.at (by rintro e; rw [e] at hxp; simp at hxp)
      obtain ⟨rfl, rfl⟩ : ap = some ⟨g, o, none⟩ ∧ cp = cap := by injection he; exact ⟨by assumption, by assumption⟩
      have hrg := hrgs ii x hxp
      have hOr : RowV 1 (fun z => [Value.int .i64 z]) wr (.slice a5 N c5) ord := rowV_own (B := B5) (e := 3) (n := ord.length) (fun _ => rfl) (by decide) (by rw [intCells]; exact hOH.out)
      obtain ⟨g5, o5, cap5, he5, _, _, hrgs5⟩ := hOr.at (by rintro e; rw [e] at hix; simp at hix)
      obtain ⟨rfl, rfl⟩ : a5 = some ⟨g5, o5, none⟩ ∧ c5 = cap5 := by injection he5; exact ⟨by assumption, by assumption⟩
      have ci : wr.cell? ⟨g5, o5 + m, none⟩ = some (.int .i64 (ii : Int)) := by
        have := hrgs5 m _ hix 0 _ rfl
        simpa using this
      have hps := write_size x
      have hl2 := wrl_len x
      obtain ⟨wb, hwb⟩ : ∃ k, k = wr.heap.size := ⟨_, rfl⟩
      have hwbH := hide hwb
      have hA := hide ((Below.refl wr.heap.size wr).alloc (Nat.le_refl _) (.cells (RW.wrl x).toArray 103))
      have hg0 := hide (show (wr.alloc (.cells (RW.wrl x).toArray 103)).heap[wb]? = some (.cells (RW.wrl x).toArray 103 (0, 0)) from newAt hwb)
      have hown := hide (show ∀ k, (Value.slice (some ⟨g, o, none⟩) kp cp).ownBlock = some k → k < wb from fun k hk => by rw [hwb]; exact (hdH.out.pend.lt k hk).2)
      have hl3 := hide (show b < wb ∧ db < wb ∧ vb < wb ∧ xb < wb ∧ g5 < wb by
        rw [hwb]
        exact ⟨hdH.out.lt.1, hdH.out.lt.2.1, hdH.out.lt.2.2, (Array.getElem?_eq_some_iff.1 hxH.out).1, (hOH.out.lt g5 rfl).2⟩)
      clear hwb hxp hrow he hrgs hOr he5 hrgs5 hix hir
      go_upto_region 9 with (first
        | (refine wpList_load_mid rfl 103 (.tmp 32) rfl g (o + ii * 2) rfl (RW.wrl x) _ hrg Tryz.underlying103 rfl hps ?_)
        | (refine wpListStoreNew rfl 103 (.tmp 10) (.tmp 33) rfl (RW.wrl x).toArray rfl rfl 103 _ hps rfl (wrl_oneA x) ?_))
      rw [← hwbH.out]
      refine gen_w (fun W => W.heap[wb]? = some (.cells (RW.wrl x).toArray 103 (0, 0)) ∧ Below wb wr W) ⟨hg0.out, by rw [hwbH.out]; exact hA.out⟩ ?_
      clear hg0 hA hrg ci cx c4 hps
      rintro w6 ⟨g1, g2⟩
      have hx6 := hide g1
      have hB6 := hide g2
      have e0 : w6.cell? ⟨wb, 0, none⟩ = some (.int .i64 (x.1 : Int)) := cellAt g1 0
      have e1 : w6.cell? ⟨wb, 1, none⟩ = some (.string x.2) := cellAt g1 1
      have hfz : w6.frozen? ⟨wb, 1, none⟩ = false := by simp [World.frozen?, g1]
      clear g1 g2
      simp only [Act.put]
      obtain ⟨q, hq⟩ : ∃ q : Bool, q = decide (m + 1 = N ∧ 0 ≤ torn) := ⟨_, rfl⟩
      have hqH := hide hq
      clear hq
      have hN1 : 1 ≤ N := by omega
      have hNb : N ≤ 1000000 := hordl.out
      go_cut [42] (fun s wx => s = .bool q ∧ wx = w6)
      case first =>
        by_cases hmN1 : m + 1 = N
        · have hb : ((m : Int) == (N : Int) - 1) = true := by rw [beq_iff_eq]; omega
          by_cases ht0 : 0 ≤ torn
          · have e := hide (show q = true by rw [hqH.out, decide_eq_true ⟨hmN1, ht0⟩])
            clear hmN1
            go_wp2
            all_goals go_meet
            all_goals exact ⟨by rw [e.out] <;> rfl, rfl⟩
          · have e := hide (show q = false by rw [hqH.out, decide_eq_false fun h => ht0 h.2])
            clear hmN1
            go_wp2
            all_goals go_meet
            all_goals exact ⟨by rw [e.out] <;> rfl, rfl⟩
        · have hb : ((m : Int) == (N : Int) - 1) = false := by rw [beq_eq_false_iff_ne]; omega
          have e := hide (show q = false by rw [hqH.out, decide_eq_false fun h => hmN1 h.1])
          clear hmN1
          go_wp2
          all_goals go_meet
          all_goals exact ⟨by rw [e.out] <;> rfl, rfl⟩
      case rest =>
      obtain ⟨rfl, hwx⟩ := hcut
      have hwx' := hwx.symm
      subst hwx'
      cases q
      · have ht1 := hide (show RW.torn1 torn N m x = x by rw [RW.torn1, if_neg (of_decide_eq_false hqH.out.symm)])
        obtain ⟨w7, hw7⟩ : ∃ w, w = w6 := ⟨_, rfl⟩
        subst hw7
        have hx7 := hx6
        have hd7 := hide (hdH.out.next (hwbH.out ▸ hB6.out))
        have hbx7 := hide ((hB6.out.block xb hl3.out.2.2.2.1).trans hxH.out)
        have hO7 := hide (own_next hOH.out (hwbH.out ▸ hB6.out))
        have hT7 := hide (hTwH.out.trans (Tch.of_below (hwbH.out ▸ hB6.out)))
        have hB7 := hide (show B ≤ w7.heap.size from Nat.le_trans hd7.out.hb (Nat.le_of_lt hd7.out.lt.1))
        have hBw7 := hide (hBw2H.out.trans (hB6.out.mono (Nat.le_trans hdH.out.hb (Nat.le_of_lt hl3.out.1))))
        have hbnd := hbx
        have hnb := hide (show wb ≠ db ∧ xb ≠ db from ⟨Ne.symm (Nat.ne_of_lt hl3.out.2.1), blocks_ne hbx7.out hd7.out.dur (by decide)⟩)
        clear e0 e1 hfz
        go_upto_region 11 with fail
        have hOn := hide (fun W (h : DiskAt W B b n db vb (.slice (some ⟨g, o, none⟩) kp cp) ⟨S.off, S.left, dd, S.vis, S.pend⟩) => onto_any x.1 x.2 db n dd W h.dur h.ld hbnd.out h.hn)
        refine wp_region_k (fun _ W => W.heap[wb]? = some (.cells (RW.wrl x).toArray 103 (0, 0)) ∧ W.heap[xb]? = some (.cells #[.pointer (some ⟨b, 0, none⟩)] 27 (0, 0)) ∧ W.heap[b]? = some (.cells (RW.dkl S.off (S.left : Int) (.slice (some ⟨db, 0, none⟩) n n) (.slice (some ⟨vb, 0, none⟩) n n) (.slice (some ⟨g, o, none⟩) kp cp)) 108 (0, 0))) (fun W => DiskAt W B b n db vb (.slice (some ⟨g, o, none⟩) kp cp) ⟨S.off, S.left, dd, S.vis, S.pend⟩ ∧ Below w7.heap.size w7 W) [5] (.op 0 (.op 1 (.op 2 (.op 3 (.op 4 (.op 5 .nil)))))) (by kernel_rfl) (by kernel_rfl) (by rfl) (by kernel_rfl) ⟨hx7.out, hbx7.out, hd7.out.row⟩ ⟨hd7.out.next (Below.refl _ _).drew, (Below.refl _ _).drew⟩ ?_
        refine k_val (.agg (RW.wrl x).toArray) (by apply opN; repeat' (first | apply OpAt.z | apply OpAt.s)) (by rfl) (by rfl) (fun _ W hS => op_load_w rfl rfl (write_ldAt hS.1)) ?_
        simp only [Act.put, List.setIfInBounds_toArray, List.set_cons_zero, List.set_cons_succ]
        refine k_val (.pointer (some ⟨b, 0, none⟩)) (by apply opN; repeat' (first | apply OpAt.z | apply OpAt.s)) (by rfl) (by rfl) (fun _ W hS => op_load_p rfl rfl (cellAt hS.2.1 0)) ?_
        simp only [Act.put, List.setIfInBounds_toArray, List.set_cons_zero, List.set_cons_succ]
        refine k_val (.pointer (some ⟨b, 0, none⟩)) (by apply opN; repeat' (first | apply OpAt.z | apply OpAt.s)) (by rfl) (by rfl) (fun _ W hS => op_nc rfl rfl) ?_
        simp only [Act.put, List.setIfInBounds_toArray, List.set_cons_zero, List.set_cons_succ]
        refine k_val (.pointer (some ⟨b, 2, none⟩)) (by apply opN; repeat' (first | apply OpAt.z | apply OpAt.s)) (by rfl) (by rfl) (fun _ W hS => op_fa_d (i := 1) (by decide) rfl rfl rfl) ?_
        simp only [Act.put, List.setIfInBounds_toArray, List.set_cons_zero, List.set_cons_succ]
        refine k_val (.slice (some ⟨db, 0, none⟩) n n) (by apply opN; repeat' (first | apply OpAt.z | apply OpAt.s)) (by rfl) (by rfl) (fun _ W hS => op_load_by rfl rfl (cellAt hS.2.2 2)) ?_
        simp only [Act.put, List.setIfInBounds_toArray, List.set_cons_zero, List.set_cons_succ]
        refine k_step (fun K' u => K' = fun W => DiskAt W B b n db vb (.slice (some ⟨g, o, none⟩) kp cp) ⟨S.off, S.left, RW.lay dd x.1 x.2.data.toList, S.vis, S.pend⟩ ∧ Tch b db vb w7 W ∧ Below B w7 W) (by apply opN; repeat' (first | apply OpAt.z | apply OpAt.s)) (by rfl) (by rfl) (by rfl) (fun W hC hK => ?_) ?_
        · refine op_x2 rfl rfl rfl rfl (fun _ _ => rfl) ((hOn.out W hK.1).mono ?_)
          rintro e W' ⟨⟨v, rfl⟩, h1, h2⟩
          obtain ⟨k1, k2, k3⟩ := hK.1.durChg h1 h2 (by rw [lay_len (by rw [show dd.length = n from hK.1.ld, Array.length_toList]; exact hbnd.out)]; exact hK.1.ld)
          exact ⟨_, rfl, ⟨(h2.block wb (Array.getElem?_eq_some_iff.1 hC.1).1 hnb.out.1).trans hC.1, (h2.block xb (Array.getElem?_eq_some_iff.1 hC.2.1).1 hnb.out.2).trans hC.2.1, k1.row⟩, _, ⟨k1, (Tch.of_below hK.2).trans k2, (hK.2.mono hB7.out).trans k3⟩, rfl⟩
        rintro _ _ rfl
        simp only [Act.put, List.setIfInBounds_toArray, List.set_cons_zero, List.set_cons_succ]
        refine k_nil ?_
        intro W hC hK
        have hKH := hide hK
        have hBX := hide hC.2.1
        clear hC hK hOn
        go_wp2
        go_roundw
        case rel =>
          obtain ⟨k1, k2, k3⟩ := hKH.out
          refine ⟨m + 1, by go_num, by omega, RW.lay dd x.1 x.2.data.toList, k1, ?_, hBX.out, own_tch hO7.out hd7.out k2 (by decide), hT7.out.trans k2, hBw7.out.trans k3⟩
          have h1 := hfoldH.out
          rw [hdrop.out, RW.crFold, RW.crStep, Int.toNat_natCast, hxpH.out] at h1
          simp only [ht1.out] at h1
          exact h1
        case measure => simp [intOf]; omega
      · have hqt := of_decide_eq_true hqH.out.symm
        obtain ⟨tn, rfl⟩ : ∃ tn : Nat, torn = tn := ⟨torn.toNat, by omega⟩
        obtain ⟨kx, hkx⟩ : ∃ k, k = min tn x.2.size := ⟨_, rfl⟩
        have hkx1 : kx ≤ x.2.size := by omega
        have hkm : min (tn : Int) (x.2.size : Int) = (kx : Int) := by omega
        obtain ⟨y, hy⟩ : ∃ y : Nat × ByteArray, y = (x.1, x.2.extract 0 kx) := ⟨_, rfl⟩
        have ht1 := hide (show RW.torn1 (tn : Int) N m x = y by rw [RW.torn1, if_pos hqt, RW.tear, hy, hkx, Int.toNat_natCast])
        have hys : y.2 = x.2.extract 0 kx := by rw [hy]
        have hy1 : y.1 = x.1 := by rw [hy]
        have hbnd := hide (show y.1 + y.2.size ≤ n by rw [hys, hy1, ByteArray.size_extract]; have := hbx.out; omega)
        have hl2y := wrl_len y
        have hg7 := hide (show (w6.setCell ⟨wb, 1, none⟩ (.string (x.2.extract 0 kx))).heap[wb]? = some (.cells (RW.wrl y).toArray 103 (0, 0)) by rw [hy]; exact (heap_setCell_same _ _ _ _ _ _ hx6.out).trans rfl)
        have hB7s := hide (show Below wb wr (w6.setCell ⟨wb, 1, none⟩ (.string (x.2.extract 0 kx))) from hB6.out.setCell (p := ⟨wb, 1, none⟩) (Nat.le_refl _) _)
        clear hkx hqt hy hys hy1
        go_upto_region 11 with fail
        refine gen_w (fun W => W.heap[wb]? = some (.cells (RW.wrl y).toArray 103 (0, 0)) ∧ Below wb wr W) ⟨hg7.out, hB7s.out⟩ ?_
        clear hg7 hB7s e0 e1 hfz hB6 hx6
        rintro w7 ⟨g1, g2⟩
        have hx7 := hide g1
        have hB6 := hide g2
        clear g1 g2
        have hd7 := hide (hdH.out.next (hwbH.out ▸ hB6.out))
        have hbx7 := hide ((hB6.out.block xb hl3.out.2.2.2.1).trans hxH.out)
        have hO7 := hide (own_next hOH.out (hwbH.out ▸ hB6.out))
        have hT7 := hide (hTwH.out.trans (Tch.of_below (hwbH.out ▸ hB6.out)))
        have hB7 := hide (show B ≤ w7.heap.size from Nat.le_trans hd7.out.hb (Nat.le_of_lt hd7.out.lt.1))
        have hBw7 := hide (hBw2H.out.trans (hB6.out.mono (Nat.le_trans hdH.out.hb (Nat.le_of_lt hl3.out.1))))
        have hnb := hide (show wb ≠ db ∧ xb ≠ db from ⟨Ne.symm (Nat.ne_of_lt hl3.out.2.1), blocks_ne hbx7.out hd7.out.dur (by decide)⟩)
        have hOn := hide (fun W (h : DiskAt W B b n db vb (.slice (some ⟨g, o, none⟩) kp cp) ⟨S.off, S.left, dd, S.vis, S.pend⟩) => onto_any y.1 y.2 db n dd W h.dur h.ld hbnd.out h.hn)
        refine wp_region_k (fun _ W => W.heap[wb]? = some (.cells (RW.wrl y).toArray 103 (0, 0)) ∧ W.heap[xb]? = some (.cells #[.pointer (some ⟨b, 0, none⟩)] 27 (0, 0)) ∧ W.heap[b]? = some (.cells (RW.dkl S.off (S.left : Int) (.slice (some ⟨db, 0, none⟩) n n) (.slice (some ⟨vb, 0, none⟩) n n) (.slice (some ⟨g, o, none⟩) kp cp)) 108 (0, 0))) (fun W => DiskAt W B b n db vb (.slice (some ⟨g, o, none⟩) kp cp) ⟨S.off, S.left, dd, S.vis, S.pend⟩ ∧ Below w7.heap.size w7 W) [5] (.op 0 (.op 1 (.op 2 (.op 3 (.op 4 (.op 5 .nil)))))) (by kernel_rfl) (by kernel_rfl) (by rfl) (by kernel_rfl) ⟨hx7.out, hbx7.out, hd7.out.row⟩ ⟨hd7.out.next (Below.refl _ _).drew, (Below.refl _ _).drew⟩ ?_
        refine k_val (.agg (RW.wrl y).toArray) (by apply opN; repeat' (first | apply OpAt.z | apply OpAt.s)) (by rfl) (by rfl) (fun _ W hS => op_load_w rfl rfl (write_ldAt hS.1)) ?_
        simp only [Act.put, List.setIfInBounds_toArray, List.set_cons_zero, List.set_cons_succ]
        refine k_val (.pointer (some ⟨b, 0, none⟩)) (by apply opN; repeat' (first | apply OpAt.z | apply OpAt.s)) (by rfl) (by rfl) (fun _ W hS => op_load_p rfl rfl (cellAt hS.2.1 0)) ?_
        simp only [Act.put, List.setIfInBounds_toArray, List.set_cons_zero, List.set_cons_succ]
        refine k_val (.pointer (some ⟨b, 0, none⟩)) (by apply opN; repeat' (first | apply OpAt.z | apply OpAt.s)) (by rfl) (by rfl) (fun _ W hS => op_nc rfl rfl) ?_
        simp only [Act.put, List.setIfInBounds_toArray, List.set_cons_zero, List.set_cons_succ]
        refine k_val (.pointer (some ⟨b, 2, none⟩)) (by apply opN; repeat' (first | apply OpAt.z | apply OpAt.s)) (by rfl) (by rfl) (fun _ W hS => op_fa_d (i := 1) (by decide) rfl rfl rfl) ?_
        simp only [Act.put, List.setIfInBounds_toArray, List.set_cons_zero, List.set_cons_succ]
        refine k_val (.slice (some ⟨db, 0, none⟩) n n) (by apply opN; repeat' (first | apply OpAt.z | apply OpAt.s)) (by rfl) (by rfl) (fun _ W hS => op_load_by rfl rfl (cellAt hS.2.2 2)) ?_
        simp only [Act.put, List.setIfInBounds_toArray, List.set_cons_zero, List.set_cons_succ]
        refine k_step (fun K' u => K' = fun W => DiskAt W B b n db vb (.slice (some ⟨g, o, none⟩) kp cp) ⟨S.off, S.left, RW.lay dd y.1 y.2.data.toList, S.vis, S.pend⟩ ∧ Tch b db vb w7 W ∧ Below B w7 W) (by apply opN; repeat' (first | apply OpAt.z | apply OpAt.s)) (by rfl) (by rfl) (by rfl) (fun W hC hK => ?_) ?_
        · refine op_x2 rfl rfl rfl rfl (fun _ _ => rfl) ((hOn.out W hK.1).mono ?_)
          rintro e W' ⟨⟨v, rfl⟩, h1, h2⟩
          obtain ⟨k1, k2, k3⟩ := hK.1.durChg h1 h2 (by rw [lay_len (by rw [show dd.length = n from hK.1.ld, Array.length_toList]; exact hbnd.out)]; exact hK.1.ld)
          exact ⟨_, rfl, ⟨(h2.block wb (Array.getElem?_eq_some_iff.1 hC.1).1 hnb.out.1).trans hC.1, (h2.block xb (Array.getElem?_eq_some_iff.1 hC.2.1).1 hnb.out.2).trans hC.2.1, k1.row⟩, _, ⟨k1, (Tch.of_below hK.2).trans k2, (hK.2.mono hB7.out).trans k3⟩, rfl⟩
        rintro _ _ rfl
        simp only [Act.put, List.setIfInBounds_toArray, List.set_cons_zero, List.set_cons_succ]
        refine k_nil ?_
        intro W hC hK
        have hKH := hide hK
        have hBX := hide hC.2.1
        clear hC hK hOn
        go_wp2
        go_roundw
        case rel =>
          obtain ⟨k1, k2, k3⟩ := hKH.out
          refine ⟨m + 1, by go_num, by omega, RW.lay dd y.1 y.2.data.toList, k1, ?_, hBX.out, own_tch hO7.out hd7.out k2 (by decide), hT7.out.trans k2, hBw7.out.trans k3⟩
          have h1 := hfoldH.out
          rw [hdrop.out, RW.crFold, RW.crStep, Int.toNat_natCast, hxpH.out] at h1
          simp only [ht1.out] at h1
          exact h1
        case measure => simp [intOf]; omega
    · obtain rfl : m = N := by omega
      have hdT : dd = T := by
        have h1 := hfoldH.out
        rw [List.drop_eq_nil_iff.2 (by rw [← hNH.out]; exact Nat.le_refl _), RW.crFold] at h1
        exact h1
      subst hdT
      obtain ⟨wo, hwo⟩ : ∃ wo, wo = wr := ⟨_, rfl⟩
      subst hwo
      have hSt := hide (fun W (h : DiskAt W B b n db vb (.slice ap kp cp) ⟨S.off, S.left, dd, S.vis, S.pend⟩) => settle_any b db vb n S.off S.left _ _ (.slice ap kp cp) dd S.vis S.pend B W h.row h.dur h.vis h.ld h.lv h.pend h.ne)
      clear hfoldH hOH
      go_upto_region 13 with fail
      refine wp_region_k (fun g W => W.heap[xb]? = some (.cells #[.pointer (some ⟨b, 0, none⟩)] 27 (0, 0)) ∧ (9 ∉ g → W.heap[b]? = some (.cells (RW.dkl S.off (S.left : Int) (.slice (some ⟨db, 0, none⟩) n n) (.slice (some ⟨vb, 0, none⟩) n n) (.slice ap kp cp)) 108 (0, 0)))) (fun W => DiskAt W B b n db vb (.slice ap kp cp) ⟨S.off, S.left, dd, S.vis, S.pend⟩ ∧ Below wo.heap.size wo W) [9] (.op 0 (.op 1 (.op 2 (.op 3 (.op 4 (.op 5 (.op 6 (.op 7 (.op 8 (.op 9 .nil)))))))))) (by kernel_rfl) (by kernel_rfl) (by rfl) (by kernel_rfl) ⟨hxH.out, fun _ => hdH.out.row⟩ ⟨hdH.out.next (Below.refl _ _).drew, (Below.refl _ _).drew⟩ ?_
      refine k_val (.pointer (some ⟨b, 0, none⟩)) (by apply opN; repeat' (first | apply OpAt.z | apply OpAt.s)) (by rfl) (by rfl) (fun _ W hS => op_load_p rfl rfl (cellAt hS.1 0)) ?_
      simp only [Act.put, List.setIfInBounds_toArray, List.set_cons_zero, List.set_cons_succ]
      refine k_val (.pointer (some ⟨b, 0, none⟩)) (by apply opN; repeat' (first | apply OpAt.z | apply OpAt.s)) (by rfl) (by rfl) (fun _ W hS => op_load_p rfl rfl (cellAt hS.1 0)) ?_
      simp only [Act.put, List.setIfInBounds_toArray, List.set_cons_zero, List.set_cons_succ]
      refine k_val (.pointer (some ⟨b, 0, none⟩)) (by apply opN; repeat' (first | apply OpAt.z | apply OpAt.s)) (by rfl) (by rfl) (fun _ W hS => op_nc rfl rfl) ?_
      simp only [Act.put, List.setIfInBounds_toArray, List.set_cons_zero, List.set_cons_succ]
      refine k_val (.pointer (some ⟨b, 2, none⟩)) (by apply opN; repeat' (first | apply OpAt.z | apply OpAt.s)) (by rfl) (by rfl) (fun _ W hS => op_fa_d (i := 1) (by decide) rfl rfl rfl) ?_
      simp only [Act.put, List.setIfInBounds_toArray, List.set_cons_zero, List.set_cons_succ]
      refine k_bef 9 (.slice (some ⟨db, 0, none⟩) n n) (by apply opN; repeat' (first | apply OpAt.z | apply OpAt.s)) (by rfl) (by rfl) (by decide +kernel) (by rfl) (fun g W hg hS => op_load_by rfl rfl (cellAt (hS.2 hg) 2)) ?_
      simp only [Act.put, List.setIfInBounds_toArray, List.set_cons_zero, List.set_cons_succ]
      refine k_val (.pointer (some ⟨b, 0, none⟩)) (by apply opN; repeat' (first | apply OpAt.z | apply OpAt.s)) (by rfl) (by rfl) (fun _ W hS => op_load_p rfl rfl (cellAt hS.1 0)) ?_
      simp only [Act.put, List.setIfInBounds_toArray, List.set_cons_zero, List.set_cons_succ]
      refine k_val (.pointer (some ⟨b, 0, none⟩)) (by apply opN; repeat' (first | apply OpAt.z | apply OpAt.s)) (by rfl) (by rfl) (fun _ W hS => op_nc rfl rfl) ?_
      simp only [Act.put, List.setIfInBounds_toArray, List.set_cons_zero, List.set_cons_succ]
      refine k_val (.pointer (some ⟨b, 3, none⟩)) (by apply opN; repeat' (first | apply OpAt.z | apply OpAt.s)) (by rfl) (by rfl) (fun _ W hS => op_fa_d (i := 2) (by decide) rfl rfl rfl) ?_
      simp only [Act.put, List.setIfInBounds_toArray, List.set_cons_zero, List.set_cons_succ]
      refine k_bef 9 (.slice (some ⟨vb, 0, none⟩) n n) (by apply opN; repeat' (first | apply OpAt.z | apply OpAt.s)) (by rfl) (by rfl) (by decide +kernel) (by rfl) (fun g W hg hS => op_load_by rfl rfl (cellAt (hS.2 hg) 3)) ?_
      simp only [Act.put, List.setIfInBounds_toArray, List.set_cons_zero, List.set_cons_succ]
      refine k_step (fun K' u => K' = fun W => ∃ pv', DiskAt W B b n db vb pv' ⟨S.off, S.left, dd, dd, []⟩ ∧ Tch b db vb w W ∧ Below B w W) (by apply opN; repeat' (first | apply OpAt.z | apply OpAt.s)) (by rfl) (by rfl) (by rfl) (fun W hC hK => ?_) ?_
      · refine op_x3 rfl rfl rfl rfl rfl (fun _ _ => rfl) ((hSt.out W hK.1).mono ?_)
        rintro e W' ⟨⟨v, rfl⟩, pv', h1, h2, h3, _, h5⟩
        obtain ⟨k1, k2, k3⟩ := hK.1.settled_v h1 h2 h3 h5
        refine ⟨_, rfl, ⟨(h5.block xb (Array.getElem?_eq_some_iff.1 hC.1).1 ?_).trans hC.1, fun h => absurd (by simp) h⟩, _, ⟨pv', k1, (hTwH.out.trans (Tch.of_below hK.2)).trans k2, (hBw2H.out.trans (hK.2.mono (Nat.le_trans hdH.out.hb (Nat.le_of_lt hdH.out.lt.1)))).trans k3⟩, rfl⟩
        rintro (e | e | e)
        · exact blocks_ne hC.1 hK.1.row (by decide) e
        · exact blocks_ne hC.1 hK.1.vis (by decide) e
        · rcases hK.1.pend.2 with ⟨e', _⟩ | ⟨g', cap', cur', e', _, hh, _⟩
          · rw [e'] at e; cases e
          · rw [e'] at e; cases e; exact blocks_ne hC.1 hh (by decide) rfl
      rintro _ _ rfl
      simp only [Act.put, List.setIfInBounds_toArray, List.set_cons_zero, List.set_cons_succ]
      refine k_nil ?_
      intro W hC hK
      obtain ⟨pv', k1, k2, k3⟩ := hK
      have cx2 : W.cell? ⟨xb, 0, none⟩ = some (.pointer (some ⟨b, 0, none⟩)) := cellAt hC.1 0
      have hst : (stRow 106 (.pointer (some ⟨b, 0, none⟩)) (.agg #[.bool false, .int .i64 0])).run Tryz.prog W = .ok () (W.setCells b 0 [.bool false, .int .i64 0]) :=
        stRow_mid (cells := #[.bool false, .int .i64 0]) (fun j hj => by
          have hj2 : j < 2 := hj
          rw [Nat.zero_add]
          refine ⟨?_, by simp [World.frozen?, k1.row]⟩
          rw [cellAt k1.row]
          rcases j with _ | _ | j
          · rfl
          · rfl
          · omega) (by kernel_rfl) (by simp; exact ⟨rfl, rfl⟩)
      have k1H := hide k1
      have k2H := hide k2
      have k3H := hide k3
      clear hC hSt k1 k2 k3
      go_wp2
      go_ret
      have hrow := setCells_heap [.bool false, .int .i64 0] W b 0 _ _ _ k1H.out.row
      have hgr := setCells_grown [.bool false, .int .i64 0] W b 0
      have hch : Chg b W (W.setCells b 0 [.bool false, .int .i64 0]) := ⟨hgr.os, hgr.tape, hgr.output, hgr.size, fun j hj hne => hgr.block j hj fun e => hne (Option.some.inj e)⟩
      obtain ⟨m1, m2, m3⟩ := k1H.out.rowChg (off := false) (left := 0) (hrow.trans rfl) hch (by decide)
      refine ⟨rfl, pv', ?_, k2H.out.trans m2, k3H.out.trans m3⟩
      have hcr : S.crash keep torn = ⟨false, 0, dd, dd, []⟩ := by
        rw [RW.Dk.crash, ← hkpH.out, ← hordH.out, ← hNH.out, ← hTH.out]
      rw [hcr]
      exact m1
end Go.Proofs.YtllbphanfahkkaaGreatDoor
