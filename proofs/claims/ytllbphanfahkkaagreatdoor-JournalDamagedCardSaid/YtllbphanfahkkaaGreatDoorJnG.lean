/-
  Package royaltylaw23: JournalDamaged.
-/
import Derived.Test.YtllbphanfahkkaaGreatDoorJnF
import Derived.Test.YtllbphanfahkkaaGreatDoorJnE
import Derived.Test.YtllbphanfahkkaaGreatDoorRj8
namespace Go.Proofs.YtllbphanfahkkaaGreatDoor
open Go.RowKit RG
theorem RW.stos_len100 {H : List UInt8 → List UInt8} (hH : ∀ l, (H l).length = 32) : ∀ (l : List ByteArray) (h : List UInt8), (∀ r ∈ l, r.size ≤ 100) → (RW.stos H h l).length ≤ 143 * l.length
  | [], _, _ => Nat.zero_le _
  | r :: rs, h, hs => by
    have h1 := RW.stos_len100 hH rs (RW.chn H h r) (fun q hq => hs q (by simp [hq]))
    have h2 := RW.sto_len H hH h r
    have h3 := RW.putI_len (r.data.toList.length : Int)
    have h4 := hs r (by simp)
    have h5 := size_list r
    show (RW.sto H h r ++ RW.stos H (RW.chn H h r) rs).length ≤ 143 * (rs.length + 1)
    rw [List.length_append, h2]
    unfold RW.putS
    rw [List.length_append]
    omega
theorem RW.hss_size {H : List UInt8 → List UInt8} (hH : ∀ l, (H l).length = 32) : ∀ (l : List ByteArray) (h : List UInt8), h.length = 32 → (∀ r ∈ l, r.size ≤ 65536) → ∀ x ∈ RW.hss H h l, x.length ≤ 65569
  | [], _, _, _, _, hx => by cases hx
  | r :: rs, h, hh, hs, x, hx => by
    rcases List.mem_cons.1 hx with rfl | hx
    · have h1 := hs r (by simp)
      have h2 := size_list r
      simp only [List.length_cons, List.length_append]
      omega
    · exact RW.hss_size hH rs (RW.chn H h r) (hH _) (fun q hq => hs q (by simp [hq])) x hx
theorem RW.hssB_size {H : List UInt8 → List UInt8} (hH : ∀ l, (H l).length = 32) (l : List ByteArray) (hs : ∀ r ∈ l, r.size ≤ 65536) : ∀ x ∈ RW.hssB H l, x.size ≤ 65569 := fun x hx => by
  unfold RW.hssB at hx
  obtain ⟨y, hy, rfl⟩ := List.mem_map.1 hx
  rw [RW.strOf_size]
  exact RW.hss_size hH l RW.z32 (by simp [RW.z32]) hs y hy
theorem cf_rsum23 : ∀ args w, (callFunc 29 args).run Tryz.prog w = .ok (.enter 29 args) w := fun args w => by go_simp
theorem op_eqstJ {ev : Operand → Value} {o : Oper} {x y : Operand} {w : World} {a b : ByteArray} {r : Bool} (ho : o.op = .binOp .eql 9 x y 9) (hx : ev x = .string a) (hy : ev y = .string b) (h : decide (a = b) = r) : (execOp ev o).run Tryz.prog w = .ok (.value (.bool r)) w := by
  have e : (a.toList == b.toList) = r := by
    rw [← h]
    by_cases q : a = b
    · subst q; simp
    · rw [decide_eq_false q]
      simp only [beq_eq_false_iff_ne, ne_eq]
      intro h2
      rw [ByteArray.toList_eq, ByteArray.toList_eq] at h2
      exact q (ByteArray.ext (Array.ext' h2))
  unfold execOp
  rw [ho]
  simp only [hx, hy]
  go_simp
/-- what the appends leave -/
structure DgR (B b db vb jb j : Nat) (w1 W : World) : Prop where
  out : ∃ S rs, RW.JInv HH 6000 S rs ∧ S.left = 0 ∧ rs.length ≤ 6 * j ∧ (∀ r ∈ rs, r.size ≤ 100) ∧ JW RW.k0F B b 6000 db vb jb S rs false w1 W
set_option maxRecDepth 100000 in
set_option maxHeartbeats 16000000 in
theorem damaged_any (at_ : Int) (hat : -9223372036854775808 ≤ at_) (hat2 : at_ ≤ 9223372036854775807) (cb : UInt8) (gv : Value) (ps : List (Value × List ByteArray)) (hpl : ps.length ≤ 9223372036854775807) (ks : Array Value) (hks : RW.WsOk ks RW.k0F) (a : Addr) (w : World) (hps : GrpR w gv ps) (hK : KLaid w ks) (hg : w.cell? ⟨1, 0, none⟩ = some (RW.jeW a)) :
    Calls Tryz.prog 4 #[gv, .int .i64 at_, .int .u8 (cb.toNat : Int)] w fun e w' => e = .returned (.bool true) ∧ Below w.heap.size w w' := by
  have hgl := hide (cell_ltJ hg)
  have hnx0 := hide (fun W (hW : Below w.heap.size w W) => (show KLaid W ks ∧ W.cell? ⟨1, 0, none⟩ = some (RW.jeW a) ∧ GrpR W gv ps from ⟨RW.jklaid hK hW (Nat.le_refl _), (World.cell?_of_block (a := ⟨1, 0, none⟩) (hW.block _ hgl.out)).trans hg, hps.next hW⟩))
  have hSn := hide (sane_any RW.k0F ks hks a w hK hg)
  obtain ⟨ga, gc, egv, _, _⟩ := id hps.1
  subst egv
  obtain ⟨m, hm⟩ : ∃ m, m = ps.length := ⟨_, rfl⟩
  have hmH := hide hm
  rw [← hm] at hnx0 hpl ⊢
  clear hK hg hps hgl hm
  go_enter Tryz.func4, Tryz.ntmps4
  go_upto_region 2 with (go_at_call 9; refine hSn.out.mono ?_; rintro e w1 ⟨rfl, hB1⟩; have hB1H := hide hB1; clear hB1)
  obtain ⟨B, hB⟩ : ∃ B, B = w1.heap.size := ⟨_, rfl⟩
  have hBH := hide hB
  have hwB := hide (show w.heap.size ≤ B by rw [hB]; exact hB1H.out.size)
  have hnx := hide (fun W (hW : Below B w1 W) => hnx0.out W (hB1H.out.trans (hW.mono hwB.out)))
  have hN := hide (new_any 6000 (by decide) (by decide) w1)
  rw [← hB] at hN
  clear hB hSn hnx0
  go_upto_region 3 with (go_at_call 25; refine hN.out.mono ?_; rintro e w2 ⟨b, rfl, hd1, hB2⟩; obtain ⟨db, vb, hd1⟩ := hd1; have hD2 := hide hd1; have hB2H := hide hB2; clear hd1 hB2)
  have hOp := hide (open_inv hks hD2.out (RW.inv_dk0 6000) (hnx.out w2 hB2H.out).1 (hnx.out w2 hB2H.out).2.1)
  go_upto_region 4 with (go_at_call 26; refine hOp.out.mono ?_; rintro e w3 ⟨jb, rfl, h2, ht2⟩; have hJ3 := hide (show JW RW.k0F B b 6000 db vb jb (RW.dk0 6000) [] false w1 w3 from ⟨h2.d, h2.j, hB2H.out.trans h2.bel⟩); clear h2 ht2)
  clear hOp hN hD2 hB2H
  obtain ⟨M, hM⟩ : ∃ M, M = min m 6 := ⟨_, rfl⟩
  have hMH := hide hM
  have hM6 : M ≤ 6 := by omega
  clear hM
  go_wp2
  go_loopw [12] (fun i wr => ∃ (j : Nat), i = .int .i64 j ∧ j ≤ M ∧ Hid (DgR B b db vb jb j w1 wr)) (fun i _ => M - (intOf i).toNat)
  case atStart => exact ⟨0, rfl, Nat.zero_le _, ⟨⟨RW.dk0 6000, [], RW.inv_dk0 6000, rfl, Nat.zero_le _, (fun r hr => by cases hr), hJ3.out⟩⟩⟩
  case round =>
    obtain ⟨j, rfl, hj, hQ⟩ := hrel
    obtain ⟨wo, hwo⟩ : ∃ wo, wo = wr := ⟨_, rfl⟩
    subst hwo
    obtain ⟨S, rs, hI, h0, hrj, hrz, hJ⟩ := hQ.out.out
    have hI := hide hI
    have h0 := hide h0
    have hrj := hide hrj
    have hrz := hide hrz
    have hJ := hide hJ
    clear hQ hJ3
    obtain ⟨q, hq⟩ : ∃ c : Bool, c = decide (j < M) := ⟨_, rfl⟩
    have hqH := hide hq
    clear hq
    go_upto_region 7 with fail
    go_cut [43] (fun s wx => s = .bool q ∧ wx = wo)
    case first =>
      by_cases h1 : j < m
      · by_cases h2 : j < 6
        · have h2i : (j : Int) < 6 := by omega
          go_wp2
          all_goals go_meet
          all_goals exact ⟨by rw [hqH.out, decide_eq_true (show j < M by have := hMH.out; omega)] <;> rfl, rfl⟩
        · have h2i : ¬ (j : Int) < 6 := by omega
          go_wp2
          all_goals go_meet
          all_goals exact ⟨by rw [hqH.out, decide_eq_false (show ¬ j < M by omega)] <;> rfl, rfl⟩
      · go_wp2
        all_goals go_meet
        all_goals exact ⟨by rw [hqH.out, decide_eq_false (show ¬ j < M by have := hMH.out; omega)] <;> rfl, rfl⟩
    case rest =>
    obtain ⟨rfl, hwx⟩ := hcut
    have hwx' := hwx.symm
    subst hwx'
    cases q
    · obtain rfl : M = j := by have := of_decide_eq_false hqH.out.symm; omega
      have hrl := hide (show rs.length ≤ 36 by have := hrj.out; omega)
      clear hqH hrj
      obtain ⟨U, hU⟩ : ∃ U, U = (RW.stos HH RW.z32 rs).length := ⟨_, rfl⟩
      have hUz : U ≤ 6000 := by rw [hU]; exact hI.out.fits
      have hRc := hide (hJ.out.records hI.out.fits)
      have hRm := hide (fun W (h : JW RW.k0F B b 6000 db vb jb S rs false w1 W) => h.room hI.out.fits)
      rw [show (RW.stos (RW.sha RW.k0F) RW.z32 rs).length = U from hU.symm] at hRm
      have hUH := hide hU
      obtain ⟨N1, hN1⟩ : ∃ N1, N1 = wo.heap.size := ⟨_, rfl⟩
      have hN1B := hide (show B ≤ N1 by rw [hN1]; exact hJ.out.hB)
      rw [← hN1] at hRc
      obtain ⟨rl, hrl2⟩ : ∃ rl, rl = rs.length := ⟨_, rfl⟩
      have hrlH := hide hrl2
      clear hN1 hU hrl2
      go_upto_region 12 with (go_at_call 20; refine hRc.out.mono ?_; rintro e w5 ⟨uw, rfl, h3, h4, h5⟩; obtain ⟨ua, uc, euw⟩ := own_shape h3; rw [← hrlH.out] at euw; subst euw; have hu5 := hide (own_base h3 hN1B.out); have hJ5 := hide h4; clear h3 h4 h5)
      clear hRc hJ
      have hsub : (6000 : Int) - (6000 - (U : Int)) = (U : Int) := by omega
      go_upto_region 13 with (go_at_call 21; refine (hRm.out _ hJ5.out).mono ?_; rintro e w6 ⟨rfl, h4, h5⟩; have hJ6 := hide h4; have hu6 := hide (own_keep hu5.out fun g hg => h5.block g (own_blk hu5.out hg).2.1); clear h4 h5)
      clear hRm hJ5 hu5 hsub
      rcases Nat.eq_zero_or_pos U with hU0 | hU0
      · have hrs0 : rl = 0 := by
          have h1 := hUH.out
          rw [hU0] at h1
          have h2 : RW.stos HH RW.z32 rs = [] := List.eq_nil_of_length_eq_zero h1.symm
          rw [hrlH.out, (RW.stos_nil _ _ _).1 h2]
          rfl
        subst hU0 hrs0
        go_wp2
        go_ret
        exact ⟨rfl, hB1H.out.trans (hJ6.out.bel.mono hwB.out)⟩
      · have hUi : ¬ ((U : Int) ≤ 0) := by omega
        have hUi2 : ¬ ((6000 : Int) < (U : Int)) := by omega
        obtain ⟨k, hk⟩ : ∃ k : Nat, RW.pickI at_ U = (k : Int) := ⟨(RW.pickI at_ U).toNat, by have := RW.pickI_bd at_ U (by omega); omega⟩
        have hkU := hide (show k < U by have := RW.pickI_bd at_ U (by omega); omega)
        have hPk := hide (fun W => pick_any at_ U hat hat2 (by omega) (by omega) W)
        rw [hk] at hPk
        clear hk
        have hrsz := hide (show ∀ r ∈ rs, r.size ≤ 65536 from hI.out.lims)
        have hSd := hide (fun W (hu : StrR W (.slice ua rl uc) rs) => sized_any (.slice ua rl uc) rs k (by have := hkU.out; omega) W hu (by have := hrl.out; omega) hrsz.out)
        obtain ⟨q, hq⟩ : ∃ q, q = RW.siz rs (k : Int) := ⟨_, rfl⟩
        rw [← hq] at hSd
        have hqH := hide hq
        clear hq
        go_upto_region 16 with (go_at_call 15; refine (hPk.out _).mono ?_; rintro e w' ⟨rfl, rfl⟩)
        cases q
        case true =>
          go_wp2_with (go_at_call 27; refine (hSd.out _ (strs_own hu6.out)).mono ?_; rintro e w7 ⟨rfl, h5⟩; have hJ7 := hide (hJ6.out.next h5); clear h5)
          go_ret
          exact ⟨rfl, hB1H.out.trans (hJ7.out.bel.mono hwB.out)⟩
        case false =>
          go_upto_region 18 with (go_at_call 27; refine (hSd.out _ (strs_own hu6.out)).mono ?_; rintro e w7 ⟨rfl, h5⟩; have hJ7 := hide (hJ6.out.next h5); have hu7 := hide (own_keep hu6.out fun g hg => h5.block g (own_blk hu6.out hg).2.1); clear h5)
          clear hSd hPk hJ6 hu6
          have hvl := hide (show S.vis.length = 6000 by rw [hI.out.vis]; exact RW.cont_len HH hI.out.fits)
          obtain ⟨V, hV⟩ : ∃ V : ByteArray, V = RW.strOf S.vis := ⟨_, rfl⟩
          have hVs : V.size = 6000 := by rw [hV, RW.strOf_size, hvl.out]
          have hVl := hide (show V.data.toList = S.vis by rw [hV, RW.strOf_list])
          have hCo := hide (show Calls Tryz.prog 23 #[.pointer (some ⟨b, 0, none⟩)] w7 fun e w' => e = .returned (.string V) ∧ w7 = w' from by
            have h := hJ7.out.content
            rwa [show (S.read 6000 0 ((6000 : Nat) : Int)).1 = V by
              unfold RW.Dk.read
              rw [if_neg (by rw [hI.out.off]; simp), if_pos ((RW.insB_iff 6000 _ _).2 ⟨by omega, by omega, by omega, by omega⟩), hV, show (0 : Int).toNat = 0 from rfl, List.drop_zero]
              rw [Int.toNat_natCast, ← hvl.out, List.take_length]] at h)
          have hkV : k < V.size := by rw [hVs]; have := hkU.out; omega
          have hVk := hide (show S.vis[k]? = some V[k] by
            rw [← hVl.out, Array.getElem?_toList]
            exact Array.getElem?_eq_getElem hkV)
          clear hV
          have hVsH := hide hVs
          by_cases heq : V[k] = cb
          · have q1 : ((V[k].toNat : Int) == (cb.toNat : Int)) = true := by rw [heq]; simp
            have heqH := hide heq
            clear heq
            go_wp2_with (go_at_call 23; refine hCo.out.mono ?_; rintro e w' ⟨rfl, rfl⟩)
            go_ret
            exact ⟨by first | rfl | simp [hVs], hB1H.out.trans (hJ7.out.bel.mono hwB.out)⟩
          · have q1 : ((V[k].toNat : Int) == (cb.toNat : Int)) = false := by
              simp only [beq_eq_false_iff_ne, ne_eq]
              intro e
              exact heq (UInt8.toNat_inj.1 (by omega))
            have hne := hide (show S.vis[k]? ≠ some cb by rw [hVk.out]; exact fun e => heq (Option.some.inj e))
            clear heq
            go_upto_region 21 with (go_at_call 23; refine hCo.out.mono ?_; rintro e w' ⟨rfl, rfl⟩)
            clear hCo q1 hVk
            have hcv : (convert 39 9 (.slice (some ⟨w7.heap.size, 0, none⟩) 1 1)).run Tryz.prog (w7.alloc (.cells #[.int .u8 (cb.toNat : Int)] 5)) = .ok (.string (RW.strOf [cb])) (w7.alloc (.cells #[.int .u8 (cb.toNat : Int)] 5)) := run_conv (w7.alloc (.cells (RW.byl [cb]).toArray 5)) w7.heap.size [cb] (alloc_at1 _ _) 0 1 1 (Nat.le_refl _)
            have hal := hide (alloc_bel (Below.refl w7.heap.size w7) (Nat.le_refl _) (.cells #[.int .u8 (cb.toNat : Int)] 5))
            obtain ⟨S7, hS7⟩ : ∃ x, x = (S.write 6000 (k : Int) (RW.strOf [cb])).2 := ⟨_, rfl⟩
            have hdo := RW.dam_open (H := HH) (RW.sha_len RW.k0F) hI.out h0.out (by rw [← show U = _ from hUH.out]; exact hkU.out) hne.out hqH.out.symm
            rw [← hS7] at hdo
            have hp7 := hide (show S7.pend.length < 900000 by
              rw [hS7]
              have h1 : S.pend.length = 0 := by rw [hI.out.pend]; rfl
              unfold RW.Dk.write
              split
              · show S.pend.length < 900000
                omega
              · split
                · show (S.pend ++ [_]).length < 900000
                  rw [List.length_append, h1]
                  show 0 + 1 < 900000
                  decide
                · show S.pend.length < 900000
                  omega)
            have hdo := hide hdo
            have hWr := hide (show Calls Tryz.prog 14 #[.pointer (some ⟨b, 0, none⟩), .int .i64 (k : Int), .string (RW.strOf [cb])] (w7.alloc (.cells #[.int .u8 (cb.toNat : Int)] 5)) fun e w' => (∃ f, e = .returned (.int .i64 f)) ∧ JW RW.k0F B b 6000 db vb jb S7 rs false w1 w' ∧ StrsOwn w' B (.slice ua rl uc) rs from by
              have hj := hJ7.out.next hal.out
              have hu := own_keep hu7.out fun g hg => hal.out.block g (own_blk hu7.out hg).2.1
              refine (hj.write (k : Int) (RW.strOf [cb]) (by rw [hI.out.pend]; decide) (by show 1 ≤ 9223372036854775807; decide)).mono ?_
              rintro e w' ⟨rfl, g1, g2, g3⟩
              rw [← hS7] at g1
              exact ⟨⟨_, rfl⟩, g1, own_tchJ hu hj (.of_tch g3)⟩)
            clear hS7
            go_upto_region 22 with (go_at_call 14; refine hWr.out.mono ?_; rintro e w8 ⟨⟨f8, rfl⟩, h2, h3⟩; have hJ8 := hide h2; have hu8 := hide h3; clear h2 h3)
            clear hWr hcv hal hJ7 hu7
            have hOpn := hide (show Calls Tryz.prog 26 #[.pointer (some ⟨b, 0, none⟩)] w8 (OpenOut HH B b 6000 db vb S7 w8) from by
              obtain ⟨pv, hd⟩ := hJ8.out.d
              exact Open_any B b 6000 db vb pv S7 a RW.k0F ks hks w8 hd hp7.out (hnx.out _ hJ8.out.bel).1 (hnx.out _ hJ8.out.bel).2.1)
            have hcase : (∃ S', RW.jopen HH 6000 S7 = (232, none, S')) ∨ ∃ is S', RW.jopen HH 6000 S7 = (0, some is, S') ∧ ((cb = 0 ∧ is.length < rs.length ∧ is = rs.take is.length) ∨ RW.Coll HH RW.z32 rs is) := by
              rcases hdo.out with h | ⟨h1, j2, S', h2, h3⟩ | ⟨is, S', h1, h2⟩
              · exact .inl h
              · have hl : (rs.take j2).length = j2 := by rw [List.length_take]; omega
                exact .inr ⟨_, S', h3, .inl ⟨h1, by rw [hl]; exact h2, by rw [hl]⟩⟩
              · exact .inr ⟨is, S', h1, .inr h2⟩
            have hcase := hide hcase
            rcases hcase.out with ⟨S', hj⟩ | ⟨is, S', hj, hF⟩
            · have hO2 := hide (hOpn.out.mono (fun e w' hh => (show e = .returned (.tuple #[.pointer none, .int .i64 232]) ∧ Below B w8 w' from by
                obtain ⟨_, _, g3, g4⟩ := hh
                rcases g4 with ⟨_, _, g5⟩ | ⟨rs2, _, _, g5, _⟩
                · rw [hj] at g5
                  exact ⟨g5, g3⟩
                · rw [hj] at g5
                  exact absurd (show (232 : Int) = 0 from g5) (by decide))))
              clear hj hOpn hdo hcase
              go_wp2_with (go_at_call 26; refine hO2.out.mono ?_; rintro e w9 ⟨rfl, h5⟩; have hB9 := hide (hJ8.out.bel.trans h5); clear h5)
              go_ret
              exact ⟨rfl, hB1H.out.trans (hB9.out.mono hwB.out)⟩
            · have hFH := hide hF
              have hvl7 := hide (show S7.vis.length = 6000 from by obtain ⟨pv, hd⟩ := hJ8.out.d; exact hd.lv)
              have hO2 := hide (hOpn.out.mono (fun e w' hh => (show (∃ j2 rv, e = .returned (.tuple #[.pointer (some ⟨j2, 0, none⟩), .int .i64 0]) ∧ JrAt HH w' w8.heap.size j2 b rv is false) ∧ (∀ r ∈ is, r.size ≤ 65536) ∧ is.length ≤ 6000 ∧ Below B w8 w' ∧ Tch b db vb w8 w' from by
                obtain ⟨_, g2, g3, g4⟩ := hh
                rcases g4 with ⟨g5, _⟩ | ⟨rs2, jb2, rv, _, g6, ⟨k2, g7⟩, g8, g9⟩
                · rw [hj] at g5
                  cases g5
                · rw [hj] at g6
                  cases g6
                  have hs := RW.ldL_sound' HH (RW.sha_len RW.k0F) g7
                  have h1 := RW.stos_ge HH is RW.z32
                  have h2 := hvl7.out
                  exact ⟨⟨jb2, rv, g8, g9⟩, hs.2.2.2.2, by have := hs.2.1; have := hs.2.2.1; omega, g3, g2⟩)))
              clear hj hF hOpn hdo hcase
              obtain ⟨il, hile⟩ : ∃ il, il = is.length := ⟨_, rfl⟩
              have hilH := hide hile
              clear hile
              go_upto_region 27 with (go_at_call 26; refine hO2.out.mono ?_; rintro e w9 ⟨⟨j2, rv9, rfl, h3⟩, h4, h5, h6, h7⟩; have hJ9 := hide h3; have hiz := hide h4; have hil6 := hide (show il ≤ 6000 by rw [hilH.out]; exact h5); have hB9 := hide (hJ8.out.bel.trans h6); have hu9 := hide (own_tchJ hu8.out hJ8.out (.of_tch h7)); clear h3 h4 h5 h6 h7)
              clear hO2 hJ8 hu8
              have hBs := hide (show B ≤ w9.heap.size by rw [hBH.out]; exact hB9.out.size)
              have hRc9 := hide (records_any w8.heap.size b j2 rv9 is false (by have := hil6.out; have := hilH.out; omega) w9 hJ9.out)
              go_upto_region 28 with (go_at_call 20; refine hRc9.out.mono ?_; rintro e wq ⟨ui, rfl, h3, h4⟩; obtain ⟨ia, ic, eui⟩ := own_shape h3; rw [← hilH.out] at eui; subst eui; have hi10 := hide (own_base h3 hBs.out); have hu10 := hide (own_keep hu9.out fun g hg => h4.block g (own_blk hu9.out hg).2.1); have hB10 := hide (hB9.out.trans (h4.mono hBs.out)); clear h3 h4)
              clear hRc9 hJ9 hB9 hu9 hBs
              obtain ⟨w10, hw10⟩ : ∃ wo, wo = wq := ⟨_, rfl⟩
              subst hw10
              obtain ⟨q, hq⟩ : ∃ c : Bool, c = decide (cb = 0 ∧ il < rl ∧ is = rs.take il) := ⟨_, rfl⟩
              have hqQ := hide hq
              clear hq
              have hcap := row_cap (strs_own hu10.out)
              have hSm := hide (fun (h : il < rl) => same20_any (.slice ia il ic) (.slice ua il uc) is (rs.take il) w10 (strs_own hi10.out) (strs_first (strs_own hu10.out) (by rw [← hrlH.out]; omega)) (by have := hil6.out; have := hilH.out; omega) (by rw [List.length_take]; have := hil6.out; omega))
              go_cut [20] (fun s wx => s = .bool q ∧ Below B w1 wx ∧ StrsOwn wx B (.slice ia il ic) is ∧ StrsOwn wx B (.slice ua rl uc) rs)
              case first =>
                by_cases h1 : cb = 0
                · have q1 : ((cb.toNat : Int) == 0) = true := by rw [h1]; rfl
                  have h1H := hide h1
                  clear h1
                  by_cases h2 : il < rl
                  · have h2i : (il : Int) < (rl : Int) := by omega
                    have b1 : (il : Int) ≤ (uc : Int) := by omega
                    have b2 : il ≤ uc := by omega
                    have hSm2 := hide (hSm.out h2)
                    go_wp2_with (go_at_call 19; refine hSm2.out.mono ?_; rintro e w11 ⟨rfl, h5⟩; have hB11 := hide (hB10.out.trans (h5.mono (by rw [hBH.out]; exact hB10.out.size))); have hi11 := hide (own_keep hi10.out fun g hg => h5.block g (own_blk hi10.out hg).2.1); have hu11 := hide (own_keep hu10.out fun g hg => h5.block g (own_blk hu10.out hg).2.1); clear h5)
                    all_goals go_meet
                    all_goals exact ⟨by rw [hqQ.out]; simp [h1H.out, h2], hB11.out, hi11.out, hu11.out⟩
                  · have h2i : ¬ (il : Int) < (rl : Int) := by omega
                    go_wp2
                    all_goals go_meet
                    all_goals exact ⟨by rw [hqQ.out]; simp [h2], hB10.out, hi10.out, hu10.out⟩
                · have q1 : ((cb.toNat : Int) == 0) = false := by
                    simp only [beq_eq_false_iff_ne, ne_eq]
                    intro e
                    exact h1 (UInt8.toNat_inj.1 (by show cb.toNat = 0; omega))
                  have h1H := hide h1
                  clear h1
                  go_wp2
                  all_goals go_meet
                  all_goals exact ⟨by rw [hqQ.out]; simp [h1H.out], hB10.out, hi10.out, hu10.out⟩
              case rest =>
              obtain ⟨rfl, g1, g2, g3⟩ := hcut
              have hB11 := hide g1
              have hi11 := hide g2
              have hu11 := hide g3
              clear g1 g2 g3 hi10 hu10 hB10 hSm hcap
              cases q
              case true =>
                go_wp2
                go_ret
                exact ⟨rfl, hB1H.out.trans (hB11.out.mono hwB.out)⟩
              case false =>
                obtain ⟨i0, X, Y, hX, hY, hXY, hHXY⟩ : ∃ (i0 : Nat) (X Y : ByteArray), (RW.hssB HH rs)[i0]? = some X ∧ (RW.hssB HH is)[i0]? = some Y ∧ X ≠ Y ∧ RW.sha RW.k0F X.data.toList = RW.sha RW.k0F Y.data.toList := by
                  rcases hFH.out with ⟨h1, h2, h3⟩ | ⟨i0, x, y, hx, hy, hne, heq⟩
                  · exact absurd ⟨h1, by rw [hilH.out, hrlH.out]; exact h2, by rw [hilH.out]; exact h3⟩ (of_decide_eq_false hqQ.out.symm)
                  · exact ⟨i0, RW.strOf x, RW.strOf y, by unfold RW.hssB; rw [List.getElem?_map, hx]; rfl, by unfold RW.hssB; rw [List.getElem?_map, hy]; rfl, fun e => hne (by rw [← RW.strOf_list x, ← RW.strOf_list y, e]), by rw [RW.strOf_list, RW.strOf_list]; exact heq⟩
                have hi0r := hide (show i0 < rl by have h1 := (List.getElem?_eq_some_iff.1 hX).1; rw [RW.hssB_len, ← hrlH.out] at h1; exact h1)
                have hi0i := hide (show i0 < il by have h1 := (List.getElem?_eq_some_iff.1 hY).1; rw [RW.hssB_len, ← hilH.out] at h1; exact h1)
                have hX := hide hX
                have hY := hide hY
                have hXY := hide hXY
                have hHXY := hide hHXY
                have hHs1 := hide (fun W (h : StrsOwn W B (.slice ua rl uc) rs) => heads_any (.slice ua rl uc) rs W (strs_own h) (by have := hrl.out; omega) hrsz.out)
                have hHs2 := hide (fun W (h : StrsOwn W B (.slice ia il ic) is) => heads_any (.slice ia il ic) is W (strs_own h) (by have := hil6.out; have := hilH.out; omega) hiz.out)
                have hBle := hide (fun W (h : Below B w1 W) => (show B ≤ W.heap.size by rw [hBH.out]; exact h.size))
                go_upto_region 32 with (go_at_call 28; refine (hHs1.out _ hu11.out).mono ?_; rintro e wa ⟨va, rfl, h3, h4⟩; obtain ⟨aa, ac, eva⟩ := own_shape h3; rw [RW.hssB_len, ← hrlH.out] at eva; subst eva; have ha12 := hide (own_base h3 (hBle.out _ hB11.out)); have hi12 := hide (own_keep hi11.out fun g hg => h4.block g (own_blk hi11.out hg).2.1); have hB12 := hide (hB11.out.trans (h4.mono (hBle.out _ hB11.out))); clear h3 h4)
                go_wp2_with (go_at_call 28; refine (hHs2.out _ hi12.out).mono ?_; rintro e wb ⟨vb2, rfl, h3, h4⟩; obtain ⟨ba, bc, evb⟩ := own_shape h3; rw [RW.hssB_len, ← hilH.out] at evb; subst evb; have hb13 := hide (own_base h3 (hBle.out _ hB12.out)); have ha13 := hide (own_keep ha12.out fun g hg => h4.block g (own_blk ha12.out hg).2.1); have hB13 := hide (hB12.out.trans (h4.mono (hBle.out _ hB12.out))); clear h3 h4)
                clear hHs1 hHs2 hi11 hu11 hB11 ha12 hi12 hB12
                have hrl9 := hide (show rl = (RW.hssB HH rs).length by rw [RW.hssB_len]; exact hrlH.out)
                have hil9 := hide (show il = (RW.hssB HH is).length by rw [RW.hssB_len]; exact hilH.out)
                go_loopw [23] (fun i wr => ∃ (j : Nat), i = .int .i64 j ∧ j ≤ i0 ∧ Hid (Below wb.heap.size wb wr)) (fun i _ => i0 + 1 - (intOf i).toNat)
                case atStart => exact ⟨0, rfl, Nat.zero_le _, hide (Below.refl _ _)⟩
                case round =>
                  obtain ⟨j, rfl, hj, hQ⟩ := hrel
                  obtain ⟨wo, hwo⟩ : ∃ wo, wo = wr := ⟨_, rfl⟩
                  subst hwo
                  have hjr : j < rl := by have := hi0r.out; omega
                  have hji : j < il := by have := hi0i.out; omega
                  have hjb : (j : Int) ≤ 100 := by have := hrl.out; have := hrlH.out; omega
                  obtain ⟨x, hx⟩ : ∃ r, (RW.hssB HH rs)[j]? = some r := ⟨_, List.getElem?_eq_getElem (by rw [← hrl9.out]; exact hjr)⟩
                  obtain ⟨y, hy⟩ : ∃ r, (RW.hssB HH is)[j]? = some r := ⟨_, List.getElem?_eq_getElem (by rw [← hil9.out]; exact hji)⟩
                  obtain ⟨g0, o0, ac', e', hcx⟩ := strR_cell (W' := wo) (by have h := strs_own ha13.out; rw [hrl9.out] at h; exact h) hx
                  cases e'
                  obtain ⟨g1, o1, bc', e', hcy⟩ := strR_cell (W' := wo) (by have h := strs_own hb13.out; rw [hil9.out] at h; exact h) hy
                  cases e'
                  have hcx := hide hcx
                  have hcy := hide hcy
                  have hsx := RW.hssB_size (RW.sha_len RW.k0F) rs hrsz.out x (List.mem_of_getElem? hx)
                  have hsy := RW.hssB_size (RW.sha_len RW.k0F) is hiz.out y (List.mem_of_getElem? hy)
                  have hSx := hide (fun W => rsum_any x (by omega) W)
                  have hSy := hide (fun W => rsum_any y (by omega) W)
                  have hat0 := hide (fun (h : j = i0) => (show x = X ∧ y = Y from by
                    subst h
                    have h1 := hX.out
                    have h2 := hY.out
                    rw [hx] at h1
                    rw [hy] at h2
                    exact ⟨Option.some.inj h1, Option.some.inj h2⟩))
                  obtain ⟨SX, hSX⟩ : ∃ S : ByteArray, S = ⟨(RW.sha RW.k0F x.data.toList).toArray⟩ := ⟨_, rfl⟩
                  obtain ⟨SY, hSY⟩ : ∃ S : ByteArray, S = ⟨(RW.sha RW.k0F y.data.toList).toArray⟩ := ⟨_, rfl⟩
                  rw [← hSX] at hSx
                  rw [← hSY] at hSy
                  have hSXY := hide (show RW.sha RW.k0F x.data.toList = RW.sha RW.k0F y.data.toList → SX = SY from fun h => by rw [hSX, hSY, h])
                  have hBQ := hide hQ.out
                  clear hx hy hsx hsy hSX hSY hQ
                  go_upto_region 36 with fail
                  by_cases hxy : x = y
                  · have hjn := hide (show j ≠ i0 from fun h => hXY.out (by rw [← (hat0.out h).1, ← (hat0.out h).2, hxy]))
                    refine wp_region_k (fun _ W => Below wb.heap.size wb W) (fun _ => True) [] (.op 0 (.op 1 (.op 2 (.op 3 (.op 4 (.op 5 (.op 6 (.op 7 (.op 8 (.op 9 (.op 10 (.op 11 (.op 12 (.op 13 (.op 14 (.op 15 (.op 16 (.op 17 (.op 18 (.op 19 (.op 20 (.op 21 .nil)))))))))))))))))))))) (by kernel_rfl) (by kernel_rfl) (by rfl) (by kernel_rfl) hBQ.out.drew trivial ?_
                    refine k_val (.slice (some ⟨g0, o0, none⟩) rl ac) (by apply opN; repeat' (first | apply OpAt.z | apply OpAt.s)) (by rfl) (by rfl) (fun _ W hS => op_mv rfl rfl) ?_
                    simp only [Act.put, List.setIfInBounds_toArray, List.set_cons_zero, List.set_cons_succ]
                    refine k_val (.int .i64 (j : Int)) (by apply opN; repeat' (first | apply OpAt.z | apply OpAt.s)) (by rfl) (by rfl) (fun _ W hS => op_mv rfl rfl) ?_
                    simp only [Act.put, List.setIfInBounds_toArray, List.set_cons_zero, List.set_cons_succ]
                    refine k_val (.pointer (some ⟨g0, o0 + j, none⟩)) (by apply opN; repeat' (first | apply OpAt.z | apply OpAt.s)) (by rfl) (by rfl) (fun _ W hS => op_idx_s rfl rfl rfl hjr) ?_
                    simp only [Act.put, List.setIfInBounds_toArray, List.set_cons_zero, List.set_cons_succ]
                    refine k_val (.string x) (by apply opN; repeat' (first | apply OpAt.z | apply OpAt.s)) (by rfl) (by rfl) (fun _ W hS => op_ld rfl rfl (str_ld (hcx.out W hS))) ?_
                    simp only [Act.put, List.setIfInBounds_toArray, List.set_cons_zero, List.set_cons_succ]
                    refine k_val (.slice (some ⟨g1, o1, none⟩) il bc) (by apply opN; repeat' (first | apply OpAt.z | apply OpAt.s)) (by rfl) (by rfl) (fun _ W hS => op_mv rfl rfl) ?_
                    simp only [Act.put, List.setIfInBounds_toArray, List.set_cons_zero, List.set_cons_succ]
                    refine k_val (.int .i64 (j : Int)) (by apply opN; repeat' (first | apply OpAt.z | apply OpAt.s)) (by rfl) (by rfl) (fun _ W hS => op_mv rfl rfl) ?_
                    simp only [Act.put, List.setIfInBounds_toArray, List.set_cons_zero, List.set_cons_succ]
                    refine k_val (.pointer (some ⟨g1, o1 + j, none⟩)) (by apply opN; repeat' (first | apply OpAt.z | apply OpAt.s)) (by rfl) (by rfl) (fun _ W hS => op_idx_s rfl rfl rfl hji) ?_
                    simp only [Act.put, List.setIfInBounds_toArray, List.set_cons_zero, List.set_cons_succ]
                    refine k_val (.string y) (by apply opN; repeat' (first | apply OpAt.z | apply OpAt.s)) (by rfl) (by rfl) (fun _ W hS => op_ld rfl rfl (str_ld (hcy.out W hS))) ?_
                    simp only [Act.put, List.setIfInBounds_toArray, List.set_cons_zero, List.set_cons_succ]
                    refine k_val (.bool false) (by apply opN; repeat' (first | apply OpAt.z | apply OpAt.s)) (by rfl) (by rfl) (fun _ W hS => op_neqs rfl rfl rfl (by rw [decide_eq_true hxy]; rfl)) ?_
                    simp only [Act.put, List.setIfInBounds_toArray, List.set_cons_zero, List.set_cons_succ]
                    refine k_val (.bool false) (by apply opN; repeat' (first | apply OpAt.z | apply OpAt.s)) (by rfl) (by rfl) (fun _ W hS => op_mv rfl rfl) ?_
                    simp only [Act.put, List.setIfInBounds_toArray, List.set_cons_zero, List.set_cons_succ]
                    refine k_skip (by apply opN; repeat' (first | apply OpAt.z | apply OpAt.s)) (by rfl) (by rfl) ?_
                    simp only [Act.put, List.setIfInBounds_toArray, List.set_cons_zero, List.set_cons_succ]
                    refine k_skip (by apply opN; repeat' (first | apply OpAt.z | apply OpAt.s)) (by rfl) (by rfl) ?_
                    simp only [Act.put, List.setIfInBounds_toArray, List.set_cons_zero, List.set_cons_succ]
                    refine k_skip (by apply opN; repeat' (first | apply OpAt.z | apply OpAt.s)) (by rfl) (by rfl) ?_
                    simp only [Act.put, List.setIfInBounds_toArray, List.set_cons_zero, List.set_cons_succ]
                    refine k_skip (by apply opN; repeat' (first | apply OpAt.z | apply OpAt.s)) (by rfl) (by rfl) ?_
                    simp only [Act.put, List.setIfInBounds_toArray, List.set_cons_zero, List.set_cons_succ]
                    refine k_skip (by apply opN; repeat' (first | apply OpAt.z | apply OpAt.s)) (by rfl) (by rfl) ?_
                    simp only [Act.put, List.setIfInBounds_toArray, List.set_cons_zero, List.set_cons_succ]
                    refine k_skip (by apply opN; repeat' (first | apply OpAt.z | apply OpAt.s)) (by rfl) (by rfl) ?_
                    simp only [Act.put, List.setIfInBounds_toArray, List.set_cons_zero, List.set_cons_succ]
                    refine k_skip (by apply opN; repeat' (first | apply OpAt.z | apply OpAt.s)) (by rfl) (by rfl) ?_
                    simp only [Act.put, List.setIfInBounds_toArray, List.set_cons_zero, List.set_cons_succ]
                    refine k_skip (by apply opN; repeat' (first | apply OpAt.z | apply OpAt.s)) (by rfl) (by rfl) ?_
                    simp only [Act.put, List.setIfInBounds_toArray, List.set_cons_zero, List.set_cons_succ]
                    refine k_skip (by apply opN; repeat' (first | apply OpAt.z | apply OpAt.s)) (by rfl) (by rfl) ?_
                    simp only [Act.put, List.setIfInBounds_toArray, List.set_cons_zero, List.set_cons_succ]
                    refine k_skip (by apply opN; repeat' (first | apply OpAt.z | apply OpAt.s)) (by rfl) (by rfl) ?_
                    simp only [Act.put, List.setIfInBounds_toArray, List.set_cons_zero, List.set_cons_succ]
                    refine k_skip (by apply opN; repeat' (first | apply OpAt.z | apply OpAt.s)) (by rfl) (by rfl) ?_
                    simp only [Act.put, List.setIfInBounds_toArray, List.set_cons_zero, List.set_cons_succ]
                    refine k_val (.bool false) (by apply opN; repeat' (first | apply OpAt.z | apply OpAt.s)) (by rfl) (by rfl) (fun _ W hS => op_pk rfl rfl rfl rfl rfl) ?_
                    simp only [Act.put, List.setIfInBounds_toArray, List.set_cons_zero, List.set_cons_succ]
                    refine k_nil ?_
                    intro W' hCW _
                    have hCW := hide hCW
                    clear hxy
                    go_wp2
                    go_roundw
                    case rel => exact ⟨j + 1, by go_num, by have := hjn.out; omega, hCW⟩
                    case measure => simp [intOf]; omega
                  · by_cases hss : SX = SY
                    · refine wp_region_k (fun _ W => Below wb.heap.size wb W) (fun _ => True) [14, 19] (.op 0 (.op 1 (.op 2 (.op 3 (.op 4 (.op 5 (.op 6 (.op 7 (.op 8 (.op 9 (.op 10 (.op 11 (.op 12 (.op 13 (.op 15 (.op 16 (.op 17 (.op 18 (.op 14 (.op 19 (.op 20 (.op 21 .nil)))))))))))))))))))))) (by kernel_rfl) (by kernel_rfl) (by rfl) (by kernel_rfl) hBQ.out.drew trivial ?_
                      refine k_val (.slice (some ⟨g0, o0, none⟩) rl ac) (by apply opN; repeat' (first | apply OpAt.z | apply OpAt.s)) (by rfl) (by rfl) (fun _ W hS => op_mv rfl rfl) ?_
                      simp only [Act.put, List.setIfInBounds_toArray, List.set_cons_zero, List.set_cons_succ]
                      refine k_val (.int .i64 (j : Int)) (by apply opN; repeat' (first | apply OpAt.z | apply OpAt.s)) (by rfl) (by rfl) (fun _ W hS => op_mv rfl rfl) ?_
                      simp only [Act.put, List.setIfInBounds_toArray, List.set_cons_zero, List.set_cons_succ]
                      refine k_val (.pointer (some ⟨g0, o0 + j, none⟩)) (by apply opN; repeat' (first | apply OpAt.z | apply OpAt.s)) (by rfl) (by rfl) (fun _ W hS => op_idx_s rfl rfl rfl hjr) ?_
                      simp only [Act.put, List.setIfInBounds_toArray, List.set_cons_zero, List.set_cons_succ]
                      refine k_val (.string x) (by apply opN; repeat' (first | apply OpAt.z | apply OpAt.s)) (by rfl) (by rfl) (fun _ W hS => op_ld rfl rfl (str_ld (hcx.out W hS))) ?_
                      simp only [Act.put, List.setIfInBounds_toArray, List.set_cons_zero, List.set_cons_succ]
                      refine k_val (.slice (some ⟨g1, o1, none⟩) il bc) (by apply opN; repeat' (first | apply OpAt.z | apply OpAt.s)) (by rfl) (by rfl) (fun _ W hS => op_mv rfl rfl) ?_
                      simp only [Act.put, List.setIfInBounds_toArray, List.set_cons_zero, List.set_cons_succ]
                      refine k_val (.int .i64 (j : Int)) (by apply opN; repeat' (first | apply OpAt.z | apply OpAt.s)) (by rfl) (by rfl) (fun _ W hS => op_mv rfl rfl) ?_
                      simp only [Act.put, List.setIfInBounds_toArray, List.set_cons_zero, List.set_cons_succ]
                      refine k_val (.pointer (some ⟨g1, o1 + j, none⟩)) (by apply opN; repeat' (first | apply OpAt.z | apply OpAt.s)) (by rfl) (by rfl) (fun _ W hS => op_idx_s rfl rfl rfl hji) ?_
                      simp only [Act.put, List.setIfInBounds_toArray, List.set_cons_zero, List.set_cons_succ]
                      refine k_val (.string y) (by apply opN; repeat' (first | apply OpAt.z | apply OpAt.s)) (by rfl) (by rfl) (fun _ W hS => op_ld rfl rfl (str_ld (hcy.out W hS))) ?_
                      simp only [Act.put, List.setIfInBounds_toArray, List.set_cons_zero, List.set_cons_succ]
                      refine k_val (.bool true) (by apply opN; repeat' (first | apply OpAt.z | apply OpAt.s)) (by rfl) (by rfl) (fun _ W hS => op_neqs rfl rfl rfl (by rw [decide_eq_false hxy]; rfl)) ?_
                      simp only [Act.put, List.setIfInBounds_toArray, List.set_cons_zero, List.set_cons_succ]
                      refine k_val (.bool true) (by apply opN; repeat' (first | apply OpAt.z | apply OpAt.s)) (by rfl) (by rfl) (fun _ W hS => op_mv rfl rfl) ?_
                      simp only [Act.put, List.setIfInBounds_toArray, List.set_cons_zero, List.set_cons_succ]
                      refine k_val (.slice (some ⟨g0, o0, none⟩) rl ac) (by apply opN; repeat' (first | apply OpAt.z | apply OpAt.s)) (by rfl) (by rfl) (fun _ W hS => op_mv rfl rfl) ?_
                      simp only [Act.put, List.setIfInBounds_toArray, List.set_cons_zero, List.set_cons_succ]
                      refine k_val (.int .i64 (j : Int)) (by apply opN; repeat' (first | apply OpAt.z | apply OpAt.s)) (by rfl) (by rfl) (fun _ W hS => op_mv rfl rfl) ?_
                      simp only [Act.put, List.setIfInBounds_toArray, List.set_cons_zero, List.set_cons_succ]
                      refine k_val (.pointer (some ⟨g0, o0 + j, none⟩)) (by apply opN; repeat' (first | apply OpAt.z | apply OpAt.s)) (by rfl) (by rfl) (fun _ W hS => op_idx_s rfl rfl rfl hjr) ?_
                      simp only [Act.put, List.setIfInBounds_toArray, List.set_cons_zero, List.set_cons_succ]
                      refine k_val (.string x) (by apply opN; repeat' (first | apply OpAt.z | apply OpAt.s)) (by rfl) (by rfl) (fun _ W hS => op_ld rfl rfl (str_ld (hcx.out W hS))) ?_
                      simp only [Act.put, List.setIfInBounds_toArray, List.set_cons_zero, List.set_cons_succ]
                      refine k_val (.slice (some ⟨g1, o1, none⟩) il bc) (by apply opN; repeat' (first | apply OpAt.z | apply OpAt.s)) (by rfl) (by rfl) (fun _ W hS => op_mv rfl rfl) ?_
                      simp only [Act.put, List.setIfInBounds_toArray, List.set_cons_zero, List.set_cons_succ]
                      refine k_val (.int .i64 (j : Int)) (by apply opN; repeat' (first | apply OpAt.z | apply OpAt.s)) (by rfl) (by rfl) (fun _ W hS => op_mv rfl rfl) ?_
                      simp only [Act.put, List.setIfInBounds_toArray, List.set_cons_zero, List.set_cons_succ]
                      refine k_val (.pointer (some ⟨g1, o1 + j, none⟩)) (by apply opN; repeat' (first | apply OpAt.z | apply OpAt.s)) (by rfl) (by rfl) (fun _ W hS => op_idx_s rfl rfl rfl hji) ?_
                      simp only [Act.put, List.setIfInBounds_toArray, List.set_cons_zero, List.set_cons_succ]
                      refine k_val (.string y) (by apply opN; repeat' (first | apply OpAt.z | apply OpAt.s)) (by rfl) (by rfl) (fun _ W hS => op_ld rfl rfl (str_ld (hcy.out W hS))) ?_
                      simp only [Act.put, List.setIfInBounds_toArray, List.set_cons_zero, List.set_cons_succ]
                      refine k_step (fun K' u => u = .string SX ∧ K' = fun _ => True) (by apply opN; repeat' (first | apply OpAt.z | apply OpAt.s)) (by rfl) (by rfl) (by rfl) (fun W hC hK => ?_) ?_
                      · refine op_x1 (n := .string x) rfl rfl rfl cf_rsum23 ?_
                        refine (hSx.out W).mono ?_
                        rintro e w' ⟨rfl, h4⟩
                        exact ⟨_, rfl, hC.trans (h4.mono hC.size), _, trivial, rfl, rfl⟩
                      rintro _ _ ⟨rfl, rfl⟩
                      simp only [Act.put, List.setIfInBounds_toArray, List.set_cons_zero, List.set_cons_succ]
                      refine k_step (fun K' u => u = .string SY ∧ K' = fun _ => True) (by apply opN; repeat' (first | apply OpAt.z | apply OpAt.s)) (by rfl) (by rfl) (by rfl) (fun W hC hK => ?_) ?_
                      · refine op_x1 (n := .string y) rfl rfl rfl cf_rsum23 ?_
                        refine (hSy.out W).mono ?_
                        rintro e w' ⟨rfl, h4⟩
                        exact ⟨_, rfl, hC.trans (h4.mono hC.size), _, trivial, rfl, rfl⟩
                      rintro _ _ ⟨rfl, rfl⟩
                      simp only [Act.put, List.setIfInBounds_toArray, List.set_cons_zero, List.set_cons_succ]
                      refine k_val (.bool true) (by apply opN; repeat' (first | apply OpAt.z | apply OpAt.s)) (by rfl) (by rfl) (fun _ W hS => op_eqstJ rfl rfl rfl (decide_eq_true hss)) ?_
                      simp only [Act.put, List.setIfInBounds_toArray, List.set_cons_zero, List.set_cons_succ]
                      refine k_val (.bool true) (by apply opN; repeat' (first | apply OpAt.z | apply OpAt.s)) (by rfl) (by rfl) (fun _ W hS => op_pk rfl rfl rfl rfl rfl) ?_
                      simp only [Act.put, List.setIfInBounds_toArray, List.set_cons_zero, List.set_cons_succ]
                      refine k_nil ?_
                      intro W' hCW _
                      have hCW := hide hCW
                      clear hxy hss
                      go_wp2
                      go_ret
                      exact ⟨rfl, hB1H.out.trans ((hB13.out.trans (hCW.out.mono (hBle.out _ hB13.out))).mono hwB.out)⟩
                    · have hjn := hide (show j ≠ i0 from fun h => hss (hSXY.out (by rw [(hat0.out h).1, (hat0.out h).2]; exact hHXY.out)))
                      refine wp_region_k (fun _ W => Below wb.heap.size wb W) (fun _ => True) [14, 19] (.op 0 (.op 1 (.op 2 (.op 3 (.op 4 (.op 5 (.op 6 (.op 7 (.op 8 (.op 9 (.op 10 (.op 11 (.op 12 (.op 13 (.op 15 (.op 16 (.op 17 (.op 18 (.op 14 (.op 19 (.op 20 (.op 21 .nil)))))))))))))))))))))) (by kernel_rfl) (by kernel_rfl) (by rfl) (by kernel_rfl) hBQ.out.drew trivial ?_
                      refine k_val (.slice (some ⟨g0, o0, none⟩) rl ac) (by apply opN; repeat' (first | apply OpAt.z | apply OpAt.s)) (by rfl) (by rfl) (fun _ W hS => op_mv rfl rfl) ?_
                      simp only [Act.put, List.setIfInBounds_toArray, List.set_cons_zero, List.set_cons_succ]
                      refine k_val (.int .i64 (j : Int)) (by apply opN; repeat' (first | apply OpAt.z | apply OpAt.s)) (by rfl) (by rfl) (fun _ W hS => op_mv rfl rfl) ?_
                      simp only [Act.put, List.setIfInBounds_toArray, List.set_cons_zero, List.set_cons_succ]
                      refine k_val (.pointer (some ⟨g0, o0 + j, none⟩)) (by apply opN; repeat' (first | apply OpAt.z | apply OpAt.s)) (by rfl) (by rfl) (fun _ W hS => op_idx_s rfl rfl rfl hjr) ?_
                      simp only [Act.put, List.setIfInBounds_toArray, List.set_cons_zero, List.set_cons_succ]
                      refine k_val (.string x) (by apply opN; repeat' (first | apply OpAt.z | apply OpAt.s)) (by rfl) (by rfl) (fun _ W hS => op_ld rfl rfl (str_ld (hcx.out W hS))) ?_
                      simp only [Act.put, List.setIfInBounds_toArray, List.set_cons_zero, List.set_cons_succ]
                      refine k_val (.slice (some ⟨g1, o1, none⟩) il bc) (by apply opN; repeat' (first | apply OpAt.z | apply OpAt.s)) (by rfl) (by rfl) (fun _ W hS => op_mv rfl rfl) ?_
                      simp only [Act.put, List.setIfInBounds_toArray, List.set_cons_zero, List.set_cons_succ]
                      refine k_val (.int .i64 (j : Int)) (by apply opN; repeat' (first | apply OpAt.z | apply OpAt.s)) (by rfl) (by rfl) (fun _ W hS => op_mv rfl rfl) ?_
                      simp only [Act.put, List.setIfInBounds_toArray, List.set_cons_zero, List.set_cons_succ]
                      refine k_val (.pointer (some ⟨g1, o1 + j, none⟩)) (by apply opN; repeat' (first | apply OpAt.z | apply OpAt.s)) (by rfl) (by rfl) (fun _ W hS => op_idx_s rfl rfl rfl hji) ?_
                      simp only [Act.put, List.setIfInBounds_toArray, List.set_cons_zero, List.set_cons_succ]
                      refine k_val (.string y) (by apply opN; repeat' (first | apply OpAt.z | apply OpAt.s)) (by rfl) (by rfl) (fun _ W hS => op_ld rfl rfl (str_ld (hcy.out W hS))) ?_
                      simp only [Act.put, List.setIfInBounds_toArray, List.set_cons_zero, List.set_cons_succ]
                      refine k_val (.bool true) (by apply opN; repeat' (first | apply OpAt.z | apply OpAt.s)) (by rfl) (by rfl) (fun _ W hS => op_neqs rfl rfl rfl (by rw [decide_eq_false hxy]; rfl)) ?_
                      simp only [Act.put, List.setIfInBounds_toArray, List.set_cons_zero, List.set_cons_succ]
                      refine k_val (.bool true) (by apply opN; repeat' (first | apply OpAt.z | apply OpAt.s)) (by rfl) (by rfl) (fun _ W hS => op_mv rfl rfl) ?_
                      simp only [Act.put, List.setIfInBounds_toArray, List.set_cons_zero, List.set_cons_succ]
                      refine k_val (.slice (some ⟨g0, o0, none⟩) rl ac) (by apply opN; repeat' (first | apply OpAt.z | apply OpAt.s)) (by rfl) (by rfl) (fun _ W hS => op_mv rfl rfl) ?_
                      simp only [Act.put, List.setIfInBounds_toArray, List.set_cons_zero, List.set_cons_succ]
                      refine k_val (.int .i64 (j : Int)) (by apply opN; repeat' (first | apply OpAt.z | apply OpAt.s)) (by rfl) (by rfl) (fun _ W hS => op_mv rfl rfl) ?_
                      simp only [Act.put, List.setIfInBounds_toArray, List.set_cons_zero, List.set_cons_succ]
                      refine k_val (.pointer (some ⟨g0, o0 + j, none⟩)) (by apply opN; repeat' (first | apply OpAt.z | apply OpAt.s)) (by rfl) (by rfl) (fun _ W hS => op_idx_s rfl rfl rfl hjr) ?_
                      simp only [Act.put, List.setIfInBounds_toArray, List.set_cons_zero, List.set_cons_succ]
                      refine k_val (.string x) (by apply opN; repeat' (first | apply OpAt.z | apply OpAt.s)) (by rfl) (by rfl) (fun _ W hS => op_ld rfl rfl (str_ld (hcx.out W hS))) ?_
                      simp only [Act.put, List.setIfInBounds_toArray, List.set_cons_zero, List.set_cons_succ]
                      refine k_val (.slice (some ⟨g1, o1, none⟩) il bc) (by apply opN; repeat' (first | apply OpAt.z | apply OpAt.s)) (by rfl) (by rfl) (fun _ W hS => op_mv rfl rfl) ?_
                      simp only [Act.put, List.setIfInBounds_toArray, List.set_cons_zero, List.set_cons_succ]
                      refine k_val (.int .i64 (j : Int)) (by apply opN; repeat' (first | apply OpAt.z | apply OpAt.s)) (by rfl) (by rfl) (fun _ W hS => op_mv rfl rfl) ?_
                      simp only [Act.put, List.setIfInBounds_toArray, List.set_cons_zero, List.set_cons_succ]
                      refine k_val (.pointer (some ⟨g1, o1 + j, none⟩)) (by apply opN; repeat' (first | apply OpAt.z | apply OpAt.s)) (by rfl) (by rfl) (fun _ W hS => op_idx_s rfl rfl rfl hji) ?_
                      simp only [Act.put, List.setIfInBounds_toArray, List.set_cons_zero, List.set_cons_succ]
                      refine k_val (.string y) (by apply opN; repeat' (first | apply OpAt.z | apply OpAt.s)) (by rfl) (by rfl) (fun _ W hS => op_ld rfl rfl (str_ld (hcy.out W hS))) ?_
                      simp only [Act.put, List.setIfInBounds_toArray, List.set_cons_zero, List.set_cons_succ]
                      refine k_step (fun K' u => u = .string SX ∧ K' = fun _ => True) (by apply opN; repeat' (first | apply OpAt.z | apply OpAt.s)) (by rfl) (by rfl) (by rfl) (fun W hC hK => ?_) ?_
                      · refine op_x1 (n := .string x) rfl rfl rfl cf_rsum23 ?_
                        refine (hSx.out W).mono ?_
                        rintro e w' ⟨rfl, h4⟩
                        exact ⟨_, rfl, hC.trans (h4.mono hC.size), _, trivial, rfl, rfl⟩
                      rintro _ _ ⟨rfl, rfl⟩
                      simp only [Act.put, List.setIfInBounds_toArray, List.set_cons_zero, List.set_cons_succ]
                      refine k_step (fun K' u => u = .string SY ∧ K' = fun _ => True) (by apply opN; repeat' (first | apply OpAt.z | apply OpAt.s)) (by rfl) (by rfl) (by rfl) (fun W hC hK => ?_) ?_
                      · refine op_x1 (n := .string y) rfl rfl rfl cf_rsum23 ?_
                        refine (hSy.out W).mono ?_
                        rintro e w' ⟨rfl, h4⟩
                        exact ⟨_, rfl, hC.trans (h4.mono hC.size), _, trivial, rfl, rfl⟩
                      rintro _ _ ⟨rfl, rfl⟩
                      simp only [Act.put, List.setIfInBounds_toArray, List.set_cons_zero, List.set_cons_succ]
                      refine k_val (.bool false) (by apply opN; repeat' (first | apply OpAt.z | apply OpAt.s)) (by rfl) (by rfl) (fun _ W hS => op_eqstJ rfl rfl rfl (decide_eq_false hss)) ?_
                      simp only [Act.put, List.setIfInBounds_toArray, List.set_cons_zero, List.set_cons_succ]
                      refine k_val (.bool false) (by apply opN; repeat' (first | apply OpAt.z | apply OpAt.s)) (by rfl) (by rfl) (fun _ W hS => op_pk rfl rfl rfl rfl rfl) ?_
                      simp only [Act.put, List.setIfInBounds_toArray, List.set_cons_zero, List.set_cons_succ]
                      refine k_nil ?_
                      intro W' hCW _
                      have hCW := hide hCW
                      clear hxy hss
                      go_wp2
                      go_roundw
                      case rel => exact ⟨j + 1, by go_num, by have := hjn.out; omega, hCW⟩
                      case measure => simp [intOf]; omega
    · have hjM : j < M := of_decide_eq_true hqH.out.symm
      have hjm : j < m := by have := hMH.out; omega
      clear hqH
      obtain ⟨p, hp⟩ : ∃ p, ps[j]? = some p := ⟨_, List.getElem?_eq_getElem (by rw [← hmH.out]; exact hjm)⟩
      obtain ⟨g0, o0, gc', e', hcell, hpr, hpn⟩ := grp_cell (by have h := (hnx.out wo hJ.out.bel).2.2; rw [hmH.out] at h; exact h) hp
      cases e'
      obtain ⟨pv, pl⟩ := p
      have hF := hide (few_any pv pl wo hpr hpn)
      have hcell' : wo.cell? ⟨g0, o0 + j, none⟩ = some pv := hcell
      obtain ⟨L, hLe⟩ : ∃ L, L = RW.fewL pl := ⟨_, rfl⟩
      have hLl := hide (show L.length ≤ 6 by rw [hLe]; exact RW.fewL_len pl)
      have hLs := hide (show ∀ r ∈ L, r.size ≤ 100 by rw [hLe]; exact RW.fewL_size pl)
      rw [← hLe] at hF
      obtain ⟨S', e1, e2, e3⟩ := RW.japp_fit (RW.sha_len RW.k0F) hI.out h0.out (l := L) (fun r hr => by have := hLs.out r hr; omega) (by
        have h1 : (RW.stos (RW.sha RW.k0F) RW.z32 rs).length ≤ 143 * rs.length := RW.stos_len100 (RW.sha_len RW.k0F) rs RW.z32 hrz.out
        have h2 : (RW.stos (RW.sha RW.k0F) (RW.hds (RW.sha RW.k0F) RW.z32 rs) L).length ≤ 143 * L.length := RW.stos_len100 (RW.sha_len RW.k0F) L _ hLs.out
        have h3 := hrj.out
        have h4 := hLl.out
        omega)
      have e1 := hide e1
      have e2 := hide e2
      have e3 := hide e3
      clear hp hpr hpn hcell hLe
      go_wp2_with (first
        | (go_at_call 12; refine hF.out.mono ?_; rintro e w4 ⟨u, rfl, h3, h4⟩; have hu := hide h3; have hJ4 := hide (hJ.out.next h4); clear h3 h4)
        | (go_at_call 11; refine (hJ4.out.append hks (by rw [hI.out.pend]; decide) hI.out.fits (strs_own hu.out) (by have := hLl.out; omega) (hnx.out _ hJ4.out.bel).1).mono ?_; rintro e w5 ⟨rfl, h2, _, _⟩; rw [e1.out] at h2 ⊢; have hJ5 := hide h2; clear h2))
      go_roundw
      case rel => exact ⟨j + 1, by go_num, by omega, ⟨⟨S', rs ++ L, e2.out, e3.out, by rw [List.length_append]; have := hrj.out; have := hLl.out; omega, (fun r hr => (List.mem_append.1 hr).elim (hrz.out r) (hLs.out r)), hJ5.out⟩⟩⟩
      case measure => simp [intOf]; omega
end Go.Proofs.YtllbphanfahkkaaGreatDoor
