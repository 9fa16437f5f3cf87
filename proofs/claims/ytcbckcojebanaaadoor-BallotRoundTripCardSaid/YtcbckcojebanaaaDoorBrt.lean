/-
  Package royaltylaw25: BallotRoundTrip: it returns true; only new memory is written.
-/
import Derived.Test.YtcbckcojebanaaaDoorBrtQ
import Derived.Test.YtcbckcojebanaaaDoorBox8
namespace Go.Proofs.YtcbckcojebanaaaDoor
open Go.RowKit RG
attribute [local go_sem ↓] ldMsg_msg
set_option maxRecDepth 100000 in
set_option maxHeartbeats 40000000 in
theorem ballotround_any (K : Nat → Int) (ks : Array Value) (hks : RW.WsOk ks K) (a : RW.Min) (vx : Value) (X : List Int) (vy : Value) (Y : List Int) (s : ByteArray) (n : Int) (more : ByteArray)
    (hX : ∀ x ∈ X, RW.i64b x) (hXl : X.length ≤ 9223372036854775807) (hY : ∀ x ∈ Y, RW.i64b x) (hYl : Y.length ≤ 9223372036854775807) (hs : s.size ≤ 9223372036854775807) (hn : -9223372036854775808 ≤ n) (hn2 : n ≤ 9223372036854775807) (hmo : more.size ≤ 9223372036854775807)
    (w : World) (ha : MinIn w a) (hvx : RowV 1 encI w vx X) (hvy : RowV 1 encI w vy Y) (hK : KLaid w ks) :
    Calls Tryd.prog 6 #[.agg (RW.mcells a.n a.d a.v), vx, vy, .string s, .int .i64 n, .string more] w fun e w' => e = .returned (.bool true) ∧ Below w.heap.size w w' := by
  obtain ⟨B, hB⟩ : ∃ B, B = w.heap.size := ⟨_, rfl⟩
  have hBH := hide hB
  obtain ⟨cA, hcA⟩ : ∃ c, c = RW.mcells a.n a.d a.v := ⟨_, rfl⟩
  have hcAH := hide hcA
  rw [← hcA]
  have hzA : (Tryd.prog.info? 24).map (·.size) = some cA.size := by rw [hcA]; exact msg_info _ _ _
  have hA0 := alloc_bel (Below.refl w.heap.size w) (Nat.le_refl _) (.cells cA 24)
  have hM0 : MRows [(B, cA)] w (w.alloc (.cells cA 24)) := by rw [hB]; exact (MRows.nil (Below.refl _ _)).new _
  have hS := hide (bsane_any K ks hks (w.alloc (.cells cA 24)) (bklaid hK hA0))
  have hM0H := hide hM0
  have hKH := hide (fun W (h : Below w.heap.size w W) => bklaid hK h)
  have hvxH := hide (fun W (h : Below w.heap.size w W) => hvx.next h)
  have hvyH := hide (fun W (h : Below w.heap.size w W) => hvy.next h)
  have haH := hide (fun W (h : Below w.heap.size w W) => (strsV_row ha.row).next h)
  have hal := hide ha.ln
  have has := hide ha.sb
  have hXH := hide hX
  have hYH := hide hY
  have hksH := hide hks
  have hzAH := hide hzA
  have hPk := hide (fun (m : Int) (h1 : 1 ≤ m) (h2 : m ≤ 9223372036854775807) (W : World) => pick_any n m hn hn2 h1 h2 W)
  have hsH := hide hs
  have hmoH := hide hmo
  clear hA0 hM0 hK hvx hvy ha hX hY hks hB hcA hzA hn hn2 hs hmo
  go_enter Tryd.func6, Tryd.ntmps6
  go_upto_region 2 with (go_at_call 10; refine hS.out.mono ?_; rintro e w1 ⟨rfl, hB1⟩; have hM1 := hide (hM0H.out.next hB1); clear hB1)
  rw [← hBH.out]
  have hi1 := hide (ids_form vx X hXH.out hXl w1 (hvxH.out _ hM1.out.below))
  clear hS hM0H
  go_upto_region 3 with (go_at_call 25; refine hi1.out.mono ?_; rintro e w2 ⟨⟨a1, c1, L1, rfl, hO1, hA1, hl1⟩, hB2⟩; have hM2 := hide (show MS [(B, cA)] [(.slice a1 L1.length c1, L1)] w w2 from ⟨hM1.out.next hB2, fun p hp => by rw [List.mem_singleton] at hp; rw [hp]; exact hO1⟩); have hA1H := hide hA1; have hl1H := hide hl1; clear hB2 hO1 hA1 hl1)
  have hi2 := hide (ids_form vy Y hYH.out hYl w2 (hvyH.out _ hM2.out.rows.below))
  clear hi1 hM1 hvxH hXH
  go_upto_region 4 with (go_at_call 25; refine hi2.out.mono ?_; rintro e w3 ⟨⟨a2, c2, L2, rfl, hO2, hA2, hl2⟩, hB3⟩; have hM3 := hide ((hM2.out.next hB3).add hO2); have hA2H := hide hA2; have hl2H := hide hl2; clear hB3 hO2 hA2 hl2)
  have hv1 := hide (value_asc (hM3.out.strs (.slice a1 L1.length c1, L1) (by simp)) hA1H.out hl1H.out)
  have hV1s := hide (RW.vlA_size hA1H.out hl1H.out)
  have hVV := hide (RW.vlA_same hA1H.out hA2H.out hl1H.out hl2H.out)
  have hD1 := hide (fun W (h : Below w.heap.size w W) => (show Calls Tryd.prog 39 #[.string (RW.vlA L1)] W fun e w' => e = .returned (.string (RW.shA K L1)) ∧ Below W.heap.size W w' from by
    have := bsum_any (RW.vlA L1) (by have := hV1s.out; omega) K ks hksH.out W (hKH.out W h)
    have e : (RW.vlA L1).data.toList = RW.valL (RW.bl L1) := by unfold RW.vlA; simp
    rw [e] at this
    exact this))
  have hpn := hide (RW.pn_ok K hA1H.out hl1H.out (RW.pickI_bd n 5 (by decide)) (RW.pickI_bd n 9 (by decide)) (RW.pickI_bd n 2 (by decide)))
  obtain ⟨V1, hV1⟩ : ∃ v, v = RW.vlA L1 := ⟨_, rfl⟩
  obtain ⟨V2, hV2⟩ : ∃ v, v = RW.vlA L2 := ⟨_, rfl⟩
  obtain ⟨D1, hDe⟩ : ∃ v, v = RW.shA K L1 := ⟨_, rfl⟩
  rw [← hV1, ← hDe] at hD1
  rw [← hV1] at hv1
  rw [← hV1, ← hV2] at hVV
  rw [← hDe] at hpn
  have hV2H := hide hV2
  clear hi2 hM2 hvyH hYH hV1s hV1 hDe hV2
  go_upto_region 5 with (go_at_call 26; refine hv1.out.mono ?_; rintro e w4 ⟨rfl, hB4⟩; have hM4 := hide (hM3.out.next hB4); clear hB4)
  have hv2 := hide (value_asc (hM4.out.strs (.slice a2 L2.length c2, L2) (by simp)) hA2H.out hl2H.out)
  rw [← hV2H.out] at hv2
  clear hM3 hv1
  go_upto_region 6 with (go_at_call 26; refine hv2.out.mono ?_; rintro e w5 ⟨rfl, hB5⟩; have hM5 := hide (hM4.out.next hB5); clear hB5)
  clear hM4 hv2
  have hd5 := hide (hD1.out _ hM5.out.rows.below)
  have b90 := (RW.pickI_bd n 9 (by decide)).1
  have b91 := (RW.pickI_bd n 9 (by decide)).2
  have b20 := (RW.pickI_bd n 2 (by decide)).1
  have b21 := (RW.pickI_bd n 2 (by decide)).2
  have hci := msg_info (RW.pn (RW.pickI n 5) (RW.pickI n 9) (RW.pickI n 2)) D1 (.slice a1 L1.length c1)
  have hco := msg_one (RW.pn (RW.pickI n 5) (RW.pickI n 9) (RW.pickI n 2)) D1 (.slice a1 L1.length c1) rfl
  go_upto_region 9 with (first
    | (go_at_call 22; refine (hPk.out _ (by decide) (by decide) _).mono ?_; rintro e w' ⟨rfl, rfl⟩)
    | (go_at_call 39; refine hd5.out.mono ?_; rintro e w6 ⟨rfl, hB6⟩; have hM6 := hide (hM5.out.next hB6); clear hB6)
    | (refine wpList_store_new rfl 24 (.tmp 20) (.tmp 69) rfl (RW.mcells (RW.pn (RW.pickI n 5) (RW.pickI n 9) (RW.pickI n 2)) D1 (.slice a1 L1.length c1)) rfl rfl 24 RW.noM hci rfl hco ?_))
  obtain ⟨cP, hcP⟩ : ∃ c, c = RW.mcells (RW.pn (RW.pickI n 5) (RW.pickI n 9) (RW.pickI n 2)) D1 (.slice a1 L1.length c1) := ⟨_, rfl⟩
  rw [← hcP] at hci ⊢
  have hM7 := hM6.out.new cP
  obtain ⟨b20', hb20⟩ : ∃ b, b = w6.heap.size := ⟨_, rfl⟩
  rw [← hb20] at hM7 ⊢
  have hcPH := hide hcP
  have hciP := hide hci
  refine gen_world (MS [(b20', cP), (B, cA)] [(.slice a2 L2.length c2, L2), (.slice a1 L1.length c1, L1)] w) hM7 ?_
  clear hM7 hb20 hcP hci hco hM5 hM6 hd5 b90 b91 b20 b21 hD1
  intro w7 hM7
  have hM7H := hide hM7
  have hr20 := hM7.rows.rows (b20', cP) (by simp)
  clear hM7
  have hV9 := hide (show Calls Tryd.prog 14 #[.agg cP] w7 fun e w' => e = .returned (.bool true) ∧ Below w7.heap.size w7 w' from by
    rw [hcPH.out, ← hpn.out]
    exact valid_any (RW.pn (RW.pickI n 5) (RW.pickI n 9) (RW.pickI n 2)) D1 (.slice a1 L1.length c1) L1 w7 K (hM7H.out.strs (.slice a1 L1.length c1, L1) (by simp)) (by have := hl1H.out; omega) (fun s hs => by rw [hA1H.out.1 s hs]; decide) ks hksH.out (hKH.out _ hM7H.out.rows.below))
  have hciP' := hciP.out
  go_upto_region 11 with (first
    | (refine wpList_load_row rfl 24 (.tmp 20) rfl b20' rfl 24 cP (0, 0) _ hr20 Tryd.underlying24 rfl hciP' ?_)
    | (go_at_call 14; refine hV9.out.mono ?_; rintro e w8 ⟨rfl, hB8⟩; have hM8 := hide (hM7H.out.next hB8); clear hB8 hr20))
  clear hM7H hV9 hciP'
  have hfew := hide (fun W (h : Below w.heap.size w W) => (show Calls Tryd.prog 11 #[.agg cA] W fun e w' => (∃ u, e = .returned (.agg (RW.mcells a.n a.d u)) ∧ ∃ L, StrsV w' u L ∧ L.length ≤ 110 ∧ ∀ s ∈ L, s.size ≤ 4010) ∧ Below W.heap.size W w' from by
    rw [hcAH.out]
    exact few_any a.n a.d a.v a.l W (haH.out W h) hal.out has.out))
  refine wp_region_k (fun _ W => MS [(b20', cP), (B, cA)] [(.slice a2 L2.length c2, L2), (.slice a1 L1.length c1, L1)] w W) (fun _ => True) [1, 3] (.op 0 (.op 2 (.op 5 (.op 1 (.op 3 (.op 4 .nil)))))) (by kernel_rfl) (by kernel_rfl) (by rfl) (by kernel_rfl) (hM8.out.next (Below.refl _ _).drew) trivial ?_
  refine k_val (.agg cA) (by apply opN; repeat' (first | apply OpAt.z | apply OpAt.s)) (by rfl) (by rfl) (fun _ W hS => op_load_agg rfl rfl (hS.ld (b := B) (by simp) hzAH.out)) ?_
  simp only [Act.put, List.setIfInBounds_toArray, List.set_cons_zero, List.set_cons_succ]
  refine k_val (.agg cP) (by apply opN; repeat' (first | apply OpAt.z | apply OpAt.s)) (by rfl) (by rfl) (fun _ W hS => op_load_agg rfl rfl (hS.ld (b := b20') (by simp) hciP.out)) ?_
  simp only [Act.put, List.setIfInBounds_toArray, List.set_cons_zero, List.set_cons_succ]
  refine k_val (.int .i64 0) (by apply opN; repeat' (first | apply OpAt.z | apply OpAt.s)) (by rfl) (by rfl) (fun _ W hS => op_mv rfl rfl) ?_
  simp only [Act.put, List.setIfInBounds_toArray, List.set_cons_zero, List.set_cons_succ]
  refine k_step (fun K' u => ∃ v L, u = .agg (RW.mcells a.n a.d v) ∧ L.length ≤ 110 ∧ (∀ s ∈ L, s.size ≤ 4010) ∧ K' = fun W => MS [(b20', cP), (B, cA)] ((v, L) :: [(.slice a2 L2.length c2, L2), (.slice a1 L1.length c1, L1)]) w W) (by apply opN; repeat' (first | apply OpAt.z | apply OpAt.s)) (by rfl) (by rfl) (by rfl) (fun W hC hK => ?_) ?_
  · refine op_x1 (a := .agg cA) rfl rfl rfl cf_few ?_
    refine (hfew.out W hC.rows.below).mono ?_
    rintro e w' ⟨⟨u, rfl, L, hv, hl, hsz⟩, hB⟩
    have h := hC.next hB
    exact ⟨_, rfl, h, _, h.add hv, u, L, rfl, hl, hsz, rfl⟩
  rintro K' u ⟨vF, LF, rfl, hlF, hsF, rfl⟩
  simp only [Act.put, List.setIfInBounds_toArray, List.set_cons_zero, List.set_cons_succ]
  refine k_step (fun K' u => ∃ gb, u = .slice (some ⟨gb, 0, none⟩) 2 2 ∧ K' = fun W => MS [(gb, ((RW.mcells a.n a.d vF).toList ++ cP.toList).toArray), (b20', cP), (B, cA)] ((vF, LF) :: [(.slice a2 L2.length c2, L2), (.slice a1 L1.length c1, L1)]) w W) (by apply opN; repeat' (first | apply OpAt.z | apply OpAt.s)) (by rfl) (by rfl) (by rfl) (fun W hC hK => ?_) ?_
  · exact xup_val (op_bs_m2 rfl rfl rfl rfl hcPH.out) ⟨hC.next ((Below.refl _ _).alloc (Nat.le_refl _) _), _, hK.new _, W.heap.size, rfl, rfl⟩
  rintro K' u ⟨gb, rfl, rfl⟩
  simp only [Act.put, List.setIfInBounds_toArray, List.set_cons_zero, List.set_cons_succ]
  refine k_val (.int .i64 2) (by apply opN; repeat' (first | apply OpAt.z | apply OpAt.s)) (by rfl) (by rfl) (fun _ W hS => op_len_m (n := 2) rfl rfl) ?_
  simp only [Act.put, List.setIfInBounds_toArray, List.set_cons_zero, List.set_cons_succ]
  refine k_nil ?_
  intro w9 _ hK9
  obtain ⟨c16, hc16⟩ : ∃ c, c = ((RW.mcells a.n a.d vF).toList ++ cP.toList).toArray := ⟨_, rfl⟩
  rw [← hc16] at hK9
  have hM9 := hide hK9
  have hc16H := hide hc16
  have hlFH := hide hlF
  have hsFH := hide hsF
  clear hK9 hc16 hlF hsF hM8 hfew
  go_wp2
  go_loopw [78] (fun i wr => ∃ q : Nat, i = .int .i64 q ∧ q ≤ 2 ∧ Hid (MS [(gb, c16), (b20', cP), (B, cA)] ((vF, LF) :: [(.slice a2 L2.length c2, L2), (.slice a1 L1.length c1, L1)]) w wr)) (fun i _ => 2 - (intOf i).toNat)
  case atStart => exact ⟨0, rfl, Nat.zero_le _, hM9.out⟩
  case round =>
    clear hM9
    obtain ⟨q, rfl, hq2, hQ⟩ := hrel
    obtain ⟨wo, hwo⟩ : ∃ wo, wo = wr := ⟨_, rfl⟩
    subst hwo
    by_cases hq : q < 2
    · have hqi : (q : Int) < 2 := by omega
      obtain ⟨y, hrg, hys, hyl, hysz⟩ : ∃ y : RW.Min, wo.rangeAt gb (q * 8) (RW.minl y) ∧ (y.v, y.l) ∈ (vF, LF) :: [(.slice a2 L2.length c2, L2), (.slice a1 L1.length c1, L1)] ∧ y.l.length ≤ 110 ∧ ∀ s ∈ y.l, s.size ≤ 4010 := by
        have h16 := hQ.out.rows.rows (gb, c16) (by simp)
        rw [hc16H.out] at h16
        obtain ⟨r0, r1⟩ := two_range h16 rfl
        have hq' : q = 0 ∨ q = 1 := by omega
        rcases hq' with rfl | rfl
        · exact ⟨⟨a.n, a.d, vF, LF⟩, r0, by simp, hlFH.out, hsFH.out⟩
        · exact ⟨⟨(RW.pn (RW.pickI n 5) (RW.pickI n 9) (RW.pickI n 2)), D1, .slice a1 L1.length c1, L1⟩, by rw [hcPH.out] at r1; exact r1, by simp, by have := hl1H.out; show L1.length ≤ 110; omega, fun s hs => by rw [hA1H.out.1 s hs]; decide⟩
      have hqH := hide hq
      have hys' := hide hys
      have hyl' := hide hyl
      have hysz' := hide hysz
      clear hys hyl hysz hq
      have hcy := msg_info y.n y.d y.v
      have hoy := msg_one y.n y.d y.v (hQ.out.strs _ hys'.out).one
      have hi8 : (Tryd.prog.info? 24).map (·.size) = some (RW.minl y).length := hcy
      go_upto_region 14 with (first
        | (refine wpList_load_mid rfl 24 (.tmp 80) rfl gb (q * 8) rfl (RW.minl y) _ hrg Tryd.underlying24 rfl hi8 ?_)
        | (refine wpList_store_new rfl 24 (.tmp 22) (.tmp 81) rfl (RW.mcells y.n y.d y.v) rfl rfl 24 RW.noM hcy rfl hoy ?_))
      obtain ⟨cY, hcY⟩ : ∃ c, c = RW.mcells y.n y.d y.v := ⟨_, rfl⟩
      rw [← hcY] at hcy ⊢
      have hN := hQ.out.new cY
      obtain ⟨b22, hb22⟩ : ∃ b, b = wo.heap.size := ⟨_, rfl⟩
      rw [← hb22] at hN ⊢
      have hcYH := hide hcY
      have hcyH := hide hcy
      refine gen_world (MS [(b22, cY), (gb, c16), (b20', cP), (B, cA)] ((vF, LF) :: [(.slice a2 L2.length c2, L2), (.slice a1 L1.length c1, L1)]) w) hN ?_
      clear hN hb22 hcY hrg hi8 hoy hQ hqi
      intro w10 hN
      have hNH := hide hN
      have hr22 := hN.rows.rows (b22, cY) (by simp)
      clear hN
      cases hm : RW.msgB K y.n y.d.data.toList (RW.bl y.l) with
      | false =>
        have hE := hide (show ∀ W, Below w.heap.size w W → StrsV W y.v y.l → Calls Tryd.prog 12 #[.agg cY] W fun e w' => e = .returned (.tuple #[.string ⟨#[]⟩, .int .i64 250]) ∧ Below W.heap.size W w' from fun W hB hv => by
          rw [hcYH.out, ← encRes_no hm]
          exact encode_any y.n y.d y.v y.l W K hv (by have := hyl'.out; omega) (fun s hs => by have := hysz'.out s hs; omega) ks hksH.out (hKH.out W hB))
        have hV := hide (show ∀ W, Below w.heap.size w W → StrsV W y.v y.l → Calls Tryd.prog 14 #[.agg cY] W fun e w' => e = .returned (.bool false) ∧ Below W.heap.size W w' from fun W hB hv => by
          rw [hcYH.out, ← hm]
          exact valid_any y.n y.d y.v y.l W K hv (by have := hyl'.out; omega) (fun s hs => by have := hysz'.out s hs; omega) ks hksH.out (hKH.out W hB))
        clear hm
        go_upto_region 15 with (first
          | (refine wpList_load_row rfl 24 (.tmp 22) rfl b22 rfl 24 cY (0, 0) _ hr22 Tryd.underlying24 rfl hcy ?_)
          | (go_at_call 12; refine (hE.out _ hNH.out.rows.below (hNH.out.strs _ hys'.out)).mono ?_; rintro e w11 ⟨rfl, hB11⟩; have hN2 := hide (hNH.out.next hB11); clear hB11 hr22))
        have hr22' := hN2.out.rows.rows (b22, cY) (by simp)
        clear hE hNH
        go_upto_region 16 with (first
          | (refine wpList_load_row rfl 24 (.tmp 22) rfl b22 rfl 24 cY (0, 0) _ hr22' Tryd.underlying24 rfl hcy ?_)
          | (go_at_call 14; refine (hV.out _ hN2.out.rows.below (hN2.out.strs _ hys'.out)).mono ?_; rintro e w12 ⟨rfl, hB12⟩; have hN3 := hide (hN2.out.next hB12); clear hB12 hr22'))
        clear hV hN2
        go_wp2
        go_roundw
        case rel => exact ⟨q + 1, by go_num, by have := hqH.out; omega, hN3.out.sub (fun x hx => List.mem_cons_of_mem _ hx) (fun p hp => hp)⟩
        case measure => have := hqH.out; simp [intOf]; omega
      | true =>
        obtain ⟨hE1, hE2⟩ := RW.encA_size hm
        have hE0 := hide (show ∀ W, Below w.heap.size w W → StrsV W y.v y.l → Calls Tryd.prog 12 #[.agg cY] W fun e w' => e = .returned (.tuple #[.string (RW.encA y), .int .i64 0]) ∧ Below W.heap.size W w' from fun W hB hv => by
          rw [hcYH.out, ← encRes_yes hm]
          exact encode_any y.n y.d y.v y.l W K hv (by have := hyl'.out; omega) (fun s hs => by have := hysz'.out s hs; omega) ks hksH.out (hKH.out W hB))
        have hV := hide (show ∀ W, Below w.heap.size w W → StrsV W y.v y.l → Calls Tryd.prog 14 #[.agg cY] W fun e w' => e = .returned (.bool true) ∧ Below W.heap.size W w' from fun W hB hv => by
          rw [hcYH.out, ← hm]
          exact valid_any y.n y.d y.v y.l W K hv (by have := hyl'.out; omega) (fun s hs => by have := hysz'.out s hs; omega) ks hksH.out (hKH.out W hB))
        have hDb := hide (fun W (h : Below w.heap.size w W) => dec_back hksH.out hm (hKH.out W h))
        have hDp := hide (fun k (hk : k < (RW.encA y).size) W (h : Below w.heap.size w W) => dec_pre hksH.out hm hk (hKH.out W h))
        have hDw := hide (fun (x : ByteArray) (hx : x.size ≤ 20) (q : Bool) (hq : q = decide (x.size = 0)) W (h : Below w.heap.size w W) => dec_with hksH.out hm hx (hKH.out W h) q hq)
        have hSa := hide (fun (g : Nat → Int) (v : Value) (hg : ∀ i, i < 6 → y.n i = g i) W (h1 : StrsV W y.v y.l) (h2 : StrsV W v y.l) => (show Calls Tryd.prog 16 #[.agg cY, .agg (RW.mcells g y.d v)] W fun e w' => e = .returned (.bool true) ∧ Below W.heap.size W w' from by
          have h := same_any y.n g y.d y.d y.v v y.l y.l W h1 h2 (by have := hyl'.out; omega) (by have := hyl'.out; omega)
          rw [RW.dec_true hg] at h
          rw [hcYH.out]
          simpa using h))
        obtain ⟨E, hE⟩ : ∃ E, E = RW.encA y := ⟨_, rfl⟩
        rw [← hE] at hE0 hDb hDp hDw hE1 hE2
        clear hE hm
        have hE1H := hide hE1
        have hE2H := hide hE2
        clear hE1 hE2
        go_upto_region 15 with (first
          | (refine wpList_load_row rfl 24 (.tmp 22) rfl b22 rfl 24 cY (0, 0) _ hr22 Tryd.underlying24 rfl hcy ?_)
          | (go_at_call 12; refine (hE0.out _ hNH.out.rows.below (hNH.out.strs _ hys'.out)).mono ?_; rintro e w11 ⟨rfl, hB11⟩; have hN2 := hide (hNH.out.next hB11); clear hB11 hr22))
        have hr22' := hN2.out.rows.rows (b22, cY) (by simp)
        clear hE0 hNH
        go_upto_region 18 with (first
          | (refine wpList_load_row rfl 24 (.tmp 22) rfl b22 rfl 24 cY (0, 0) _ hr22' Tryd.underlying24 rfl hcy ?_)
          | (go_at_call 14; refine (hV.out _ hN2.out.rows.below (hN2.out.strs _ hys'.out)).mono ?_; rintro e w12 ⟨rfl, hB12⟩; have hN3 := hide (hN2.out.next hB12); clear hB12 hr22'))
        clear hV hN2
        have hD3 := hide (hDb.out _ hN3.out.rows.below)
        go_upto_region 19 with (first
          | (go_at_call 23; refine hD3.out.mono ?_; rintro e w13 ⟨⟨g, v, rfl, hg, hv⟩, hB13⟩; have hN4 := hide ((hN3.out.next hB13).add hv); have hgH := hide hg; have hcd := msg_info g y.d v; have hod := msg_one g y.d v hv.one; clear hg hv hB13)
          | (refine wpList_store_new rfl 24 (.tmp 25) (.tmp 99) rfl (RW.mcells g y.d v) rfl rfl 24 RW.noM hcd rfl hod ?_))
        obtain ⟨cD, hcD⟩ : ∃ c, c = RW.mcells g y.d v := ⟨_, rfl⟩
        rw [← hcD] at hcd ⊢
        have hN5 := hN4.out.new cD
        obtain ⟨b25, hb25⟩ : ∃ b, b = w13.heap.size := ⟨_, rfl⟩
        rw [← hb25] at hN5 ⊢
        have hcDH := hide hcD
        have hcdH := hide hcd
        refine gen_world (MS [(b25, cD), (b22, cY), (gb, c16), (b20', cP), (B, cA)] ((v, y.l) :: ((vF, LF) :: [(.slice a2 L2.length c2, L2), (.slice a1 L1.length c1, L1)])) w) hN5 ?_
        clear hN5 hb25 hcD hod hD3 hDb hN3 hN4
        intro w14 hN5
        have hN5H := hide hN5
        clear hN5 hcd hcy
        obtain ⟨k, hk⟩ := Int.eq_ofNat_of_zero_le (RW.pickI_bd n E.size (by have := hE1H.out; omega)).1
        have hk2 := (RW.pickI_bd n E.size (by have := hE1H.out; omega)).2
        rw [hk] at hk2
        have hkH := hide hk
        have hk3 : (0 : Int) ≤ (k : Int) := by omega
        have hk4 : (k : Int) ≤ (E.size : Int) := by omega
        have hmx : max (E.size : Int) 1 = (E.size : Int) := by have := hE1H.out; omega
        have hD5 := hide (hDp.out k (by omega) _ hN5H.out.rows.below)
        have hno := msg_info (fun _ => 0) ⟨#[]⟩ (.slice none 0 0)
        have hnoo := msg_one (fun _ => 0) ⟨#[]⟩ (.slice none 0 0) rfl
        clear hk hk2
        go_upto_region 20 with (first
          | (go_at_call 22; refine (hPk.out _ (by have := hE1H.out; omega) (by have := hE2H.out; omega) _).mono ?_; rintro e w' ⟨rfl, rfl⟩; rw [hkH.out])
          | (go_at_call 23; refine hD5.out.mono ?_; rintro e w15 ⟨rfl, hB15⟩; have hN6 := hide ((hN5H.out.next hB15)); clear hB15)
          | (refine wpList_store_new rfl 24 (.tmp 27) (.tmp 110) rfl RW.noM rfl rfl 24 RW.noM hno rfl hnoo ?_))
        refine gen_world (MS [(b25, cD), (b22, cY), (gb, c16), (b20', cP), (B, cA)] ((v, y.l) :: ((vF, LF) :: [(.slice a2 L2.length c2, L2), (.slice a1 L1.length c1, L1)])) w) (hN6.out.next ((Below.refl _ _).alloc (Nat.le_refl _) _)) ?_
        clear hN6 hD5 hN5H hk3 hk4 hmx hkH hDp hno hnoo
        intro w16 hN7
        have hN7H := hide hN7
        clear hN7
        obtain ⟨m, hm⟩ : ∃ m, m = min more.size 20 := ⟨_, rfl⟩
        have hmin : min (more.size : Int) 20 = (m : Int) := by rw [hm]; omega
        have hb1 : (0 : Int) ≤ (m : Int) := by omega
        have hb2 : (m : Int) ≤ (more.size : Int) := by rw [hm]; omega
        obtain ⟨x, hx⟩ : ∃ x, x = more.extract 0 m := ⟨_, rfl⟩
        have hxs : x.size ≤ 20 := by rw [hx, ByteArray.size_extract]; omega
        have hqx : decide (more.size = 0) = decide (x.size = 0) := by
          have e : x.size = 0 ↔ more.size = 0 := by rw [hx, ByteArray.size_extract]; omega
          simp only [e]
        have hxH := hide hx.symm
        have hsz : E.size + min m more.size ≤ 9223372036854775807 := by have := hE2H.out; omega
        have hsz2 : ¬ (9223372036854775807 < E.size + min m more.size) := by have := hE2H.out; omega
        obtain ⟨qe, hqe⟩ : ∃ q, q = decide (more.size = 0) := ⟨_, rfl⟩
        have hqm : more.toList.isEmpty = qe := by rw [RW.emp_iff, hqe]
        have hD7 := hide (hDw.out x hxs qe (hqe.trans hqx) _ hN7H.out.rows.below)
        clear hm hx hxs hqx hqe hDw
        go_upto_region 21 with (first
          | (go_at_call 23; (try rw [hxH.out]); refine hD7.out.mono ?_; rintro e w17 ⟨⟨g2, d2, v2, er, rfl, hv2, her⟩, hB17⟩; have hN8 := hide ((hN7H.out.next hB17)); have hc2 := msg_info g2 d2 v2; have ho2 := msg_one g2 d2 v2 hv2; have herH := hide her; clear hB17 hv2 her)
          | (refine wpList_store_new rfl 24 (.tmp 29) (.tmp 121) rfl (RW.mcells g2 d2 v2) rfl rfl 24 RW.noM hc2 rfl ho2 ?_))
        refine gen_world (MS [(b25, cD), (b22, cY), (gb, c16), (b20', cP), (B, cA)] ((v, y.l) :: ((vF, LF) :: [(.slice a2 L2.length c2, L2), (.slice a1 L1.length c1, L1)])) w) (hN8.out.next ((Below.refl _ _).alloc (Nat.le_refl _) _)) ?_
        clear hN8 hD7 hN7H hsz hsz2 hmin hb1 hb2 hxH hc2 ho2
        intro w18 hN9
        have l22 := hN9.ld (b := b22) (cs := cY) (by simp) hcyH.out
        have l25 := hN9.ld (b := b25) (cs := cD) (by simp) hcdH.out
        have hS9 := hide (hSa.out g v hgH.out w18 (hN9.strs _ (List.mem_cons_of_mem _ hys'.out)) (hN9.strs (v, y.l) (by simp)))
        have hN9H := hide hN9
        rw [← hcDH.out] at hS9
        have her := herH.out
        clear hN9 hSa herH
        go_wp2_with (go_at_call 16; refine hS9.out.mono ?_; rintro e w19 ⟨rfl, hB19⟩; have hN10 := hide (hN9H.out.next hB19); clear hB19 l22 l25 hN9H)
        go_roundw
        case rel => exact ⟨q + 1, by go_num, by have := hqH.out; omega, hN10.out.sub (fun x hx => List.mem_cons_of_mem _ (List.mem_cons_of_mem _ hx)) (fun p hp => List.mem_cons_of_mem _ hp)⟩
        case measure => have := hqH.out; simp [intOf]; omega
    · have hqi : ¬ (q : Int) < 2 := by omega
      clear hq
      have hd0 := hide (dec_all hksH.out hsH.out (hKH.out _ hQ.out.rows.below))
      go_upto_region 25 with (first
        | (go_at_call 23; refine hd0.out.mono ?_; rintro e w10 ⟨⟨y, er, rfl, hv, hl, hsz, hcase⟩, hB10⟩; have hN := hide ((hQ.out.next hB10).add hv); have hcy := msg_info y.n y.d y.v; have hoy := msg_one y.n y.d y.v hv.one; have hylH := hide hl; have hyszH := hide hsz; have hcaseH := hide hcase; clear hB10 hv hl hsz hcase)
        | (refine wpList_store_new rfl 24 (.tmp 31) (.tmp 150) rfl (RW.mcells y.n y.d y.v) rfl rfl 24 RW.noM hcy rfl hoy ?_))
      obtain ⟨cC, hcC⟩ : ∃ c, c = RW.mcells y.n y.d y.v := ⟨_, rfl⟩
      rw [← hcC] at hcy ⊢
      have hN2 := hN.out.new cC
      obtain ⟨b31, hb31⟩ : ∃ b, b = w10.heap.size := ⟨_, rfl⟩
      rw [← hb31] at hN2 ⊢
      have hcCH := hide hcC
      have hcyH := hide hcy
      refine gen_world (MS [(b31, cC)] ((y.v, y.l) :: [(.slice a2 L2.length c2, L2), (.slice a1 L1.length c1, L1)]) w) (hN2.sub (fun x hx => by simp at hx; rw [hx]; exact List.mem_cons_self) (fun p hp => by rcases List.mem_cons.1 hp with rfl | hp; exact List.mem_cons_self; exact List.mem_cons_of_mem _ (List.mem_cons_of_mem _ hp))) ?_
      clear hN2 hN hb31 hcC hoy hd0 hQ hqi
      intro w11 hN2
      have hN2H := hide hN2
      have hr31 := hN2.rows.rows (b31, cC) (by simp)
      clear hN2
      obtain ⟨T, ef, hres, hTe⟩ := encRes_parts K y
      have hE := hide (show Calls Tryd.prog 12 #[.agg cC] w11 fun e w' => e = .returned (.tuple #[.string T, .int .i64 ef]) ∧ Below w11.heap.size w11 w' from by
        rw [hcCH.out, ← hres]
        exact encode_any y.n y.d y.v y.l w11 K (hN2H.out.strs (y.v, y.l) (by simp)) (by have := hylH.out; omega) (fun s hs => by have := hyszH.out s hs; omega) ks hksH.out (hKH.out _ hN2H.out.rows.below))
      have hfin := hide (show (er = 0 ∧ ef = 0 ∧ T = s) ∨ ((er == 0) = false ∧ (er != 0) = true ∧ cC[7]? = some (.slice none 0 0)) from by
        rcases hcaseH.out with ⟨h1, h2, h3⟩ | ⟨h1, h2, h3⟩
        · obtain ⟨h4, h5⟩ := hTe h2
          exact .inl ⟨h1, h5, h4.trans h3⟩
        · exact .inr ⟨h1, h2, by rw [hcCH.out, h3]; rfl⟩)
      clear hres hTe hcaseH
      go_upto_region 26 with (first
        | (refine wpList_load_row rfl 24 (.tmp 31) rfl b31 rfl 24 cC (0, 0) _ hr31 Tryd.underlying24 rfl hcy ?_)
        | (go_at_call 12; refine hE.out.mono ?_; rintro e w12 ⟨rfl, hB12⟩; have hN3 := hide (hN2H.out.next hB12); clear hB12 hr31))
      clear hE hN2H hcy hcyH hylH hyszH
      have hz0 := hide (RW.agr_zero L1 L2)
      go_wp2
      go_loopw [35, 36] (fun b i wr => ∃ (j : Nat) (q : Bool), b = .bool q ∧ i = .int .i64 j ∧ j ≤ 20 ∧ Hid (j ≤ L1.length ∧ q = RW.agr L1 L2 j ∧ MS [(b31, cC)] ((y.v, y.l) :: [(.slice a2 L2.length c2, L2), (.slice a1 L1.length c1, L1)]) w wr)) (fun _ i _ => 20 - (intOf i).toNat)
      case atStart => exact ⟨0, _, rfl, rfl, Nat.zero_le _, Nat.zero_le _, hz0.out.symm, hN3.out⟩
      case round =>
        clear hN3 hz0
        obtain ⟨j, q1, rfl, rfl, hj20, hP⟩ := hrel
        obtain ⟨wq, hwq⟩ : ∃ wo, wo = wr := ⟨_, rfl⟩
        subst hwq
        obtain ⟨c, hcc⟩ : ∃ c, c = (decide (j < L1.length) && q1) := ⟨_, rfl⟩
        have hccH := hide hcc
        clear hcc
        go_upto_region 28 with fail
        go_cut [168] (fun s wx => s = .bool c ∧ wx = wq)
        case first =>
          by_cases h1 : j < L1.length
          · cases q1
            · go_wp2
              all_goals go_meet
              all_goals exact ⟨by rw [hccH.out] <;> simp, rfl⟩
            · go_wp2
              all_goals go_meet
              all_goals exact ⟨by rw [hccH.out, decide_eq_true h1] <;> rfl, rfl⟩
          · go_wp2
            all_goals go_meet
            all_goals exact ⟨by rw [hccH.out, decide_eq_false h1] <;> rfl, rfl⟩
        case rest =>
        obtain ⟨rfl, hwx⟩ := hcut
        have hwx' := hwx.symm
        subst hwx'
        cases c
        · have hqf : q1 = decide (L1 = L2) := by
            rw [hP.out.2.1]
            refine RW.agr_end ?_
            have h := hccH.out.symm
            rw [Bool.and_eq_false_iff] at h
            rcases h with h | h
            · exact .inr (Nat.le_of_not_lt (of_decide_eq_false h))
            · exact .inl (hP.out.2.1 ▸ h)
          have hVq : (V1.toList == V2.toList) = q1 := by rw [hqf]; exact hVV.out
          have c7 := hP.out.2.2.rows.cell b31 cC (by simp) 7
          have hend := hide hP.out.2.2.rows.below
          clear hqf hccH hVV hP
          rcases hfin.out with ⟨h1, h2, h3⟩ | ⟨h1, h2, h3⟩
          · subst h1 h2 h3
            clear hfin
            go_wp2
            go_ret
            first
              | exact ⟨rfl, hend.out⟩
              | exact ⟨rfl, hBH.out ▸ hend.out⟩
          · rw [h3] at c7
            clear h3 hfin
            go_wp2
            go_ret
            first
              | exact ⟨rfl, hend.out⟩
              | exact ⟨rfl, hBH.out ▸ hend.out⟩
        · obtain ⟨hlt, hq1⟩ : j < L1.length ∧ q1 = true := by
            have h := hccH.out.symm
            rw [Bool.and_eq_true] at h
            exact ⟨of_decide_eq_true h.1, h.2⟩
          subst hq1
          clear hccH
          have hag := hP.out.2.1.symm
          have hll : L1.length = L2.length := (of_decide_eq_true hag).1
          obtain ⟨a', k1, hv1, _, hs1⟩ := hP.out.2.2.strs (.slice a1 L1.length c1, L1) (by simp)
          obtain ⟨a'', k2, hv2, _, hs2⟩ := hP.out.2.2.strs (.slice a2 L2.length c2, L2) (by simp)
          injection hv1 with p1 p2 p3
          injection hv2 with p4 p5 p6
          obtain ⟨g1, o1, ha1, hg1, hc1⟩ := hs1.resolve_left (by intro h; have h : L1 = [] := h; rw [h] at hlt; exact absurd hlt (Nat.not_lt_zero _))
          obtain ⟨g2, o2, ha2, hg2, hc2⟩ := hs2.resolve_left (by intro h; have h : L2 = [] := h; rw [hll, h] at hlt; exact absurd hlt (Nat.not_lt_zero _))
          have q1 := p1.trans ha1
          have q2 := p4.trans ha2
          have k1 : wq.cell? ⟨g1, o1 + j, none⟩ = some (.string (L1.getD j ⟨#[]⟩)) := hc1 j hlt
          have k2 : wq.cell? ⟨g2, o2 + j, none⟩ = some (.string (L2.getD j ⟨#[]⟩)) := hc2 j (by rw [← hll]; exact hlt)
          have hx1 : L1[j]? = some (L1.getD j ⟨#[]⟩) := by rw [List.getD, List.getElem?_eq_getElem hlt]; rfl
          have hx2 : L2[j]? = some (L2.getD j ⟨#[]⟩) := by rw [List.getD, List.getElem?_eq_getElem (by rw [← hll]; exact hlt)]; rfl
          generalize L1.getD j ⟨#[]⟩ = x1 at k1 hx1
          generalize L2.getD j ⟨#[]⟩ = x2 at k2 hx2
          have hstep := hide (RW.agr_step hag hx1 hx2)
          have hltH := hide hlt
          have hlt2H := hide (show j < L2.length by rw [← hll]; exact hlt)
          have hC0 : (MS [(b31, cC)] ((y.v, y.l) :: [(.slice a2 L2.length c2, L2), (.slice a1 L1.length c1, L1)]) w wq.drew ∧ wq.drew.cell? ⟨g1, o1 + j, none⟩ = some (.string x1)) ∧ wq.drew.cell? ⟨g2, o2 + j, none⟩ = some (.string x2) := ⟨⟨hP.out.2.2.next (Below.refl _ _).drew, k1⟩, k2⟩
          clear hP hag hll hs1 hs2 p1 p2 p3 p4 p5 p6 ha1 ha2 hg1 hg2 hc1 hc2 hx1 hx2 hlt k1 k2
          subst q1 q2
          go_upto_region 30 with fail
          refine wp_region_k (fun _ W => (MS [(b31, cC)] ((y.v, y.l) :: [(.slice (some ⟨g2, o2, none⟩) L2.length c2, L2), (.slice (some ⟨g1, o1, none⟩) L1.length c1, L1)]) w W ∧ W.cell? ⟨g1, o1 + j, none⟩ = some (.string x1)) ∧ W.cell? ⟨g2, o2 + j, none⟩ = some (.string x2)) (fun _ => True) [] (.op 0 (.op 1 (.op 2 (.op 3 (.op 4 (.op 5 (.op 6 (.op 7 (.op 8 (.op 9 .nil)))))))))) (by kernel_rfl) (by kernel_rfl) (by rfl) (by kernel_rfl) hC0 trivial ?_
          refine k_val (.slice (some ⟨g1, o1, none⟩) L1.length c1) (by apply opN; repeat' (first | apply OpAt.z | apply OpAt.s)) (by rfl) (by rfl) (fun _ W hS => op_mv rfl rfl) ?_
          simp only [Act.put, List.setIfInBounds_toArray, List.set_cons_zero, List.set_cons_succ]
          refine k_val (.int .i64 j) (by apply opN; repeat' (first | apply OpAt.z | apply OpAt.s)) (by rfl) (by rfl) (fun _ W hS => op_mv rfl rfl) ?_
          simp only [Act.put, List.setIfInBounds_toArray, List.set_cons_zero, List.set_cons_succ]
          refine k_val (.pointer (some ⟨g1, o1 + j, none⟩)) (by apply opN; repeat' (first | apply OpAt.z | apply OpAt.s)) (by rfl) (by rfl) (fun _ W hS => op_idx_st rfl rfl rfl hltH.out) ?_
          simp only [Act.put, List.setIfInBounds_toArray, List.set_cons_zero, List.set_cons_succ]
          refine k_val (.string x1) (by apply opN; repeat' (first | apply OpAt.z | apply OpAt.s)) (by rfl) (by rfl) (fun _ W hS => op_load_str rfl rfl hS.1.2) ?_
          simp only [Act.put, List.setIfInBounds_toArray, List.set_cons_zero, List.set_cons_succ]
          refine k_val (.slice (some ⟨g2, o2, none⟩) L2.length c2) (by apply opN; repeat' (first | apply OpAt.z | apply OpAt.s)) (by rfl) (by rfl) (fun _ W hS => op_mv rfl rfl) ?_
          simp only [Act.put, List.setIfInBounds_toArray, List.set_cons_zero, List.set_cons_succ]
          refine k_val (.int .i64 j) (by apply opN; repeat' (first | apply OpAt.z | apply OpAt.s)) (by rfl) (by rfl) (fun _ W hS => op_mv rfl rfl) ?_
          simp only [Act.put, List.setIfInBounds_toArray, List.set_cons_zero, List.set_cons_succ]
          refine k_val (.pointer (some ⟨g2, o2 + j, none⟩)) (by apply opN; repeat' (first | apply OpAt.z | apply OpAt.s)) (by rfl) (by rfl) (fun _ W hS => op_idx_st rfl rfl rfl hlt2H.out) ?_
          simp only [Act.put, List.setIfInBounds_toArray, List.set_cons_zero, List.set_cons_succ]
          refine k_val (.string x2) (by apply opN; repeat' (first | apply OpAt.z | apply OpAt.s)) (by rfl) (by rfl) (fun _ W hS => op_load_str rfl rfl hS.2) ?_
          simp only [Act.put, List.setIfInBounds_toArray, List.set_cons_zero, List.set_cons_succ]
          refine k_val (.bool (x1.toList == x2.toList)) (by apply opN; repeat' (first | apply OpAt.z | apply OpAt.s)) (by rfl) (by rfl) (fun _ W hS => op_eql_str rfl rfl rfl) ?_
          simp only [Act.put, List.setIfInBounds_toArray, List.set_cons_zero, List.set_cons_succ]
          refine k_val (.bool (x1.toList == x2.toList)) (by apply opN; repeat' (first | apply OpAt.z | apply OpAt.s)) (by rfl) (by rfl) (fun _ W hS => op_asg rfl rfl) ?_
          simp only [Act.put, List.setIfInBounds_toArray, List.set_cons_zero, List.set_cons_succ]
          refine k_nil ?_
          intro w13 hC _
          have hP2 := hide hC.1.1
          clear hC hC0
          obtain ⟨q2, hq2e⟩ : ∃ q, q = (x1.toList == x2.toList) := ⟨_, rfl⟩
          rw [← hq2e] at hstep ⊢
          clear hq2e
          go_wp2
          go_roundw
          case rel => exact ⟨j + 1, q2, rfl, by go_num, by have := hltH.out; have := hl1H.out; omega, hltH.out, hstep.out.symm, hP2.out⟩
          case measure => have := hltH.out; have := hl1H.out; simp [intOf]; omega
end Go.Proofs.YtcbckcojebanaaaDoor
