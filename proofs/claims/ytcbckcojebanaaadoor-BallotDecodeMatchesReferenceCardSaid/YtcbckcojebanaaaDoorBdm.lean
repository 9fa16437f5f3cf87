/-
  Package royaltylaw25: BallotDecodeMatchesReference: it returns true; only new memory is written.
-/
import Derived.Test.YtcbckcojebanaaaDoorBrtQ
import Derived.Test.YtcbckcojebanaaaDoorBrd
import Derived.Test.YtcbckcojebanaaaDoorBr2
import Derived.Test.YtcbckcojebanaaaDoorBr4
import Derived.Test.YtcbckcojebanaaaDoorBox8
namespace Go.Proofs.YtcbckcojebanaaaDoor
open Go.RowKit RG
section
variable {ev : Operand → Value} {o : Oper} {x y : Operand} {w : World}
theorem op_len_st {a : Option Addr} {n c : Nat} (ho : o.op = .call { callee := .builtin .len, args := #[x], argTypes := #[22] }) (hx : ev x = .slice a n c) : (execOp ev o).run Tryd.prog w = .ok (.value (.int .i64 n)) w := by
  unfold execOp
  rw [ho]
  go_simp
theorem op_len_ss {a : Option Addr} {n c : Nat} (ho : o.op = .call { callee := .builtin .len, args := #[x], argTypes := #[39] }) (hx : ev x = .slice a n c) : (execOp ev o).run Tryd.prog w = .ok (.value (.int .i64 n)) w := by
  unfold execOp
  rw [ho]
  go_simp
theorem op_hi_st {a : Option Addr} {n c m : Nat} (ho : o.op = .slice 22 x none (some y) none) (hx : ev x = .slice a n c) (hy : ev y = .int .i64 m) (hm : m ≤ c) : (execOp ev o).run Tryd.prog w = .ok (.value (.slice a m c)) w := by
  unfold execOp
  rw [ho]
  cases a with
  | none => go_simp
  | some a => go_simp
theorem op_bs_ss {a b : Option Addr} {n c n2 c2 : Nat} (ho : o.op = .buildSlice 39 2 #[(0, x), (1, y)]) (hx : ev x = .slice a n c) (hy : ev y = .slice b n2 c2) :
    (execOp ev o).run Tryd.prog w = .ok (.value (.slice (some ⟨w.heap.size, 0, none⟩) 2 2)) (w.alloc (.cells #[.slice a n c, .slice b n2 c2] 22)) := by
  unfold execOp
  rw [ho]
  go_simp
end
theorem cf_ids : ∀ args w, (callFunc 25 args).run Tryd.prog w = .ok (.enter 25 args) w := fun args w => by go_simp
/-- both decoders answer alike -/
theorem decOut_same (K : Nat → Int) (l : List UInt8) : ∃ (g : Nat → Int) (D : ByteArray) (ts : List ByteArray) (er : Int), ts.length ≤ 4000 ∧ ∀ e w', DecOut K l e w' → ∃ v, e = .returned (.tuple #[.agg (RW.mcells g D v), .int .i64 er]) ∧ StrsV w' v ts := by
  cases hd : RW.decM K l with
  | wire =>
    refine ⟨fun _ => 0, ⟨#[]⟩, [], 10, Nat.zero_le _, fun e w' h => ?_⟩
    unfold DecOut at h
    rw [hd] at h
    exact ⟨_, h, StrsV.nil _⟩
  | bad =>
    refine ⟨fun _ => 0, ⟨#[]⟩, [], 250, Nat.zero_le _, fun e w' h => ?_⟩
    unfold DecOut at h
    rw [hd] at h
    exact ⟨_, h, StrsV.nil _⟩
  | msg g d t =>
    obtain ⟨_, h2, _⟩ := RW.decM_take K _ _ _ _ hd
    refine ⟨g, ⟨d.toArray⟩, t.map fun x => ⟨x.toArray⟩, 0, by rw [List.length_map]; exact (RW.msgB_lims K g d t h2).2, fun e w' h => ?_⟩
    unfold DecOut at h
    rw [hd] at h
    exact h
set_option maxRecDepth 100000 in
set_option maxHeartbeats 8000000 in
theorem bdecm_any (K : Nat → Int) (ks : Array Value) (hks : RW.WsOk ks K) (hk0 : K = RW.k0F) (s : ByteArray) (vl : Value) (l : List ByteArray) (vx : Value) (X : List Int) (hs : s.size ≤ 9223372036854775807)
    (hls : ∀ x ∈ l, x.size ≤ 9223372036854775807) (hll : l.length ≤ 9223372036854775807) (hX : ∀ x ∈ X, RW.i64b x) (hXl : X.length ≤ 9223372036854775807) (w : World) (hvl : RowV 1 encS w vl l) (hvx : RowV 1 encI w vx X) (hK : KLaid w ks) :
    Calls Tryd.prog 4 #[.string s, vl, vx] w fun e w' => e = .returned (.bool true) ∧ Below w.heap.size w w' := by
  subst hk0
  obtain ⟨g, D, ts, er, htl, hdo⟩ := decOut_same RW.k0F s.data.toList
  have hdoH := hide hdo
  have hsan := hide (bsane_any RW.k0F ks hks w hK)
  have hD1 := hide (fun W (h : Below w.heap.size w W) => decode_any s hs W RW.k0F ks hks (bklaid hK h))
  have hD2 := hide (fun W => rdecode_any s hs W)
  have hlrow := hide (fun W (h : Below w.heap.size w W) => hvl.next h)
  have hxrow := hide (fun W (h : Below w.heap.size w W) => hvx.next h)
  have hXH := hide hX
  obtain ⟨al, cl, rfl, hcl, _⟩ := hvl
  obtain ⟨m, hm⟩ : ∃ m, m = min l.length 30 := ⟨_, rfl⟩
  have hmin := hide (show min (l.length : Int) 30 = (m : Int) by rw [hm]; omega)
  have hmc := hide (show m ≤ cl by omega)
  have hml := hide (show m ≤ l.length by omega)
  have hm30 := hide (show m ≤ 30 by omega)
  have hnil := hide (Below.refl w.heap.size w)
  clear hdo hks hK hX hls hm hcl
  go_enter Tryd.func4, Tryd.ntmps4
  go_upto_region 2 with (go_at_call 10; refine hsan.out.mono ?_; rintro e w1 ⟨rfl, hB1⟩; have hM1 := hide (show MS [] [] w w1 from ⟨MRows.nil hB1, by simp⟩); clear hB1)
  have hd1 := hide (hD1.out _ hM1.out.rows.below)
  clear hsan hnil hD1
  go_upto_region 3 with (first
    | (go_at_call 23; refine hd1.out.mono ?_; rintro e w2 ⟨hO, hB2⟩; obtain ⟨v1, rfl, hv1⟩ := hdoH.out _ _ hO; have hM2 := hide ((hM1.out.next hB2).add hv1); have hc1 := msg_info g D v1; have ho1 := msg_one g D v1 hv1.one; clear hO hB2 hv1)
    | (refine wpList_store_new rfl 24 (.tmp 8) (.tmp 22) rfl (RW.mcells g D v1) rfl rfl 24 RW.noM hc1 rfl ho1 ?_))
  obtain ⟨ca, hca⟩ : ∃ c, c = RW.mcells g D v1 := ⟨_, rfl⟩
  rw [← hca] at hc1 ⊢
  have hM3 := hM2.out.new ca
  obtain ⟨b8, hb8⟩ : ∃ b, b = w2.heap.size := ⟨_, rfl⟩
  rw [← hb8] at hM3 ⊢
  have hcaH := hide hca
  refine gen_world (MS [(b8, ca)] [(v1, ts)] w) hM3 ?_
  clear hM3 hb8 hca ho1 hM2 hM1 hd1
  intro w3 hM3'
  have hM3 := hide hM3'
  have hd2 := hide (hD2.out w3)
  clear hM3' hD2
  go_upto_region 4 with (first
    | (go_at_call 24; refine hd2.out.mono ?_; rintro e w4 ⟨hO, hB4⟩; obtain ⟨v2, rfl, hv2⟩ := hdoH.out _ _ hO; have hM4 := hide ((hM3.out.next hB4).add hv2); have hc2 := msg_info g D v2; have ho2 := msg_one g D v2 hv2.one; clear hO hB4 hv2)
    | (refine wpList_store_new rfl 24 (.tmp 10) (.tmp 27) rfl (RW.mcells g D v2) rfl rfl 24 RW.noM hc2 rfl ho2 ?_))
  obtain ⟨cb, hcb⟩ : ∃ c, c = RW.mcells g D v2 := ⟨_, rfl⟩
  rw [← hcb] at hc2 ⊢
  have hM5 := hM4.out.new cb
  obtain ⟨b10, hb10⟩ : ∃ b, b = w4.heap.size := ⟨_, rfl⟩
  rw [← hb10] at hM5 ⊢
  have hcbH := hide hcb
  refine gen_world (MS [(b10, cb), (b8, ca)] [(v2, ts), (v1, ts)] w) hM5 ?_
  clear hM5 hb10 hcb ho2 hM4 hM3 hd2
  intro w5 hM5
  have hr8 := hM5.rows.rows (b8, ca) (by simp)
  have hr10 := hM5.rows.rows (b10, cb) (by simp)
  have hSm := hide (show Calls Tryd.prog 17 #[.agg ca, .agg cb] w5 fun e w' => e = .returned (.bool true) ∧ Below w5.heap.size w5 w' from by
    rw [hcaH.out, hcbH.out]
    have := rsame_any g g D D v1 v2 ts ts w5 (hM5.strs (v1, ts) (by simp)) (hM5.strs (v2, ts) (by simp)) (by omega) (by omega)
    rw [RW.dec_true (fun i _ => rfl)] at this
    simpa using this)
  have hbl := hide hM5.rows.below
  clear hM5
  go_upto_region 6 with (first
    | (refine wpList_load_row rfl 24 (.tmp 8) rfl b8 rfl 24 ca (0, 0) _ hr8 Tryd.underlying24 rfl hc1 ?_)
    | (refine wpList_load_row rfl 24 (.tmp 10) rfl b10 rfl 24 cb (0, 0) _ hr10 Tryd.underlying24 rfl hc2 ?_)
    | (go_at_call 17; refine hSm.out.mono ?_; rintro e w6 ⟨rfl, hB6⟩; have hB6H := hide (hbl.out.trans (hB6.mono hbl.out.size)); clear hB6 hr8 hr10))
  clear hSm hbl hc1 hc2
  refine wp_region_k (fun _ W => Below w.heap.size w W) (fun _ => True) [6, 7] (.op 0 (.op 1 (.op 2 (.op 3 (.op 4 (.op 5 (.op 9 (.op 6 (.op 7 (.op 8 .nil)))))))))) (by kernel_rfl) (by kernel_rfl) (by rfl) (by kernel_rfl) hB6H.out.drew trivial ?_
  refine k_val (.slice al l.length cl) (by apply opN; repeat' (first | apply OpAt.z | apply OpAt.s)) (by rfl) (by rfl) (fun _ W hS => op_mv rfl rfl) ?_
  simp only [Act.put, List.setIfInBounds_toArray, List.set_cons_zero, List.set_cons_succ]
  refine k_val (.slice al l.length cl) (by apply opN; repeat' (first | apply OpAt.z | apply OpAt.s)) (by rfl) (by rfl) (fun _ W hS => op_mv rfl rfl) ?_
  simp only [Act.put, List.setIfInBounds_toArray, List.set_cons_zero, List.set_cons_succ]
  refine k_val (.int .i64 l.length) (by apply opN; repeat' (first | apply OpAt.z | apply OpAt.s)) (by rfl) (by rfl) (fun _ W hS => op_len_st rfl rfl) ?_
  simp only [Act.put, List.setIfInBounds_toArray, List.set_cons_zero, List.set_cons_succ]
  refine k_val (.int .i64 m) (by apply opN; repeat' (first | apply OpAt.z | apply OpAt.s)) (by rfl) (by rfl) (fun _ W hS => (op_min_c rfl rfl rfl rfl).trans (by rw [hmin.out])) ?_
  simp only [Act.put, List.setIfInBounds_toArray, List.set_cons_zero, List.set_cons_succ]
  refine k_val (.slice al m cl) (by apply opN; repeat' (first | apply OpAt.z | apply OpAt.s)) (by rfl) (by rfl) (fun _ W hS => op_hi_st rfl rfl rfl hmc.out) ?_
  simp only [Act.put, List.setIfInBounds_toArray, List.set_cons_zero, List.set_cons_succ]
  refine k_val (vx) (by apply opN; repeat' (first | apply OpAt.z | apply OpAt.s)) (by rfl) (by rfl) (fun _ W hS => op_mv rfl rfl) ?_
  simp only [Act.put, List.setIfInBounds_toArray, List.set_cons_zero, List.set_cons_succ]
  refine k_val (.int .i64 0) (by apply opN; repeat' (first | apply OpAt.z | apply OpAt.s)) (by rfl) (by rfl) (fun _ W hS => op_mv rfl rfl) ?_
  simp only [Act.put, List.setIfInBounds_toArray, List.set_cons_zero, List.set_cons_succ]
  refine k_step (fun K' u => ∃ (a : Option Addr) (c : Nat) (L : List ByteArray), u = .slice a L.length c ∧ L.length ≤ 20 ∧ K' = fun W => StrsV W (.slice a L.length c) L) (by apply opN; repeat' (first | apply OpAt.z | apply OpAt.s)) (by rfl) (by rfl) (by rfl) (fun W hC hK => ?_) ?_
  · refine op_x1 (a := vx) rfl rfl rfl cf_ids ?_
    refine (ids_form vx X hXH.out hXl W (hxrow.out W hC)).mono ?_
    rintro e w' ⟨⟨a, c, L, rfl, hst, _, hl⟩, hB⟩
    exact ⟨_, rfl, hC.trans (hB.mono hC.size), _, hst, a, c, L, rfl, hl, rfl⟩
  rintro K' u ⟨a2, c2, L2, rfl, hl2, rfl⟩
  simp only [Act.put, List.setIfInBounds_toArray, List.set_cons_zero, List.set_cons_succ]
  refine k_step (fun K' u => ∃ gb, u = .slice (some ⟨gb, 0, none⟩) 2 2 ∧ K' = fun W => StrsV W (.slice a2 L2.length c2) L2 ∧ W.heap[gb]? = some (.cells #[.slice al m cl, .slice a2 L2.length c2] 22 (0, 0))) (by apply opN; repeat' (first | apply OpAt.z | apply OpAt.s)) (by rfl) (by rfl) (by rfl) (fun W hC hK => ?_) ?_
  · exact xup_val (op_bs_ss rfl rfl rfl) ⟨hC.alloc hC.size _, _, ⟨hK.next ((Below.refl _ _).alloc (Nat.le_refl _) _), heap_alloc_new _ _⟩, W.heap.size, rfl, rfl⟩
  rintro K' u ⟨gb, rfl, rfl⟩
  simp only [Act.put, List.setIfInBounds_toArray, List.set_cons_zero, List.set_cons_succ]
  refine k_val (.int .i64 2) (by apply opN; repeat' (first | apply OpAt.z | apply OpAt.s)) (by rfl) (by rfl) (fun _ W hS => op_len_ss (n := 2) rfl rfl) ?_
  simp only [Act.put, List.setIfInBounds_toArray, List.set_cons_zero, List.set_cons_succ]
  refine k_nil ?_
  intro w9 hC9 hK9
  have hI9 := hide (And.intro hC9 hK9)
  have hl2H := hide hl2
  clear hC9 hK9 hl2 hB6H hxrow hXH
  go_wp2
  go_loopw [47] (fun i wr => ∃ q : Nat, i = .int .i64 q ∧ q ≤ 2 ∧ Hid (Below w.heap.size w wr ∧ StrsV wr (.slice a2 L2.length c2) L2 ∧ wr.heap[gb]? = some (.cells #[.slice al m cl, .slice a2 L2.length c2] 22 (0, 0)))) (fun i _ => 2 - (intOf i).toNat)
  case atStart => exact ⟨0, rfl, Nat.zero_le _, hI9.out⟩
  case round =>
    clear hI9
    obtain ⟨q, rfl, hq2, hQ⟩ := hrel
    by_cases hq : q < 2
    · have hqi : (q : Int) < 2 := by omega
      obtain ⟨v, ys, hcv, hys, hyl⟩ : ∃ (v : Value) (ys : List ByteArray), wr.cell? ⟨gb, q, none⟩ = some v ∧ StrsV wr v ys ∧ ys.length ≤ 30 := by
        have hq' : q = 0 ∨ q = 1 := by omega
        rcases hq' with rfl | rfl
        · have h1 := (hlrow.out wr hQ.out.1).first m hml.out
          exact ⟨_, l.take m, (cell_at hQ.out.2.2 0).trans rfl, strsV_row h1, by rw [List.length_take]; have := hm30.out; omega⟩
        · exact ⟨_, L2, (cell_at hQ.out.2.2 1).trans rfl, hQ.out.2.1, by have := hl2H.out; omega⟩
      obtain ⟨T, ec, hvr, _⟩ := valRes_parts ys
      have hV1 := hide (value_any hys (by omega))
      have hV2 := hide (fun W (h : Below wr.heap.size wr W) => rvalue_any (hys.next h) (by omega))
      rw [hvr] at hV1 hV2
      have hqH := hide hq
      clear hvr hys hyl hq
      go_upto_region 10 with (go_at_call 26; refine hV1.out.mono ?_; rintro e w10 ⟨rfl, hB10⟩; have hB10H := hide hB10; clear hB10)
      have hv2 := hide (hV2.out _ hB10H.out)
      clear hV1 hV2
      go_upto_region 11 with (go_at_call 27; refine hv2.out.mono ?_; rintro e w11 ⟨rfl, hB11⟩; have hB11H := hide (hB10H.out.trans (hB11.mono hB10H.out.size)); clear hB11)
      clear hv2 hB10H hcv
      go_wp2
      go_roundw
      case rel => exact ⟨q + 1, by go_num, by have := hqH.out; omega, hQ.out.1.trans (hB11H.out.mono hQ.out.1.size), hQ.out.2.1.next hB11H.out, (hB11H.out.block _ (Array.getElem?_eq_some_iff.1 hQ.out.2.2).1).trans hQ.out.2.2⟩
      case measure => have := hqH.out; simp [intOf]; omega
    · have hqi : ¬ (q : Int) < 2 := by omega
      have hend := hide hQ.out.1
      clear hq hQ
      go_wp2
      go_ret
      exact ⟨rfl, hend.out⟩
end Go.Proofs.YtcbckcojebanaaaDoor
