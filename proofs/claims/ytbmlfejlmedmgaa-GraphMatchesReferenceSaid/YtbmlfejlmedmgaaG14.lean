/-
  Package royaltylaw10: GraphDevices: it returns true; only new memory is written.
-/
import Derived.Test.YtbmlfejlmedmgaaG13
import Derived.Test.YtbmlfejlmedmgaaGP3
namespace Go.Proofs.Ytbmlfejlmedmgaa
open Go.RowKit RG
theorem op_eqlE {ev : Operand → Value} {o : Oper} {x y : Operand} {w : World} {a b c d : Int} (ho : o.op = .binOp .eql 38 x y 38) (hx : ev x = .agg #[.int .i64 a, .int .i64 b]) (hy : ev y = .agg #[.int .i64 c, .int .i64 d]) : (execOp ev o).run Try.prog w = .ok (.value (.bool (decide (((a, b) : RW.Ed) = (c, d))))) w := by
  unfold execOp
  rw [ho]
  simp only [hx, hy]
  go_simp
  by_cases g0 : a = c
  · by_cases g1 : b = d
    · simp [g0, g1]
    · simp [g0, g1]
  · simp [g0]
section
variable {ev : Operand → Value} {o : Oper} {x y z : Operand} {w : World}
theorem op_idx_es {b ao i n c : Nat} (ho : o.op = .indexAddr 22 x y) (hx : ev x = .slice (some ⟨b, ao, none⟩) n c) (hy : ev y = .int .i64 i) (hi : i < n) : (execOp ev o).run Try.prog w = .ok (.value (.pointer (some ⟨b, ao + i * 2, none⟩))) w := by
  unfold execOp
  rw [ho]
  simp only [hx, hy]
  go_simp
theorem op_idx_i {b ao i n c : Nat} (ho : o.op = .indexAddr 27 x y) (hx : ev x = .slice (some ⟨b, ao, none⟩) n c) (hy : ev y = .int .i64 i) (hi : i < n) : (execOp ev o).run Try.prog w = .ok (.value (.pointer (some ⟨b, ao + i, none⟩))) w := by
  unfold execOp
  rw [ho]
  simp only [hx, hy]
  go_simp
end
theorem rowV_pin {α : Type} {k : Nat} {enc : α → List Value} {W : World} {a : Option Addr} {n c : Nat} {l : List α} {i : Nat} {x : α} (h : RowV k enc W (.slice a n c) l) (hx : l[i]? = some x) : ∃ b o, a = some ⟨b, o, none⟩ ∧ ∀ W', Below W.heap.size W W' → W'.rangeAt b (o + i * k) (enc x) := by
  obtain ⟨a', c', he, _, hc⟩ := h
  injection he with e1 e2 e3
  subst e1
  rcases hc with rfl | ⟨b, o, rfl, hb, hc⟩
  · simp at hx
  · exact ⟨b, o, rfl, fun W' hB j u hu => (World.cell?_of_block (a := ⟨b, o + i * k + j, none⟩) (hB.block _ hb)).trans (hc i x hx j u hu)⟩
theorem pin1 {W : World} {b o i : Nat} {x : Int} (h : W.rangeAt b (o + i * 1) (encI x)) : W.cell? ⟨b, o + i, none⟩ = some (.int .i64 x) := by
  have := h 0 _ rfl
  rw [Nat.mul_one, Nat.add_zero] at this
  exact this
/-- a list of lists under way: the outer row is the call's own, the lists are old -/
structure LLo (W : World) (B : Nat) (w0 : World) (u : Value) (vs : List Value) (L : List (List Int)) : Prop where
  row : W.ownsRow B 27 1 u vs.length vs
  len : vs.length = L.length
  el : ∀ (i : Nat) (v : Value) (x : List Int), vs[i]? = some v → L[i]? = some x → RowV 1 encI w0 v x
theorem LLo.app {W : World} {B : Nat} {w0 : World} {u v : Value} {vs : List Value} {L : List (List Int)} {x : List Int} (h : LLo W B w0 u vs L) (hv : RowV 1 encI w0 v x) (hl : vs.length ≤ 1000000) (hB : B ≤ W.heap.size) :
    ∃ v' W', (Builtin.append_ #[33, 33] 33 #[u, .slice (some ⟨W.heap.size, 0, none⟩) 1 1]).run Try.prog (W.alloc (.cells #[v] 27)) = .ok v' W' ∧ LLo W' B w0 v' (vs ++ [v]) (L ++ [x]) ∧ Below B W W' := by
  have hA := alloc_bel (Below.refl W.heap.size W) (Nat.le_refl _) (.cells #[v] 27)
  have hg := alloc_at1 W (.cells #[v] 27)
  have h1 : (W.alloc (.cells #[v] 27)).ownsRow B 27 1 u vs.length vs := own_keep h.row fun g hg => hA.block _ (own_block h.row hg).2.1
  obtain ⟨i0, hi, hz0, hz1, hz2⟩ := info_parts ll_info
  obtain ⟨v', W', hr, ho, hgr, _, _⟩ := run_append_own_at (P := Try.prog) (w := W.alloc (.cells #[v] 27)) B 33 33 27 i0 (.slice none 0 0) 1 24 Try.underlying33 hi hz0 hz1 hz2 rfl (by decide) u vs.length vs h1 ⟨W.heap.size, 0, none⟩ 1 1 [v] rfl (fun j q hj => by
    rcases j with _ | j
    · simp at hj
      subst hj
      exact cellAt hg 0
    · simp at hj) (fun q hq => by
      obtain ⟨a, c, e, _⟩ := hv
      simp at hq
      rw [hq, e]
      rfl) (by unfold maxLen; omega) (by omega) (Nat.le_trans hB hA.size)
  have hC : ChgS (fun j => u.ownBlock = some j) (W.alloc (.cells #[v] 27)) W' := ⟨hgr.os, hgr.tape, hgr.output, hgr.size, fun k hk hn => hgr.block k hk fun e => hn e.symm⟩
  refine ⟨v', W', hr, ⟨by rw [List.length_append]; exact ho, by rw [List.length_append, List.length_append, h.len]; rfl, fun i q y hq hy => ?_⟩, (hA.mono hB).trans (hC.below (fun k hk => (own_block h1 hk).1) (Nat.le_trans hB hA.size))⟩
  rcases Nat.lt_or_ge i vs.length with hi | hi
  · rw [List.getElem?_append_left hi] at hq
    rw [List.getElem?_append_left (by rw [← h.len]; exact hi)] at hy
    exact h.el i q y hq hy
  · rw [List.getElem?_append_right hi] at hq
    rw [List.getElem?_append_right (by rw [← h.len]; exact hi)] at hy
    rcases hii : i - vs.length with _ | k
    · rw [hii] at hq
      rw [← h.len, hii] at hy
      simp at hq hy
      subst hq hy
      exact hv
    · rw [hii] at hq
      simp at hq
theorem LLo.ll {W : World} {B : Nat} {w0 : World} {u : Value} {vs : List Value} {L : List (List Int)} (h : LLo W B w0 u vs L) (hB : Below w0.heap.size w0 W) : LL W u L := ⟨vs, rowV_own (k := 1) (enc := fun u : Value => [u]) (B := B) (e := 27) (n := vs.length) (fun _ => rfl) (by decide) (by rw [rowCells_v]; exact h.row), h.len, fun i v x hv hx => (h.el i v x hv hx).next hB⟩
theorem LLo.form {W : World} {B : Nat} {w0 : World} {u : Value} {vs : List Value} {L : List (List Int)} (h : LLo W B w0 u vs L) : ∃ a c, u = .slice a vs.length c := by
  rcases h.row.2 with ⟨rfl, h0⟩ | ⟨g, cap, cur, rfl, _⟩
  · exact ⟨none, 0, by rw [h0]⟩
  · exact ⟨_, _, rfl⟩
set_option maxRecDepth 10000 in
set_option maxHeartbeats 16000000 in
theorem graphdevices_any (v : Value) (l : List RW.Ed) (hl : ∀ e ∈ l, RW.i64b e.1 ∧ RW.i64b e.2) (z : Int) (hz : RW.i64b z) (w : World) (hv : RowV 2 RW.edl w v l) :
    Calls Try.prog 7 #[v, .int .i64 z] w fun e w' => e = .returned (.bool true) ∧ Below w.heap.size w w' := by
  have hS := hide (fun W => sane_any W)
  have hPz := hide (fun W => pick_any z 14 hz.1 hz.2 (by decide) (by decide) W)
  obtain ⟨x, hpz⟩ : ∃ x, x = RW.pickI z 14 := ⟨_, rfl⟩
  rw [← hpz] at hPz
  have hF1 := hide (fun W (hW : RowV 2 RW.edl W v l) => few_any v l false hl W hW)
  obtain ⟨E, hE⟩ : ∃ E, E = RW.fewL false l := ⟨_, rfl⟩
  have hEl := hide (show E.length ≤ 50 by rw [hE]; exact RW.fewL_len _ _)
  rw [← hE] at hF1
  have hvH := hide hv
  obtain ⟨av, cv, hvf, _, _⟩ := hv
  subst hvf
  obtain ⟨nl, hnl⟩ : ∃ n, n = l.length := ⟨_, rfl⟩
  rw [← hnl] at hF1 hvH ⊢
  obtain ⟨B, hB⟩ : ∃ B, B = w.heap.size := ⟨_, rfl⟩
  have hBH := hide hB
  have hsz := hide (fun W (h : Below B w W) => (show B ≤ W.heap.size by rw [hB]; exact hB ▸ h.size))
  obtain ⟨X, hX⟩ : ∃ X, X = RW.cAcc E x := ⟨_, rfl⟩
  obtain ⟨Y, hY⟩ : ∃ X, X = RW.cDev E x := ⟨_, rfl⟩
  have hbd := hide (RW.cl_bd E x (by have := hEl.out; omega))
  have hboth := hide (fun e he => RW.in_both E x e he)
  have hdeg := hide (fun d hd => RW.degree_cnt E x d hd)
  have hrest := hide (RW.cls_rest E x)
  have hrl := hide (show RW.restL E x = E.filter (fun e => !X.contains e.1) by rw [hX]; rfl)
  have hwl := hide (show RW.wantL E x = (RW.cls E).filter (fun c => !X.contains (c.headD 0)) by rw [hX]; rfl)
  have hcn := hide (fun d => (show RW.cntD E x d = (X.filter fun a => E.contains (a, d)).length by rw [hX]; rfl))
  rw [← hX, ← hY] at hbd hboth
  rw [← hY] at hdeg
  have hXH := hide hX
  have hYH := hide hY
  clear hz hpz hl hE hnl hB hX hY
  go_enter Try.func7, Try.ntmps7
  go_upto_region 2 with (go_at_call 8; refine (hS.out _).mono ?_; rintro e w2 ⟨rfl, q⟩; have k2 := hide (hvH.out.next q); have k3 := hide (show Below B w w2 from hBH.out ▸ q); clear q)
  go_upto_region 3 with (go_at_call 9; refine (hF1.out _ k2.out).mono ?_; rintro e w3 ⟨ve, rfl, q1, q⟩; have g2 := hide q1; have g3 := hide (k3.out.trans (q.mono (hsz.out _ k3.out))); clear q q1)
  obtain ⟨ae, ce, hve⟩ := g2.out.form
  subst hve
  obtain ⟨ne, hne⟩ : ∃ n, n = E.length := ⟨_, rfl⟩
  have hneH := hide hne
  have gr := hide g2.out.row
  rw [← hne] at gr
  rw [← hne]
  have hE1 : E.length ≤ 1000 := by have := hEl.out; omega
  have hCl := hide (cluster_any _ E x hE1 w3 gr.out)
  have hCs := hide (fun W (h : RowV 2 RW.edl W (.slice ae ne ce) E) => clusters_any _ E hE1 W h)
  have hDg := hide (fun d W (h : RowV 2 RW.edl W (.slice ae ne ce) E) => degree_any _ E d hE1 W h)
  rw [← hXH.out, ← hYH.out] at hCl
  clear hne k2 k3 g2 hF1 hE1
  go_upto_region 4 with (go_at_call 10; refine (hPz.out _).mono ?_; rintro e w' ⟨rfl, rfl⟩)
  go_upto_region 5 with (go_at_call 11; refine hCl.out.mono ?_; rintro e w4 ⟨ua, ud, rfl, q1, q2, q⟩; have a1 := hide q1; have a2 := hide q2; have s1 := hide (gr.out.next q); have sb := hide (g3.out.trans (q.mono (hsz.out _ g3.out))); clear q q1 q2)
  obtain ⟨aa, ca, hua, _, _⟩ := a1.out
  obtain ⟨ad, cd, hud, _, _⟩ := a2.out
  subst hua
  subst hud
  obtain ⟨nx, hnx⟩ : ∃ n, n = X.length := ⟨_, rfl⟩
  obtain ⟨ny, hny⟩ : ∃ n, n = Y.length := ⟨_, rfl⟩
  have hnxH := hide hnx
  have hnyH := hide hny
  rw [← hnx] at a1
  rw [← hny] at a2
  rw [← hnx, ← hny]
  have hX6 : X.length ≤ 1000000 := by have := hbd.out.1; omega
  have hY6 : Y.length ≤ 1000000 := by have := hbd.out.2; omega
  obtain ⟨B1, hB1⟩ : ∃ b, b = w4.heap.size := ⟨_, rfl⟩
  have hB1H := hide hB1
  have re := hide (fun W (h : Below B1 w4 W) => s1.out.next (hB1 ▸ h))
  have rx := hide (fun W (h : Below B1 w4 W) => a1.out.next (hB1 ▸ h))
  have ry := hide (fun W (h : Below B1 w4 W) => a2.out.next (hB1 ▸ h))
  have rs := hide (fun W (h : Below B1 w4 W) => (show B1 ≤ W.heap.size by rw [hB1]; exact (hB1 ▸ h).size))
  have rb := hide (fun W (h : Below B1 w4 W) => (show Below B w W from sb.out.trans (h.mono (by rw [hB1]; exact hsz.out _ sb.out))))
  have hHx := hide (fun (i : Int) W (h : Below B1 w4 W) => has_any _ X i hX6 W (rx.out W h))
  have hHy := hide (fun (i : Int) W (h : Below B1 w4 W) => has_any _ Y i hY6 W (ry.out W h))
  have hE50 : ne ≤ 50 := by rw [hneH.out]; exact hEl.out
  have hx1000 : nx ≤ 1000 := by rw [hnxH.out]; exact hbd.out.1
  have hy1000 : ny ≤ 1000 := by rw [hnyH.out]; exact hbd.out.2
  clear hnx hny a1 a2 s1 sb gr g3 hX6 hY6 hB1 hCl hPz hS
  go_wp2
  go_loopw [10, 11] (fun u i wr => ∃ j : Nat, i = .int .i64 j ∧ j ≤ ne ∧ Hid (EdsO wr B1 u ((E.take j).filter (fun e => !X.contains e.1)) ∧ Below B1 w4 wr)) (fun _ i _ => ne - (intOf i).toNat)
  case atStart => exact ⟨0, rfl, Nat.zero_le _, EdsO.nil _ _, by rw [hB1H.out]; exact Below.refl _ _⟩
  case round =>
    obtain ⟨j, rfl, hj, hQ⟩ := hrel
    obtain ⟨wo, hwo⟩ : ∃ wo, wo = wr := ⟨_, rfl⟩
    subst hwo
    obtain ⟨hO0, hB0⟩ := hQ.out
    have hO := hide hO0
    have hBw := hide hB0
    clear hQ hO0 hB0
    by_cases hjm : j < ne
    · obtain ⟨⟨ac, dv⟩, hx⟩ : ∃ x, E[j]? = some x := ⟨_, List.getElem?_eq_getElem (by rw [← hneH.out]; exact hjm)⟩
      obtain ⟨a0', c0', he0, _, hrow⟩ := re.out wo hBw.out
      injection he0 with q1 q2 q3
      subst q1
      subst q3
      clear q2
      obtain ⟨bq, oq, rfl, hbq, hcq⟩ := hrow.resolve_left (by rintro h; rw [h] at hx; simp at hx)
      have e0 : wo.cell? ⟨bq, oq + j * 2, none⟩ = some (.int .i64 ac) := hcq j (ac, dv) hx 0 _ rfl
      have e1 : wo.cell? ⟨bq, oq + j * 2 + 1, none⟩ = some (.int .i64 dv) := hcq j (ac, dv) hx 1 _ rfl
      have hfs := hide (RW.filter_snoc (fun e : RW.Ed => !X.contains e.1) E j (ac, dv) hx)
      have hq := hboth.out _ (List.mem_of_getElem? hx)
      have hH1 := hide (hHx.out ac wo hBw.out)
      have hH2 := hide (hHy.out dv wo hBw.out)
      simp only at hq
      rw [← hq] at hH2
      obtain ⟨q, hqq⟩ : ∃ q, q = X.contains ac := ⟨_, rfl⟩
      rw [← hqq] at hH1 hH2
      have hfs2 := hfs.out
      simp only [← hqq] at hfs2
      have hfs3 := hide hfs2
      clear hrow hbq hcq hx hq hqq hfs hfs2
      go_upto_region 10 with (go_at_call 21; refine hH1.out.mono ?_; rintro e w' ⟨rfl, rfl⟩)
      cases q
      · obtain ⟨v8, w8, hrun, hO8, hB8⟩ := hO.out.appNew (ac, dv) (Nat.le_trans (List.length_filter_le _ _) (by rw [List.length_take]; omega)) (rs.out wo hBw.out)
        have hO8H := hide hO8
        have hB8H := hide (hBw.out.trans hB8)
        clear hO8 hB8
        go_wp2_with (first
          | (go_at_call 21; refine hH2.out.mono ?_; rintro e w' ⟨rfl, rfl⟩)
          | (at_builtin; refine wpList_app_run rfl (.tmp 56) (.tmp 61) rfl rfl rfl hrun ?_))
        go_roundw
        case rel => exact ⟨j + 1, by go_num, by omega, by rw [hfs3.out]; exact hO8H.out, hB8H.out⟩
        case measure => simp [intOf]; omega
      · go_wp2_with (go_at_call 21; refine hH2.out.mono ?_; rintro e w' ⟨rfl, rfl⟩)
        go_roundw
        case rel => exact ⟨j + 1, by go_num, by omega, by rw [hfs3.out]; exact (List.append_nil _).symm ▸ hO.out, hBw.out⟩
        case measure => simp [intOf]; omega
    · obtain rfl : ne = j := by omega
      have htl : E.take ne = E := List.take_of_length_le (by rw [← hneH.out]; exact Nat.le_refl _)
      rw [htl, ← hrl.out] at hO
      have hKe := hide (hCs.out wo (re.out wo hBw.out))
      clear htl
      go_upto_region 16 with (go_at_call 17; refine hKe.out.mono ?_; rintro e w5 ⟨vall, rfl, q1, q⟩; have l1 := hide q1; have hO5 := hide (hO.out.next q); have hB5 := hide (hBw.out.trans (q.mono (rs.out _ hBw.out))); clear q q1)
      clear hO hBw hKe hHy hboth
      obtain ⟨vs, ⟨al, cl, rfl, _, hal⟩, hvl, hve⟩ := l1.out
      obtain ⟨nc, hnc⟩ : ∃ n, n = vs.length := ⟨_, rfl⟩
      have hncH := hide hnc
      have halH := hide hal
      have hvlH := hide hvl
      have hveH := hide hve
      rw [← hnc]
      clear hnc hal hvl hve
      obtain ⟨B3, hB3⟩ : ∃ b, b = w5.heap.size := ⟨_, rfl⟩
      have hB3H := hide hB3
      have t4 := hide (fun W (h : Below B3 w5 W) => (show Below B1 w4 W from hB5.out.trans (h.mono (by rw [hB3]; exact rs.out _ hB5.out))))
      have ts := hide (fun W (h : Below B3 w5 W) => (show B3 ≤ W.heap.size by rw [hB3]; exact (hB3 ▸ h).size))
      have hO6 := hide (fun W (h : Below B3 w5 W) => hO5.out.row.next (hB3 ▸ h))
      have hcb := RW.cls_bd E (by have := hEl.out; omega)
      have hnc3 : nc ≤ 1000 := by rw [hncH.out, hvlH.out]; exact hcb.1
      clear hB3 hcb hO5
      go_wp2
      go_loopw [13, 15] (fun u i wr => ∃ j : Nat, i = .int .i64 j ∧ j ≤ nc ∧ Hid (∃ us, LLo wr B3 w5 u us (((RW.cls E).take j).filter (fun c => !X.contains (c.headD 0))) ∧ Below B3 w5 wr)) (fun _ i _ => nc - (intOf i).toNat)
      case atStart => exact ⟨0, rfl, Nat.zero_le _, [], ⟨⟨rfl, .inl ⟨rfl, rfl⟩⟩, rfl, fun i v x h => by simp at h⟩, by rw [hB3H.out]; exact Below.refl _ _⟩
      case round =>
        obtain ⟨k, rfl, hk, hQ⟩ := hrel
        obtain ⟨wp, hwp⟩ : ∃ wp, wp = wr := ⟨_, rfl⟩
        subst hwp
        obtain ⟨us, hO0, hB0⟩ := hQ.out
        have hO := hide hO0
        have hBw := hide hB0
        clear hQ hO0 hB0
        by_cases hkm : k < nc
        · obtain ⟨vk, hvk⟩ : ∃ x, vs[k]? = some x := ⟨_, List.getElem?_eq_getElem (by rw [← hncH.out]; exact hkm)⟩
          obtain ⟨ck, hck⟩ : ∃ x, (RW.cls E)[k]? = some x := ⟨_, List.getElem?_eq_getElem (by rw [← hvlH.out, ← hncH.out]; exact hkm)⟩
          obtain ⟨bl, ol, rfl, hbl, hcl⟩ := halH.out.resolve_left (by rintro rfl; have := hncH.out; simp at this; omega)
          have e0 : wp.cell? ⟨bl, ol + k, none⟩ = some vk := (World.cell?_of_block (a := ⟨bl, ol + k, none⟩) (hBw.out.block _ (by rw [hB3H.out]; exact hbl))).trans (vals_cell hcl hvk)
          have hrow := hveH.out k vk ck hvk hck
          have hrowH := hide hrow
          obtain ⟨h0, r0, hck0⟩ : ∃ a r, ck = a :: r := by
            have := List.mem_of_getElem? hck
            rw [RW.cls_eq] at this
            obtain ⟨a, ha, rfl⟩ := List.mem_map.1 this
            obtain ⟨r, hr⟩ := RW.gpk_head _ _ a ha
            exact ⟨a, r, hr⟩
          obtain ⟨ak, dk, rfl, _, hrk⟩ := hrow
          obtain ⟨nk, hnk⟩ : ∃ n, n = ck.length := ⟨_, rfl⟩
          have hnk0 : 0 < nk := by rw [hnk, hck0]; simp
          have hnk1 : ¬ ((nk : Int) = 0) := by omega
          have hnk2 : ¬ (nk = 0) := by omega
          rw [← hnk] at e0 hrowH
          rw [← hnk] at hvk
          obtain ⟨bk, ok, rfl, hbk, hck'⟩ := hrk.resolve_left (by rw [hck0]; simp)
          have e1 : wp.cell? ⟨bk, ok, none⟩ = some (.int .i64 h0) := (World.cell?_of_block (a := ⟨bk, ok, none⟩) (hBw.out.block _ (by rw [hB3H.out]; exact hbk))).trans (ints_cell (j := 0) hck' (by rw [hck0]; rfl))
          have hfs := RW.filter_snoc (fun c : List Int => !X.contains (c.headD 0)) (RW.cls E) k ck hck
          have hH1 := hide (hHx.out h0 wp (t4.out _ hBw.out))
          obtain ⟨q, hqq⟩ : ∃ q, q = X.contains h0 := ⟨_, rfl⟩
          rw [← hqq] at hH1
          rw [hck0] at hfs
          simp only [List.headD_cons, ← hqq] at hfs
          have hfsH := hide hfs
          have hck0H := hide hck0
          clear hvk hck hbl hcl hrk hnk hbk hck' hfs hqq hck0
          cases q
          · obtain ⟨v8, w8, hrun, hO8, hB8⟩ := hO.out.app hrowH.out (by rw [hO.out.len]; exact Nat.le_trans (List.length_filter_le _ _) (by rw [List.length_take]; omega)) (ts.out wp hBw.out)
            rw [hck0H.out] at hO8
            have hO8H := hide hO8
            have hB8H := hide (hBw.out.trans hB8)
            clear hO8 hB8
            go_wp2_with (first
              | (go_at_call 21; refine hH1.out.mono ?_; rintro e w' ⟨rfl, rfl⟩)
              | (at_builtin; refine wpList_app_run rfl (.tmp 86) (.tmp 91) rfl rfl rfl hrun ?_))
            go_roundw
            case rel => exact ⟨k + 1, by go_num, by omega, _, by rw [hfsH.out]; exact hO8H.out, hB8H.out⟩
            case measure => simp [intOf]; omega
          · go_wp2_with (go_at_call 21; refine hH1.out.mono ?_; rintro e w' ⟨rfl, rfl⟩)
            go_roundw
            case rel => exact ⟨k + 1, by go_num, by omega, us, by rw [hfsH.out]; exact (List.append_nil _).symm ▸ hO.out, hBw.out⟩
            case measure => simp [intOf]; omega
        · obtain rfl : nc = k := by omega
          have htl : (RW.cls E).take nc = RW.cls E := List.take_of_length_le (by rw [← hvlH.out, ← hncH.out]; exact Nat.le_refl _)
          rw [htl, ← hwl.out] at hO
          obtain ⟨B4, hB4⟩ : ∃ b, b = wp.heap.size := ⟨_, rfl⟩
          have hB4H := hide hB4
          have y4 := hide (fun W (h : Below B4 wp W) => (show Below B3 w5 W from hBw.out.trans (h.mono (by rw [hB4]; exact ts.out _ hBw.out))))
          have hW := hide (fun W (h : Below B4 wp W) => (hO.out.ll (hB3H.out ▸ hBw.out)).next (hB4 ▸ h))
          have ys := hide (fun W (h : Below B4 wp W) => (show B4 ≤ W.heap.size by rw [hB4]; exact (hB4 ▸ h).size))
          clear htl hB4
          go_wp2
          go_loopw [16] (fun i wr => ∃ q : Nat, i = .int .i64 q ∧ q ≤ ny ∧ Hid (Below B4 wp wr)) (fun i _ => ny - (intOf i).toNat)
          case atStart => exact ⟨0, rfl, Nat.zero_le _, by rw [hB4H.out]; exact Below.refl _ _⟩
          case round =>
            obtain ⟨q, rfl, hq, hQ⟩ := hrel
            obtain ⟨w6, hw6⟩ : ∃ x, x = wr := ⟨_, rfl⟩
            subst hw6
            have hB6 := hide hQ.out
            clear hQ
            by_cases hqm : q < ny
            · obtain ⟨d, hd⟩ : ∃ x, Y[q]? = some x := ⟨_, List.getElem?_eq_getElem (by rw [← hnyH.out]; exact hqm)⟩
              obtain ⟨bd, od, rfl, pd0⟩ := rowV_pin (ry.out wp (t4.out wp hBw.out)) hd
              have pd := hide pd0
              have hqyH := hide hqm
              have hdg := hide (hdeg.out d (List.mem_of_getElem? hd))
              clear pd0 hd
              go_wp2
              go_loopw [17, 18] (fun n i wr => ∃ k : Nat, i = .int .i64 k ∧ k ≤ nx ∧ n = .int .i64 ((((X.take k).filter fun a => E.contains (a, d)).length : Nat) : Int) ∧ Hid (Below B4 wp wr)) (fun _ i _ => nx - (intOf i).toNat)
              case atStart => exact ⟨0, rfl, Nat.zero_le _, rfl, hB6.out⟩
              case round =>
                obtain ⟨k, rfl, hk, rfl, hQ⟩ := hrel
                obtain ⟨w7, hw7⟩ : ∃ x, x = wr := ⟨_, rfl⟩
                subst hw7
                have hB7 := hide hQ.out
                clear hQ
                obtain ⟨m, hm⟩ : ∃ m, m = ((X.take k).filter fun a => E.contains (a, d)).length := ⟨_, rfl⟩
                have hmH := hide hm
                rw [← hm]
                have hmk : m ≤ 1000 := by rw [hm]; exact Nat.le_trans (List.length_filter_le _ _) (by rw [List.length_take]; have := hbd.out.1; omega)
                clear hm
                by_cases hkm : k < nx
                · obtain ⟨a, ha⟩ : ∃ x, X[k]? = some x := ⟨_, List.getElem?_eq_getElem (by rw [← hnxH.out]; exact hkm)⟩
                  obtain ⟨bx, ox, rfl, px0⟩ := rowV_pin (rx.out wp (t4.out wp hBw.out)) ha
                  have px := hide px0
                  have hkxH := hide hkm
                  have hfk := hide (RW.filter_snoc (fun a => E.contains (a, d)) X k a ha)
                  clear px0 ha
                  go_wp2
                  go_loopw [19, 20] (fun f i wr => ∃ j : Nat, i = .int .i64 j ∧ j ≤ ne ∧ f = .bool ((E.take j).contains (a, d)) ∧ Hid (Below B4 wp wr)) (fun _ i _ => ne - (intOf i).toNat)
                  case atStart => exact ⟨0, rfl, Nat.zero_le _, rfl, hB7.out⟩
                  case round =>
                    obtain ⟨j, rfl, hj, rfl, hQ⟩ := hrel
                    obtain ⟨w8, hw8⟩ : ∃ x, x = wr := ⟨_, rfl⟩
                    subst hw8
                    have hB5 := hide hQ.out
                    clear hQ
                    by_cases hjm : j < ne
                    · obtain ⟨⟨ea, ed⟩, he⟩ : ∃ x, E[j]? = some x := ⟨_, List.getElem?_eq_getElem (by rw [← hneH.out]; exact hjm)⟩
                      obtain ⟨be, oe, rfl, pe0⟩ := rowV_pin (re.out wp (t4.out wp hBw.out)) he
                      have pe := hide pe0
                      have hjmH := hide hjm
                      have hsn := hide (show (E.take (j + 1)).contains (a, d) = ((E.take j).contains (a, d) || decide (((ea, ed) : RW.Ed) = (a, d))) by
                        rw [List.take_add_one, he, Bool.eq_iff_iff, List.contains_iff_mem, Bool.or_eq_true, List.contains_iff_mem, decide_eq_true_eq]
                        show (a, d) ∈ E.take j ++ [(ea, ed)] ↔ _
                        rw [List.mem_append, List.mem_singleton]
                        exact ⟨fun h => h.imp id Eq.symm, fun h => h.imp id Eq.symm⟩)
                      obtain ⟨f, hf⟩ : ∃ f, f = (E.take j).contains (a, d) := ⟨_, rfl⟩
                      rw [← hf] at hsn
                      rw [← hf]
                      clear pe0 he hf
                      cases f
                      · go_upto_region 34 with fail
                        refine wp_region_k (fun _ W => Below B4 wp W) (fun _ => True) [] (.op 0 (.op 1 (.op 2 (.op 3 (.op 4 (.op 5 (.op 6 (.op 7 (.op 8 (.op 9 (.op 10 (.op 11 (.op 12 (.op 13 (.op 14 (.op 15 (.op 16 (.op 17 .nil)))))))))))))))))) (by kernel_rfl) (by kernel_rfl) (by rfl) (by kernel_rfl) (hB5.out.trans (Below.refl _ _).drew) trivial ?_
                        refine k_val (.bool false) (by apply opN; repeat' (first | apply OpAt.z | apply OpAt.s)) (by rfl) (by rfl) (fun _ W hS => op_mv rfl rfl) ?_
                        simp only [Act.put, List.setIfInBounds_toArray, List.set_cons_zero, List.set_cons_succ]
                        refine k_val (.bool false) (by apply opN; repeat' (first | apply OpAt.z | apply OpAt.s)) (by rfl) (by rfl) (fun _ W hS => op_mv rfl rfl) ?_
                        simp only [Act.put, List.setIfInBounds_toArray, List.set_cons_zero, List.set_cons_succ]
                        refine k_val (.slice (some ⟨be, oe, none⟩) ne ce) (by apply opN; repeat' (first | apply OpAt.z | apply OpAt.s)) (by rfl) (by rfl) (fun _ W hS => op_mv rfl rfl) ?_
                        simp only [Act.put, List.setIfInBounds_toArray, List.set_cons_zero, List.set_cons_succ]
                        refine k_val (.int .i64 (j : Int)) (by apply opN; repeat' (first | apply OpAt.z | apply OpAt.s)) (by rfl) (by rfl) (fun _ W hS => op_mv rfl rfl) ?_
                        simp only [Act.put, List.setIfInBounds_toArray, List.set_cons_zero, List.set_cons_succ]
                        refine k_val (.pointer (some ⟨be, oe + j * 2, none⟩)) (by apply opN; repeat' (first | apply OpAt.z | apply OpAt.s)) (by rfl) (by rfl) (fun _ W hS => op_idx_es rfl rfl rfl hjmH.out) ?_
                        simp only [Act.put, List.setIfInBounds_toArray, List.set_cons_zero, List.set_cons_succ]
                        refine k_val (.agg #[.int .i64 ea, .int .i64 ed]) (by apply opN; repeat' (first | apply OpAt.z | apply OpAt.s)) (by rfl) (by rfl) (fun _ W hS => op_load_ed rfl rfl (pe.out W (hB4H.out ▸ hS) 0 _ rfl) (pe.out W (hB4H.out ▸ hS) 1 _ rfl)) ?_
                        simp only [Act.put, List.setIfInBounds_toArray, List.set_cons_zero, List.set_cons_succ]
                        refine k_val (.slice (some ⟨bx, ox, none⟩) nx ca) (by apply opN; repeat' (first | apply OpAt.z | apply OpAt.s)) (by rfl) (by rfl) (fun _ W hS => op_mv rfl rfl) ?_
                        simp only [Act.put, List.setIfInBounds_toArray, List.set_cons_zero, List.set_cons_succ]
                        refine k_val (.int .i64 (k : Int)) (by apply opN; repeat' (first | apply OpAt.z | apply OpAt.s)) (by rfl) (by rfl) (fun _ W hS => op_mv rfl rfl) ?_
                        simp only [Act.put, List.setIfInBounds_toArray, List.set_cons_zero, List.set_cons_succ]
                        refine k_val (.pointer (some ⟨bx, ox + k, none⟩)) (by apply opN; repeat' (first | apply OpAt.z | apply OpAt.s)) (by rfl) (by rfl) (fun _ W hS => op_idx_i rfl rfl rfl hkxH.out) ?_
                        simp only [Act.put, List.setIfInBounds_toArray, List.set_cons_zero, List.set_cons_succ]
                        refine k_val (.int .i64 a) (by apply opN; repeat' (first | apply OpAt.z | apply OpAt.s)) (by rfl) (by rfl) (fun _ W hS => op_load_int rfl rfl (pin1 (px.out W (hB4H.out ▸ hS)))) ?_
                        simp only [Act.put, List.setIfInBounds_toArray, List.set_cons_zero, List.set_cons_succ]
                        refine k_val (.slice (some ⟨bd, od, none⟩) ny cd) (by apply opN; repeat' (first | apply OpAt.z | apply OpAt.s)) (by rfl) (by rfl) (fun _ W hS => op_mv rfl rfl) ?_
                        simp only [Act.put, List.setIfInBounds_toArray, List.set_cons_zero, List.set_cons_succ]
                        refine k_val (.int .i64 (q : Int)) (by apply opN; repeat' (first | apply OpAt.z | apply OpAt.s)) (by rfl) (by rfl) (fun _ W hS => op_mv rfl rfl) ?_
                        simp only [Act.put, List.setIfInBounds_toArray, List.set_cons_zero, List.set_cons_succ]
                        refine k_val (.pointer (some ⟨bd, od + q, none⟩)) (by apply opN; repeat' (first | apply OpAt.z | apply OpAt.s)) (by rfl) (by rfl) (fun _ W hS => op_idx_i rfl rfl rfl hqyH.out) ?_
                        simp only [Act.put, List.setIfInBounds_toArray, List.set_cons_zero, List.set_cons_succ]
                        refine k_val (.int .i64 d) (by apply opN; repeat' (first | apply OpAt.z | apply OpAt.s)) (by rfl) (by rfl) (fun _ W hS => op_load_int rfl rfl (pin1 (pd.out W (hB4H.out ▸ hS)))) ?_
                        simp only [Act.put, List.setIfInBounds_toArray, List.set_cons_zero, List.set_cons_succ]
                        refine k_val (.agg #[.int .i64 a, .int .i64 d]) (by apply opN; repeat' (first | apply OpAt.z | apply OpAt.s)) (by rfl) (by rfl) (fun _ W hS => op_build_e rfl rfl rfl) ?_
                        simp only [Act.put, List.setIfInBounds_toArray, List.set_cons_zero, List.set_cons_succ]
                        refine k_val (.bool (decide (((ea, ed) : RW.Ed) = (a, d)))) (by apply opN; repeat' (first | apply OpAt.z | apply OpAt.s)) (by rfl) (by rfl) (fun _ W hS => op_eqlE rfl rfl rfl) ?_
                        simp only [Act.put, List.setIfInBounds_toArray, List.set_cons_zero, List.set_cons_succ]
                        refine k_val (.bool (decide (((ea, ed) : RW.Ed) = (a, d)))) (by apply opN; repeat' (first | apply OpAt.z | apply OpAt.s)) (by rfl) (by rfl) (fun _ W hS => op_pk rfl rfl rfl rfl rfl) ?_
                        simp only [Act.put, List.setIfInBounds_toArray, List.set_cons_zero, List.set_cons_succ]
                        refine k_val (.bool (decide (((ea, ed) : RW.Ed) = (a, d)))) (by apply opN; repeat' (first | apply OpAt.z | apply OpAt.s)) (by rfl) (by rfl) (fun _ W hS => op_asg rfl rfl) ?_
                        simp only [Act.put, List.setIfInBounds_toArray, List.set_cons_zero, List.set_cons_succ]
                        refine k_nil ?_
                        intro W hC _
                        have hBn := hide hC
                        clear hC
                        go_wp2
                        go_roundw
                        case rel => exact ⟨j + 1, by go_num, by omega, by rw [hsn.out, Bool.false_or], hBn.out⟩
                        case measure => simp [intOf]; omega
                      · go_upto_region 34 with fail
                        refine wp_region_k (fun _ W => Below B4 wp W) (fun _ => True) [] (.op 0 (.op 1 (.op 2 (.op 3 (.op 4 (.op 5 (.op 6 (.op 7 (.op 8 (.op 9 (.op 10 (.op 11 (.op 12 (.op 13 (.op 14 (.op 15 (.op 16 (.op 17 .nil)))))))))))))))))) (by kernel_rfl) (by kernel_rfl) (by rfl) (by kernel_rfl) (hB5.out.trans (Below.refl _ _).drew) trivial ?_
                        refine k_val (.bool true) (by apply opN; repeat' (first | apply OpAt.z | apply OpAt.s)) (by rfl) (by rfl) (fun _ W hS => op_mv rfl rfl) ?_
                        simp only [Act.put, List.setIfInBounds_toArray, List.set_cons_zero, List.set_cons_succ]
                        refine k_val (.bool true) (by apply opN; repeat' (first | apply OpAt.z | apply OpAt.s)) (by rfl) (by rfl) (fun _ W hS => op_mv rfl rfl) ?_
                        simp only [Act.put, List.setIfInBounds_toArray, List.set_cons_zero, List.set_cons_succ]
                        refine k_skip (by apply opN; repeat' (first | apply OpAt.z | apply OpAt.s)) (by rfl) (by rfl) ?_
                        simp only [Act.put, List.setIfInBounds_toArray, List.set_cons_zero, List.set_cons_succ]
                        refine k_skip (by apply opN; repeat' (first | apply OpAt.z | apply OpAt.s)) (by rfl) (by rfl) ?_
                        simp only [Act.put, List.setIfInBounds_toArray, List.set_cons_zero, List.set_cons_succ]
                        refine k_skip (by apply opN; repeat' (first | apply OpAt.z | apply OpAt.s)) (by rfl) (by rfl) ?_
                        simp only [Act.put, List.setIfInBounds_toArray, List.set_cons_zero, List.set_cons_succ]
                        refine k_skip (by apply opN; repeat' (first | apply OpAt.z | apply OpAt.s)) (by rfl) (by rfl) ?_
                        simp only [Act.put, List.setIfInBounds_toArray, List.set_cons_zero, List.set_cons_succ]
                        refine k_skip (by apply opN; repeat' (first | apply OpAt.z | apply OpAt.s)) (by rfl) (by rfl) ?_
                        simp only [Act.put, List.setIfInBounds_toArray, List.set_cons_zero, List.set_cons_succ]
                        refine k_skip (by apply opN; repeat' (first | apply OpAt.z | apply OpAt.s)) (by rfl) (by rfl) ?_
                        simp only [Act.put, List.setIfInBounds_toArray, List.set_cons_zero, List.set_cons_succ]
                        refine k_skip (by apply opN; repeat' (first | apply OpAt.z | apply OpAt.s)) (by rfl) (by rfl) ?_
                        simp only [Act.put, List.setIfInBounds_toArray, List.set_cons_zero, List.set_cons_succ]
                        refine k_skip (by apply opN; repeat' (first | apply OpAt.z | apply OpAt.s)) (by rfl) (by rfl) ?_
                        simp only [Act.put, List.setIfInBounds_toArray, List.set_cons_zero, List.set_cons_succ]
                        refine k_skip (by apply opN; repeat' (first | apply OpAt.z | apply OpAt.s)) (by rfl) (by rfl) ?_
                        simp only [Act.put, List.setIfInBounds_toArray, List.set_cons_zero, List.set_cons_succ]
                        refine k_skip (by apply opN; repeat' (first | apply OpAt.z | apply OpAt.s)) (by rfl) (by rfl) ?_
                        simp only [Act.put, List.setIfInBounds_toArray, List.set_cons_zero, List.set_cons_succ]
                        refine k_skip (by apply opN; repeat' (first | apply OpAt.z | apply OpAt.s)) (by rfl) (by rfl) ?_
                        simp only [Act.put, List.setIfInBounds_toArray, List.set_cons_zero, List.set_cons_succ]
                        refine k_skip (by apply opN; repeat' (first | apply OpAt.z | apply OpAt.s)) (by rfl) (by rfl) ?_
                        simp only [Act.put, List.setIfInBounds_toArray, List.set_cons_zero, List.set_cons_succ]
                        refine k_skip (by apply opN; repeat' (first | apply OpAt.z | apply OpAt.s)) (by rfl) (by rfl) ?_
                        simp only [Act.put, List.setIfInBounds_toArray, List.set_cons_zero, List.set_cons_succ]
                        refine k_skip (by apply opN; repeat' (first | apply OpAt.z | apply OpAt.s)) (by rfl) (by rfl) ?_
                        simp only [Act.put, List.setIfInBounds_toArray, List.set_cons_zero, List.set_cons_succ]
                        refine k_val (.bool true) (by apply opN; repeat' (first | apply OpAt.z | apply OpAt.s)) (by rfl) (by rfl) (fun _ W hS => op_pk rfl rfl rfl rfl rfl) ?_
                        simp only [Act.put, List.setIfInBounds_toArray, List.set_cons_zero, List.set_cons_succ]
                        refine k_val (.bool true) (by apply opN; repeat' (first | apply OpAt.z | apply OpAt.s)) (by rfl) (by rfl) (fun _ W hS => op_asg rfl rfl) ?_
                        simp only [Act.put, List.setIfInBounds_toArray, List.set_cons_zero, List.set_cons_succ]
                        refine k_nil ?_
                        intro W hC _
                        have hBn := hide hC
                        clear hC
                        go_wp2
                        go_roundw
                        case rel => exact ⟨j + 1, by go_num, by omega, by rw [hsn.out, Bool.true_or], hBn.out⟩
                        case measure => simp [intOf]; omega
                    · obtain rfl : j = ne := by omega
                      have htl : E.take j = E := List.take_of_length_le (by rw [← hneH.out]; exact Nat.le_refl _)
                      rw [htl]
                      obtain ⟨f, hf⟩ : ∃ f, f = E.contains (a, d) := ⟨_, rfl⟩
                      have hfk2 := hfk.out
                      simp only [← hf] at hfk2
                      have hfk3 := hide hfk2
                      rw [← hf]
                      clear htl hf hfk hfk2
                      cases f
                      · go_wp2
                        go_roundw
                        case rel => exact ⟨k + 1, by go_num, by omega, by rw [hfk3.out, hmH.out, if_neg Bool.false_ne_true, List.append_nil], hB5.out⟩
                        case measure => simp [intOf]; omega
                      · go_wp2
                        go_roundw
                        case rel => exact ⟨k + 1, by go_num, by omega, by rw [hfk3.out, if_pos rfl, List.length_append, ← hmH.out]; go_num, hB5.out⟩
                        case measure => simp [intOf]; omega
                · obtain rfl : k = nx := by omega
                  have htl : X.take k = X := List.take_of_length_le (by rw [← hnxH.out]; exact Nat.le_refl _)
                  have hmd : RW.dgr E d = m := by rw [hdg.out.1, hcn.out, hmH.out, htl]
                  have hm0 : m ≠ 0 := by rw [← hmd, hdg.out.1]; exact hdg.out.2
                  have hm1 : ¬ ((m : Int) = 0) := by omega
                  have hDd := hide (hDg.out d w7 (re.out w7 (t4.out w7 (y4.out w7 hB7.out))))
                  rw [hmd] at hDd
                  have k5 : w7.cell? ⟨bd, od + q, none⟩ = some (.int .i64 d) := pin1 (pd.out w7 (hB4H.out ▸ hB7.out))
                  clear htl hmd
                  go_wp2_with (go_at_call 19; refine hDd.out.mono ?_; rintro e w9 ⟨rfl, g⟩; have hB9 := hide (hB7.out.trans (g.mono (ys.out w7 hB7.out))); clear g)
                  go_roundw
                  case rel => exact ⟨q + 1, by go_num, by omega, hB9.out⟩
                  case measure => simp [intOf]; omega
            · obtain rfl : q = ny := by omega
              have hKr := hide (clusters_any _ (RW.restL E x) (by have := List.length_filter_le (fun e => !RW.inC E x e) E; unfold RW.restL; have := hEl.out; omega) w6 (hO6.out w6 (y4.out w6 hB6.out)))
              rw [hrest.out] at hKr
              have hWl := hide (hW.out w6 hB6.out)
              have hbw := hide (show (RW.wantL E x).length ≤ 1000000 ∧ ∀ c ∈ RW.wantL E x, c.length ≤ 1000000 by
                have hcb := RW.cls_bd E (by have := hEl.out; omega)
                unfold RW.wantL
                exact ⟨Nat.le_trans (List.length_filter_le _ _) (by have := hcb.1; omega), fun c hc => by have := hcb.2 c (List.mem_filter.1 hc).1; omega⟩)
              obtain ⟨Z, hZ⟩ : ∃ Z, Z = RW.wantL E x := ⟨_, rfl⟩
              rw [← hZ] at hKr hWl hbw
              have hsl := hide (fun W u u' (h : LL W u Z) (h' : LL W u' Z) => (show Calls Try.prog 16 #[u, u'] W fun e w' => e = .returned (.bool true) ∧ Below W.heap.size W w' by
                have := samelists_any u u' Z Z hbw.out.1 hbw.out.2 W h h'
                rw [decide_eq_true (rfl : Z = Z)] at this
                exact this))
              have hb6 := hide (rb.out w6 (t4.out w6 (y4.out w6 hB6.out)))
              clear hZ
              go_wp2_with (first
                | (go_at_call 17; refine hKr.out.mono ?_; rintro e w9 ⟨u5, rfl, q1, g⟩; have l5 := hide q1; have l6 := hide (hWl.out.next g); have hb9 := hide (hb6.out.trans (g.mono (hsz.out _ hb6.out))); clear g q1)
                | (go_at_call 16; refine (hsl.out _ _ _ l5.out l6.out).mono ?_; rintro e w10 ⟨rfl, g⟩; have hb10 := hide (hb9.out.trans (g.mono (hsz.out _ hb9.out))); clear g))
              go_ret
              exact ⟨rfl, hBH.out ▸ hb10.out⟩
end Go.Proofs.Ytbmlfejlmedmgaa
