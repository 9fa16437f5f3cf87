/-
  Package factset: Add: what it returns, what it writes.
-/
import Derived.Test.YtllbphanfahkkaaGreatDoorFs1
namespace Go.Proofs.YtllbphanfahkkaaGreatDoor
open Go.RowKit RG
namespace RW
/-- the ID of a fact -/
def idB (K : Nat → Int) (x : Fc) : ByteArray := ⟨(sha K (encL x.1 x.2.data.toList)).toArray⟩
/-- what Add returns, and what the set then holds -/
noncomputable def addR (K : Nat → Int) (C : Ents) (x : Fc) : Bool × Int × Ents :=
  match validB x.1 x.2.size with
  | false => (false, 60, C)
  | true => match (KM.get (idB K x) C).isSome with
    | true => (false, 0, C)
    | false => if 4000 ≤ C.length then (false, 60, C) else (true, 0, insE (idB K x) (fv x) C)
theorem addR_bad {K : Nat → Int} {C : Ents} {x : Fc} (h : validB x.1 x.2.size = false) : addR K C x = (false, 60, C) := by unfold addR; rw [h]
theorem addR_known {K : Nat → Int} {C : Ents} {x : Fc} (h : validB x.1 x.2.size = true) (h2 : (KM.get (idB K x) C).isSome = true) : addR K C x = (false, 0, C) := by unfold addR; rw [h, h2]
theorem addR_full {K : Nat → Int} {C : Ents} {x : Fc} (h : validB x.1 x.2.size = true) (h2 : (KM.get (idB K x) C).isSome = false) (h3 : 4000 ≤ C.length) : addR K C x = (false, 60, C) := by unfold addR; rw [h, h2]; exact if_pos h3
theorem addR_new {K : Nat → Int} {C : Ents} {x : Fc} (h : validB x.1 x.2.size = true) (h2 : (KM.get (idB K x) C).isSome = false) (h3 : ¬ 4000 ≤ C.length) : addR K C x = (true, 0, insE (idB K x) (fv x) C) := by unfold addR; rw [h, h2]; exact if_neg h3
theorem addR_len {K : Nat → Int} {C : Ents} {x : Fc} (hC : AscE C) : (addR K C x).2.2.length ≤ C.length + 1 := by
  unfold addR
  split
  · exact Nat.le_succ _
  · split
    · exact Nat.le_succ _
    · split
      · exact Nat.le_succ _
      · show (insE _ _ C).length ≤ _
        rw [length_insE _ _ hC]
        split <;> omega
end RW
section
variable {ev : Operand → Value} {o : Oper} {x y z : Operand} {w : World}
theorem op_updF {T : TypeId} {m k v : Value} {w' : World} (ho : o.op = .mapUpdate T x y z) (hx : ev x = m) (hy : ev y = k) (hz : ev z = v) (hr : (Instr.mapUpdate T m k v).run Tryz.prog w = .ok () w') : (execOp ev o).run Tryz.prog w = .ok .skip w' := by
  unfold execOp
  rw [ho]
  simp only [hx, hy, hz]
  simp [hr]
end
theorem fa_set {b : Nat} (W : World) : (Instr.fieldAt 191 (.pointer (some ⟨b, 0, none⟩)) 0).run Tryz.prog W = .ok (.pointer (some ⟨b, 0, none⟩)) W := by
  go_simp
theorem map_ldF {W : World} {g i : Nat} {p : Option Nat} (h : W.cell? ⟨g, i, none⟩ = some (.map p)) : (ldRow 189 (.pointer (some ⟨g, i, none⟩))).run Tryz.prog W = .ok (.map p) W := by
  unfold ldRow
  go_simp
theorem fact_ldF {W : World} {g : Nat} {cs : Array Value} (h : W.heap[g]? = some (.cells cs 70 (0, 0))) (hn : cs.size = 18) : (ldRow 70 (.pointer (some ⟨g, 0, none⟩))).run Tryz.prog W = .ok (.agg cs) W := by
  rw [← ldRow_fact]
  exact rowLoad_eq W g 70 70 cs (0, 0) _ h Tryz.underlying70 rfl (by rw [hn]; kernel_rfl)
attribute [local go_sem ↓] ldRow_fact
set_option maxRecDepth 100000 in
set_option maxHeartbeats 4000000 in
theorem sadd_any (K : Nat → Int) (ks : Array Value) (hks : RW.WsOk ks K) (sb mb : Nat) (C : RW.Ents) (x : RW.Fc) (w : World) (hS : SetAt w sb mb C) (hK : KLaid w ks) :
    Calls Tryz.prog 84 #[.pointer (some ⟨sb, 0, none⟩), RW.fv x] w fun e w' => e = .returned (.tuple #[.bool (RW.addR K C x).1, .int .i64 (RW.addR K C x).2.1]) ∧ SetAt w' sb mb (RW.addR K C x).2.2 ∧ ChgS (fun j => j = mb) w w' := by
  have hId := hide (fun W (hW : Below w.heap.size w W) => id_fact x.1 x.2 K ks hks W (RW.klaid hK hW))
  obtain ⟨cs, hcs⟩ : ∃ cs, cs = RW.fcells x.1 x.2 := ⟨_, rfl⟩
  obtain ⟨R, hR⟩ : ∃ R, R = RW.addR K C x := ⟨_, rfl⟩
  have hRH := hide hR
  rw [← hR]
  have hfx := hide (show RW.fv x = .agg cs by rw [hcs]; rfl)
  rw [hfx.out]
  rw [← hcs] at hId
  have hi := fact_infoF x.1 x.2
  have h1 := fcells_oneF x.1 x.2
  have hn : cs.size = 18 := by rw [hcs]; rfl
  rw [← hcs] at hi h1
  have hnx := hide (fun W (hW : Below w.heap.size w W) => hS.next hW)
  have hlk := hide (fun W (hW : Below w.heap.size w W) => (hS.next hW).look (RW.idB K x))
  have hln := hide (fun W (hW : Below w.heap.size w W) => (hS.next hW).len 3)
  obtain ⟨yz, hyz⟩ := hS.fvs.get (RW.idB K x)
  obtain ⟨qs, hqs⟩ : ∃ cs, cs = RW.fcells yz.1 yz.2 := ⟨_, rfl⟩
  rw [hyz, show RW.fv yz = .agg qs by rw [hqs]; rfl] at hlk
  have hi2 := fact_infoF yz.1 yz.2
  have h12 := fcells_oneF yz.1 yz.2
  have hn2 : qs.size = 18 := by rw [hqs]; rfl
  rw [← hqs] at hi2 h12
  have hup := hide (fun W (hW : SetAt W sb mb C) (hk : KM.get (RW.idB K x) C = none) => hW.update (RW.idB K x) x hk)
  rw [hfx.out] at hup
  obtain ⟨b0, hb0⟩ : ∃ b, b = w.heap.size := ⟨_, rfl⟩
  have hb0H := hide hb0
  obtain ⟨known, hkn⟩ : ∃ q, q = (KM.get (RW.idB K x) C).isSome := ⟨_, rfl⟩
  have hknH := hide hkn
  rw [← hkn] at hlk
  obtain ⟨ID, hID⟩ : ∃ I, I = RW.idB K x := ⟨_, rfl⟩
  have hIDH := hide hID
  rw [← hID] at hlk hup
  rw [← hb0] at hnx hlk hln hId
  have hA1 := hide (show Below b0 w (w.alloc (.cells cs 70)) ∧ (w.alloc (.cells cs 70)).heap[b0]? = some (.cells cs 70 (0, 0)) by rw [hb0]; exact ⟨alloc_bel (Below.refl _ _) (Nat.le_refl _) _, alloc_at1 _ _⟩)
  cases hv : RW.validB x.1 x.2.size
  · have hres := hide (RW.addR_bad (K := K) (C := C) hv)
    rw [RW.idR_no _ _ _ hv] at hId
    clear hcs hR hK hyz hqs hb0 hkn hID hS hv hup hln hlk
    go_enter Tryz.func84, Tryz.ntmps84
    go_upto_region 3 with fail
    rw [← hb0H.out]
    refine gen_w (fun W => Below b0 w W ∧ W.heap[b0]? = some (.cells cs 70 (0, 0))) hA1.out ?_
    rintro w1 ⟨hB1, hz1⟩
    have hB1H := hide hB1
    have l0 : (ldRow 70 (.pointer (some ⟨b0, 0, none⟩))).run Tryz.prog w1 = .ok (.agg cs) w1 := by
      rw [← ldRow_fact]
      exact rowLoad_eq w1 b0 70 70 cs (0, 0) _ hz1 Tryz.underlying70 rfl hi
    clear hB1 hz1 hA1
    go_wp2_with (go_at_call 131; refine (hId.out _ hB1H.out).mono ?_; rintro e w2 ⟨rfl, h5⟩; have hB2 := hide (hB1H.out.trans (h5.mono (by rw [hb0H.out]; exact hB1H.out.size))); clear h5)
    go_ret2
    rw [hRH.out, hres.out]
    exact ⟨rfl, hnx.out _ hB2.out, ChgS.of_belowF (by rw [← hb0H.out]; exact hB2.out)⟩
  · rw [RW.idR_yes _ _ _ hv, show (⟨(RW.sha K (RW.encL x.1 x.2.data.toList)).toArray⟩ : ByteArray) = ID from hID.symm] at hId
    have hvH := hide hv
    clear hcs hR hK hyz hqs hb0 hID hkn hS hv
    go_enter Tryz.func84, Tryz.ntmps84
    go_upto_region 3 with fail
    rw [← hb0H.out]
    refine gen_w (fun W => Below b0 w W ∧ W.heap[b0]? = some (.cells cs 70 (0, 0))) hA1.out ?_
    rintro w1 ⟨hB1, hz1⟩
    have hB1H := hide hB1
    have hz1H := hide hz1
    have l0 : (ldRow 70 (.pointer (some ⟨b0, 0, none⟩))).run Tryz.prog w1 = .ok (.agg cs) w1 := by
      rw [← ldRow_fact]
      exact rowLoad_eq w1 b0 70 70 cs (0, 0) _ hz1 Tryz.underlying70 rfl hi
    clear hB1 hz1 hA1
    go_upto_region 6 with (go_at_call 131; refine (hId.out _ hB1H.out).mono ?_; rintro e w2 ⟨rfl, h5⟩; have hB2 := hide (hB1H.out.trans (h5.mono (by rw [hb0H.out]; exact hB1H.out.size))); have hz2 := hide ((h5.block _ (Array.getElem?_eq_some_iff.1 hz1H.out).1).trans hz1H.out); clear h5)
    clear l0 hId hB1H hz1H
    have hS2 := hide (hnx.out w2 hB2.out)
    have c2 := hS2.out.cell
    have lk2 := hlk.out w2 hB2.out
    cases known
    case true =>
      have hres := hide (RW.addR_known (K := K) hvH.out hknH.out.symm)
      clear hup hln hlk
      go_wp2_with (refine wpList_store_newF rfl 70 (.tmp 8) (.tmp 26) rfl qs rfl rfl 70 _ hi2 (by rw [hn2]; rfl) h12 ?_)
      go_ret2
      rw [hRH.out, hres.out]
      have hB3 := alloc_bel hB2.out (Nat.le_of_eq hb0H.out) (.cells qs 70)
      exact ⟨rfl, hnx.out _ hB3, ChgS.of_belowF (hb0H.out ▸ hB3 : Below w.heap.size w _)⟩
    case false =>
      go_upto_region 9 with (refine wpList_store_newF rfl 70 (.tmp 8) (.tmp 26) rfl qs rfl rfl 70 _ hi2 (by rw [hn2]; rfl) h12 ?_)
      have hA3 := hide (alloc_bel (Below.refl w2.heap.size w2) (Nat.le_refl _) (.cells qs 70))
      refine gen_w (fun W => Below b0 w W ∧ W.heap[b0]? = some (.cells cs 70 (0, 0))) ⟨hB2.out.trans (hA3.out.mono (by rw [hb0H.out]; exact hB2.out.size)), (hA3.out.block _ (Array.getElem?_eq_some_iff.1 hz2.out).1).trans hz2.out⟩ ?_
      rintro w3 ⟨hB3, hz3⟩
      have hB3 := hide hB3
      have hz3 := hide hz3
      have hS3 := hide (hnx.out w3 hB3.out)
      have c3 := hS3.out.cell
      have ln3 := hln.out w3 hB3.out
      clear c2 lk2 hS2 hB2 hz2 hA3
      by_cases hfull : 4000 ≤ C.length
      · have hres := hide (RW.addR_full (K := K) hvH.out hknH.out.symm hfull)
        have hi4 : (4000 : Int) ≤ (C.length : Int) := by omega
        clear hup
        go_wp2
        go_ret2
        rw [hRH.out, hres.out]
        exact ⟨rfl, hnx.out _ hB3.out, ChgS.of_belowF (by rw [← hb0H.out]; exact hB3.out)⟩
      · have hres := hide (RW.addR_new (K := K) hvH.out hknH.out.symm hfull)
        have hi4 : ¬ (4000 : Int) ≤ (C.length : Int) := by omega
        have hnone := hide (show KM.get (RW.idB K x) C = none by
          cases e : KM.get (RW.idB K x) C with
          | none => rfl
          | some v => have := hknH.out; rw [e] at this; cases this)
        go_upto_region 11 with fail
        refine wp_region_k (fun _ W => W.heap[sb]? = some (.cells #[.map (some mb)] 191 (0, 0)) ∧ W.heap[b0]? = some (.cells cs 70 (0, 0))) (fun W => SetAt W sb mb C ∧ Below b0 w W) [6] (.op 0 (.op 1 (.op 2 (.op 3 (.op 4 (.op 5 (.op 6 .nil))))))) (by kernel_rfl) (by kernel_rfl) (by rfl) (by kernel_rfl) ⟨hS3.out.row, hz3.out⟩ ⟨hS3.out.next (Below.refl _ _).drew, hB3.out.drew⟩ ?_
        refine k_val (.pointer (some ⟨sb, 0, none⟩)) (by apply opN; repeat' (first | apply OpAt.z | apply OpAt.s)) (by rfl) (by rfl) (fun _ W hS => op_mv rfl rfl) ?_
        simp only [Act.put, List.setIfInBounds_toArray, List.set_cons_zero, List.set_cons_succ]
        refine k_val (.pointer (some ⟨sb, 0, none⟩)) (by apply opN; repeat' (first | apply OpAt.z | apply OpAt.s)) (by rfl) (by rfl) (fun _ W hS => op_nc rfl rfl) ?_
        simp only [Act.put, List.setIfInBounds_toArray, List.set_cons_zero, List.set_cons_succ]
        refine k_val (.pointer (some ⟨sb, 0, none⟩)) (by apply opN; repeat' (first | apply OpAt.z | apply OpAt.s)) (by rfl) (by rfl) (fun _ W hS => op_fa rfl rfl (fa_set W)) ?_
        simp only [Act.put, List.setIfInBounds_toArray, List.set_cons_zero, List.set_cons_succ]
        refine k_val (.map (some mb)) (by apply opN; repeat' (first | apply OpAt.z | apply OpAt.s)) (by rfl) (by rfl) (fun _ W hS => op_ld rfl rfl (map_ldF (cellAt hS.1 0))) ?_
        simp only [Act.put, List.setIfInBounds_toArray, List.set_cons_zero, List.set_cons_succ]
        refine k_val (.string ID) (by apply opN; repeat' (first | apply OpAt.z | apply OpAt.s)) (by rfl) (by rfl) (fun _ W hS => op_mv rfl rfl) ?_
        simp only [Act.put, List.setIfInBounds_toArray, List.set_cons_zero, List.set_cons_succ]
        refine k_val (.agg cs) (by apply opN; repeat' (first | apply OpAt.z | apply OpAt.s)) (by rfl) (by rfl) (fun _ W hS => op_ld rfl rfl (fact_ldF hS.2 hn)) ?_
        simp only [Act.put, List.setIfInBounds_toArray, List.set_cons_zero, List.set_cons_succ]
        refine k_step (fun K' u => K' = fun W => SetAt W sb mb (RW.insE (RW.idB K x) (RW.fv x) C) ∧ ChgS (fun j => j = mb) w W) (by apply opN; repeat' (first | apply OpAt.z | apply OpAt.s)) (by rfl) (by rfl) (by rfl) (fun W hC hK => ?_) ?_
        · obtain ⟨w', hr, g1, g2, g3⟩ := hup.out W hK.1 (by rw [hIDH.out]; exact hnone.out)
          have hnb := hK.1.nem hC.2
          exact xup_skip (op_updF rfl rfl rfl rfl hr) ⟨⟨g1.row, (g2.block _ (Array.getElem?_eq_some_iff.1 hC.2).1 hnb).trans hC.2⟩, _, ⟨by rw [← hIDH.out, hfx.out]; exact g1, (ChgS.of_belowF (hb0H.out ▸ hK.2 : Below w.heap.size w W)).trans g2⟩, rfl⟩
        rintro _ _ rfl
        simp only [Act.put]
        refine k_nil ?_
        intro W' _ hK'
        have hK' := hide hK'
        clear hup hlk hln hnx c3 ln3 hi4
        go_wp2
        go_ret2
        rw [hRH.out, hres.out]
        exact ⟨rfl, hK'.out.1, hK'.out.2⟩
end Go.Proofs.YtllbphanfahkkaaGreatDoor
