/-
  Package factset: maps.Copy and Union: what they return, what they change.
-/
import Derived.Test.YtnlphbfjeekooaaGreatDoorMY
import Derived.Test.YtnlphbfjeekooaaGreatDoorNC
import Derived.Test.YtnlphbfjeekooaaGreatDoorMX
namespace Go.Proofs.YtnlphbfjeekooaaGreatDoor
open Go.RowKit RG
namespace RW
/-- an entry, in the place of one with its string -/
def updE (k : ByteArray) (v : Value) (C : Ents) : Ents := insE k v (C.filter fun x => decide (x.1 ≠ k))
theorem asc_filter {C : Ents} (h : AscE C) (p : ByteArray × Value → Bool) : AscE (C.filter p) := List.Pairwise.sublist (List.Sublist.map _ List.filter_sublist) h
theorem get_filter (k j : ByteArray) : ∀ C : Ents, KM.get j (C.filter fun x => decide (x.1 ≠ k)) = if j = k then none else KM.get j C
  | [] => by simp [KM.get_nil]
  | x :: C => by
    rw [List.filter_cons]
    by_cases e : x.1 = k
    · rw [if_neg (by simp [e]), get_filter k j C]
      by_cases hj : j = k
      · rw [if_pos hj, if_pos hj]
      · rw [if_neg hj, if_neg hj, KM.get_cons, if_neg (by rw [e]; exact hj)]
    · rw [if_pos (by simpa using e), KM.get_cons, KM.get_cons, get_filter k j C]
      by_cases hj : j = k
      · rw [if_pos hj, if_pos hj, if_neg (by rw [hj]; exact fun h => e h.symm)]
      · rw [if_neg hj, if_neg hj]
theorem asc_updE (k : ByteArray) (v : Value) {C : Ents} (h : AscE C) : AscE (updE k v C) := asc_insE k v (asc_filter h _)
theorem get_updE (k j : ByteArray) (v : Value) {C : Ents} (h : AscE C) : KM.get j (updE k v C) = if j = k then some v else KM.get j C := by
  unfold updE
  rw [get_insE k j v (asc_filter h _), get_filter, if_pos rfl, get_filter]
  by_cases e : j = k <;> simp [e]
theorem updE_new {k : ByteArray} {v : Value} {C : Ents} (h : AscE C) (hk : KM.get k C = none) : updE k v C = insE k v C :=
  asc_ext (asc_updE k v h) (asc_insE k v h) fun j => by rw [get_updE k j v h, get_insE k j v h, hk]; rfl
theorem updE_same {k : ByteArray} {v : Value} {C : Ents} (h : AscE C) (hk : KM.get k C = some v) : updE k v C = C :=
  asc_ext (asc_updE k v h) h fun j => by
    rw [get_updE k j v h]
    split
    · rename_i e; rw [e, hk]
    · rfl
theorem FVs.upd {C : Ents} (h : FVs C) (k : ByteArray) (y : Fc) : FVs (updE k (fv y) C) := FVs.ins (fun x hx => h x (List.mem_filter.1 hx).1) k y
theorem Cont.upd {M C : Ents} (h : Cont M C) (k : ByteArray) (v : Value) : Cont (KM.put k v M) (updE k v C) :=
  ⟨asc_updE k v h.1, KM.nodup_put h.2.1, fun j => by rw [KM.get_put, get_updE k j v h.1, h.2.2]⟩
/-- the entries of D over those of C -/
def uniE (D C : Ents) : Ents := D.foldl (fun a x => updE x.1 x.2 a) C
theorem asc_uniE (D : Ents) : ∀ {C : Ents}, AscE C → AscE (uniE D C) := by
  induction D with
  | nil => exact fun h => h
  | cons x D ih => exact fun {C} h => ih (asc_updE x.1 x.2 h)
theorem get_uniE (j : ByteArray) : ∀ (D : Ents) {C : Ents}, (D.map (·.1)).Nodup → AscE C → KM.get j (uniE D C) = match KM.get j D with | some v => some v | none => KM.get j C
  | [], C, _, _ => by rw [KM.get_nil]; rfl
  | x :: D, C, hn, h => by
    rw [List.map_cons, List.nodup_cons] at hn
    show KM.get j (uniE D (updE x.1 x.2 C)) = _
    rw [get_uniE j D hn.2 (asc_updE x.1 x.2 h), KM.get_cons, get_updE _ _ _ h]
    by_cases e : j = x.1
    · have hnone : KM.get j D = none := KM.get_none.2 fun y hy he => hn.1 (by rw [← e, ← he]; exact List.mem_map_of_mem hy)
      rw [hnone, if_pos e, if_pos e]
    · rw [if_neg e, if_neg e]
theorem FVs.uni {C : Ents} : ∀ {D : Ents}, FVs D → FVs C → FVs (uniE D C) := by
  intro D
  induction D generalizing C with
  | nil => exact fun _ h => h
  | cons x D ih =>
    intro hD hC
    obtain ⟨y, hy⟩ := hD x (by simp)
    refine ih (C := updE x.1 x.2 C) (fun z hz => hD z (by simp [hz])) ?_
    rw [hy]
    exact hC.upd _ _
/-- entries in whatever order -/
theorem uniE_order {M D C : Ents} (hD : Cont M D) {T : Ents} (hT : (T.map (·.1)).Nodup) (hsub : ∀ x ∈ T, x ∈ M) (hall : ∀ x ∈ M, x.1 ∈ T.map (·.1)) (hC : AscE C) : uniE T C = uniE D C := by
  refine asc_ext (asc_uniE T hC) (asc_uniE D hC) fun j => ?_
  rw [get_uniE j T hT hC, get_uniE j D (AscB.nodup hD.1) hC, ← hD.2.2 j]
  have : KM.get j T = KM.get j M := by
    cases e : KM.get j T with
    | some v => exact (KM.get_of_mem hD.2.1 (hsub _ (KM.get_mem e))).symm
    | none =>
      symm
      refine KM.get_none.2 fun y hy he => ?_
      obtain ⟨z, hz, hz2⟩ := List.mem_map.1 (hall y hy)
      exact KM.get_none.1 e z hz (hz2.trans he)
  rw [this]
theorem uniE_snoc (T : Ents) (x : ByteArray × Value) (C : Ents) : uniE (T ++ [x]) C = updE x.1 x.2 (uniE T C) := by unfold uniE; rw [List.foldl_append]; rfl
theorem uniE_len {D C : Ents} (hD : AscE D) (hC : AscE C) : (uniE D C).length = C.length + ((D.map (·.1)).filter fun x => !(KM.get x C).isSome).length := by
  have h1 : ((uniE D C).map (·.1)).length ≤ (C.map (·.1) ++ (D.map (·.1)).filter fun x => !(KM.get x C).isSome).length := nodup_len _ _ (AscB.nodup (asc_uniE D hC)) fun x hx => by
    rw [← get_isSome, get_uniE x D (AscB.nodup hD) hC] at hx
    rw [List.mem_append, List.mem_filter, ← get_isSome, ← get_isSome]
    cases e : KM.get x C with
    | some v => exact .inl rfl
    | none =>
      cases e2 : KM.get x D with
      | some v => exact .inr ⟨rfl, rfl⟩
      | none => rw [e2, e] at hx; cases hx
  have h2 : (C.map (·.1) ++ (D.map (·.1)).filter fun x => !(KM.get x C).isSome).length ≤ ((uniE D C).map (·.1)).length := by
    refine nodup_len _ _ ?_ fun x hx => ?_
    · rw [List.nodup_append]
      refine ⟨AscB.nodup hC, List.Nodup.sublist List.filter_sublist (AscB.nodup hD), fun a ha b hb hab => ?_⟩
      subst hab
      have := (List.mem_filter.1 hb).2
      rw [get_isSome.2 ha] at this
      cases this
    · rw [← get_isSome, get_uniE x D (AscB.nodup hD) hC]
      rw [List.mem_append, List.mem_filter, ← get_isSome, ← get_isSome] at hx
      cases e2 : KM.get x D with
      | some v => rfl
      | none =>
        rw [e2] at hx
        rcases hx with hx | hx
        · exact hx
        · cases hx.1
  simp only [List.length_map, List.length_append] at h1 h2
  omega
end RW
section
variable {W W' : World} {sb mb : Nat} {C : RW.Ents}
/-- an entry, in the place of one with its string -/
theorem SetAt.upd (h : SetAt W sb mb C) (k : ByteArray) (y : RW.Fc) :
    ∃ w', (Instr.mapUpdate 76 (.map (some mb)) (.string k) (RW.fv y)).run Tryz.prog W = .ok () w' ∧ SetAt w' sb mb (RW.updE k (RW.fv y) C) ∧ ChgS (fun j => j = mb) W w' ∧ w'.heap.size = W.heap.size := by
  obtain ⟨M, hM, hC⟩ := h.map
  obtain ⟨w', hr, ho, g1, g2, g3, g4, g5⟩ := hM.update strK_key Tryz.underlying76 k (RW.fv y)
  exact ⟨w', hr, ⟨(g5 _ h.ne).trans h.row, ⟨_, ho, hC.upd _ _⟩, h.fvs.upd k y⟩, ⟨g1, g2, g3, Nat.le_of_eq g4.symm, fun j _ hj => g5 j hj⟩, g4⟩
theorem SetAt.chg (h : SetAt W sb mb C) {Q : Nat → Prop} (hc : ChgS Q W W') (h1 : ¬ Q sb) (h2 : ¬ Q mb) : SetAt W' sb mb C := h.keep (hc.block _ h.lt.1 h1) (hc.block _ h.lt.2 h2)
end
attribute [local go_sem ↓] ldRow_fact
set_option maxRecDepth 100000 in
set_option maxHeartbeats 4000000 in
theorem copy_any (sb mb tb nb : Nat) (C D : RW.Ents) (w : World) (hS : SetAt w sb mb C) (hT : SetAt w tb nb D) (hne : mb ≠ nb) :
    Calls Tryz.prog 46 #[.map (some mb), .map (some nb)] w fun e w' => (∃ u, e = .returned u) ∧ SetAt w' sb mb (RW.uniE D C) ∧ ChgS (fun j => j = mb) w w' := by
  obtain ⟨M, hM, hCt⟩ := hT.map
  have hfv := hide (show ∀ x ∈ M, ∃ y : RW.Fc, x.2 = RW.fv y from fun x hx => by
    have e := KM.get_of_mem (k := x.1) (v := x.2) hCt.2.1 hx
    rw [hCt.2.2] at e
    exact hT.fvs _ (KM.get_mem e))
  obtain ⟨o, hr, hit⟩ := hM.range (mt := 76) Tryz.underlying76
  have hnbl := hide hM.lt
  have hmbl := hide hS.lt
  have hA := hide (alloc_bel (Below.refl w.heap.size w) (Nat.le_refl _) o)
  have hS1 := hide (hS.next hA.out)
  have hitH := hide hit
  have hCtH := hide hCt
  have hasc := hide hS.asc
  have hneH := hide hne
  clear hM hCt hT hS hit hne
  go_enter Tryz.func46, Tryz.ntmps46
  go_upto_region 1 with fail
  go_wp2
  clear hr
  obtain ⟨it, hitE⟩ : ∃ it, it = w.heap.size := ⟨_, rfl⟩
  rw [← hitE] at hitH hA ⊢
  have hitEH := hide hitE
  clear hitE
  obtain ⟨w0, hw0⟩ : ∃ W, W = w.alloc o := ⟨_, rfl⟩
  rw [← hw0] at hitH hA hS1 ⊢
  clear hw0
  go_loopw [4, 5] (fun _ _ wr => Hid (∃ T : RW.Ents, (T.map (·.1)).Nodup ∧ (∀ x ∈ T, x ∈ M) ∧ KM.IterM RW.strK wr nb it M (T.map (·.1)).reverse ∧ SetAt wr sb mb (RW.uniE T C) ∧ ChgS (fun j => j = mb) w wr)) (fun _ _ wr => KM.leftN wr nb it)
  case atStart => exact ⟨[], List.nodup_nil, by simp, hitH.out, hS1.out, ChgS.of_belowF (by rw [← hitEH.out]; exact hA.out)⟩
  case round =>
    clear hS1 hA hitH
    obtain ⟨T, hTn, hTs, hI, hS, hCh⟩ := hrel.out
    rcases hI.next (P := Tryz.prog) 0 with ⟨hall, hnx⟩ | ⟨x, hx, hxd, w2, hnx, hI2, hen, hlt, g1, g2, g3, g4, g5⟩
    · have hfin := hide (RW.uniE_order hCtH.out hTn hTs (fun x hx => List.mem_reverse.1 (hall x hx)) hasc.out)
      have hSH := hide hS
      have hChH := hide hCh
      clear hall hI hS hCh hTs hTn
      go_wp2
      go_end0
      exact ⟨⟨_, rfl⟩, by rw [← hfin.out]; exact hSH.out, hChH.out⟩
    · have hxs : x.1 ∉ T.map (·.1) := fun h => hxd (List.mem_reverse.2 h)
      have hT2 := hide (show ((T ++ [x]).map (·.1)).Nodup ∧ (∀ z ∈ T ++ [x], z ∈ M) from by
        refine ⟨?_, fun z hz => ?_⟩
        · rw [List.map_append, List.nodup_append]
          refine ⟨hTn, by simp, ?_⟩
          intro a ha b hb hab
          simp at hb
          subst hb hab
          exact hxs ha
        · rcases List.mem_append.1 hz with hz | hz
          · exact hTs z hz
          · rw [List.mem_singleton] at hz
            rw [hz]; exact hx)
      have hitb : ∃ c, wr.heap[it]? = some c ∧ ∀ es cl, c ≠ .map es cl := by
        obtain ⟨_, _, _, _, _, _, _, _, _, a5, _⟩ := hI
        exact ⟨_, a5, fun _ _ h => by cases h⟩
      obtain ⟨c0, hc0, hcm⟩ := hitb
      have hitl : it < wr.heap.size := (Array.getElem?_eq_some_iff.1 hc0).1
      have hSl := hS.lt
      have hsi : sb ≠ it := fun e => by
        obtain ⟨_, _, _, _, _, _, _, _, _, a5, _⟩ := hI
        have h1 := hS.row
        rw [e, a5] at h1
        cases h1
      have hmi : mb ≠ it := fun e => by rw [hitEH.out] at e; exact absurd hmbl.out.2 (by omega)
      have hS2 : SetAt w2 sb mb (RW.uniE T C) := hS.keep (g5 sb hsi) (g5 mb hmi)
      have hCh2 : ChgS (fun j => j = mb) w w2 := ⟨g1.trans hCh.os, g2.trans hCh.tape, g3.trans hCh.output, by rw [g4]; exact hCh.size, fun k hk hn => (g5 k (by rw [hitEH.out]; omega)).trans (hCh.block k hk hn)⟩
      obtain ⟨y, hy⟩ := hfv.out x hx
      have hen' : (Instr.entry (.pointer (some ⟨it, 0, none⟩))).run Tryz.prog w2 = .ok (.tuple #[.string x.1, x.2]) w2 := hen
      obtain ⟨cs, hcs⟩ : ∃ cs, cs = RW.fcells y.1 y.2 := ⟨_, rfl⟩
      have hyc : x.2 = .agg cs := by rw [hy, hcs]; rfl
      rw [show RW.strK x.1 = .string x.1 from rfl] at hnx
      rw [hyc] at hen' hnx
      have hi := fact_infoF y.1 y.2
      have h1 := fcells_oneF y.1 y.2
      have hn : cs.size = 18 := by rw [hcs]; rfl
      rw [← hcs] at hi h1
      have hS2H := hide hS2
      have hCh2H := hide hCh2
      have hI2H := hide hI2
      have hltH := hide hlt
      have hyH := hide hy
      have hcsH := hide hcs
      obtain ⟨xk, hxk⟩ : ∃ k, k = x.1 := ⟨_, rfl⟩
      rw [← hxk] at hen' hnx
      have hxkH := hide hxk
      have hmiH := hide hmi
      clear hxs hc0 hcm hitl hSl hsi hmi hS2 hCh2 hen hyc hy hcs hI2 hlt g1 g2 g3 g4 g5 hxd hx hI hS hCh hTs hTn hxk
      go_upto_region 3 with (refine wpList_store_newF rfl 38 (.tmp 5) (.tmp 12) rfl cs rfl rfl 38 _ hi (by rw [hn]; rfl) h1 ?_)
      have hA2 := hide (alloc_bel (Below.refl w2.heap.size w2) (Nat.le_refl _) (.cells cs 38))
      refine gen_w (fun W => W.heap[w2.heap.size]? = some (.cells cs 38 (0, 0)) ∧ Below w2.heap.size w2 W) ⟨alloc_at1 _ _, hA2.out⟩ ?_
      rintro w3 ⟨hz3, hB3⟩
      obtain ⟨b5, hb5⟩ : ∃ b, b = w2.heap.size := ⟨_, rfl⟩
      rw [← hb5] at hz3 ⊢
      have hS3 := hide (hS2H.out.next hB3)
      have hB3H := hide hB3
      obtain ⟨w4, hup, hS4, hC4, hs4⟩ := hS3.out.upd xk y
      rw [show RW.fv y = .agg cs by rw [hcsH.out]; rfl] at hup hS4
      have l5 : (ldRow 38 (.pointer (some ⟨b5, 0, none⟩))).run Tryz.prog w3 = .ok (.agg cs) w3 := fact_ldF hz3 hn
      have hS4H := hide hS4
      have hC4H := hide hC4
      clear hz3 hB3 hb5 hA2 hS4 hC4 hs4 hnx hen'
      go_wp2
      go_roundw
      case rel =>
        obtain ⟨es, clock, since, seen, c0, b1, _, _, _, b5, _⟩ := id hI2H.out
        have hl1 := (Array.getElem?_eq_some_iff.1 b1).1
        have hl5 := (Array.getElem?_eq_some_iff.1 b5).1
        have k1 : w4.heap[nb]? = w2.heap[nb]? := (hC4H.out.block nb (Nat.lt_of_lt_of_le hl1 hB3H.out.size) (fun e => hneH.out e.symm)).trans (hB3H.out.block _ hl1)
        have k2 : w4.heap[it]? = w2.heap[it]? := (hC4H.out.block it (Nat.lt_of_lt_of_le hl5 hB3H.out.size) (fun e => hmiH.out e.symm)).trans (hB3H.out.block _ hl5)
        refine ⟨T ++ [x], hT2.out.1, hT2.out.2, ?_, ?_, (hCh2H.out.trans (ChgS.of_belowF hB3H.out)).trans hC4H.out⟩
        · rw [List.map_append, List.reverse_append]
          exact hI2H.out.keep k1 k2
        · rw [RW.uniE_snoc, ← hxkH.out, hyH.out, show RW.fv y = .agg cs by rw [hcsH.out]; rfl]
          exact hS4H.out
      case measure =>
        obtain ⟨es, clock, since, seen, c0, b1, _, _, _, b5, _⟩ := id hI2H.out
        have hl1 := (Array.getElem?_eq_some_iff.1 b1).1
        have hl5 := (Array.getElem?_eq_some_iff.1 b5).1
        have k1 : w4.heap[nb]? = w2.heap[nb]? := (hC4H.out.block nb (Nat.lt_of_lt_of_le hl1 hB3H.out.size) (fun e => hneH.out e.symm)).trans (hB3H.out.block _ hl1)
        have k2 : w4.heap[it]? = w2.heap[it]? := (hC4H.out.block it (Nat.lt_of_lt_of_le hl5 hB3H.out.size) (fun e => hmiH.out e.symm)).trans (hB3H.out.block _ hl5)
        rw [KM.leftN_keep k1 k2]
        exact hltH.out
end Go.Proofs.YtnlphbfjeekooaaGreatDoor

/-
  Package factset: Union, Root: what they return, what they change.
-/
namespace Go.Proofs.YtnlphbfjeekooaaGreatDoor
open Go.RowKit RG
namespace RW
theorem misL_asc {p : ByteArray → Bool} {l : List ByteArray} (h : AscB l) : missB p l = l.filter fun x => !p x :=
  asc_uniq (uqB_asc _) (List.Pairwise.sublist List.filter_sublist h) fun x => by
    rw [mem_missB, List.mem_filter]
    simp
/-- what Union returns, and what the set then holds -/
def uniR (D C : Ents) : Int × Ents := if 4000 < (uniE D C).length then (60, C) else (0, uniE D C)
end RW
section
variable {ev : Operand → Value} {o : Oper} {x y : Operand} {w : World}
theorem op_x2F {D : Value → World → Prop} {k : Nat} {ts : Array TypeId} {n m : Value} (ho : o.op = .call ⟨.value (.func k), #[x, y], ts⟩) (hf : ev (.func k) = .func (.func k) #[] #[]) (hx : ev x = n) (hy : ev y = m) (hk : ∀ args w, (callFunc k args).run Tryz.prog w = .ok (.enter k args) w)
    (h : Calls Tryz.prog k #[n, m] w fun e w'' => ∃ u, e = .returned u ∧ D u w'') : XUp Tryz.prog D ((execOp ev o).run Tryz.prog w) := by
  have h1 : (execOp ev o).run Tryz.prog w = .ok (.enter k #[n, m]) w := by
    unfold execOp
    rw [ho]
    go_simp
  rw [h1]
  exact h
end
theorem cf_copyF : ∀ args w, (callFunc 46 args).run Tryz.prog w = .ok (.enter 46 args) w := by
  intro args w
  go_simp
set_option maxRecDepth 100000 in
set_option maxHeartbeats 4000000 in
theorem sunion_any (sb mb tb nb : Nat) (C D : RW.Ents) (w : World) (hS : SetAt w sb mb C) (hT : SetAt w tb nb D) (hne : mb ≠ nb) (hC : C.length ≤ 1000000) (hD : D.length ≤ 1000000) :
    Calls Tryz.prog 22 #[.pointer (some ⟨sb, 0, none⟩), .pointer (some ⟨tb, 0, none⟩)] w fun e w' => e = .returned (.int .i64 (RW.uniR D C).1) ∧ SetAt w' sb mb (RW.uniR D C).2 ∧ ChgS (fun j => j = mb) w w' := by
  obtain ⟨n, hn⟩ : ∃ n, n = (RW.missB (fun x => (KM.get x C).isSome) (D.map (·.1))).length := ⟨_, rfl⟩
  have hul : C.length + n = (RW.uniE D C).length := by rw [hn, RW.misL_asc hT.asc, RW.uniE_len hT.asc hS.asc]
  have hnl : n ≤ 1000000 := by rw [hn]; exact Nat.le_trans (RW.missB_len _ _) (by rw [List.length_map]; exact hD)
  have hR : RW.uniR D C = if 4000 < C.length + n then (60, C) else (0, RW.uniE D C) := by unfold RW.uniR; rw [← hul]
  have hRH := hide hR
  have hI := hide (sids_any tb nb D hD w hT)
  have hSn := hide (fun W (hW : Below w.heap.size w W) => hS.next hW)
  have hTn := hide (fun W (hW : Below w.heap.size w W) => hT.next hW)
  have hM := hide (fun W (hW : Below w.heap.size w W) v (hv : StrR W v (D.map (·.1))) => smiss_any (some ⟨sb, 0, none⟩) (fun x => (KM.get x C).isSome) v (D.map (·.1)) (by rw [List.length_map]; exact hD) W (hasP_set (hS.next hW)) hv)
  have hln := hS.len 3
  have c0 := hS.cell
  have hnH := hide hn
  have hneH := hide hne
  have hCH := hide hC
  obtain ⟨R, hRR⟩ : ∃ R, R = RW.uniR D C := ⟨_, rfl⟩
  rw [← hRR] at hRH ⊢
  obtain ⟨q, hq⟩ : ∃ q, q = C.length := ⟨_, rfl⟩
  rw [← hq] at hRH hln hC
  clear hn hul hR hS hT hne hRR hD hCH hq
  go_enter Tryz.func22, Tryz.ntmps22
  go_upto_region 3 with fail
  by_cases hfull : 4000 < q + n
  · have hi4 : (4000 : Int) < (q : Int) + (n : Int) := by omega
    have hres := hide (hRH.out.trans (if_pos hfull))
    have hwr : wrap64 ((q : Int) + (n : Int)) = (q : Int) + (n : Int) := IntWalk.wrap64_in _ ⟨by omega, by omega⟩
    go_wp2_with (first
      | (go_at_call 14; refine hI.out.mono ?_; rintro e w1 ⟨u1, rfl, h1, h2⟩; have h1H := hide h1; have h2H := hide h2; clear h1 h2)
      | (go_at_call 32; refine (hM.out w1 h2H.out u1 (strs_own h1H.out)).mono ?_; rintro e w2 ⟨u2, rfl, h1, h2⟩; obtain ⟨a2, c2, rfl⟩ := own_shape h1; rw [← hnH.out]; have h4H := hide (h2H.out.trans (h2.mono h2H.out.size)); clear h1 h2))
    go_ret
    rw [hres.out]
    exact ⟨rfl, hSn.out _ h4H.out, ChgS.of_belowF h4H.out⟩
  · have hi4 : ¬ (4000 : Int) < (q : Int) + (n : Int) := by omega
    have hres := hide (hRH.out.trans (if_neg hfull))
    have hwr : wrap64 ((q : Int) + (n : Int)) = (q : Int) + (n : Int) := IntWalk.wrap64_in _ ⟨by omega, by omega⟩
    go_upto_region 5 with (first
      | (go_at_call 14; refine hI.out.mono ?_; rintro e w1 ⟨u1, rfl, h1, h2⟩; have h1H := hide h1; have h2H := hide h2; clear h1 h2)
      | (go_at_call 32; refine (hM.out w1 h2H.out u1 (strs_own h1H.out)).mono ?_; rintro e w2 ⟨u2, rfl, h1, h2⟩; obtain ⟨a2, c2, rfl⟩ := own_shape h1; rw [← hnH.out]; have h4H := hide (h2H.out.trans (h2.mono h2H.out.size)); clear h1 h2))
    have hS2 := hide (hSn.out _ h4H.out)
    have hT2 := hide (hTn.out _ h4H.out)
    clear hln c0 hwr hi4
    refine wp_region_k (fun _ W => W.heap[sb]? = some (.cells #[.map (some mb)] 78 (0, 0)) ∧ W.heap[tb]? = some (.cells #[.map (some nb)] 78 (0, 0))) (fun W => SetAt W sb mb C ∧ SetAt W tb nb D ∧ Below w.heap.size w W) [8] (.op 0 (.op 1 (.op 2 (.op 3 (.op 4 (.op 5 (.op 6 (.op 7 (.op 8 .nil))))))))) (by kernel_rfl) (by kernel_rfl) (by rfl) (by kernel_rfl) ⟨hS2.out.row, hT2.out.row⟩ ⟨hS2.out.next (Below.refl _ _).drew, hT2.out.next (Below.refl _ _).drew, h4H.out.drew⟩ ?_
    refine k_val (.pointer (some ⟨sb, 0, none⟩)) (by apply opN; repeat' (first | apply OpAt.z | apply OpAt.s)) (by rfl) (by rfl) (fun _ W hS => op_mv rfl rfl) ?_
    simp only [Act.put, List.setIfInBounds_toArray, List.set_cons_zero, List.set_cons_succ]
    refine k_val (.pointer (some ⟨sb, 0, none⟩)) (by apply opN; repeat' (first | apply OpAt.z | apply OpAt.s)) (by rfl) (by rfl) (fun _ W hS => op_nc rfl rfl) ?_
    simp only [Act.put, List.setIfInBounds_toArray, List.set_cons_zero, List.set_cons_succ]
    refine k_val (.pointer (some ⟨sb, 0, none⟩)) (by apply opN; repeat' (first | apply OpAt.z | apply OpAt.s)) (by rfl) (by rfl) (fun _ W hS => op_fa rfl rfl (fa_set W)) ?_
    simp only [Act.put, List.setIfInBounds_toArray, List.set_cons_zero, List.set_cons_succ]
    refine k_val (.map (some mb)) (by apply opN; repeat' (first | apply OpAt.z | apply OpAt.s)) (by rfl) (by rfl) (fun _ W hS => op_ld rfl rfl (map_ldF (cellAt hS.1 0))) ?_
    simp only [Act.put, List.setIfInBounds_toArray, List.set_cons_zero, List.set_cons_succ]
    refine k_val (.pointer (some ⟨tb, 0, none⟩)) (by apply opN; repeat' (first | apply OpAt.z | apply OpAt.s)) (by rfl) (by rfl) (fun _ W hS => op_mv rfl rfl) ?_
    simp only [Act.put, List.setIfInBounds_toArray, List.set_cons_zero, List.set_cons_succ]
    refine k_val (.pointer (some ⟨tb, 0, none⟩)) (by apply opN; repeat' (first | apply OpAt.z | apply OpAt.s)) (by rfl) (by rfl) (fun _ W hS => op_nc rfl rfl) ?_
    simp only [Act.put, List.setIfInBounds_toArray, List.set_cons_zero, List.set_cons_succ]
    refine k_val (.pointer (some ⟨tb, 0, none⟩)) (by apply opN; repeat' (first | apply OpAt.z | apply OpAt.s)) (by rfl) (by rfl) (fun _ W hS => op_fa rfl rfl (fa_set W)) ?_
    simp only [Act.put, List.setIfInBounds_toArray, List.set_cons_zero, List.set_cons_succ]
    refine k_val (.map (some nb)) (by apply opN; repeat' (first | apply OpAt.z | apply OpAt.s)) (by rfl) (by rfl) (fun _ W hS => op_ld rfl rfl (map_ldF (cellAt hS.2 0))) ?_
    simp only [Act.put, List.setIfInBounds_toArray, List.set_cons_zero, List.set_cons_succ]
    refine k_step (fun K' u => K' = fun W => SetAt W sb mb (RW.uniE D C) ∧ ChgS (fun j => j = mb) w W) (by apply opN; repeat' (first | apply OpAt.z | apply OpAt.s)) (by rfl) (by rfl) (by rfl) (fun W hC hK => ?_) ?_
    · refine op_x2F (n := .map (some mb)) (m := .map (some nb)) rfl rfl rfl rfl cf_copyF ?_
      refine (copy_any sb mb tb nb C D W hK.1 hK.2.1 hneH.out).mono ?_
      rintro e w3 ⟨⟨u, rfl⟩, g1, g2⟩
      refine ⟨u, rfl, ⟨g1.row, ?_⟩, _, ⟨g1, (ChgS.of_belowF hK.2.2).trans g2⟩, rfl⟩
      have ht := hK.2.1.row
      exact (g2.block tb (Array.getElem?_eq_some_iff.1 ht).1 (hK.1.nem ht)).trans ht
    rintro _ _ rfl
    simp only [Act.put, List.setIfInBounds_toArray, List.set_cons_zero, List.set_cons_succ]
    refine k_nil ?_
    intro W' _ hK'
    have hK' := hide hK'
    clear hI hSn hTn hM
    go_wp2
    go_ret
    rw [hres.out]
    exact ⟨rfl, hK'.out.1, hK'.out.2⟩
set_option maxRecDepth 100000 in
set_option maxHeartbeats 4000000 in
theorem sroot_any (K : Nat → Int) (ks : Array Value) (hks : RW.WsOk ks K) (sb mb : Nat) (C : RW.Ents) (hC : C.length ≤ 1000000) (hs : ∀ x ∈ C, x.1.size ≤ 1000000) (w : World) (hS : SetAt w sb mb C) (hK : KLaid w ks) :
    Calls Tryz.prog 16 #[.pointer (some ⟨sb, 0, none⟩)] w fun e w' => e = .returned (.string (RW.rootB K (C.map (·.1)))) ∧ Below w.heap.size w w' := by
  have hI := hide (sids_any sb mb C hC w hS)
  have hD := hide (fun W (hW : Below w.heap.size w W) v (hv : StrR W v (C.map (·.1))) => droot_any K ks hks v (C.map (·.1)) (by rw [List.length_map]; exact hC) (fun s h => by obtain ⟨x, hx, rfl⟩ := List.mem_map.1 h; exact hs x hx) W hv (RW.klaid hK hW))
  obtain ⟨R, hR⟩ : ∃ R, R = RW.rootB K (C.map (·.1)) := ⟨_, rfl⟩
  rw [← hR] at hD ⊢
  clear hS hK hs hC hR
  go_enter Tryz.func16, Tryz.ntmps16
  go_wp2_with (first
    | (go_at_call 14; refine hI.out.mono ?_; rintro e w1 ⟨u1, rfl, h1, h2⟩; have h1H := hide h1; have h2H := hide h2; clear h1 h2)
    | (go_at_call 42; refine (hD.out w1 h2H.out u1 (strs_own h1H.out)).mono ?_; rintro e w2 ⟨rfl, h2⟩; have h4H := hide (h2H.out.trans (h2.mono h2H.out.size)); clear h2))
  go_ret
  exact ⟨rfl, h4H.out⟩
theorem sroot_nil (w : World) : Calls Tryz.prog 16 #[.pointer none] w fun e w' => e = .returned (.string ⟨#[]⟩) ∧ w' = w := by
  go_enter Tryz.func16, Tryz.ntmps16
  go_wp2
  go_ret
  exact ⟨rfl, rfl⟩
theorem sunion_nil1 (v : Value) (w : World) : Calls Tryz.prog 22 #[.pointer none, v] w fun e w' => e = .returned (.int .i64 1) ∧ w' = w := by
  go_enter Tryz.func22, Tryz.ntmps22
  go_wp2
  go_ret
  exact ⟨rfl, rfl⟩
theorem sunion_nil2 (sb : Nat) (w : World) : Calls Tryz.prog 22 #[.pointer (some ⟨sb, 0, none⟩), .pointer none] w fun e w' => e = .returned (.int .i64 1) ∧ w' = w := by
  go_enter Tryz.func22, Tryz.ntmps22
  go_wp2
  go_ret
  exact ⟨rfl, rfl⟩
theorem spart_nil (v : Value) (w : World) : Calls Tryz.prog 27 #[.pointer none, v] w fun e w' => e = .returned (.tuple #[.pointer none, .bool false]) ∧ w' = w := by
  go_enter Tryz.func27, Tryz.ntmps27
  go_wp2
  go_ret2
  exact ⟨rfl, rfl⟩
theorem sadd_nil (x : RW.Fc) (w : World) : Calls Tryz.prog 20 #[.pointer none, RW.fv x] w fun e w' => e = .returned (.tuple #[.bool false, .int .i64 1]) ∧ Below w.heap.size w w' := by
  obtain ⟨cs, hcs⟩ : ∃ cs, cs = RW.fcells x.1 x.2 := ⟨_, rfl⟩
  rw [show RW.fv x = .agg cs by rw [hcs]; rfl]
  have hA := hide (alloc_bel (Below.refl w.heap.size w) (Nat.le_refl _) (.cells cs 38))
  clear hcs
  go_enter Tryz.func20, Tryz.ntmps20
  go_wp2
  go_ret2
  exact ⟨rfl, hA.out⟩
end Go.Proofs.YtnlphbfjeekooaaGreatDoor

/-
  Package factset: IDs and Facts of no set; Part: what it returns; only new memory is written.
-/
namespace Go.Proofs.YtnlphbfjeekooaaGreatDoor
open Go.RowKit Go.Shelf Go.Sort RG
theorem sall_nil (Bc l n : Nat) (W : World) (hc : W.heap[Bc]? = some (.cells #[.pointer none] 25 (0, 0))) :
    CallsIn Fence.wide n Tryz.prog 66 #[.func (.yield l) #[] #[], .pointer (some ⟨Bc, 0, none⟩)] W fun e W' => (∃ v, e = .returned v) ∧ W' = W := by
  refine callsIn_wide.2 ?_
  have c0 := cellAt hc 0
  go_enter Tryz.func66, Tryz.ntmps66
  go_wp2
  refine bodyPost_ret (results_none rfl _ _ _) rfl ?_
  exact ⟨⟨_, rfl⟩, rfl⟩
section
attribute [local go_sem] Oper.semAt_some
set_option maxRecDepth 100000 in
set_option maxHeartbeats 4000000 in
theorem sids_nil (w : World) :
    Calls Tryz.prog 14 #[.pointer none] w fun e w' => e = .returned (.slice none 0 0) ∧ Below w.heap.size w w' := by
  refine (callsIn_wide (n := 5)).1 ?_
  refine callsIn_of_wp_marks Tryz.func14 rfl trivial ?_ rfl
  simp only [Tryz.ntmps14, List.size_toArray, List.length_cons, List.length_nil, Nat.reduceAdd, Nat.reduceSub, Array.replicate_succ, Array.replicate_zero, List.push_toArray, List.append_toArray, List.nil_append, List.cons_append]
  obtain ⟨ob, hob⟩ : ∃ b, b = w.heap.size := ⟨_, rfl⟩
  have hobH := hide hob
  have hal := fun W => hide (sall_any none W)
  gi_wp2
  refine ⟨trivial, (callsIn_wide.2 (hal _).out).mono ?_⟩
  rintro e w1 ⟨rfl, rfl⟩
  clear hal
  gi_wp2
  obtain ⟨L, hL⟩ : ∃ L, L = w.heap.size + 1 + 1 := ⟨_, rfl⟩
  obtain ⟨w0, hw0⟩ : ∃ w0, w0 = (w.alloc (.cells #[.slice none 0 0] 27)).alloc (.cells #[.pointer none] 25) := ⟨_, rfl⟩
  rw [← hw0]
  have hB0 := hide (show Below w.heap.size w w0 by rw [hw0]; exact alloc_bel (alloc_bel (Below.refl _ _) (Nat.le_refl _) _) (by simp) _)
  have hs0 := hide (show w0.heap.size = L by rw [hw0, hL]; simp)
  have hv0 := hide (show w0.heap[ob]? = some (.cells #[.slice none 0 0] 27 (0, 0)) by rw [hw0, hob]; exact (Below.heap_alloc _ _ _ (by simp)).trans (alloc_at1 _ _))
  have hc0 := hide (show w0.heap[ob + 1]? = some (.cells #[.pointer none] 25 (0, 0)) by rw [hw0, hob]; exact newAt (by simp))
  have hLo := hide (show L = ob + 2 by rw [hL, hob])
  rw [← hob]
  clear hw0 hL hob
  refine wpIn_rf rfl (by omega) (gf := 66) (lb := #[.pointer (some ⟨ob + 1, 0, none⟩)]) rfl trivial (enters_of Tryz.func66 (by kernel_rfl) rfl) ?_
  intro fn hfn W1 hW1 hL1 hK1
  rw [hs0.out] at hW1 hL1 hK1 ⊢
  have hs1 := hide (show W1.heap.size = L + 2 by rw [hW1]; simp [hs0.out])
  have hB1 := hide (show Below w0.heap.size w0 W1 by rw [hW1]; exact alloc_bel (alloc_bel (Below.refl _ _) (Nat.le_refl _) _) (Nat.le_refl _) _)
  clear hW1
  generalize hrec : ({ state := .ready, pending := none, fn, tmps := _, params := _, assign := _, body := _, defers := L } : Loop) = rec at hL1 ⊢
  have hv1 := hide ((hB1.out.block ob (by rw [hs0.out, hLo.out]; omega)).trans hv0.out)
  have hc1 := hide ((hB1.out.block (ob + 1) (by rw [hs0.out, hLo.out]; omega)).trans hc0.out)
  have hBw := hide (hB0.out.trans (hB1.out.mono hB0.out.size))
  have hLH := hide hL1
  have hKH := hide hK1
  clear hL1 hK1 hB0 hv0 hc0 hB1
  refine (sall_nil (ob + 1) (L + 1) _ W1 hc1.out).mono ?_
  rintro e W2 ⟨⟨u, rfl⟩, rfl⟩
  have e6 := congrArg Loop.state hrec
  have e7 := congrArg Loop.pending hrec
  dsimp only at e6 e7
  refine ⟨⟨u, rfl⟩, rec, hLH.out, by rw [← e6]; decide, .inl ⟨e7.symm, ?_⟩⟩
  clear e6 e7 hrec
  intro W3 oo hW3
  have hg3 := grownBy_putObj' W2 (L + 1) oo
  rw [← hW3] at hg3
  have hLo' := hLo.out
  have hs1' := hs1.out
  have hob' := hobH.out
  have hv3 := (hg3.block ob (Array.getElem?_eq_some_iff.1 hv1.out).1 (by simp; omega)).trans hv1.out
  have hk3 := hide ((hg3.block L (Array.getElem?_eq_some_iff.1 hKH.out).1 (by simp)).trans hKH.out)
  have hB3 := hide (hBw.out.grown hg3 hBw.out.size (fun k e => by cases e; omega))
  have cv3 := cellAt hv3 0
  clear hW3 hg3 hLo' hs1' hob'
  gi_wp2
  refine ⟨by simp, .inl ⟨_, _, rfl, run_takeDeferred hk3.out, ?_⟩⟩
  exact ⟨_, results_tmp rfl _ _ _, rfl, hB3.out.grown (grownBy_putObj' _ _ _) hB3.out.size (fun k e => by cases e; have := hLo.out; have := hobH.out; omega)⟩
set_option maxRecDepth 100000 in
set_option maxHeartbeats 4000000 in
theorem sfacts_nil (w : World) :
    Calls Tryz.prog 30 #[.pointer none] w fun e w' => e = .returned (.slice none 0 0) ∧ Below w.heap.size w w' := by
  refine (callsIn_wide (n := 5)).1 ?_
  refine callsIn_of_wp_marks Tryz.func30 rfl trivial ?_ rfl
  simp only [Tryz.ntmps30, List.size_toArray, List.length_cons, List.length_nil, Nat.reduceAdd, Nat.reduceSub, Array.replicate_succ, Array.replicate_zero, List.push_toArray, List.append_toArray, List.nil_append, List.cons_append]
  obtain ⟨ob, hob⟩ : ∃ b, b = w.heap.size := ⟨_, rfl⟩
  have hobH := hide hob
  have hal := fun W => hide (sall_any none W)
  gi_wp2
  refine ⟨trivial, (callsIn_wide.2 (hal _).out).mono ?_⟩
  rintro e w1 ⟨rfl, rfl⟩
  clear hal
  gi_wp2
  obtain ⟨L, hL⟩ : ∃ L, L = w.heap.size + 1 + 1 := ⟨_, rfl⟩
  obtain ⟨w0, hw0⟩ : ∃ w0, w0 = (w.alloc (.cells #[.slice none 0 0] 22)).alloc (.cells #[.pointer none] 25) := ⟨_, rfl⟩
  rw [← hw0]
  have hB0 := hide (show Below w.heap.size w w0 by rw [hw0]; exact alloc_bel (alloc_bel (Below.refl _ _) (Nat.le_refl _) _) (by simp) _)
  have hs0 := hide (show w0.heap.size = L by rw [hw0, hL]; simp)
  have hv0 := hide (show w0.heap[ob]? = some (.cells #[.slice none 0 0] 22 (0, 0)) by rw [hw0, hob]; exact (Below.heap_alloc _ _ _ (by simp)).trans (alloc_at1 _ _))
  have hc0 := hide (show w0.heap[ob + 1]? = some (.cells #[.pointer none] 25 (0, 0)) by rw [hw0, hob]; exact newAt (by simp))
  have hLo := hide (show L = ob + 2 by rw [hL, hob])
  rw [← hob]
  clear hw0 hL hob
  refine wpIn_rf rfl (by omega) (gf := 66) (lb := #[.pointer (some ⟨ob + 1, 0, none⟩)]) rfl trivial (enters_of Tryz.func66 (by kernel_rfl) rfl) ?_
  intro fn hfn W1 hW1 hL1 hK1
  rw [hs0.out] at hW1 hL1 hK1 ⊢
  have hs1 := hide (show W1.heap.size = L + 2 by rw [hW1]; simp [hs0.out])
  have hB1 := hide (show Below w0.heap.size w0 W1 by rw [hW1]; exact alloc_bel (alloc_bel (Below.refl _ _) (Nat.le_refl _) _) (Nat.le_refl _) _)
  clear hW1
  generalize hrec : ({ state := .ready, pending := none, fn, tmps := _, params := _, assign := _, body := _, defers := L } : Loop) = rec at hL1 ⊢
  have hv1 := hide ((hB1.out.block ob (by rw [hs0.out, hLo.out]; omega)).trans hv0.out)
  have hc1 := hide ((hB1.out.block (ob + 1) (by rw [hs0.out, hLo.out]; omega)).trans hc0.out)
  have hBw := hide (hB0.out.trans (hB1.out.mono hB0.out.size))
  have hLH := hide hL1
  have hKH := hide hK1
  clear hL1 hK1 hB0 hv0 hc0 hB1
  refine (sall_nil (ob + 1) (L + 1) _ W1 hc1.out).mono ?_
  rintro e W2 ⟨⟨u, rfl⟩, rfl⟩
  have e6 := congrArg Loop.state hrec
  have e7 := congrArg Loop.pending hrec
  dsimp only at e6 e7
  refine ⟨⟨u, rfl⟩, rec, hLH.out, by rw [← e6]; decide, .inl ⟨e7.symm, ?_⟩⟩
  clear e6 e7 hrec
  intro W3 oo hW3
  have hg3 := grownBy_putObj' W2 (L + 1) oo
  rw [← hW3] at hg3
  have hLo' := hLo.out
  have hs1' := hs1.out
  have hob' := hobH.out
  have hv3 := (hg3.block ob (Array.getElem?_eq_some_iff.1 hv1.out).1 (by simp; omega)).trans hv1.out
  have hk3 := hide ((hg3.block L (Array.getElem?_eq_some_iff.1 hKH.out).1 (by simp)).trans hKH.out)
  have hB3 := hide (hBw.out.grown hg3 hBw.out.size (fun k e => by cases e; omega))
  have cv3 := cellAt hv3 0
  clear hW3 hg3 hLo' hs1' hob'
  gi_wp2
  refine ⟨by simp, .inl ⟨_, _, rfl, run_takeDeferred hk3.out, ?_⟩⟩
  exact ⟨_, results_tmp rfl _ _ _, rfl, hB3.out.grown (grownBy_putObj' _ _ _) hB3.out.size (fun k e => by cases e; have := hLo.out; have := hobH.out; omega)⟩
end
namespace RW
/-- the set of some strings' entries -/
def partE (C : Ents) (l : List ByteArray) : Ents := l.foldl (fun a k => updE k ((KM.get k C).getD (fv zeroFv)) a) []
theorem partE_snoc (C : Ents) (l : List ByteArray) (k : ByteArray) : partE C (l ++ [k]) = updE k ((KM.get k C).getD (fv zeroFv)) (partE C l) := by unfold partE; rw [List.foldl_append]; rfl
theorem take_snocE {α : Type} {l : List α} {j : Nat} {x : α} (h : l[j]? = some x) : l.take (j + 1) = l.take j ++ [x] := by
  obtain ⟨h1, h2⟩ := List.getElem?_eq_some_iff.1 h
  rw [List.take_succ_eq_append_getElem h1, h2]
end RW
attribute [local go_sem ↓] ldRow_fact
set_option maxRecDepth 100000 in
set_option maxHeartbeats 8000000 in
theorem spart_any (sb mb : Nat) (C : RW.Ents) (v : Value) (l : List ByteArray) (hl : l.length ≤ 1000000) (w : World) (hS : SetAt w sb mb C) (hv : StrR w v l) :
    Calls Tryz.prog 27 #[.pointer (some ⟨sb, 0, none⟩), v] w fun e w' => Below w.heap.size w w' ∧
      ((e = .returned (.tuple #[.pointer none, .bool false]) ∧ ∃ k ∈ l, (KM.get k C).isSome = false) ∨
       (∃ pb qb, e = .returned (.tuple #[.pointer (some ⟨pb, 0, none⟩), .bool true]) ∧ (∀ k ∈ l, (KM.get k C).isSome = true) ∧ SetAt w' pb qb (RW.partE C l) ∧ w.heap.size ≤ pb ∧ w.heap.size ≤ qb)) := by
  obtain ⟨va, vc, rfl, _, _⟩ := id hv
  have hvA := hide hv
  have hSH := hide (fun W (hW : Below w.heap.size w W) => hS.next hW)
  have hN := hide (snew_any w)
  obtain ⟨m, hm⟩ : ∃ m, m = l.length := ⟨_, rfl⟩
  have hmH := hide hm
  rw [← hm] at hl ⊢
  obtain ⟨B, hB⟩ : ∃ B, B = w.heap.size := ⟨_, rfl⟩
  have hBH := hide hB
  rw [← hB] at hSH hN ⊢
  clear hv hS hm hB
  go_enter Tryz.func27, Tryz.ntmps27
  go_upto_region 4 with (go_at_call 19; refine hN.out.mono ?_; rintro e w1 ⟨pb, qb, rfl, h1, h2, h3, h4⟩; have h1H := hide h1; have h2H := hide h2; have h34 := hide (And.intro h3 h4); clear h1 h2 h3 h4)
  go_wp2
  go_loopw [16, 8, 9, 10] (fun i _ _ _ wr => ∃ j : Nat, i = .int .i64 j ∧ j ≤ m ∧ Hid (SetAt wr pb qb (RW.partE C (l.take j)) ∧ (∀ k ∈ l.take j, (KM.get k C).isSome = true) ∧ Below B w wr)) (fun i _ _ _ _ => m - (intOf i).toNat)
  case atStart => exact ⟨0, rfl, Nat.zero_le _, h1H.out, by simp, h2H.out⟩
  case round =>
    obtain ⟨j, rfl, hj, hQ⟩ := hrel
    obtain ⟨wo, hwo⟩ : ∃ wo, wo = wr := ⟨_, rfl⟩
    subst hwo
    by_cases hjm : j < m
    · obtain ⟨k, hk⟩ : ∃ k, l[j]? = some k := ⟨_, List.getElem?_eq_getElem (by rw [← hmH.out]; exact hjm)⟩
      obtain ⟨g0, o0, vc', e', hcell⟩ := strR_cell (W' := wo) hvA.out hk
      cases e'
      have hc := hcell wo (show Below w.heap.size w wo by rw [← hBH.out]; exact hQ.out.2.2)
      have hS1 := hide (hSH.out wo hQ.out.2.2)
      have c0 := hS1.out.cell
      have hlk := hS1.out.look k
      obtain ⟨y, hy⟩ := hS1.out.fvs.get k
      obtain ⟨cs, hcs⟩ : ∃ cs, cs = RW.fcells y.1 y.2 := ⟨_, rfl⟩
      obtain ⟨q, hq⟩ : ∃ q, q = (KM.get k C).isSome := ⟨_, rfl⟩
      have hyc : (KM.get k C).getD (RW.fv RW.zeroFv) = .agg cs := by rw [hy, hcs]; rfl
      rw [hyc, ← hq] at hlk
      have hi := fact_infoF y.1 y.2
      have h1 := fcells_oneF y.1 y.2
      have hn : cs.size = 18 := by rw [hcs]; rfl
      rw [← hcs] at hi h1
      have hycH := hide hyc
      have hyH := hide hy
      have hqH := hide hq
      have hkH := hide hk
      clear hcell hyc hy hcs hq hk
      cases q
      · go_wp2_with (refine wpList_store_newF rfl 38 (.tmp 9) (.tmp 27) rfl cs rfl rfl 38 _ hi (by rw [hn]; rfl) h1 ?_)
        go_ret2
        exact ⟨alloc_bel hQ.out.2.2 (Nat.le_of_eq hBH.out) _, .inl ⟨rfl, k, List.mem_of_getElem? hkH.out, hqH.out.symm⟩⟩
      go_upto_region 8 with (refine wpList_store_newF rfl 38 (.tmp 9) (.tmp 27) rfl cs rfl rfl 38 _ hi (by rw [hn]; rfl) h1 ?_)
      have hA := hide (alloc_bel (Below.refl wo.heap.size wo) (Nat.le_refl _) (.cells cs 38))
      refine gen_w (fun W => W.heap[wo.heap.size]? = some (.cells cs 38 (0, 0)) ∧ Below wo.heap.size wo W) ⟨alloc_at1 _ _, hA.out⟩ ?_
      rintro w2 ⟨hz2, hB2⟩
      obtain ⟨b9, hb9⟩ : ∃ b, b = wo.heap.size := ⟨_, rfl⟩
      rw [← hb9] at hz2 ⊢
      have hz2 := hide hz2
      have hP2 := hide (hQ.out.1.next hB2)
      have hB2 := hide (hQ.out.2.2.trans (hB2.mono (by rw [hBH.out]; exact hQ.out.2.2.size)))
      clear hA hb9 hc c0 hlk hS1 hi h1
      go_upto_region 10 with fail
      refine wp_region_k (fun _ W => W.heap[pb]? = some (.cells #[.map (some qb)] 78 (0, 0)) ∧ W.heap[b9]? = some (.cells cs 38 (0, 0))) (fun W => SetAt W pb qb (RW.partE C (l.take j)) ∧ Below B w W) [6] (.op 0 (.op 1 (.op 2 (.op 3 (.op 4 (.op 5 (.op 6 .nil))))))) (by kernel_rfl) (by kernel_rfl) (by rfl) (by kernel_rfl) ⟨hP2.out.row, hz2.out⟩ ⟨hP2.out.next (Below.refl _ _).drew, hB2.out.drew⟩ ?_
      refine k_val (.pointer (some ⟨pb, 0, none⟩)) (by apply opN; repeat' (first | apply OpAt.z | apply OpAt.s)) (by rfl) (by rfl) (fun _ W hS => op_mv rfl rfl) ?_
      simp only [Act.put, List.setIfInBounds_toArray, List.set_cons_zero, List.set_cons_succ]
      refine k_val (.pointer (some ⟨pb, 0, none⟩)) (by apply opN; repeat' (first | apply OpAt.z | apply OpAt.s)) (by rfl) (by rfl) (fun _ W hS => op_nc rfl rfl) ?_
      simp only [Act.put, List.setIfInBounds_toArray, List.set_cons_zero, List.set_cons_succ]
      refine k_val (.pointer (some ⟨pb, 0, none⟩)) (by apply opN; repeat' (first | apply OpAt.z | apply OpAt.s)) (by rfl) (by rfl) (fun _ W hS => op_fa rfl rfl (fa_set W)) ?_
      simp only [Act.put, List.setIfInBounds_toArray, List.set_cons_zero, List.set_cons_succ]
      refine k_val (.map (some qb)) (by apply opN; repeat' (first | apply OpAt.z | apply OpAt.s)) (by rfl) (by rfl) (fun _ W hS => op_ld rfl rfl (map_ldF (cellAt hS.1 0))) ?_
      simp only [Act.put, List.setIfInBounds_toArray, List.set_cons_zero, List.set_cons_succ]
      refine k_val (.string k) (by apply opN; repeat' (first | apply OpAt.z | apply OpAt.s)) (by rfl) (by rfl) (fun _ W hS => op_mv rfl rfl) ?_
      simp only [Act.put, List.setIfInBounds_toArray, List.set_cons_zero, List.set_cons_succ]
      refine k_val (.agg cs) (by apply opN; repeat' (first | apply OpAt.z | apply OpAt.s)) (by rfl) (by rfl) (fun _ W hS => op_ld rfl rfl (fact_ldF hS.2 hn)) ?_
      simp only [Act.put, List.setIfInBounds_toArray, List.set_cons_zero, List.set_cons_succ]
      refine k_step (fun K' u => K' = fun W => SetAt W pb qb (RW.partE C (l.take (j + 1))) ∧ Below B w W) (by apply opN; repeat' (first | apply OpAt.z | apply OpAt.s)) (by rfl) (by rfl) (by rfl) (fun W hC hK => ?_) ?_
      · obtain ⟨w', hr, g1, g2, g3⟩ := hK.1.upd k y
        rw [show RW.fv y = .agg cs by rw [← hycH.out, hyH.out]] at hr
        have hnb := hK.1.nem hC.2
        have g1' : SetAt w' pb qb (RW.partE C (l.take (j + 1))) := by rw [RW.take_snocE hkH.out, RW.partE_snoc, hyH.out]; exact g1
        exact xup_skip (op_updF rfl rfl rfl rfl hr) ⟨⟨g1.row, (g2.block _ (Array.getElem?_eq_some_iff.1 hC.2).1 hnb).trans hC.2⟩, _, ⟨g1', hK.2.trans (g2.belowJ (fun i hi => by rw [hi]; exact h34.out.2) (by rw [hBH.out]; exact hK.2.size))⟩, rfl⟩
      rintro _ _ rfl
      simp only [Act.put]
      refine k_nil ?_
      intro W' _ hK'
      have hK' := hide hK'
      clear hz2 hP2 hB2
      go_wp2
      go_roundw
      case rel =>
        refine ⟨j + 1, by go_num, by omega, hK'.out.1, fun x hx => ?_, hK'.out.2⟩
        rw [RW.take_snocE hkH.out] at hx
        rcases List.mem_append.1 hx with hx | hx
        · exact hQ.out.2.1 x hx
        · rw [List.mem_singleton] at hx
          rw [hx]
          exact hqH.out.symm
      case measure => simp [intOf]; omega
    · obtain rfl : j = m := by omega
      have ht : l.take j = l := List.take_of_length_le (by rw [← hmH.out]; exact Nat.le_refl _)
      have hQ2 := hide (show SetAt wo pb qb (RW.partE C l) ∧ (∀ k ∈ l, (KM.get k C).isSome = true) ∧ Below B w wo by have := hQ.out; rwa [ht] at this)
      clear hQ ht
      go_wp2
      go_ret2
      exact ⟨hQ2.out.2.2, .inr ⟨pb, qb, rfl, hQ2.out.2.1, hQ2.out.1, h34.out.1, h34.out.2⟩⟩
end Go.Proofs.YtnlphbfjeekooaaGreatDoor
