/-
  Package factset: maps.Copy and Union: what they return, what they change.
-/
import Derived.Test.YtnlphbfjeekooaaGreatDoorMis2
namespace Go.Proofs.YtnlphbfjeekooaaGreatDoor
open Go.RowKit RG
namespace RW
/-- an entry, in the place of one with its string -/
def updE (k : ByteArray) (v : Value) (C : Ents) : Ents := insE k v (C.filter fun x => decide (x.1 ≠ k))
theorem asc_filter {C : Ents} (h : AscE C) (p : ByteArray × Value → Bool) : AscE (C.filter p) := List.Pairwise.sublist (List.Sublist.map _ List.filter_sublist) h
theorem get_filter (k j : ByteArray) : ∀ C : Ents, KM.get j (C.filter fun x => decide (x.1 ≠ k)) = if j = k then none else KM.get j C
  | [] => by simp [KM.get_nil]
  | x :: C => by
    rw [List.filter_cons]
    by_cases e : x.1 = k
    · rw [if_neg (by simp [e]), get_filter k j C]
      by_cases hj : j = k
      · rw [if_pos hj, if_pos hj]
      · rw [if_neg hj, if_neg hj, KM.get_cons, if_neg (by rw [e]; exact hj)]
    · rw [if_pos (by simpa using e), KM.get_cons, KM.get_cons, get_filter k j C]
      by_cases hj : j = k
      · rw [if_pos hj, if_pos hj, if_neg (by rw [hj]; exact fun h => e h.symm)]
      · rw [if_neg hj, if_neg hj]
theorem asc_updE (k : ByteArray) (v : Value) {C : Ents} (h : AscE C) : AscE (updE k v C) := asc_insE k v (asc_filter h _)
theorem get_updE (k j : ByteArray) (v : Value) {C : Ents} (h : AscE C) : KM.get j (updE k v C) = if j = k then some v else KM.get j C := by
  unfold updE
  rw [get_insE k j v (asc_filter h _), get_filter, if_pos rfl, get_filter]
  by_cases e : j = k <;> simp [e]
theorem updE_new {k : ByteArray} {v : Value} {C : Ents} (h : AscE C) (hk : KM.get k C = none) : updE k v C = insE k v C :=
  asc_ext (asc_updE k v h) (asc_insE k v h) fun j => by rw [get_updE k j v h, get_insE k j v h, hk]; rfl
theorem updE_same {k : ByteArray} {v : Value} {C : Ents} (h : AscE C) (hk : KM.get k C = some v) : updE k v C = C :=
  asc_ext (asc_updE k v h) h fun j => by
    rw [get_updE k j v h]
    split
    · rename_i e; rw [e, hk]
    · rfl
theorem FVs.upd {C : Ents} (h : FVs C) (k : ByteArray) (y : Fc) : FVs (updE k (fv y) C) := FVs.ins (fun x hx => h x (List.mem_filter.1 hx).1) k y
theorem Cont.upd {M C : Ents} (h : Cont M C) (k : ByteArray) (v : Value) : Cont (KM.put k v M) (updE k v C) :=
  ⟨asc_updE k v h.1, KM.nodup_put h.2.1, fun j => by rw [KM.get_put, get_updE k j v h.1, h.2.2]⟩
/-- the entries of D over those of C -/
def uniE (D C : Ents) : Ents := D.foldl (fun a x => updE x.1 x.2 a) C
theorem asc_uniE (D : Ents) : ∀ {C : Ents}, AscE C → AscE (uniE D C) := by
  induction D with
  | nil => exact fun h => h
  | cons x D ih => exact fun {C} h => ih (asc_updE x.1 x.2 h)
theorem get_uniE (j : ByteArray) : ∀ (D : Ents) {C : Ents}, (D.map (·.1)).Nodup → AscE C → KM.get j (uniE D C) = match KM.get j D with | some v => some v | none => KM.get j C
  | [], C, _, _ => by rw [KM.get_nil]; rfl
  | x :: D, C, hn, h => by
    rw [List.map_cons, List.nodup_cons] at hn
    show KM.get j (uniE D (updE x.1 x.2 C)) = _
    rw [get_uniE j D hn.2 (asc_updE x.1 x.2 h), KM.get_cons, get_updE _ _ _ h]
    by_cases e : j = x.1
    · have hnone : KM.get j D = none := KM.get_none.2 fun y hy he => hn.1 (by rw [← e, ← he]; exact List.mem_map_of_mem hy)
      rw [hnone, if_pos e, if_pos e]
    · rw [if_neg e, if_neg e]
theorem FVs.uni {C : Ents} : ∀ {D : Ents}, FVs D → FVs C → FVs (uniE D C) := by
  intro D
  induction D generalizing C with
  | nil => exact fun _ h => h
  | cons x D ih =>
    intro hD hC
    obtain ⟨y, hy⟩ := hD x (by simp)
    refine ih (C := updE x.1 x.2 C) (fun z hz => hD z (by simp [hz])) ?_
    rw [hy]
    exact hC.upd _ _
/-- entries in whatever order -/
theorem uniE_order {M D C : Ents} (hD : Cont M D) {T : Ents} (hT : (T.map (·.1)).Nodup) (hsub : ∀ x ∈ T, x ∈ M) (hall : ∀ x ∈ M, x.1 ∈ T.map (·.1)) (hC : AscE C) : uniE T C = uniE D C := by
  refine asc_ext (asc_uniE T hC) (asc_uniE D hC) fun j => ?_
  rw [get_uniE j T hT hC, get_uniE j D (AscB.nodup hD.1) hC, ← hD.2.2 j]
  have : KM.get j T = KM.get j M := by
    cases e : KM.get j T with
    | some v => exact (KM.get_of_mem hD.2.1 (hsub _ (KM.get_mem e))).symm
    | none =>
      symm
      refine KM.get_none.2 fun y hy he => ?_
      obtain ⟨z, hz, hz2⟩ := List.mem_map.1 (hall y hy)
      exact KM.get_none.1 e z hz (hz2.trans he)
  rw [this]
theorem uniE_snoc (T : Ents) (x : ByteArray × Value) (C : Ents) : uniE (T ++ [x]) C = updE x.1 x.2 (uniE T C) := by unfold uniE; rw [List.foldl_append]; rfl
theorem uniE_len {D C : Ents} (hD : AscE D) (hC : AscE C) : (uniE D C).length = C.length + ((D.map (·.1)).filter fun x => !(KM.get x C).isSome).length := by
  have h1 : ((uniE D C).map (·.1)).length ≤ (C.map (·.1) ++ (D.map (·.1)).filter fun x => !(KM.get x C).isSome).length := nodup_len _ _ (AscB.nodup (asc_uniE D hC)) fun x hx => by
    rw [← get_isSome, get_uniE x D (AscB.nodup hD) hC] at hx
    rw [List.mem_append, List.mem_filter, ← get_isSome, ← get_isSome]
    cases e : KM.get x C with
    | some v => exact .inl rfl
    | none =>
      cases e2 : KM.get x D with
      | some v => exact .inr ⟨rfl, rfl⟩
      | none => rw [e2, e] at hx; cases hx
  have h2 : (C.map (·.1) ++ (D.map (·.1)).filter fun x => !(KM.get x C).isSome).length ≤ ((uniE D C).map (·.1)).length := by
    refine nodup_len _ _ ?_ fun x hx => ?_
    · rw [List.nodup_append]
      refine ⟨AscB.nodup hC, List.Nodup.sublist List.filter_sublist (AscB.nodup hD), fun a ha b hb hab => ?_⟩
      subst hab
      have := (List.mem_filter.1 hb).2
      rw [get_isSome.2 ha] at this
      cases this
    · rw [← get_isSome, get_uniE x D (AscB.nodup hD) hC]
      rw [List.mem_append, List.mem_filter, ← get_isSome, ← get_isSome] at hx
      cases e2 : KM.get x D with
      | some v => rfl
      | none =>
        rw [e2] at hx
        rcases hx with hx | hx
        · exact hx
        · cases hx.1
  simp only [List.length_map, List.length_append] at h1 h2
  omega
end RW
section
variable {W W' : World} {sb mb : Nat} {C : RW.Ents}
/-- an entry, in the place of one with its string -/
theorem SetAt.upd (h : SetAt W sb mb C) (k : ByteArray) (y : RW.Fc) :
    ∃ w', (Instr.mapUpdate 76 (.map (some mb)) (.string k) (RW.fv y)).run Tryz.prog W = .ok () w' ∧ SetAt w' sb mb (RW.updE k (RW.fv y) C) ∧ ChgS (fun j => j = mb) W w' ∧ w'.heap.size = W.heap.size := by
  obtain ⟨M, hM, hC⟩ := h.map
  obtain ⟨w', hr, ho, g1, g2, g3, g4, g5⟩ := hM.update strK_key Tryz.underlying76 k (RW.fv y)
  exact ⟨w', hr, ⟨(g5 _ h.ne).trans h.row, ⟨_, ho, hC.upd _ _⟩, h.fvs.upd k y⟩, ⟨g1, g2, g3, Nat.le_of_eq g4.symm, fun j _ hj => g5 j hj⟩, g4⟩
theorem SetAt.chg (h : SetAt W sb mb C) {Q : Nat → Prop} (hc : ChgS Q W W') (h1 : ¬ Q sb) (h2 : ¬ Q mb) : SetAt W' sb mb C := h.keep (hc.block _ h.lt.1 h1) (hc.block _ h.lt.2 h2)
end
attribute [local go_sem ↓] ldRow_fact
set_option maxRecDepth 100000 in
set_option maxHeartbeats 4000000 in
theorem copy_any (sb mb tb nb : Nat) (C D : RW.Ents) (w : World) (hS : SetAt w sb mb C) (hT : SetAt w tb nb D) (hne : mb ≠ nb) :
    Calls Tryz.prog 46 #[.map (some mb), .map (some nb)] w fun e w' => (∃ u, e = .returned u) ∧ SetAt w' sb mb (RW.uniE D C) ∧ ChgS (fun j => j = mb) w w' := by
  obtain ⟨M, hM, hCt⟩ := hT.map
  have hfv := hide (show ∀ x ∈ M, ∃ y : RW.Fc, x.2 = RW.fv y from fun x hx => by
    have e := KM.get_of_mem (k := x.1) (v := x.2) hCt.2.1 hx
    rw [hCt.2.2] at e
    exact hT.fvs _ (KM.get_mem e))
  obtain ⟨o, hr, hit⟩ := hM.range (mt := 76) Tryz.underlying76
  have hnbl := hide hM.lt
  have hmbl := hide hS.lt
  have hA := hide (alloc_bel (Below.refl w.heap.size w) (Nat.le_refl _) o)
  have hS1 := hide (hS.next hA.out)
  have hitH := hide hit
  have hCtH := hide hCt
  have hasc := hide hS.asc
  have hneH := hide hne
  clear hM hCt hT hS hit hne
  go_enter Tryz.func46, Tryz.ntmps46
  go_upto_region 1 with fail
  go_wp2
  clear hr
  obtain ⟨it, hitE⟩ : ∃ it, it = w.heap.size := ⟨_, rfl⟩
  rw [← hitE] at hitH hA ⊢
  have hitEH := hide hitE
  clear hitE
  obtain ⟨w0, hw0⟩ : ∃ W, W = w.alloc o := ⟨_, rfl⟩
  rw [← hw0] at hitH hA hS1 ⊢
  clear hw0
  go_loopw [4, 5] (fun _ _ wr => Hid (∃ T : RW.Ents, (T.map (·.1)).Nodup ∧ (∀ x ∈ T, x ∈ M) ∧ KM.IterM RW.strK wr nb it M (T.map (·.1)).reverse ∧ SetAt wr sb mb (RW.uniE T C) ∧ ChgS (fun j => j = mb) w wr)) (fun _ _ wr => KM.leftN wr nb it)
  case atStart => exact ⟨[], List.nodup_nil, by simp, hitH.out, hS1.out, ChgS.of_belowF (by rw [← hitEH.out]; exact hA.out)⟩
  case round =>
    clear hS1 hA hitH
    obtain ⟨T, hTn, hTs, hI, hS, hCh⟩ := hrel.out
    rcases hI.next (P := Tryz.prog) 0 with ⟨hall, hnx⟩ | ⟨x, hx, hxd, w2, hnx, hI2, hen, hlt, g1, g2, g3, g4, g5⟩
    · have hfin := hide (RW.uniE_order hCtH.out hTn hTs (fun x hx => List.mem_reverse.1 (hall x hx)) hasc.out)
      have hSH := hide hS
      have hChH := hide hCh
      clear hall hI hS hCh hTs hTn
      go_wp2
      go_end0
      exact ⟨⟨_, rfl⟩, by rw [← hfin.out]; exact hSH.out, hChH.out⟩
    · have hxs : x.1 ∉ T.map (·.1) := fun h => hxd (List.mem_reverse.2 h)
      have hT2 := hide (show ((T ++ [x]).map (·.1)).Nodup ∧ (∀ z ∈ T ++ [x], z ∈ M) from by
        refine ⟨?_, fun z hz => ?_⟩
        · rw [List.map_append, List.nodup_append]
          refine ⟨hTn, by simp, ?_⟩
          intro a ha b hb hab
          simp at hb
          subst hb hab
          exact hxs ha
        · rcases List.mem_append.1 hz with hz | hz
          · exact hTs z hz
          · rw [List.mem_singleton] at hz
            rw [hz]; exact hx)
      have hitb : ∃ c, wr.heap[it]? = some c ∧ ∀ es cl, c ≠ .map es cl := by
        obtain ⟨_, _, _, _, _, _, _, _, _, a5, _⟩ := hI
        exact ⟨_, a5, fun _ _ h => by cases h⟩
      obtain ⟨c0, hc0, hcm⟩ := hitb
      have hitl : it < wr.heap.size := (Array.getElem?_eq_some_iff.1 hc0).1
      have hSl := hS.lt
      have hsi : sb ≠ it := fun e => by
        obtain ⟨_, _, _, _, _, _, _, _, _, a5, _⟩ := hI
        have h1 := hS.row
        rw [e, a5] at h1
        cases h1
      have hmi : mb ≠ it := fun e => by rw [hitEH.out] at e; exact absurd hmbl.out.2 (by omega)
      have hS2 : SetAt w2 sb mb (RW.uniE T C) := hS.keep (g5 sb hsi) (g5 mb hmi)
      have hCh2 : ChgS (fun j => j = mb) w w2 := ⟨g1.trans hCh.os, g2.trans hCh.tape, g3.trans hCh.output, by rw [g4]; exact hCh.size, fun k hk hn => (g5 k (by rw [hitEH.out]; omega)).trans (hCh.block k hk hn)⟩
      obtain ⟨y, hy⟩ := hfv.out x hx
      have hen' : (Instr.entry (.pointer (some ⟨it, 0, none⟩))).run Tryz.prog w2 = .ok (.tuple #[.string x.1, x.2]) w2 := hen
      obtain ⟨cs, hcs⟩ : ∃ cs, cs = RW.fcells y.1 y.2 := ⟨_, rfl⟩
      have hyc : x.2 = .agg cs := by rw [hy, hcs]; rfl
      rw [show RW.strK x.1 = .string x.1 from rfl] at hnx
      rw [hyc] at hen' hnx
      have hi := fact_infoF y.1 y.2
      have h1 := fcells_oneF y.1 y.2
      have hn : cs.size = 18 := by rw [hcs]; rfl
      rw [← hcs] at hi h1
      have hS2H := hide hS2
      have hCh2H := hide hCh2
      have hI2H := hide hI2
      have hltH := hide hlt
      have hyH := hide hy
      have hcsH := hide hcs
      obtain ⟨xk, hxk⟩ : ∃ k, k = x.1 := ⟨_, rfl⟩
      rw [← hxk] at hen' hnx
      have hxkH := hide hxk
      have hmiH := hide hmi
      clear hxs hc0 hcm hitl hSl hsi hmi hS2 hCh2 hen hyc hy hcs hI2 hlt g1 g2 g3 g4 g5 hxd hx hI hS hCh hTs hTn hxk
      go_upto_region 3 with (refine wpList_store_newF rfl 38 (.tmp 5) (.tmp 12) rfl cs rfl rfl 38 _ hi (by rw [hn]; rfl) h1 ?_)
      have hA2 := hide (alloc_bel (Below.refl w2.heap.size w2) (Nat.le_refl _) (.cells cs 38))
      refine gen_w (fun W => W.heap[w2.heap.size]? = some (.cells cs 38 (0, 0)) ∧ Below w2.heap.size w2 W) ⟨alloc_at1 _ _, hA2.out⟩ ?_
      rintro w3 ⟨hz3, hB3⟩
      obtain ⟨b5, hb5⟩ : ∃ b, b = w2.heap.size := ⟨_, rfl⟩
      rw [← hb5] at hz3 ⊢
      have hS3 := hide (hS2H.out.next hB3)
      have hB3H := hide hB3
      obtain ⟨w4, hup, hS4, hC4, hs4⟩ := hS3.out.upd xk y
      rw [show RW.fv y = .agg cs by rw [hcsH.out]; rfl] at hup hS4
      have l5 : (ldRow 38 (.pointer (some ⟨b5, 0, none⟩))).run Tryz.prog w3 = .ok (.agg cs) w3 := fact_ldF hz3 hn
      have hS4H := hide hS4
      have hC4H := hide hC4
      clear hz3 hB3 hb5 hA2 hS4 hC4 hs4 hnx hen'
      go_wp2
      go_roundw
      case rel =>
        obtain ⟨es, clock, since, seen, c0, b1, _, _, _, b5, _⟩ := id hI2H.out
        have hl1 := (Array.getElem?_eq_some_iff.1 b1).1
        have hl5 := (Array.getElem?_eq_some_iff.1 b5).1
        have k1 : w4.heap[nb]? = w2.heap[nb]? := (hC4H.out.block nb (Nat.lt_of_lt_of_le hl1 hB3H.out.size) (fun e => hneH.out e.symm)).trans (hB3H.out.block _ hl1)
        have k2 : w4.heap[it]? = w2.heap[it]? := (hC4H.out.block it (Nat.lt_of_lt_of_le hl5 hB3H.out.size) (fun e => hmiH.out e.symm)).trans (hB3H.out.block _ hl5)
        refine ⟨T ++ [x], hT2.out.1, hT2.out.2, ?_, ?_, (hCh2H.out.trans (ChgS.of_belowF hB3H.out)).trans hC4H.out⟩
        · rw [List.map_append, List.reverse_append]
          exact hI2H.out.keep k1 k2
        · rw [RW.uniE_snoc, ← hxkH.out, hyH.out, show RW.fv y = .agg cs by rw [hcsH.out]; rfl]
          exact hS4H.out
      case measure =>
        obtain ⟨es, clock, since, seen, c0, b1, _, _, _, b5, _⟩ := id hI2H.out
        have hl1 := (Array.getElem?_eq_some_iff.1 b1).1
        have hl5 := (Array.getElem?_eq_some_iff.1 b5).1
        have k1 : w4.heap[nb]? = w2.heap[nb]? := (hC4H.out.block nb (Nat.lt_of_lt_of_le hl1 hB3H.out.size) (fun e => hneH.out e.symm)).trans (hB3H.out.block _ hl1)
        have k2 : w4.heap[it]? = w2.heap[it]? := (hC4H.out.block it (Nat.lt_of_lt_of_le hl5 hB3H.out.size) (fun e => hmiH.out e.symm)).trans (hB3H.out.block _ hl5)
        rw [KM.leftN_keep k1 k2]
        exact hltH.out
end Go.Proofs.YtnlphbfjeekooaaGreatDoor
