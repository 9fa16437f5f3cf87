/-
  Package factset: maps.Copy and Union: what they return, what they change.
-/
import Derived.Test.YtllbphanfahkkaaGreatDoorMis2
namespace Go.Proofs.YtllbphanfahkkaaGreatDoor
open Go.RowKit RG
namespace RW
/-- an entry, in the place of one with its string -/
def updE (k : ByteArray) (v : Value) (C : Ents) : Ents := insE k v (C.filter fun x => decide (x.1 ≠ k))
theorem asc_filter {C : Ents} (h : AscE C) (p : ByteArray × Value → Bool) : AscE (C.filter p) := List.Pairwise.sublist (List.Sublist.map _ List.filter_sublist) h
theorem get_filter (k j : ByteArray) : ∀ C : Ents, KM.get j (C.filter fun x => decide (x.1 ≠ k)) = if j = k then none else KM.get j C
  | [] => by simp [KM.get_nil]
  | x :: C => by
    rw [List.filter_cons]
    by_cases e : x.1 = k
    · rw [if_neg (by simp [e]), get_filter k j C]
      by_cases hj : j = k
      · rw [if_pos hj, if_pos hj]
      · rw [if_neg hj, if_neg hj, KM.get_cons, if_neg (by rw [e]; exact hj)]
    · rw [if_pos (by simpa using e), KM.get_cons, KM.get_cons, get_filter k j C]
      by_cases hj : j = k
      · rw [if_pos hj, if_pos hj, if_neg (by rw [hj]; exact fun h => e h.symm)]
      · rw [if_neg hj, if_neg hj]
theorem asc_updE (k : ByteArray) (v : Value) {C : Ents} (h : AscE C) : AscE (updE k v C) := asc_insE k v (asc_filter h _)
theorem get_updE (k j : ByteArray) (v : Value) {C : Ents} (h : AscE C) : KM.get j (updE k v C) = if j = k then some v else KM.get j C := by
  unfold updE
  rw [get_insE k j v (asc_filter h _), get_filter, if_pos rfl, get_filter]
  by_cases e : j = k <;> simp [e]
theorem updE_new {k : ByteArray} {v : Value} {C : Ents} (h : AscE C) (hk : KM.get k C = none) : updE k v C = insE k v C :=
  asc_ext (asc_updE k v h) (asc_insE k v h) fun j => by rw [get_updE k j v h, get_insE k j v h, hk]; rfl
theorem updE_same {k : ByteArray} {v : Value} {C : Ents} (h : AscE C) (hk : KM.get k C = some v) : updE k v C = C :=
  asc_ext (asc_updE k v h) h fun j => by
    rw [get_updE k j v h]
    split
    · rename_i e; rw [e, hk]
    · rfl
theorem FVs.upd {C : Ents} (h : FVs C) (k : ByteArray) (y : Fc) : FVs (updE k (fv y) C) := FVs.ins (fun x hx => h x (List.mem_filter.1 hx).1) k y
theorem Cont.upd {M C : Ents} (h : Cont M C) (k : ByteArray) (v : Value) : Cont (KM.put k v M) (updE k v C) :=
  ⟨asc_updE k v h.1, KM.nodup_put h.2.1, fun j => by rw [KM.get_put, get_updE k j v h.1, h.2.2]⟩
/-- the entries of D over those of C -/
def uniE (D C : Ents) : Ents := D.foldl (fun a x => updE x.1 x.2 a) C
theorem asc_uniE (D : Ents) : ∀ {C : Ents}, AscE C → AscE (uniE D C) := by
  induction D with
  | nil => exact fun h => h
  | cons x D ih => exact fun {C} h => ih (asc_updE x.1 x.2 h)
theorem get_uniE (j : ByteArray) : ∀ (D : Ents) {C : Ents}, (D.map (·.1)).Nodup → AscE C → KM.get j (uniE D C) = match KM.get j D with | some v => some v | none => KM.get j C
  | [], C, _, _ => by rw [KM.get_nil]; rfl
  | x :: D, C, hn, h => by
    rw [List.map_cons, List.nodup_cons] at hn
    show KM.get j (uniE D (updE x.1 x.2 C)) = _
    rw [get_uniE j D hn.2 (asc_updE x.1 x.2 h), KM.get_cons, get_updE _ _ _ h]
    by_cases e : j = x.1
    · have hnone : KM.get j D = none := KM.get_none.2 fun y hy he => hn.1 (by rw [← e, ← he]; exact List.mem_map_of_mem hy)
      rw [hnone, if_pos e, if_pos e]
    · rw [if_neg e, if_neg e]
theorem FVs.uni {C : Ents} : ∀ {D : Ents}, FVs D → FVs C → FVs (uniE D C) := by
  intro D
  induction D generalizing C with
  | nil => exact fun _ h => h
  | cons x D ih =>
    intro hD hC
    obtain ⟨y, hy⟩ := hD x (by simp)
    refine ih (C := updE x.1 x.2 C) (fun z hz => hD z (by simp [hz])) ?_
    rw [hy]
    exact hC.upd _ _
/-- entries in whatever order -/
theorem uniE_order {M D C : Ents} (hD : Cont M D) {T : Ents} (hT : (T.map (·.1)).Nodup) (hsub : ∀ x ∈ T, x ∈ M) (hall : ∀ x ∈ M, x.1 ∈ T.map (·.1)) (hC : AscE C) : uniE T C = uniE D C := by
  refine asc_ext (asc_uniE T hC) (asc_uniE D hC) fun j => ?_
  rw [get_uniE j T hT hC, get_uniE j D (AscB.nodup hD.1) hC, ← hD.2.2 j]
  have : KM.get j T = KM.get j M := by
    cases e : KM.get j T with
    | some v => exact (KM.get_of_mem hD.2.1 (hsub _ (KM.get_mem e))).symm
    | none =>
      symm
      refine KM.get_none.2 fun y hy he => ?_
      obtain ⟨z, hz, hz2⟩ := List.mem_map.1 (hall y hy)
      exact KM.get_none.1 e z hz (hz2.trans he)
  rw [this]
theorem uniE_snoc (T : Ents) (x : ByteArray × Value) (C : Ents) : uniE (T ++ [x]) C = updE x.1 x.2 (uniE T C) := by unfold uniE; rw [List.foldl_append]; rfl
theorem uniE_len {D C : Ents} (hD : AscE D) (hC : AscE C) : (uniE D C).length = C.length + ((D.map (·.1)).filter fun x => !(KM.get x C).isSome).length := by
  have h1 : ((uniE D C).map (·.1)).length ≤ (C.map (·.1) ++ (D.map (·.1)).filter fun x => !(KM.get x C).isSome).length := nodup_len _ _ (AscB.nodup (asc_uniE D hC)) fun x hx => by
    rw [← get_isSome, get_uniE x D (AscB.nodup hD) hC] at hx
    rw [List.mem_append, List.mem_filter, ← get_isSome, ← get_isSome]
    cases e : KM.get x C with
    | some v => exact .inl rfl
    | none =>
      cases e2 : KM.get x D with
      | some v => exact .inr ⟨rfl, rfl⟩
      | none => rw [e2, e] at hx; cases hx
  have h2 : (C.map (·.1) ++ (D.map (·.1)).filter fun x => !(KM.get x C).isSome).length ≤ ((uniE D C).map (·.1)).length := by
    refine nodup_len _ _ ?_ fun x hx => ?_
    · rw [List.nodup_append]
      refine ⟨AscB.nodup hC, List.Nodup.sublist List.filter_sublist (AscB.nodup hD), fun a ha b hb hab => ?_⟩
      subst hab
      have := (List.mem_filter.1 hb).2
      rw [get_isSome.2 ha] at this
      cases this
    · rw [← get_isSome, get_uniE x D (AscB.nodup hD) hC]
      rw [List.mem_append, List.mem_filter, ← get_isSome, ← get_isSome] at hx
      cases e2 : KM.get x D with
      | some v => rfl
      | none =>
        rw [e2] at hx
        rcases hx with hx | hx
        · exact hx
        · cases hx.1
  simp only [List.length_map, List.length_append] at h1 h2
  omega
end RW
section
variable {W W' : World} {sb mb : Nat} {C : RW.Ents}
/-- an entry, in the place of one with its string -/
theorem SetAt.upd (h : SetAt W sb mb C) (k : ByteArray) (y : RW.Fc) :
    ∃ w', (Instr.mapUpdate 189 (.map (some mb)) (.string k) (RW.fv y)).run Tryz.prog W = .ok () w' ∧ SetAt w' sb mb (RW.updE k (RW.fv y) C) ∧ ChgS (fun j => j = mb) W w' ∧ w'.heap.size = W.heap.size := by
  obtain ⟨M, hM, hC⟩ := h.map
  obtain ⟨w', hr, ho, g1, g2, g3, g4, g5⟩ := hM.update strK_key Tryz.underlying189 k (RW.fv y)
  exact ⟨w', hr, ⟨(g5 _ h.ne).trans h.row, ⟨_, ho, hC.upd _ _⟩, h.fvs.upd k y⟩, ⟨g1, g2, g3, Nat.le_of_eq g4.symm, fun j _ hj => g5 j hj⟩, g4⟩
theorem SetAt.chg (h : SetAt W sb mb C) {Q : Nat → Prop} (hc : ChgS Q W W') (h1 : ¬ Q sb) (h2 : ¬ Q mb) : SetAt W' sb mb C := h.keep (hc.block _ h.lt.1 h1) (hc.block _ h.lt.2 h2)
end
attribute [local go_sem ↓] ldRow_fact
end Go.Proofs.YtllbphanfahkkaaGreatDoor
