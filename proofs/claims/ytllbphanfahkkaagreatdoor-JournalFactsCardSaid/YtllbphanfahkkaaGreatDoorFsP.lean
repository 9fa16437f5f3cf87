/-
  Sets of entries, plain: lists in the order of their strings: no program in sight.
-/
import Derived.Sort.Walk0
import Derived.Test.YtllbphanfahkkaaGreatDoorMK
namespace Go.Proofs.YtllbphanfahkkaaGreatDoor.RW
open Go Go.RowKit
/-- the order of strings -/
def blt (a b : ByteArray) : Bool := Op.bytesLess a.data.toList b.data.toList
theorem bytes_ext {a b : ByteArray} (h : a.data.toList = b.data.toList) : a = b := ByteArray.ext (Array.ext' h)
theorem blt_irrefl (a : ByteArray) : blt a a = false := bl_irrefl _
theorem blt_trans {a b c : ByteArray} (h1 : blt a b = true) (h2 : blt b c = true) : blt a c = true := bl_trans _ _ _ h1 h2
theorem blt_total {a b : ByteArray} (h1 : blt a b = false) (h2 : blt b a = false) : a = b := bytes_ext (bl_total _ _ h1 h2)
theorem blt_asymm {a b : ByteArray} (h : blt a b = true) : blt b a = false := by
  cases e : blt b a with
  | false => rfl
  | true => have := blt_trans h e; rw [blt_irrefl] at this; cases this
theorem blt_ne {a b : ByteArray} (h : blt a b = true) : a ≠ b := by rintro rfl; rw [blt_irrefl] at h; cases h
def AscB (l : List ByteArray) : Prop := l.Pairwise fun x y => blt x y = true
theorem AscB.nodup {l : List ByteArray} (h : AscB l) : l.Nodup := List.Pairwise.imp (fun h => blt_ne h) h
theorem asc_uniq : ∀ {a b : List ByteArray}, AscB a → AscB b → (∀ x, x ∈ a ↔ x ∈ b) → a = b
  | [], [], _, _, _ => rfl
  | [], y :: b, _, _, h => absurd ((h y).2 (by simp)) (by simp)
  | x :: a, [], _, _, h => absurd ((h x).1 (by simp)) (by simp)
  | x :: a, y :: b, ha, hb, h => by
    have ha' := List.pairwise_cons.1 ha
    have hb' := List.pairwise_cons.1 hb
    have hxy : x = y := by
      rcases List.mem_cons.1 ((h x).1 (by simp)) with e | hx
      · exact e
      · rcases List.mem_cons.1 ((h y).2 (by simp)) with e | hy
        · exact e.symm
        · have h1 := hb'.1 x hx
          have h2 := ha'.1 y hy
          rw [blt_asymm h1] at h2
          cases h2
    subst hxy
    congr 1
    refine asc_uniq ha'.2 hb'.2 fun z => ⟨fun hz => ?_, fun hz => ?_⟩
    · rcases List.mem_cons.1 ((h z).1 (by simp [hz])) with e | h1
      · exact absurd e.symm (blt_ne (ha'.1 z hz))
      · exact h1
    · rcases List.mem_cons.1 ((h z).2 (by simp [hz])) with e | h1
      · exact absurd e.symm (blt_ne (hb'.1 z hz))
      · exact h1
/-- an entry, unless there is one with its string -/
def insE (k : ByteArray) (v : Value) : List (ByteArray × Value) → List (ByteArray × Value)
  | [] => [(k, v)]
  | x :: l => if k = x.1 then x :: l else if blt k x.1 = true then (k, v) :: x :: l else x :: insE k v l
def AscE (C : List (ByteArray × Value)) : Prop := AscB (C.map (·.1))
theorem ascE_cons {x : ByteArray × Value} {C : List (ByteArray × Value)} : AscE (x :: C) ↔ (∀ y ∈ C, blt x.1 y.1 = true) ∧ AscE C := by
  unfold AscE AscB
  rw [List.map_cons, List.pairwise_cons]
  refine ⟨fun ⟨h1, h2⟩ => ⟨fun y hy => h1 _ (List.mem_map.2 ⟨y, hy, rfl⟩), h2⟩, fun ⟨h1, h2⟩ => ⟨fun y hy => ?_, h2⟩⟩
  obtain ⟨z, hz, rfl⟩ := List.mem_map.1 hy
  exact h1 z hz
theorem get_below {k : ByteArray} {C : List (ByteArray × Value)} (h : ∀ y ∈ C, blt k y.1 = true) : KM.get k C = none := KM.get_none.2 fun y hy e => blt_ne (h y hy) e.symm
theorem mem_insE {k : ByteArray} {v : Value} : ∀ {C : List (ByteArray × Value)} {x}, x ∈ insE k v C → x = (k, v) ∨ x ∈ C
  | [], x, h => by
    unfold insE at h
    exact .inl (List.mem_singleton.1 h)
  | y :: C, x, h => by
    unfold insE at h
    split at h
    · exact .inr h
    · split at h
      · exact List.mem_cons.1 h
      · rcases List.mem_cons.1 h with h | h
        · exact .inr (by simp [h])
        · exact (mem_insE h).imp id fun h => by simp [h]
theorem asc_insE (k : ByteArray) (v : Value) : ∀ {C : List (ByteArray × Value)}, AscE C → AscE (insE k v C)
  | [], _ => by unfold insE AscE AscB; simp
  | y :: C, h => by
    have h' := ascE_cons.1 h
    unfold insE
    split
    · exact h
    · rename_i hne
      split
      · rename_i hlt
        refine ascE_cons.2 ⟨fun z hz => ?_, h⟩
        rcases List.mem_cons.1 hz with rfl | hz
        · exact hlt
        · exact blt_trans hlt (h'.1 z hz)
      · rename_i hlt
        refine ascE_cons.2 ⟨fun z hz => ?_, asc_insE k v h'.2⟩
        rcases mem_insE hz with rfl | hz
        · show blt y.1 k = true
          by_cases e : blt y.1 k = true
          · exact e
          · exact absurd (blt_total (by simpa using hlt) (by simpa using e)) hne
        · exact h'.1 z hz
theorem get_insE (k j : ByteArray) (v : Value) : ∀ {C : List (ByteArray × Value)}, AscE C → KM.get j (insE k v C) = if (KM.get k C).isSome then KM.get j C else if j = k then some v else KM.get j C
  | [], _ => by
    unfold insE
    rw [KM.get_cons, KM.get_nil, KM.get_nil]
    rfl
  | y :: C, h => by
    have h' := ascE_cons.1 h
    unfold insE
    split
    · rename_i e
      rw [KM.get_cons k, if_pos e]
      rfl
    · rename_i hne
      split
      · rename_i hlt
        have hg : KM.get k (y :: C) = none := get_below fun z hz => by
          rcases List.mem_cons.1 hz with rfl | hz
          · exact hlt
          · exact blt_trans hlt (h'.1 z hz)
        rw [hg, KM.get_cons]
        rfl
      · rw [KM.get_cons j y, get_insE k j v h'.2, KM.get_cons k y, if_neg hne, KM.get_cons j y]
        by_cases hj : j = y.1
        · rw [if_pos hj, if_pos hj]
          by_cases hs : (KM.get k C).isSome = true
          · rw [if_pos hs]
          · rw [if_neg hs, if_neg (by rw [hj]; exact fun e => hne e.symm)]
        · rw [if_neg hj, if_neg hj]
theorem length_insE (k : ByteArray) (v : Value) : ∀ {C : List (ByteArray × Value)}, AscE C → (insE k v C).length = if (KM.get k C).isSome then C.length else C.length + 1
  | [], _ => by unfold insE; rw [KM.get_nil]; rfl
  | y :: C, h => by
    have h' := ascE_cons.1 h
    unfold insE
    split
    · rename_i e
      rw [KM.get_cons k, if_pos e]
      rfl
    · rename_i hne
      split
      · rename_i hlt
        have hg : KM.get k (y :: C) = none := get_below fun z hz => by
          rcases List.mem_cons.1 hz with rfl | hz
          · exact hlt
          · exact blt_trans hlt (h'.1 z hz)
        rw [hg]
        rfl
      · rw [List.length_cons, length_insE k v h'.2, KM.get_cons k y, if_neg hne, List.length_cons]
        split <;> rfl
/-- an entry that is there already changes nothing -/
theorem insE_known {k : ByteArray} {v : Value} : ∀ {C : List (ByteArray × Value)}, AscE C → (KM.get k C).isSome = true → insE k v C = C
  | [], _, h => by rw [KM.get_nil] at h; cases h
  | y :: C, h, hg => by
    have h' := ascE_cons.1 h
    unfold insE
    split
    · rfl
    · rename_i hne
      split
      · rename_i hlt
        have : KM.get k (y :: C) = none := get_below fun z hz => by
          rcases List.mem_cons.1 hz with rfl | hz
          · exact hlt
          · exact blt_trans hlt (h'.1 z hz)
        rw [this] at hg
        cases hg
      · rw [KM.get_cons, if_neg hne] at hg
        rw [insE_known h'.2 hg]
theorem get_isSome {k : ByteArray} {C : List (ByteArray × Value)} : (KM.get k C).isSome = true ↔ k ∈ C.map (·.1) := by
  constructor
  · intro h
    obtain ⟨v, hv⟩ := Option.isSome_iff_exists.1 h
    exact List.mem_map.2 ⟨_, KM.get_mem hv, rfl⟩
  · intro h
    obtain ⟨x, hx, rfl⟩ := List.mem_map.1 h
    cases e : KM.get x.1 C with
    | none => exact absurd rfl (KM.get_none.1 e x hx)
    | some v => rfl
/-- two ascending lists that give the same are the same -/
theorem asc_ext {C D : List (ByteArray × Value)} (hC : AscE C) (hD : AscE D) (h : ∀ k, KM.get k C = KM.get k D) : C = D := by
  have hk : C.map (·.1) = D.map (·.1) := asc_uniq hC hD fun x => by rw [← get_isSome, ← get_isSome, h]
  have hl : C.length = D.length := by have := congrArg List.length hk; simpa using this
  apply List.ext_getElem hl
  intro i h1 h2
  have e1 : C[i].1 = D[i].1 := by
    have := congrArg (fun l => l[i]?) hk
    simpa [h1, h2] using this
  have g1 := KM.get_of_mem (AscB.nodup hC) (show (C[i].1, C[i].2) ∈ C from List.getElem_mem h1)
  have g2 := KM.get_of_mem (AscB.nodup hD) (show (D[i].1, D[i].2) ∈ D from List.getElem_mem h2)
  rw [h, e1, g2] at g1
  exact Prod.ext e1 (Option.some.inj g1).symm
/-- what a map holds, in the order of the strings -/
def Cont (M C : List (ByteArray × Value)) : Prop := AscE C ∧ (M.map (·.1)).Nodup ∧ ∀ k, KM.get k M = KM.get k C
theorem Cont.nil : Cont [] [] := ⟨List.Pairwise.nil, List.nodup_nil, fun _ => rfl⟩
theorem Cont.keys {M C : List (ByteArray × Value)} (h : Cont M C) (k : ByteArray) : k ∈ M.map (·.1) ↔ k ∈ C.map (·.1) := by rw [← get_isSome, ← get_isSome, h.2.2]
theorem nodup_len {α : Type} [DecidableEq α] : ∀ (l m : List α), l.Nodup → (∀ x ∈ l, x ∈ m) → l.length ≤ m.length
  | [], _, _, _ => Nat.zero_le _
  | x :: l, m, hn, hs => by
    rw [List.nodup_cons] at hn
    have h1 := nodup_len l (m.erase x) hn.2 fun y hy => (List.mem_erase_of_ne (by rintro rfl; exact hn.1 hy)).2 (hs y (List.mem_cons_of_mem _ hy))
    rw [List.length_erase_of_mem (hs x (List.mem_cons_self ..))] at h1
    have := List.length_pos_of_mem (hs x (List.mem_cons_self ..))
    rw [List.length_cons]
    omega
theorem Cont.len {M C : List (ByteArray × Value)} (h : Cont M C) : M.length = C.length := by
  have h1 := nodup_len (M.map (·.1)) (C.map (·.1)) h.2.1 fun x hx => (h.keys x).1 hx
  have hn2 : (C.map (·.1)).Nodup := AscB.nodup h.1
  have h2 := nodup_len (C.map (·.1)) (M.map (·.1)) hn2 fun x hx => (h.keys x).2 hx
  rw [List.length_map, List.length_map] at h1 h2
  omega
theorem Cont.put {M C : List (ByteArray × Value)} (h : Cont M C) {k : ByteArray} (v : Value) (hk : KM.get k C = none) : Cont (KM.put k v M) (insE k v C) :=
  ⟨asc_insE k v h.1, KM.nodup_put h.2.1, fun j => by rw [KM.get_put, get_insE k j v h.1, hk, h.2.2]; rfl⟩
/-- the strings as the library's sort sees them -/
def keyl (C : List (ByteArray × Value)) : List (List UInt8) := C.map fun x => x.1.data.toList
theorem le_bl (x y : List UInt8) : decide (x ≤ y) = !Op.bytesLess y x := by
  rw [Go.Proofs.bytesLess_eq]
  by_cases h : y < x
  · rw [decide_eq_true h, decide_eq_false (fun h2 : x ≤ y => h2 h)]; rfl
  · rw [decide_eq_false h, decide_eq_true (show x ≤ y from h)]; rfl
theorem bl_asymm {x y : List UInt8} (h : Op.bytesLess x y = true) : Op.bytesLess y x = false := by
  cases e : Op.bytesLess y x with
  | false => rfl
  | true => have := bl_trans _ _ _ h e; rw [bl_irrefl] at this; cases this
theorem sorted_cont {M C : List (ByteArray × Value)} (h : Cont M C) {ss : List (List UInt8)} (hs : ss.Perm (keyl M)) : (ss.mergeSort fun x y => decide (x ≤ y)) = keyl C := by
  obtain ⟨zs, hzs⟩ : ∃ zs, zs = ss.mergeSort fun x y => decide (x ≤ y) := ⟨_, rfl⟩
  rw [← hzs]
  have hp : zs.Perm (keyl M) := hzs ▸ (List.mergeSort_perm _ _).trans hs
  have hle : zs.Pairwise fun x y => Op.bytesLess y x = false := by
    have h1 := List.pairwise_mergeSort (le := fun x y : List UInt8 => decide (x ≤ y)) (by
      intro a b c h1 h2
      rw [le_bl, Bool.not_eq_true'] at h1 h2 ⊢
      cases e : Op.bytesLess c a with
      | false => rfl
      | true =>
        cases e2 : Op.bytesLess b c with
        | true => rw [bl_trans _ _ _ e2 e] at h1; cases h1
        | false => rw [bl_total _ _ e2 h2] at h1; rw [h1] at e; cases e) (by
      intro a b
      rw [le_bl, le_bl]
      cases e : Op.bytesLess b a with
      | false => rfl
      | true => rw [bl_asymm e]; rfl) ss
    rw [← hzs] at h1
    exact h1.imp fun h => by rw [le_bl, Bool.not_eq_true'] at h; exact h
  have hnM : (keyl M).Nodup := by
    have e : keyl M = (M.map (·.1)).map fun x => x.data.toList := by unfold keyl; rw [List.map_map]; rfl
    rw [e]
    refine List.pairwise_map.2 (h.2.1.imp fun hne he => hne (bytes_ext he))
  have hn : zs.Nodup := hp.nodup_iff.2 hnM
  have hlt : zs.Pairwise fun x y => Op.bytesLess x y = true := by
    have h2 := List.Pairwise.and hle hn
    refine h2.imp ?_
    rintro a b ⟨h3, h4⟩
    by_cases e : Op.bytesLess a b = true
    · exact e
    · exact absurd (bl_total _ _ (by simpa using e) h3) h4
  have hb : (zs.map fun l => (⟨l.toArray⟩ : ByteArray)) = C.map (·.1) := by
    refine asc_uniq ?_ h.1 fun x => ?_
    · unfold AscB
      rw [List.pairwise_map]
      exact hlt.imp fun h => by unfold blt; simpa using h
    · rw [← h.keys]
      simp only [List.mem_map]
      constructor
      · rintro ⟨l, hl, rfl⟩
        obtain ⟨y, hy, rfl⟩ := List.mem_map.1 (hp.mem_iff.1 hl)
        exact ⟨y, hy, by simp⟩
      · rintro ⟨y, hy, rfl⟩
        exact ⟨y.1.data.toList, hp.mem_iff.2 (List.mem_map.2 ⟨y, hy, rfl⟩), by simp⟩
  have := congrArg (List.map fun x : ByteArray => x.data.toList) hb
  rw [List.map_map] at this
  unfold keyl
  rw [show (C.map fun x => x.1.data.toList) = (C.map (·.1)).map fun x => x.data.toList by rw [List.map_map]; rfl, ← hb, List.map_map]
  conv => lhs; rw [← List.map_id zs]
  apply List.map_congr_left
  intro l _
  simp
end Go.Proofs.YtllbphanfahkkaaGreatDoor.RW
