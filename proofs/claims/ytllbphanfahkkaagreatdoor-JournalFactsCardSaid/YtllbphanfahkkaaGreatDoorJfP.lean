/-
  Facts as records, plain: their encodings, what they take in a journal, what they are decoded as; sets of facts: no program in sight.
-/
import Derived.Test.YtllbphanfahkkaaGreatDoorMQ5
import Derived.Test.YtllbphanfahkkaaGreatDoorFs2
namespace Go.Proofs.YtllbphanfahkkaaGreatDoor.RW
open Go Go.RowKit
noncomputable def vdJ (x : Fc) : Bool := validB x.1 x.2.size
def cutJ (s : ByteArray) : ByteArray := s.extract 0 (min s.size 100)
theorem cutJ_size (s : ByteArray) : (cutJ s).size ≤ 100 := by unfold cutJ; simp; omega
def cutXJ (x : Fc) : Fc := (x.1, cutJ x.2)
/-- the valid ones of at most 15 facts with short texts -/
noncomputable def allJ (l : List Fc) : List Fc := ((l.take 15).map cutXJ).filter vdJ
def encJ (x : Fc) : ByteArray := ⟨(encL x.1 x.2.data.toList).toArray⟩
theorem encJ_list (x : Fc) : (encJ x).data.toList = encL x.1 x.2.data.toList := rfl
theorem encJ_size (x : Fc) (h : x.2.size ≤ 100) : (encJ x).size ≤ 280 := by
  have h1 := encL_len x.1 x.2.data.toList
  have h2 := size_list x.2
  have h3 : (encJ x).size = (encL x.1 x.2.data.toList).length := by rw [← size_list]; rfl
  omega
theorem kf_lowJ (f : Nat → Int) : kf (low f 17 0).toNat (low f 17 12) = kf (f 0).toNat (f 12) := rfl
theorem kf_ltJ (k : Nat) (tt : Int) : ∀ x ∈ kf k tt, x.1 < 17 := by
  intro x hx
  have h : ∀ k, (∀ x ∈ kf k tt, x.1 < 17) := fun k => by
    unfold kf
    split <;> simp
  exact h k x hx
theorem validB_lowJ (f : Nat → Int) (n : Nat) : validB (low f 17) n = validB f n := by
  have hl : ∀ i, i < 17 → low f 17 i = f i := fun i hi => by unfold low; rw [if_pos hi]
  have hk : validK (kf (f 0).toNat (f 12)) (textK (f 0).toNat) (low f 17) n = validK (kf (f 0).toNat (f 12)) (textK (f 0).toNat) f n := by
    refine dec_eq ?_
    unfold validK
    rw [dec_iff]
    constructor
    · rintro ⟨h1, h2, h3⟩
      exact ⟨fun x hx => by rw [← hl x.1 (kf_ltJ _ _ x hx)]; exact h1 x hx, h2, fun i hi h0 h2 hx => by rw [← hl i hi]; exact h3 i hi h0 h2 hx⟩
    · rintro ⟨h1, h2, h3⟩
      exact ⟨fun x hx => by rw [hl x.1 (kf_ltJ _ _ x hx)]; exact h1 x hx, h2, fun i hi h0 h2 hx => by rw [hl i hi]; exact h3 i hi h0 h2 hx⟩
  unfold validB
  rw [hl 0 (by decide), hl 2 (by decide), hl 12 (by decide), hk]
theorem fcells_lowJ (f : Nat → Int) (s : ByteArray) : fcells (low f 17) s = fcells f s := rfl
/-- a valid fact is decoded as what it was -/
theorem decJ (x : Fc) (h : vdJ x = true) : decV (decF (encJ x).data.toList) = .tuple #[fv x, .int .i64 0] := by
  obtain ⟨h1, _, _, h2⟩ := valid_lims x.1 x.2.size h
  rw [encJ_list, decF_enc x.1 x.2.data.toList h2 (by rw [Array.length_toList]; show x.2.size ≤ _; omega)]
  have hv : validB (low x.1 17) x.2.data.toList.length = true := by
    rw [size_list, validB_lowJ]
    exact h
  unfold decV
  simp only [hv]
  rw [fcells_lowJ]
  rfl
section
variable (H : List UInt8 → List UInt8) (hH : ∀ l, (H l).length = 32)
include hH
theorem stos_leJ : ∀ (l : List ByteArray) (h : List UInt8), (∀ r ∈ l, r.size ≤ 280) → (stos H h l).length ≤ 323 * l.length
  | [], _, _ => Nat.zero_le _
  | r :: l, h, hr => by
    have h1 := stos_leJ l (chn H h r) fun x hx => hr x (by simp [hx])
    have h2 := sto_len H hH h r
    have h3 := hr r (by simp)
    have h4 : (putS r.data.toList).length = (putI r.data.toList.length).length + r.data.toList.length := by unfold putS; simp
    have h5 := putI_len r.data.toList.length
    have h6 := size_list r
    show (sto H h r ++ stos H (chn H h r) l).length ≤ _
    rw [List.length_append, List.length_cons, h2]
    omega
end
/-- facts are added one after another -/
noncomputable def colE (K : Nat → Int) (C : Ents) (l : List Fc) : Ents := l.foldl (fun C x => (addR K C x).2.2) C
theorem colE_snoc (K : Nat → Int) (C : Ents) (l : List Fc) (x : Fc) : colE K C (l ++ [x]) = (addR K (colE K C l) x).2.2 := by unfold colE; rw [List.foldl_append]; rfl
theorem sha_lenJ (K : Nat → Int) (l : List UInt8) : (sha K l).length = 32 := by simp [sha, dig]
theorem idB_32J (K : Nat → Int) (x : Fc) : (idB K x).size = 32 := by
  show (sha K (encL x.1 x.2.data.toList)).toArray.size = 32
  rw [List.size_toArray, sha_lenJ]
theorem addR_keyJ {K : Nat → Int} {C : Ents} {x : Fc} (h : ∀ y ∈ C, y.1.size = 32) : ∀ y ∈ (addR K C x).2.2, y.1.size = 32 := by
  intro y hy
  unfold addR at hy
  split at hy
  · exact h y hy
  · split at hy
    · exact h y hy
    · split at hy
      · exact h y hy
      · rcases mem_insE hy with rfl | hy
        · exact idB_32J K x
        · exact h y hy
theorem colE_ok (K : Nat → Int) : ∀ (n : Nat) (l : List Fc), l.length = n → AscE (colE K [] l) ∧ (colE K [] l).length ≤ n ∧ ∀ y ∈ colE K [] l, y.1.size = 32
  | 0, l, h => by
    obtain rfl : l = [] := List.eq_nil_of_length_eq_zero h
    exact ⟨List.Pairwise.nil, Nat.zero_le _, fun y hy => by cases hy⟩
  | n + 1, l, h => by
    obtain ⟨m, x, rfl⟩ : ∃ m x, l = m ++ [x] := by
      rcases List.eq_nil_or_concat l with rfl | ⟨m, x, e⟩
      · cases h
      · exact ⟨m, x, by rw [e, List.concat_eq_append]⟩
    rw [List.length_append, List.length_singleton] at h
    obtain ⟨h1, h2, h3⟩ := colE_ok K n m (by omega)
    rw [colE_snoc]
    refine ⟨?_, Nat.le_trans (addR_len h1) (by omega), addR_keyJ h3⟩
    unfold addR
    split
    · exact h1
    · split
      · exact h1
      · split
        · exact h1
        · exact asc_insE _ _ h1
/-- what happens between two rounds -/
theorem take_mapJ {α β : Type} (f : α → β) (l : List α) (a b : Nat) (h : a ≤ b) : (l.take b).map f = (l.take a).map f ++ ((l.take b).drop a).map f := by
  rw [← List.map_append]
  congr 1
  have h1 : (l.take b).take a = l.take a := by rw [List.take_take, Nat.min_eq_left h]
  rw [← h1, List.take_append_drop]
/-- the valid ones of the first facts, their texts cut -/
noncomputable def accJ (l : List Fc) (j : Nat) : List Fc := ((l.take j).map cutXJ).filter vdJ
theorem accJ_zero (l : List Fc) : accJ l 0 = [] := by unfold accJ; rw [List.take_zero]; rfl
theorem take_snocJ {α : Type} {l : List α} {j : Nat} {x : α} (h : l[j]? = some x) : l.take (j + 1) = l.take j ++ [x] := by
  obtain ⟨h1, h2⟩ := List.getElem?_eq_some_iff.1 h
  rw [List.take_succ_eq_append_getElem h1, h2]
theorem accJ_yes {l : List Fc} {j : Nat} {x : Fc} (h : l[j]? = some x) (hv : vdJ (cutXJ x) = true) : accJ l (j + 1) = accJ l j ++ [cutXJ x] := by
  unfold accJ
  rw [take_snocJ h, List.map_append, List.filter_append, List.map_singleton, List.filter_cons_of_pos hv, List.filter_nil]
theorem accJ_no {l : List Fc} {j : Nat} {x : Fc} (h : l[j]? = some x) (hv : vdJ (cutXJ x) = false) : accJ l (j + 1) = accJ l j := by
  unfold accJ
  rw [take_snocJ h, List.map_append, List.filter_append, List.map_singleton, List.filter_cons_of_neg (by rw [hv]; simp), List.filter_nil, List.append_nil]
theorem accJ_len (l : List Fc) (j : Nat) : (accJ l j).length ≤ j := by
  unfold accJ
  refine Nat.le_trans (List.length_filter_le _ _) ?_
  rw [List.length_map, List.length_take]
  omega
theorem accJ_ok (l : List Fc) (j : Nat) : ∀ x ∈ accJ l j, vdJ x = true ∧ x.2.size ≤ 100 := by
  intro x hx
  obtain ⟨h1, h2⟩ := List.mem_filter.1 hx
  obtain ⟨y, _, rfl⟩ := List.mem_map.1 h1
  exact ⟨h2, cutJ_size _⟩
/-- a group under way -/
theorem grpJ {F : List Fc} {a q : Nat} {x : Fc} (ha : a ≤ q) (h : F[q]? = some x) : ((F.take (q + 1)).drop a).map encJ = ((F.take q).drop a).map encJ ++ [encJ x] := by
  have hq := (List.getElem?_eq_some_iff.1 h).1
  rw [take_snocJ h, List.drop_append_of_le_length (by rw [List.length_take]; omega), List.map_append, List.map_singleton]
theorem grpJ_len (F : List Fc) (a q : Nat) (hq : q ≤ F.length) : (((F.take q).drop a).map encJ).length = q - a := by
  rw [List.length_map, List.length_drop, List.length_take, Nat.min_eq_left hq]
theorem encs_ok {F : List Fc} (h : ∀ x ∈ F, x.2.size ≤ 100) : ∀ r ∈ F.map encJ, r.size ≤ 280 := by
  intro r hr
  obtain ⟨x, hx, rfl⟩ := List.mem_map.1 hr
  exact encJ_size x (h x hx)
theorem fitJ (H : List UInt8 → List UInt8) (hH : ∀ l, (H l).length = 32) {F : List Fc} (h : ∀ x ∈ F, x.2.size ≤ 100) (hF : F.length ≤ 15) (a c : Nat) (hac : a ≤ c) (hc : c ≤ F.length) :
    (stos H z32 ((F.take a).map encJ)).length + (stos H (hds H z32 ((F.take a).map encJ)) (((F.take c).drop a).map encJ)).length ≤ 9000 := by
  have h1 := stos_leJ H hH ((F.take a).map encJ) z32 (encs_ok fun x hx => h x (List.mem_of_mem_take hx))
  have h2 := stos_leJ H hH (((F.take c).drop a).map encJ) (hds H z32 ((F.take a).map encJ)) (encs_ok fun x hx => h x (List.mem_of_mem_take (List.mem_of_mem_drop hx)))
  rw [grpJ_len F a c hc] at h2
  rw [List.length_map, List.length_take, Nat.min_eq_left (by omega)] at h1
  omega
/-- a power failure leaves one of two lists of records: they may be named apart -/
theorem EndP.weak {H : List UInt8 → List UInt8} {n : Nat} {S : Dk} {rs : List ByteArray} (h : JInv H n S rs) (want : List ByteArray) : EndP H n S rs want := fun keep torn => by
  obtain ⟨c, h1, h2⟩ := EndP.inv h keep torn
  exact ⟨c, h1, .inl (h2.elim id id)⟩
end Go.Proofs.YtllbphanfahkkaaGreatDoor.RW
