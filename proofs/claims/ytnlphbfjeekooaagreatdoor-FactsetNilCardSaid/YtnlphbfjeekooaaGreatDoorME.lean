/-
  Package royaltylaw05: rate, cut, pick: what they return; only new memory is written. And a world that is named anew at a statement's head.
-/
import Derived.Test.YtnlphbfjeekooaaGreatDoorFact10
import Derived.Test.YtnlphbfjeekooaaGreatDoorFactP
namespace Go.Proofs.YtnlphbfjeekooaaGreatDoor
open Go.RowKit
/-- at a statement's head: the world is forgotten but for what is said of it -/
theorem gen_world {P : Program} {c : Code} {Q : Exit → Act → World → Prop} {a : Act} {W : World} (R : World → Prop) (hR : R W) (h : ∀ W', R W' → Code.wp P c Q a W') : Code.wp P c Q a W := h W hR
theorem setRow_alloc (w : World) (old cs : Array Value) (t : TypeId) : (w.alloc (.cells old t)).setRow w.heap.size cs = w.alloc (.cells cs t) := by
  simp only [World.setRow, World.alloc]
  congr 1
  apply Array.ext_getElem?
  intro i
  rw [Array.getElem?_modify]
  by_cases h : w.heap.size = i
  · subst h; simp
  · rw [if_neg h, Array.getElem?_push, Array.getElem?_push, if_neg (Ne.symm h), if_neg (Ne.symm h)]
/-- a whole row goes into a variable that was just made -/
theorem wpList_store_new {P : Program} {ops : Array Oper} {rest : List Oper} {o : Oper} {a : Act} {w : World} {Q : Exit → Act → World → Prop} (hgd : o.guard = none) (ty : TypeId) (x y : Operand) (ho : o.op = .store ty x y)
    (cells : Array Value) (hx : a.eval x = .pointer (some ⟨w.heap.size, 0, none⟩)) (hy : a.eval y = .agg cells)
    (t : TypeId) (old : Array Value) (hi : (P.info? ty).map (·.size) = some cells.size) (hold : old.size = cells.size) (h1 : cells.all (·.oneCell') = true)
    (h : wpList P ops Q rest (a.put o.dst undef) (w.alloc (.cells cells t))) : wpList P ops Q (o :: rest) a (w.alloc (.cells old t)) := by
  refine wpList_store_row hgd ty x y ho w.heap.size cells hx hy t old (heap_alloc_new w _) hi hold h1 ?_
  rw [setRow_alloc]; exact h
theorem fcells_one (f : Nat → Int) (s : ByteArray) : (RW.fcells f s).all (·.oneCell') = true := by simp [RW.fcells, Value.oneCell']
theorem fact_info (f : Nat → Int) (s : ByteArray) : (Tryz.prog.info? 38).map (·.size) = some (RW.fcells f s).size := by kernel_rfl
namespace RW
/-- the chapter's example -/
def rateF (v a : Int) (i : Nat) : Int := if i = 0 then 7 else if i = 2 then v else if i = 3 then 5 else if i = 13 then a else if i = 15 then 3 else 0
def cutT (s : ByteArray) : ByteArray := s.extract 0 (min s.size 2010)
theorem cutT_size (s : ByteArray) : (cutT s).size ≤ 2010 := by unfold cutT; simp; omega
end RW
attribute [local go_sem ↓] ldRow_fact
end Go.Proofs.YtnlphbfjeekooaaGreatDoor

/-
  Package royaltylaw05: sane: it returns true; only new memory is written.
-/
namespace Go.Proofs.YtnlphbfjeekooaaGreatDoor
open Go.RowKit
namespace RW
theorem cmp_self (l : List UInt8) : Lib.compareBytes l l = 0 := by
  induction l with
  | nil => rfl
  | cons a l ih => rw [Lib.compareBytes, if_neg (by simp), if_neg (by simp)]; exact ih
theorem kf_low (f : Nat → Int) : kf (low f 17 0).toNat (low f 17 12) = kf (f 0).toNat (f 12) := rfl
theorem kf_lt (k : Nat) (tt : Int) : ∀ x ∈ kf k tt, x.1 < 17 := by
  intro x hx
  have h : ∀ k, (∀ x ∈ kf k tt, x.1 < 17) := fun k => by
    unfold kf
    split <;> simp
  exact h k x hx
theorem validB_low (f : Nat → Int) (n : Nat) : validB (low f 17) n = validB f n := by
  have hl : ∀ i, i < 17 → low f 17 i = f i := fun i hi => by unfold low; rw [if_pos hi]
  have hk : validK (kf (f 0).toNat (f 12)) (textK (f 0).toNat) (low f 17) n = validK (kf (f 0).toNat (f 12)) (textK (f 0).toNat) f n := by
    refine dec_eq ?_
    unfold validK
    rw [dec_iff]
    constructor
    · rintro ⟨h1, h2, h3⟩
      exact ⟨fun x hx => by rw [← hl x.1 (kf_lt _ _ x hx)]; exact h1 x hx, h2, fun i hi h0 h2 hx => by rw [← hl i hi]; exact h3 i hi h0 h2 hx⟩
    · rintro ⟨h1, h2, h3⟩
      exact ⟨fun x hx => by rw [hl x.1 (kf_lt _ _ x hx)]; exact h1 x hx, h2, fun i hi h0 h2 hx => by rw [hl i hi]; exact h3 i hi h0 h2 hx⟩
  unfold validB
  rw [hl 0 (by decide), hl 2 (by decide), hl 12 (by decide), hk]
def f1 : Nat → Int := rateF 1 1000000
theorem rate_kf (v a : Int) : kf (rateF v a 0).toNat (rateF v a 12) = [(15, 1, 20), (3, 0, 1199), (13, 1, 10000000)] := rfl
theorem rate_valid (v a : Int) (hv : 1 ≤ v ∧ v ≤ 1000) (ha : 1 ≤ a ∧ a ≤ 10000000) : validB (rateF v a) 0 = true := by
  refine dec_true ⟨by simp [rateF], hv, by decide, ?_⟩
  refine dec_true ⟨?_, .inr rfl, ?_⟩
  · rw [rate_kf]
    intro x hx
    simp at hx
    rcases hx with rfl | rfl | rfl
    · simp [rateF]
    · simp [rateF]
    · exact ha
  · rw [rate_kf]
    intro i hi h0 h2 h
    have h15 := h (15, 1, 20) (by simp)
    have h3 := h (3, 0, 1199) (by simp)
    have h13 := h (13, 1, 10000000) (by simp)
    unfold rateF
    rw [if_neg h0, if_neg h2, if_neg (Ne.symm h3), if_neg (Ne.symm h13), if_neg (Ne.symm h15)]
theorem rate_bad (v : Int) : validB (rateF v 0) 0 = false := by
  refine dec_false (fun h => ?_)
  have h4 := (dec_iff _).1 h.2.2.2
  rw [rate_kf] at h4
  have := h4.1 (13, 1, 10000000) (by simp)
  simp [rateF] at this
theorem odd_bad : validB (upd f1 1 1) 0 = false := by
  refine dec_false (fun h => ?_)
  have h4 := (dec_iff _).1 h.2.2.2
  have e : kf (upd f1 1 1 0).toNat (upd f1 1 1 12) = [(15, 1, 20), (3, 0, 1199), (13, 1, 10000000)] := rfl
  rw [e] at h4
  have := h4.2.2 1 (by decide) (by decide) (by decide) (by simp)
  simp [upd] at this
theorem f1_valid : validB f1 0 = true := rate_valid 1 1000000 (by decide) (by decide)
theorem f1_enc : encL f1 [] = [14, 0, 2, 10, 0, 0, 0, 0, 0, 0, 0, 0, 0, 128, 137, 122, 0, 6, 0, 0] := by decide +kernel
theorem f1_encR : encR f1 ⟨#[]⟩ = .tuple #[.string ⟨#[14, 0, 2, 10, 0, 0, 0, 0, 0, 0, 0, 0, 0, 128, 137, 122, 0, 6, 0, 0]⟩, .int .i64 0] := by
  rw [encR_yes _ _ f1_valid]
  show Value.tuple #[.string ⟨(encL f1 []).toArray⟩, .int .i64 0] = _
  rw [f1_enc]
theorem f1_dec : decV (decF (⟨#[14, 0, 2, 10, 0, 0, 0, 0, 0, 0, 0, 0, 0, 128, 137, 122, 0, 6, 0, 0]⟩ : ByteArray).data.toList) = .tuple #[.agg (fcells (low f1 17) ⟨#[]⟩), .int .i64 0] := by
  have h := decF_enc f1 [] (valid_lims f1 0 f1_valid).2.2.2 (by decide)
  rw [f1_enc] at h
  show decV (decF [14, 0, 2, 10, 0, 0, 0, 0, 0, 0, 0, 0, 0, 128, 137, 122, 0, 6, 0, 0]) = _
  rw [h, decV_yes]
  rw [validB_low]; exact f1_valid
theorem f1_key : keyV f1 = (3, 5) := rfl
theorem prev1 : prevB (rateF 2 5) (rateF 1 9) ⟨#[]⟩ ⟨#[]⟩ = true :=
  dec_true ⟨rate_valid 2 5 (by decide) (by decide), rate_valid 1 9 (by decide) (by decide), ⟨rfl, rfl, rfl⟩, .inl (by decide)⟩
theorem prev2 : prevB (rateF 1 9) (rateF 2 5) ⟨#[]⟩ ⟨#[]⟩ = false := by
  refine dec_false (fun h => ?_)
  rcases h.2.2.2 with h | h
  · simp [rateF] at h
  · have := h.1; simp [rateF] at this
theorem prev3 : prevB f1 f1 ⟨#[]⟩ ⟨#[]⟩ = false := by
  refine dec_false (fun h => ?_)
  rcases h.2.2.2 with h | h
  · omega
  · have := h.2; rw [cmp_self] at this; omega
theorem sha_len (K : Nat → Int) (l : List UInt8) : (sha K l).length = 32 := by simp [sha, dig]
theorem decF_nil : decF [] = none := rfl
end RW
/-- variables of a law that hold facts: their blocks, and what they hold -/
structure FRows (l : List (Nat × (Nat → Int) × ByteArray)) (w W : World) : Prop where
  below : Below w.heap.size w W
  rows : ∀ x ∈ l, W.heap[x.1]? = some (.cells (RW.fcells x.2.1 x.2.2) 38 (0, 0))
section
variable {l : List (Nat × (Nat → Int) × ByteArray)} {w W W' : World}
theorem FRows.nil (hB : Below w.heap.size w W) : FRows [] w W := ⟨hB, by simp⟩
theorem FRows.lt (h : FRows l w W) (x : Nat × (Nat → Int) × ByteArray) (hx : x ∈ l) : x.1 < W.heap.size := (Array.getElem?_eq_some_iff.1 (h.rows x hx)).1
theorem FRows.next (h : FRows l w W) (hB : Below W.heap.size W W') : FRows l w W' :=
  ⟨h.below.trans (hB.mono h.below.size), fun x hx => (hB.block _ (h.lt x hx)).trans (h.rows x hx)⟩
theorem FRows.new (h : FRows l w W) (f : Nat → Int) (s : ByteArray) : FRows ((W.heap.size, f, s) :: l) w (W.alloc (.cells (RW.fcells f s) 38)) :=
  ⟨h.below.alloc h.below.size _, fun x hx => by
    rcases List.mem_cons.1 hx with rfl | hx
    · exact heap_alloc_new W _
    · exact (Below.heap_alloc _ _ _ (h.lt x hx)).trans (h.rows x hx)⟩
theorem FRows.set {b : Nat} {f : Nat → Int} {s : ByteArray} (h : FRows ((b, f, s) :: l) w W) (hb : w.heap.size ≤ b) (hne : ∀ x ∈ l, x.1 ≠ b) (j : Nat) (hj : j < 17) (n : Int) :
    FRows ((b, RW.upd f j n, s) :: l) w (W.setCell ⟨b, j, none⟩ (.int .i64 n)) :=
  ⟨h.below.setCell hb _, fun x hx => by
    rcases List.mem_cons.1 hx with rfl | hx
    · show (W.setCell ⟨b, j, none⟩ (.int .i64 n)).heap[b]? = some (.cells (RW.fcells (RW.upd f j n) s) 38 (0, 0))
      rw [← RW.fcells_upd f s j n hj]
      exact heap_setCell_same _ _ _ _ _ _ (h.rows _ (List.mem_cons_self ..))
    · exact (Below.heap_setCell _ _ _ _ (hne x hx)).trans (h.rows x (List.mem_cons_of_mem _ hx))⟩
theorem FRows.load (h : FRows l w W) (b : Nat) (f : Nat → Int) (s : ByteArray) (hx : (b, f, s) ∈ l) : (ldRow 38 (.pointer (some ⟨b, 0, none⟩))).run Tryz.prog W = .ok (.agg (RW.fcells f s)) W :=
  ldRow_eq _ _ _ _ _ _ _ (h.rows _ hx) Tryz.underlying38 rfl (fact_info f s)
theorem FRows.cell (h : FRows l w W) (b : Nat) (f : Nat → Int) (s : ByteArray) (hx : (b, f, s) ∈ l) (j : Nat) (hj : j < 17) : W.cell? ⟨b, j, none⟩ = some (.int .i64 (f j)) := by
  rw [cell_of_heap (h.rows _ hx), fcells_get _ _ _ hj]
theorem FRows.unfrozen (h : FRows l w W) (b : Nat) (f : Nat → Int) (s : ByteArray) (hx : (b, f, s) ∈ l) (j : Nat) : W.frozen? ⟨b, j, none⟩ = false := by
  have := h.rows _ hx
  simp [World.frozen?, this]
end
attribute [local go_sem ↓] ldRow_fact
end Go.Proofs.YtnlphbfjeekooaaGreatDoor

/-
  Package royaltylaw05: FactPrefixes: it returns true; only new memory is written.
-/
namespace Go.Proofs.YtnlphbfjeekooaaGreatDoor
open Go.RowKit
namespace RW
theorem emp_no (s : ByteArray) (h : s ≠ ⟨#[]⟩) : s.toList.isEmpty = false := by
  rw [ByteArray.toList_eq]
  cases s with
  | mk d => cases d with
    | mk l => cases l with
      | nil => exact absurd rfl h
      | cons a l => rfl
theorem emp_yes (s : ByteArray) (h : s = ⟨#[]⟩) : s.toList.isEmpty = true := by rw [h, ByteArray.toList_eq]; rfl
theorem encL_pos (f : Nat → Int) (s : List UInt8) (hs : s.length ≤ 65536) (hb : ∀ i, i < 17 → -4611686018427387903 ≤ f i ∧ f i ≤ 4611686018427387903) : encL f s ≠ [] := by
  intro h
  have h1 := decF_enc f s hb hs
  rw [h, decF_nil] at h1
  cases h1
theorem prefix_none (f : Nat → Int) (s : ByteArray) (hv : validB f s.size = true) (k : Nat) (hk : k < (encL f s.data.toList).length) :
    decF ((⟨(encL f s.data.toList).toArray⟩ : ByteArray).extract 0 k).data.toList = none := by
  obtain ⟨h1, _, _, h2⟩ := valid_lims f s.size hv
  have hl : s.data.toList.length = s.size := by rw [Array.length_toList]; rfl
  have he := decF_enc f s.data.toList h2 (by omega)
  have e : ((⟨(encL f s.data.toList).toArray⟩ : ByteArray).extract 0 k).data.toList = (encL f s.data.toList).take k := by simp
  rw [e]
  rcases hd : decF ((encL f s.data.toList).take k) with _ | p
  · rfl
  · have := decF_append _ ((encL f s.data.toList).drop k) p hd (by simp; omega)
    rw [List.take_append_drop, he] at this
    cases this
theorem more_none (f : Nat → Int) (s m : ByteArray) (hv : validB f s.size = true) (hm : m ≠ ⟨#[]⟩) : decF ((⟨(encL f s.data.toList).toArray⟩ : ByteArray) ++ m).data.toList = none := by
  obtain ⟨h1, _, _, h2⟩ := valid_lims f s.size hv
  have hl : s.data.toList.length = s.size := by rw [Array.length_toList]; rfl
  have he := decF_enc f s.data.toList h2 (by omega)
  have e : ((⟨(encL f s.data.toList).toArray⟩ : ByteArray) ++ m).data.toList = encL f s.data.toList ++ m.data.toList := by simp [ByteArray.data_append]
  rw [e]
  refine decF_append _ _ _ he (fun h => hm ?_)
  cases m with
  | mk d => cases d with
    | mk l => simp at h; subst h; rfl
theorem more_some (f : Nat → Int) (s : ByteArray) (hv : validB f s.size = true) : decV (decF ((⟨(encL f s.data.toList).toArray⟩ : ByteArray) ++ ⟨#[]⟩).data.toList) = .tuple #[.agg (fcells (low f 17) s), .int .i64 0] := by
  obtain ⟨h1, _, _, h2⟩ := valid_lims f s.size hv
  have hl : s.data.toList.length = s.size := by rw [Array.length_toList]; rfl
  have he := decF_enc f s.data.toList h2 (by omega)
  have e : ((⟨(encL f s.data.toList).toArray⟩ : ByteArray) ++ ⟨#[]⟩).data.toList = encL f s.data.toList := by simp [ByteArray.data_append]
  rw [e, he, decV_yes]
  rw [validB_low, hl]; exact hv
end RW
attribute [local go_sem ↓] ldRow_fact
end Go.Proofs.YtnlphbfjeekooaaGreatDoor

/-
  Package royaltylaw05: FactRoundTrip: it returns true; only new memory is written.
-/
namespace Go.Proofs.YtnlphbfjeekooaaGreatDoor
open Go.RowKit
theorem stRow_facL (x y : Value) : Instr.storeAt 38 x y = stRow 38 x y := rfl
theorem stRow_eq (w : World) (g : Nat) (cells : Array Value) (t ty : TypeId) (old : Array Value) (hg : w.heap[g]? = some (.cells old t (0, 0))) (hi : (Tryz.prog.info? ty).map (·.size) = some cells.size)
    (hold : old.size = cells.size) (h1 : cells.all (·.oneCell') = true) : (stRow ty (.pointer (some ⟨g, 0, none⟩)) (.agg cells)).run Tryz.prog w = .ok () (w.setRow g cells) := by
  simp only [stRow, Instr.storeAt, Instr.sureAddr, Sem.run_bind, Sem.run_pure, Result.andThen_ok, run_storeVar_row w g t ty old cells hg hi hold h1]
section
variable {l : List (Nat × (Nat → Int) × ByteArray)} {w W W' : World}
theorem FRows.drew (h : FRows l w W) : FRows l w W.drew := ⟨⟨h.below.os, h.below.tape, h.below.output, h.below.size, h.below.block⟩, h.rows⟩
theorem FRows.sub {l' : List (Nat × (Nat → Int) × ByteArray)} (h : FRows l w W) (hs : ∀ x ∈ l', x ∈ l) : FRows l' w W := ⟨h.below, fun x hx => h.rows x (hs x hx)⟩
/-- a whole fact is stored over another -/
theorem FRows.put (h : FRows l w W) (b : Nat) (f g : Nat → Int) (s u : ByteArray) (hx : (b, f, s) ∈ l) (hb : w.heap.size ≤ b) (l' : List (Nat × (Nat → Int) × ByteArray)) (hl : ∀ x ∈ l', x = (b, g, u) ∨ (x ∈ l ∧ x.1 ≠ b)) :
    FRows l' w (W.setRow b (RW.fcells g u)) :=
  ⟨RW.below_setRow h.below hb _, fun x hx' => by
    rcases hl x hx' with rfl | ⟨h1, h2⟩
    · exact setRow_heap _ _ _ _ _ _ (h.rows _ hx)
    · show ((W.setRow b (RW.fcells g u)).heap[x.1]?) = _
      rw [← h.rows x h1]
      simp only [World.setRow, Array.getElem?_modify, if_neg (Ne.symm h2)]⟩
theorem FRows.store (h : FRows l w W) (b : Nat) (f g : Nat → Int) (s u : ByteArray) (hx : (b, f, s) ∈ l) : (stRow 38 (.pointer (some ⟨b, 0, none⟩)) (.agg (RW.fcells g u))).run Tryz.prog W = .ok () (W.setRow b (RW.fcells g u)) :=
  stRow_eq _ _ _ _ _ _ (h.rows _ hx) (fact_info g u) rfl (fcells_one _ _)
end
namespace RW
theorem str_eq (a b : ByteArray) : (a.toList == b.toList) = dec (a = b) := by
  refine dec_eq ?_
  rw [beq_iff_eq, ByteArray.toList_eq, ByteArray.toList_eq]
  exact ⟨fun h => by cases a with | mk x => cases b with | mk y => cases x with | mk x => cases y with | mk y => simp at h; rw [h], fun h => by rw [h]⟩
theorem enc_inj (f g : Nat → Int) (s u : ByteArray) (hf : validB f s.size = true) (hg : validB g u.size = true) :
    dec ((⟨(encL f s.data.toList).toArray⟩ : ByteArray) = ⟨(encL g u.data.toList).toArray⟩) = dec (feq f g s u) := by
  refine dec_eq ?_
  rw [dec_iff]
  obtain ⟨h1, _, _, h2⟩ := valid_lims f s.size hf
  obtain ⟨h3, _, _, h4⟩ := valid_lims g u.size hg
  have e1 := decF_enc f s.data.toList h2 (by rw [Array.length_toList]; show s.size ≤ _; omega)
  have e2 := decF_enc g u.data.toList h4 (by rw [Array.length_toList]; show u.size ≤ _; omega)
  constructor
  · intro h
    have h5 : encL f s.data.toList = encL g u.data.toList := by
      have h7 := congrArg (fun x : ByteArray => x.data.toList) h
      simpa using h7
    rw [h5, e2] at e1
    simp only [Option.some.injEq, Prod.mk.injEq] at e1
    refine ⟨fun i hi => ?_, ?_⟩
    · have h6 := congrFun e1.1 i
      unfold low at h6
      rw [if_pos hi, if_pos hi] at h6
      exact h6.symm
    · have h6 := e1.2
      cases s with | mk x => cases u with | mk y => cases x with | mk x => cases y with | mk y => simp at h6; rw [h6]
  · rintro ⟨h5, rfl⟩
    have h6 : ∀ j, j ≤ 17 → encTo f j = encTo g j := fun j hj => by
      induction j with
      | zero => rfl
      | succ j ih => rw [encTo_succ, encTo_succ, ih (by omega), h5 j (by omega)]
    unfold encL
    rw [h6 17 (Nat.le_refl _)]
theorem dec_encV (f : Nat → Int) (s : ByteArray) (hv : validB f s.size = true) : decV (decF (⟨(encL f s.data.toList).toArray⟩ : ByteArray).data.toList) = .tuple #[.agg (fcells (low f 17) s), .int .i64 0] := by
  have h := more_some f s hv
  have e : ((⟨(encL f s.data.toList).toArray⟩ : ByteArray) ++ ⟨#[]⟩) = ⟨(encL f s.data.toList).toArray⟩ := by
    rw [ByteArray.mk_append_mk]; simp
  rw [e] at h
  exact h
end RW
theorem eql_feq (f g : Nat → Int) (s u : ByteArray) (W : World) : (binOp .eql 38 (.agg (RW.fcells f s)) (.agg (RW.fcells g u))).run Tryz.prog W = .ok (.bool (RW.dec (RW.feq f g s u))) W := eql_fact f g s u W
theorem eql_low (f : Nat → Int) (s : ByteArray) (W : World) : (binOp .eql 38 (.agg (RW.fcells (RW.low f 17) s)) (.agg (RW.fcells f s))).run Tryz.prog W = .ok (.bool true) W := by
  rw [eql_fact, RW.dec_true ⟨fun i hi => by unfold RW.low; rw [if_pos hi], rfl⟩]
attribute [local go_sem ↓] ldRow_fact stRow_facL
end Go.Proofs.YtnlphbfjeekooaaGreatDoor

/-
  Package royaltyref05: within, id, period, territory, Key: what each returns.
-/
namespace Go.Proofs.YtnlphbfjeekooaaGreatDoor
open Go.RowKit
set_option maxHeartbeats 1000000 in
theorem rwithin_any (n lo hi : Int) (w : World) : Calls Tryz.prog 62 #[.int .i64 n, .int .i64 lo, .int .i64 hi] w fun e w' => e = .returned (.bool (decide (lo ≤ n ∧ n ≤ hi))) ∧ w = w' := by
  obtain ⟨b, hb⟩ : ∃ b, b = decide (lo ≤ n ∧ n ≤ hi) := ⟨_, rfl⟩
  rw [← hb]
  have hbH := hide hb
  clear hb
  by_cases h1 : lo ≤ n
  · by_cases h2 : n ≤ hi
    · have eH := hide (show decide (lo ≤ n ∧ n ≤ hi) = true by simp [h1, h2])
      go_enter Tryz.func62, Tryz.ntmps62
      go_wp2
      go_ret
      exact ⟨by rw [hbH.out, eH.out]; rfl, rfl⟩
    · have eH := hide (show decide (lo ≤ n ∧ n ≤ hi) = false by simp [h2])
      go_enter Tryz.func62, Tryz.ntmps62
      go_wp2
      go_ret
      exact ⟨by rw [hbH.out, eH.out]; rfl, rfl⟩
  · have eH := hide (show decide (lo ≤ n ∧ n ≤ hi) = false by simp [h1])
    go_enter Tryz.func62, Tryz.ntmps62
    go_wp2
    go_ret
    exact ⟨by rw [hbH.out, eH.out]; rfl, rfl⟩
theorem rid_any (n : Int) (w : World) : Calls Tryz.prog 87 #[.int .i64 n] w fun e w' => e = .returned (.bool (decide (1 ≤ n ∧ n ≤ 1000000))) ∧ w = w' := by
  obtain ⟨b, hb⟩ : ∃ b, b = decide (1 ≤ n ∧ n ≤ 1000000) := ⟨_, rfl⟩
  rw [← hb]
  have hbH := hide hb
  clear hb
  go_enter Tryz.func87, Tryz.ntmps87
  go_wp2_with fail
  refine (rwithin_any _ _ _ _).mono ?_
  rintro e w1 ⟨rfl, rfl⟩
  rw [← hbH.out]
  go_wp2
  go_ret
  exact ⟨rfl, rfl⟩
theorem rterr_any (n : Int) (w : World) : Calls Tryz.prog 88 #[.int .i64 n] w fun e w' => e = .returned (.bool (decide (0 ≤ n ∧ n ≤ 7))) ∧ w = w' := by
  obtain ⟨b, hb⟩ : ∃ b, b = decide (0 ≤ n ∧ n ≤ 7) := ⟨_, rfl⟩
  rw [← hb]
  have hbH := hide hb
  clear hb
  go_enter Tryz.func88, Tryz.ntmps88
  go_wp2_with fail
  refine (rwithin_any _ _ _ _).mono ?_
  rintro e w1 ⟨rfl, rfl⟩
  rw [← hbH.out]
  go_wp2
  go_ret
  exact ⟨rfl, rfl⟩
theorem rperiod_any (n : Int) (w : World) : Calls Tryz.prog 89 #[.int .i64 n] w fun e w' => e = .returned (.bool (decide (0 ≤ n ∧ n ≤ 1199))) ∧ w = w' := by
  obtain ⟨b, hb⟩ : ∃ b, b = decide (0 ≤ n ∧ n ≤ 1199) := ⟨_, rfl⟩
  rw [← hb]
  have hbH := hide hb
  clear hb
  go_enter Tryz.func89, Tryz.ntmps89
  go_wp2_with fail
  refine (rwithin_any _ _ _ _).mono ?_
  rintro e w1 ⟨rfl, rfl⟩
  rw [← hbH.out]
  go_wp2
  go_ret
  exact ⟨rfl, rfl⟩
end Go.Proofs.YtnlphbfjeekooaaGreatDoor

/-
  Package royaltyref05: numbers, Numbers, Written: what each returns; only new memory is written.
-/
namespace Go.Proofs.YtnlphbfjeekooaaGreatDoor
open Go.RowKit
set_option maxRecDepth 100000 in
set_option maxHeartbeats 4000000 in
theorem rnumbers_any (f : Nat → Int) (s : ByteArray) (w : World) :
    Calls Tryz.prog 115 #[.agg (RW.fcells f s)] w fun e w' => ∃ B, e = .returned (.slice (some ⟨B, 0, none⟩) 17 17) ∧ w.heap.size ≤ B ∧ (∀ i, i < 17 → w'.cell? ⟨B, i, none⟩ = some (.int .i64 (f i))) ∧ Below w.heap.size w w' := by
  obtain ⟨cs, hcs⟩ : ∃ cs, cs = RW.fcells f s := ⟨_, rfl⟩
  rw [← hcs]
  have hcsH := hide hcs
  clear hcs
  go_enter Tryz.func115, Tryz.ntmps115
  go_upto_region 1 with fail
  obtain ⟨b, hb⟩ : ∃ b, b = w.heap.size := ⟨_, rfl⟩
  have hR := FRows.new (FRows.nil (Below.refl w.heap.size w)) f s
  rw [← hcsH.out, ← hb] at hR
  rw [← hb]
  refine gen_world (FRows [(b, f, s)] w) hR ?_
  clear hR hb
  intro W hF
  have c0 := hF.cell b f s (by simp) 0 (by decide)
  have c1 := hF.cell b f s (by simp) 1 (by decide)
  have c2 := hF.cell b f s (by simp) 2 (by decide)
  have c3 := hF.cell b f s (by simp) 3 (by decide)
  have c4 := hF.cell b f s (by simp) 4 (by decide)
  have c5 := hF.cell b f s (by simp) 5 (by decide)
  have c6 := hF.cell b f s (by simp) 6 (by decide)
  have c7 := hF.cell b f s (by simp) 7 (by decide)
  have c8 := hF.cell b f s (by simp) 8 (by decide)
  have c9 := hF.cell b f s (by simp) 9 (by decide)
  have c10 := hF.cell b f s (by simp) 10 (by decide)
  have c11 := hF.cell b f s (by simp) 11 (by decide)
  have c12 := hF.cell b f s (by simp) 12 (by decide)
  have c13 := hF.cell b f s (by simp) 13 (by decide)
  have c14 := hF.cell b f s (by simp) 14 (by decide)
  have c15 := hF.cell b f s (by simp) 15 (by decide)
  have c16 := hF.cell b f s (by simp) 16 (by decide)
  have hFH := hide hF
  clear hF
  go_wp2
  go_ret
  refine ⟨W.heap.size, rfl, hFH.out.below.size, fun i hi => ?_, hFH.out.below.alloc hFH.out.below.size _⟩
  rw [cell_of_heap (heap_alloc_new _ _)]
  rcases i with _ | _ | _ | _ | _ | _ | _ | _ | _ | _ | _ | _ | _ | _ | _ | _ | _ | i
  all_goals first | rfl | omega
/-- one number after the other -/
theorem enc_more (f : Nat → Int) (j : Nat) : (⟨(RW.encTo f j).toArray⟩ : ByteArray) ++ ⟨(RW.putI (f j)).toArray⟩ = ⟨(RW.encTo f (j + 1)).toArray⟩ := by
  rw [ByteArray.mk_append_mk, RW.encTo_succ]
set_option maxRecDepth 100000 in
set_option maxHeartbeats 4000000 in
theorem rNumbers_any (f : Nat → Int) (hbd : ∀ i, i < 17 → -4611686018427387903 ≤ f i ∧ f i ≤ 4611686018427387903) (B : Nat) (w : World) (hB : B < w.heap.size) (hc : ∀ i, i < 17 → w.cell? ⟨B, i, none⟩ = some (.int .i64 (f i))) :
    Calls Tryz.prog 114 #[.slice (some ⟨B, 0, none⟩) 17 17] w fun e w' => e = .returned (.string ⟨(RW.encTo f 17).toArray⟩) ∧ Below w.heap.size w w' := by
  have hcH := hide hc
  have hbdH := hide hbd
  clear hc hbd
  go_enter Tryz.func114, Tryz.ntmps114
  go_wp2
  go_loopw [3, 4] (fun o i wr => ∃ j : Nat, j ≤ 17 ∧ i = .int .i64 j ∧ o = .string ⟨(RW.encTo f j).toArray⟩ ∧ Below w.heap.size w wr) (fun _ i _ => 17 - (intOf i).toNat)
  case atStart => exact ⟨0, by omega, rfl, rfl, Below.refl _ _⟩
  case round =>
    obtain ⟨j, hj, rfl, rfl, hBw⟩ := hrel
    obtain ⟨S, hS⟩ : ∃ S : ByteArray, S = ⟨(RW.encTo f j).toArray⟩ := ⟨_, rfl⟩
    rw [← hS]
    have hSs : S.size ≤ 170 := by
      have h1 := RW.encTo_len f j
      have h2 : S.size = (RW.encTo f j).length := by rw [hS]; show Array.size _ = _; simp
      omega
    have hSH := hide hS
    clear hS
    by_cases hlt : j < 17
    · have cj : wr.cell? ⟨B, j, none⟩ = some (.int .i64 (f j)) := (World.cell?_of_block (a := ⟨B, j, none⟩) (hBw.block _ hB)).trans (hcH.out j hlt)
      have hn1 := hide (hbdH.out j hlt)
      obtain ⟨T, hT⟩ : ∃ T : ByteArray, T = ⟨(RW.putI (f j)).toArray⟩ := ⟨_, rfl⟩
      have hTs : T.size ≤ 10 := by
        have h1 := RW.putI_len (f j)
        have h2 : T.size = (RW.putI (f j)).length := by rw [hT]; show Array.size _ = _; simp
        omega
      have hST : S ++ T = ⟨(RW.encTo f (j + 1)).toArray⟩ := by rw [hSH.out, hT]; exact enc_more f j
      have hsz : S.size + T.size ≤ 9223372036854775807 := by omega
      have hsz2 : ¬ (9223372036854775807 < S.size + T.size) := by omega
      have hP : ∀ W, Calls Tryz.prog 147 #[.int .i64 (f j)] W fun e w' => e = .returned (.tuple #[.string T, .int .i64 0]) ∧ Below W.heap.size W w' := fun W => by rw [hT]; exact rputint (f j) hn1.out.1 hn1.out.2 W
      have hPH := hide hP
      have hSTH := hide hST
      clear hP hST hT
      go_wp2_with (go_at_call 147; refine (hPH.out _).mono ?_; rintro e w5 ⟨rfl, hB5⟩)
      go_roundw
      case rel => exact ⟨j + 1, by omega, by go_num, by rw [hSTH.out], hBw.trans (hB5.mono hBw.size)⟩
      case measure => simp [intOf]; omega
    · obtain rfl : j = 17 := by omega
      go_wp2
      go_ret
      exact ⟨by rw [hSH.out]; rfl, hBw⟩
theorem encL_bytes (f : Nat → Int) (s : ByteArray) : (⟨(RW.encTo f 17).toArray⟩ : ByteArray) ++ ⟨(RW.putS s.data.toList).toArray⟩ = ⟨(RW.encL f s.data.toList).toArray⟩ := by
  rw [ByteArray.mk_append_mk]; rfl
attribute [local go_sem ↓] ldRow_fact
set_option maxRecDepth 100000 in
set_option maxHeartbeats 4000000 in
theorem rwritten_any (f : Nat → Int) (s : ByteArray) (hs : s.size ≤ 65536) (hbd : ∀ i, i < 17 → -4611686018427387903 ≤ f i ∧ f i ≤ 4611686018427387903) (w : World) :
    Calls Tryz.prog 84 #[.agg (RW.fcells f s)] w fun e w' => e = .returned (.string ⟨(RW.encL f s.data.toList).toArray⟩) ∧ Below w.heap.size w w' := by
  obtain ⟨S, hS⟩ : ∃ S : ByteArray, S = ⟨(RW.encTo f 17).toArray⟩ := ⟨_, rfl⟩
  obtain ⟨T, hT⟩ : ∃ T : ByteArray, T = ⟨(RW.putS s.data.toList).toArray⟩ := ⟨_, rfl⟩
  have hE := encL_bytes f s
  rw [← hS, ← hT] at hE
  rw [← hE]
  have hSs : S.size ≤ 170 := by
    have h1 := RW.encTo_len f 17
    have h2 : S.size = (RW.encTo f 17).length := by rw [hS]; show Array.size _ = _; simp
    omega
  have hTs : T.size ≤ 65546 := by
    have h2 := RW.putI_len s.size
    have h3 : T.size = (RW.putS s.data.toList).length := by rw [hT]; show Array.size _ = _; simp
    have h4 : (RW.putS s.data.toList).length = (RW.putI s.size).length + s.size := by rw [RW.putS_eq, List.length_append, Array.length_toList]; rfl
    omega
  have hsz : S.size + T.size ≤ 9223372036854775807 := by omega
  have hsz2 : ¬ (9223372036854775807 < S.size + T.size) := by omega
  have hN : ∀ (B : Nat) (W : World), B < W.heap.size → (∀ i, i < 17 → W.cell? ⟨B, i, none⟩ = some (.int .i64 (f i))) → Calls Tryz.prog 114 #[.slice (some ⟨B, 0, none⟩) 17 17] W fun e w' => e = .returned (.string S) ∧ Below W.heap.size W w' := fun B W h1 h2 => by rw [hS]; exact rNumbers_any f hbd B W h1 h2
  have hP : ∀ W, Calls Tryz.prog 113 #[.string s] W fun e w' => e = .returned (.tuple #[.string T, .int .i64 0]) ∧ Below W.heap.size W w' := fun W => by rw [hT]; exact rputstr s hs W
  have hNH := hide hN; have hPH := hide hP
  clear hS hT hE hN hP hbd
  obtain ⟨cs, hcs⟩ : ∃ cs, cs = RW.fcells f s := ⟨_, rfl⟩
  rw [← hcs]
  have hcsH := hide hcs
  clear hcs
  go_enter Tryz.func84, Tryz.ntmps84
  go_upto_region 1 with fail
  obtain ⟨b, hb⟩ : ∃ b, b = w.heap.size := ⟨_, rfl⟩
  have hR := FRows.new (FRows.nil (Below.refl w.heap.size w)) f s
  rw [← hcsH.out, ← hb] at hR
  rw [← hb]
  refine gen_world (FRows [(b, f, s)] w) hR ?_
  clear hR hb
  intro W hF
  have c17 : W.cell? ⟨b, 17, none⟩ = some (.string s) := by rw [cell_of_heap (hF.rows (b, f, s) (by simp)), fcells_text]
  go_wp2_with fail
  refine (hPH.out _).mono ?_
  rintro e w1 ⟨rfl, hB1⟩
  have hF1 := hF.next hB1
  clear hF hB1 c17
  have l1 := hF1.load b f s (by simp)
  go_wp2_with fail
  refine (rnumbers_any f s _).mono ?_
  rintro e w2 ⟨B, rfl, hBl, hc, hB2⟩
  have hF2 := hF1.next hB2
  clear l1
  have hlt : B < w2.heap.size := by
    have := hc 0 (by decide)
    exact World.block_lt_of_cell? _ _ this
  have hcH := hide hc
  clear hc hF1 hB2 hBl
  go_wp2_with fail
  refine (hNH.out B _ hlt hcH.out).mono ?_
  rintro e w3 ⟨rfl, hB3⟩
  have hF3 := hF2.next hB3
  clear hF2 hB3
  go_wp2_with fail
  go_ret
  exact ⟨rfl, hF3.below⟩
end Go.Proofs.YtnlphbfjeekooaaGreatDoor
