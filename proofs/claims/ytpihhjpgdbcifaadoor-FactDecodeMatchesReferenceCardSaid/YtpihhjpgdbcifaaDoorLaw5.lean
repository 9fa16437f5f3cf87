/-
  Package royaltylaw05: FactRoundTrip: it returns true; only new memory is written.
-/
import Derived.Test.YtpihhjpgdbcifaaDoorLaw4
namespace Go.Proofs.YtpihhjpgdbcifaaDoor
open Go.RowKit
def stRow (T : TypeId) (x y : Value) : Sem Unit := Instr.storeAt T x y
theorem stRow_fact (x y : Value) : Instr.storeAt 23 x y = stRow 23 x y := rfl
theorem stRow_eq (w : World) (g : Nat) (cells : Array Value) (t ty : TypeId) (old : Array Value) (hg : w.heap[g]? = some (.cells old t (0, 0))) (hi : (Tryd.prog.info? ty).map (·.size) = some cells.size)
    (hold : old.size = cells.size) (h1 : cells.all (·.oneCell') = true) : (stRow ty (.pointer (some ⟨g, 0, none⟩)) (.agg cells)).run Tryd.prog w = .ok () (w.setRow g cells) := by
  simp only [stRow, Instr.storeAt, Instr.sureAddr, Sem.run_bind, Sem.run_pure, Result.andThen_ok, run_storeVar_row w g t ty old cells hg hi hold h1]
section
variable {l : List (Nat × (Nat → Int) × ByteArray)} {w W W' : World}
theorem FRows.drew (h : FRows l w W) : FRows l w W.drew := ⟨⟨h.below.os, h.below.tape, h.below.output, h.below.size, h.below.block⟩, h.rows⟩
theorem FRows.sub {l' : List (Nat × (Nat → Int) × ByteArray)} (h : FRows l w W) (hs : ∀ x ∈ l', x ∈ l) : FRows l' w W := ⟨h.below, fun x hx => h.rows x (hs x hx)⟩
/-- a whole fact is stored over another -/
theorem FRows.put (h : FRows l w W) (b : Nat) (f g : Nat → Int) (s u : ByteArray) (hx : (b, f, s) ∈ l) (hb : w.heap.size ≤ b) (l' : List (Nat × (Nat → Int) × ByteArray)) (hl : ∀ x ∈ l', x = (b, g, u) ∨ (x ∈ l ∧ x.1 ≠ b)) :
    FRows l' w (W.setRow b (RW.fcells g u)) :=
  ⟨RW.below_setRow h.below hb _, fun x hx' => by
    rcases hl x hx' with rfl | ⟨h1, h2⟩
    · exact setRow_heap _ _ _ _ _ _ (h.rows _ hx)
    · show ((W.setRow b (RW.fcells g u)).heap[x.1]?) = _
      rw [← h.rows x h1]
      simp only [World.setRow, Array.getElem?_modify, if_neg (Ne.symm h2)]⟩
theorem FRows.store (h : FRows l w W) (b : Nat) (f g : Nat → Int) (s u : ByteArray) (hx : (b, f, s) ∈ l) : (stRow 23 (.pointer (some ⟨b, 0, none⟩)) (.agg (RW.fcells g u))).run Tryd.prog W = .ok () (W.setRow b (RW.fcells g u)) :=
  stRow_eq _ _ _ _ _ _ (h.rows _ hx) (fact_info g u) rfl (fcells_one _ _)
end
namespace RW
theorem str_eq (a b : ByteArray) : (a.toList == b.toList) = dec (a = b) := by
  refine dec_eq ?_
  rw [beq_iff_eq, ByteArray.toList_eq, ByteArray.toList_eq]
  exact ⟨fun h => by cases a with | mk x => cases b with | mk y => cases x with | mk x => cases y with | mk y => simp at h; rw [h], fun h => by rw [h]⟩
theorem enc_inj (f g : Nat → Int) (s u : ByteArray) (hf : validB f s.size = true) (hg : validB g u.size = true) :
    dec ((⟨(encL f s.data.toList).toArray⟩ : ByteArray) = ⟨(encL g u.data.toList).toArray⟩) = dec (feq f g s u) := by
  refine dec_eq ?_
  rw [dec_iff]
  obtain ⟨h1, _, _, h2⟩ := valid_lims f s.size hf
  obtain ⟨h3, _, _, h4⟩ := valid_lims g u.size hg
  have e1 := decF_enc f s.data.toList h2 (by rw [Array.length_toList]; show s.size ≤ _; omega)
  have e2 := decF_enc g u.data.toList h4 (by rw [Array.length_toList]; show u.size ≤ _; omega)
  constructor
  · intro h
    have h5 : encL f s.data.toList = encL g u.data.toList := by
      have h7 := congrArg (fun x : ByteArray => x.data.toList) h
      simpa using h7
    rw [h5, e2] at e1
    simp only [Option.some.injEq, Prod.mk.injEq] at e1
    refine ⟨fun i hi => ?_, ?_⟩
    · have h6 := congrFun e1.1 i
      unfold low at h6
      rw [if_pos hi, if_pos hi] at h6
      exact h6.symm
    · have h6 := e1.2
      cases s with | mk x => cases u with | mk y => cases x with | mk x => cases y with | mk y => simp at h6; rw [h6]
  · rintro ⟨h5, rfl⟩
    have h6 : ∀ j, j ≤ 17 → encTo f j = encTo g j := fun j hj => by
      induction j with
      | zero => rfl
      | succ j ih => rw [encTo_succ, encTo_succ, ih (by omega), h5 j (by omega)]
    unfold encL
    rw [h6 17 (Nat.le_refl _)]
theorem dec_encV (f : Nat → Int) (s : ByteArray) (hv : validB f s.size = true) : decV (decF (⟨(encL f s.data.toList).toArray⟩ : ByteArray).data.toList) = .tuple #[.agg (fcells (low f 17) s), .int .i64 0] := by
  have h := more_some f s hv
  have e : ((⟨(encL f s.data.toList).toArray⟩ : ByteArray) ++ ⟨#[]⟩) = ⟨(encL f s.data.toList).toArray⟩ := by
    rw [ByteArray.mk_append_mk]; simp
  rw [e] at h
  exact h
end RW
theorem eql_feq (f g : Nat → Int) (s u : ByteArray) (W : World) : (binOp .eql 23 (.agg (RW.fcells f s)) (.agg (RW.fcells g u))).run Tryd.prog W = .ok (.bool (RW.dec (RW.feq f g s u))) W := eql_fact f g s u W
theorem eql_low (f : Nat → Int) (s : ByteArray) (W : World) : (binOp .eql 23 (.agg (RW.fcells (RW.low f 17) s)) (.agg (RW.fcells f s))).run Tryd.prog W = .ok (.bool true) W := by
  rw [eql_fact, RW.dec_true ⟨fun i hi => by unfold RW.low; rw [if_pos hi], rfl⟩]
attribute [local go_sem ↓] ldRow_fact stRow_fact
set_option maxRecDepth 100000 in
set_option maxHeartbeats 4000000 in
theorem trip_any (f g : Nat → Int) (s u : ByteArray) (hs : s.size ≤ 9223372036854775807) (hu : u.size ≤ 9223372036854775807) (K : Nat → Int) (ks : Array Value) (hks : RW.WsOk ks K) (a : Addr) (w : World) (hK : KLaid w ks) (hg : w.cell? ⟨0, 0, none⟩ = some (RW.eW a)) :
    Calls Tryd.prog 6 #[.agg (RW.fcells f s), .agg (RW.fcells g u)] w fun e w' => e = .returned (.bool true) ∧ Below w.heap.size w w' := by
  obtain ⟨cs, hcs⟩ : ∃ cs, cs = RW.fcells f s := ⟨_, rfl⟩
  obtain ⟨ds, hds⟩ : ∃ ds, ds = RW.fcells g u := ⟨_, rfl⟩
  have hCf := fun W => cut_any f s hs W
  have hCg := fun W => cut_any g u hu W
  obtain ⟨c, hc⟩ : ∃ c, c = RW.cutT s := ⟨_, rfl⟩
  obtain ⟨d, hd⟩ : ∃ d, d = RW.cutT u := ⟨_, rfl⟩
  have hcz : c.size ≤ 2010 := hc ▸ RW.cutT_size s
  simp only [← hc, ← hcs] at hCf
  simp only [← hd, ← hds] at hCg
  rw [← hcs, ← hds]
  have hcsH := hide hcs; have hdsH := hide hds; have hCfH := hide hCf; have hCgH := hide hCg
  have hKH := hide hK; have hgH := hide hg; have hczH := hide hcz
  clear hcs hds hCf hCg hc hd hK hg hcz
  go_enter Tryd.func6, Tryd.ntmps6
  go_upto_region 1 with fail
  obtain ⟨b1, hb1⟩ : ∃ b, b = w.heap.size := ⟨_, rfl⟩
  obtain ⟨b2, hb2⟩ : ∃ b, b = w.heap.size + 1 := ⟨_, rfl⟩
  have hR := (FRows.new (FRows.nil (Below.refl w.heap.size w)) f s).new g u
  rw [show (w.alloc (.cells (RW.fcells f s) 23)).heap.size = b2 by rw [hb2]; simp, ← hcsH.out, ← hdsH.out, ← hb1] at hR
  rw [← hb1] at ⊢
  rw [show b1 + 1 = b2 by omega]
  have hle1H := hide (show w.heap.size ≤ b1 by omega)
  have hle2H := hide (show w.heap.size ≤ b2 by omega)
  have hbbH := hide (show b1 ≠ b2 by omega)
  refine gen_world (FRows [(b2, g, u), (b1, f, s)] w) hR ?_
  intro W hF
  clear hR hb1 hb2
  go_wp2_with fail
  refine (sane_any K ks hks a _ (RW.klaid hKH.out hF.below) (err_kept hgH.out hF.below)).mono ?_
  rintro e w1 ⟨rfl, hB1⟩
  have hF1 := hF.next hB1
  clear hF hB1
  go_upto_region 2 with fail
  have hFd := hF1.drew
  have l1 := hFd.load b1 f s (by simp)
  have l2 := hFd.load b2 g u (by simp)
  rw [← hcsH.out] at l1
  rw [← hdsH.out] at l2
  go_cut [16] (fun _ wx => FRows [(b1, f, c), (b2, g, d)] w wx)
  case first =>
    go_region_with
      (first
        | ((with_reducible refine (hCfH.out _).mono ?_); rintro e w5 ⟨rfl, hB5⟩; have hF5 := hFd.next hB5; have l3 := hF5.load b2 g u (by simp); rw [← hdsH.out] at l3)
        | ((with_reducible refine (hCgH.out _).mono ?_); rintro e w7 ⟨rfl, hB7⟩; have hF7 := hF5.next hB7; have s7 := hF7.store b1 f f s c (by simp); have hF8 := hF7.put b1 f f s c (by simp) hle1H.out [(b1, f, c), (b2, g, u)] (by have := hbbH.out; simp; omega); have s8 := hF8.store b2 g g u d (by simp); have hF9 := hF8.put b2 g g u d (by simp) hle2H.out [(b1, f, c), (b2, g, d)] (by have := hbbH.out; simp; omega)))
    all_goals (go_wp2_with fail; go_meet)
    all_goals exact hF9
  case rest =>
    have hF2 := hcut
    clear hcut hF1 hFd l1 l2 hCfH hCgH
    have l1 := hF2.load b1 f c (by simp)
    go_wp2_with fail
    refine (encode_any f c _).mono ?_
    rintro e w2 ⟨rfl, hB2⟩
    have hF3 := hF2.next hB2
    clear hB2 l1 hF2
    have l2 := hF3.load b2 g d (by simp)
    cases hv : RW.validB f c.size
    · rw [RW.encR_no _ _ hv]
      have hvH := hide hv
      clear hv
      cases hv2 : RW.validB g d.size
      · have e2 := hide (RW.encR_no _ _ hv2)
        clear hv2
        go_wp2_with fail
        refine (encode_any g d _).mono ?_
        rintro e w3 ⟨rfl, hB3⟩
        have hF4 := hF3.next hB3
        clear hB3 l2 hF3
        rw [e2.out]
        have l1 := hF4.load b1 f c (by simp)
        go_wp2_with fail
        refine (valid_any f c _).mono ?_
        rintro e w4 ⟨rfl, hB4⟩
        have hF5 := hF4.next hB4
        rw [hvH.out]
        clear hB4 l1 hF4
        go_wp2_with fail
        go_ret
        exact ⟨rfl, hF5.below⟩
      · have e2 := hide (RW.encR_yes _ _ hv2)
        clear hv2
        go_wp2_with fail
        refine (encode_any g d _).mono ?_
        rintro e w3 ⟨rfl, hB3⟩
        have hF4 := hF3.next hB3
        clear hB3 l2 hF3
        rw [e2.out]
        have l1 := hF4.load b1 f c (by simp)
        go_wp2_with fail
        refine (valid_any f c _).mono ?_
        rintro e w4 ⟨rfl, hB4⟩
        have hF5 := hF4.next hB4
        rw [hvH.out]
        clear hB4 l1 hF4
        go_wp2_with fail
        go_ret
        exact ⟨rfl, hF5.below⟩
    · have hdv := RW.dec_encV f c hv
      rw [RW.encR_yes _ _ hv]
      obtain ⟨E, hE⟩ : ∃ E : ByteArray, E = ⟨(RW.encL f c.data.toList).toArray⟩ := ⟨_, rfl⟩
      rw [← hE] at hdv ⊢
      have hEs : E.size ≤ 1099511627776 := by
        have h1 := RW.encL_len f c.data.toList
        have h3 : c.data.toList.length = c.size := by rw [Array.length_toList]; rfl
        have h4 : E.size = (RW.encL f c.data.toList).length := by rw [hE]; show Array.size _ = _; simp
        have := hczH.out
        omega
      have hEsH := hide hEs; have hdvH := hide hdv; have hvH := hide hv
      have hEH := hide hE
      clear hEs hdv hv hE
      have hLow := fun W => eql_low f c W
      have hi1 := fact_info (RW.low f 17) c
      cases hv2 : RW.validB g d.size
      · have e2 := hide (RW.encR_no _ _ hv2)
        clear hv2
        go_wp2_with fail
        refine (encode_any g d _).mono ?_
        rintro e w3 ⟨rfl, hB3⟩
        have hF4 := hF3.next hB3
        clear hB3 l2 hF3
        rw [e2.out]
        have l1 := hF4.load b1 f c (by simp)
        go_wp2_with fail
        refine (valid_any f c _).mono ?_
        rintro e w4 ⟨rfl, hB4⟩
        have hF5 := hF4.next hB4
        rw [hvH.out]
        clear hB4 l1 hF4
        go_wp2_with fail
        refine (decode_any E hEsH.out a _ (err_kept hgH.out hF5.below)).mono ?_
        rintro e w5 ⟨rfl, hB5⟩
        have hF6 := hF5.next hB5
        rw [hdvH.out]
        clear hB5 hF5
        go_upto_region 10 with (refine wpList_store_new rfl 23 (.tmp 10) (.tmp 50) rfl (RW.fcells (RW.low f 17) c) rfl rfl 23 _ hi1 rfl (fcells_one _ _) ?_)
        have hF7 := hF6.new (RW.low f 17) c
        obtain ⟨b3, hb3⟩ : ∃ b, b = w5.heap.size := ⟨_, rfl⟩
        rw [← hb3] at hF7 ⊢
        refine gen_world (FRows [(b3, RW.low f 17, c), (b1, f, c), (b2, g, d)] w) hF7 ?_
        clear hF6 hF7 hb3
        intro w6 hF7
        have l1 := hF7.load b1 f c (by simp)
        have l3 := hF7.load b3 (RW.low f 17) c (by simp)
        go_wp2_with fail
        go_ret
        exact ⟨rfl, hF7.below⟩
      · have e2 := RW.encR_yes _ _ hv2
        have hinj := RW.enc_inj f g c d hvH.out hv2
        obtain ⟨E2, hE2⟩ : ∃ E : ByteArray, E = ⟨(RW.encL g d.data.toList).toArray⟩ := ⟨_, rfl⟩
        rw [← hE2] at e2 hinj
        rw [← hEH.out] at hinj
        have hSt := RW.str_eq E E2
        have hS := fun W => eql_feq f g c d W
        rw [hinj] at hSt
        generalize RW.dec (RW.feq f g c d) = q at hSt hS
        have e2H := hide e2
        have hStH := hide hSt
        have hSH := hide hS
        clear hv2 e2 hE2 hinj hSt hS
        go_wp2_with fail
        refine (encode_any g d _).mono ?_
        rintro e w3 ⟨rfl, hB3⟩
        have hF4 := hF3.next hB3
        clear hB3 l2 hF3
        rw [e2H.out]
        have l1 := hF4.load b1 f c (by simp)
        go_wp2_with fail
        refine (valid_any f c _).mono ?_
        rintro e w4 ⟨rfl, hB4⟩
        have hF5 := hF4.next hB4
        rw [hvH.out]
        clear hB4 l1 hF4
        go_wp2_with fail
        refine (decode_any E hEsH.out a _ (err_kept hgH.out hF5.below)).mono ?_
        rintro e w5 ⟨rfl, hB5⟩
        have hF6 := hF5.next hB5
        rw [hdvH.out]
        clear hB5 hF5
        go_upto_region 10 with (refine wpList_store_new rfl 23 (.tmp 10) (.tmp 50) rfl (RW.fcells (RW.low f 17) c) rfl rfl 23 _ hi1 rfl (fcells_one _ _) ?_)
        have hF7 := hF6.new (RW.low f 17) c
        obtain ⟨b3, hb3⟩ : ∃ b, b = w5.heap.size := ⟨_, rfl⟩
        rw [← hb3] at hF7 ⊢
        refine gen_world (FRows [(b3, RW.low f 17, c), (b1, f, c), (b2, g, d)] w) hF7 ?_
        clear hF6 hF7 hb3
        intro w6 hF7
        have l1 := hF7.load b1 f c (by simp)
        have l2 := hF7.load b2 g d (by simp)
        have l3 := hF7.load b3 (RW.low f 17) c (by simp)
        have hSt := hStH.out
        have hS := hSH.out
        go_wp2_with fail
        go_ret
        exact ⟨rfl, hF7.below⟩
end Go.Proofs.YtpihhjpgdbcifaaDoor
