/-
  Package royaltylaw05: sane: it returns true; only new memory is written.
-/
import Derived.Test.YtpihhjpgdbcifaaDoorLaw1
import Derived.Test.YtpihhjpgdbcifaaDoorFactP
namespace Go.Proofs.YtpihhjpgdbcifaaDoor
open Go.RowKit
namespace RW
theorem cmp_self (l : List UInt8) : Lib.compareBytes l l = 0 := by
  induction l with
  | nil => rfl
  | cons a l ih => rw [Lib.compareBytes, if_neg (by simp), if_neg (by simp)]; exact ih
theorem kf_low (f : Nat → Int) : kf (low f 17 0).toNat (low f 17 12) = kf (f 0).toNat (f 12) := rfl
theorem kf_lt (k : Nat) (tt : Int) : ∀ x ∈ kf k tt, x.1 < 17 := by
  intro x hx
  have h : ∀ k, (∀ x ∈ kf k tt, x.1 < 17) := fun k => by
    unfold kf
    split <;> simp
  exact h k x hx
theorem validB_low (f : Nat → Int) (n : Nat) : validB (low f 17) n = validB f n := by
  have hl : ∀ i, i < 17 → low f 17 i = f i := fun i hi => by unfold low; rw [if_pos hi]
  have hk : validK (kf (f 0).toNat (f 12)) (textK (f 0).toNat) (low f 17) n = validK (kf (f 0).toNat (f 12)) (textK (f 0).toNat) f n := by
    refine dec_eq ?_
    unfold validK
    rw [dec_iff]
    constructor
    · rintro ⟨h1, h2, h3⟩
      exact ⟨fun x hx => by rw [← hl x.1 (kf_lt _ _ x hx)]; exact h1 x hx, h2, fun i hi h0 h2 hx => by rw [← hl i hi]; exact h3 i hi h0 h2 hx⟩
    · rintro ⟨h1, h2, h3⟩
      exact ⟨fun x hx => by rw [hl x.1 (kf_lt _ _ x hx)]; exact h1 x hx, h2, fun i hi h0 h2 hx => by rw [hl i hi]; exact h3 i hi h0 h2 hx⟩
  unfold validB
  rw [hl 0 (by decide), hl 2 (by decide), hl 12 (by decide), hk]
def f1 : Nat → Int := rateF 1 1000000
theorem rate_kf (v a : Int) : kf (rateF v a 0).toNat (rateF v a 12) = [(15, 1, 20), (3, 0, 1199), (13, 1, 10000000)] := rfl
theorem rate_valid (v a : Int) (hv : 1 ≤ v ∧ v ≤ 1000) (ha : 1 ≤ a ∧ a ≤ 10000000) : validB (rateF v a) 0 = true := by
  refine dec_true ⟨by simp [rateF], hv, by decide, ?_⟩
  refine dec_true ⟨?_, .inr rfl, ?_⟩
  · rw [rate_kf]
    intro x hx
    simp at hx
    rcases hx with rfl | rfl | rfl
    · simp [rateF]
    · simp [rateF]
    · exact ha
  · rw [rate_kf]
    intro i hi h0 h2 h
    have h15 := h (15, 1, 20) (by simp)
    have h3 := h (3, 0, 1199) (by simp)
    have h13 := h (13, 1, 10000000) (by simp)
    unfold rateF
    rw [if_neg h0, if_neg h2, if_neg (Ne.symm h3), if_neg (Ne.symm h13), if_neg (Ne.symm h15)]
theorem rate_bad (v : Int) : validB (rateF v 0) 0 = false := by
  refine dec_false (fun h => ?_)
  have h4 := (dec_iff _).1 h.2.2.2
  rw [rate_kf] at h4
  have := h4.1 (13, 1, 10000000) (by simp)
  simp [rateF] at this
theorem odd_bad : validB (upd f1 1 1) 0 = false := by
  refine dec_false (fun h => ?_)
  have h4 := (dec_iff _).1 h.2.2.2
  have e : kf (upd f1 1 1 0).toNat (upd f1 1 1 12) = [(15, 1, 20), (3, 0, 1199), (13, 1, 10000000)] := rfl
  rw [e] at h4
  have := h4.2.2 1 (by decide) (by decide) (by decide) (by simp)
  simp [upd] at this
theorem f1_valid : validB f1 0 = true := rate_valid 1 1000000 (by decide) (by decide)
theorem f1_enc : encL f1 [] = [14, 0, 2, 10, 0, 0, 0, 0, 0, 0, 0, 0, 0, 128, 137, 122, 0, 6, 0, 0] := by decide +kernel
theorem f1_encR : encR f1 ⟨#[]⟩ = .tuple #[.string ⟨#[14, 0, 2, 10, 0, 0, 0, 0, 0, 0, 0, 0, 0, 128, 137, 122, 0, 6, 0, 0]⟩, .int .i64 0] := by
  rw [encR_yes _ _ f1_valid]
  show Value.tuple #[.string ⟨(encL f1 []).toArray⟩, .int .i64 0] = _
  rw [f1_enc]
theorem f1_dec : decV (decF (⟨#[14, 0, 2, 10, 0, 0, 0, 0, 0, 0, 0, 0, 0, 128, 137, 122, 0, 6, 0, 0]⟩ : ByteArray).data.toList) = .tuple #[.agg (fcells (low f1 17) ⟨#[]⟩), .int .i64 0] := by
  have h := decF_enc f1 [] (valid_lims f1 0 f1_valid).2.2.2 (by decide)
  rw [f1_enc] at h
  show decV (decF [14, 0, 2, 10, 0, 0, 0, 0, 0, 0, 0, 0, 0, 128, 137, 122, 0, 6, 0, 0]) = _
  rw [h, decV_yes]
  rw [validB_low]; exact f1_valid
theorem f1_key : keyV f1 = (3, 5) := rfl
theorem prev1 : prevB (rateF 2 5) (rateF 1 9) ⟨#[]⟩ ⟨#[]⟩ = true :=
  dec_true ⟨rate_valid 2 5 (by decide) (by decide), rate_valid 1 9 (by decide) (by decide), ⟨rfl, rfl, rfl⟩, .inl (by decide)⟩
theorem prev2 : prevB (rateF 1 9) (rateF 2 5) ⟨#[]⟩ ⟨#[]⟩ = false := by
  refine dec_false (fun h => ?_)
  rcases h.2.2.2 with h | h
  · simp [rateF] at h
  · have := h.1; simp [rateF] at this
theorem prev3 : prevB f1 f1 ⟨#[]⟩ ⟨#[]⟩ = false := by
  refine dec_false (fun h => ?_)
  rcases h.2.2.2 with h | h
  · omega
  · have := h.2; rw [cmp_self] at this; omega
theorem sha_len (K : Nat → Int) (l : List UInt8) : (sha K l).length = 32 := by simp [sha, dig]
theorem decF_nil : decF [] = none := rfl
end RW
theorem eql_key (a b c a' b' c' : Int) (W : World) : (binOp .eql 28 (.agg #[.int .i64 a, .int .i64 b, .int .i64 c]) (.agg #[.int .i64 a', .int .i64 b', .int .i64 c'])).run Tryd.prog W = .ok (.bool (RW.dec (a = a' ∧ b = b' ∧ c = c'))) W := by
  have hr5 : (Tryd.prog.info? 3).map (·.size) = some 1 := by kernel_rfl
  obtain ⟨inf, hq, h2⟩ := Option.map_eq_some_iff.1 hr5
  have hp : ∀ (X : Array Value) (i : Nat) (v : Value), X[i]? = some v → (part 3 X i).run Tryd.prog W = .ok v W := fun X i v h => by
    simp [part, isAgg, run_underlying Tryd.underlying3, h]
  have hz : (sizeOf 3).run Tryd.prog W = .ok 1 W := by simp [sizeOf, typeInfo, hq, h2]
  rw [run_eql_struct]
  have h : (Op.equalIn (9999 + 1) 28 (.agg #[.int .i64 a, .int .i64 b, .int .i64 c]) (.agg #[.int .i64 a', .int .i64 b', .int .i64 c'])).run Tryd.prog W = .ok (RW.dec (a = a' ∧ b = b' ∧ c = c')) W := by
    unfold Op.equalIn
    simp only [Sem.run_bind, run_underlying Tryd.underlying28, Result.andThen_ok, hz, Std.Legacy.Range.forIn_eq_forIn_range', Std.Legacy.Range.size]
    rw [show List.range' 0 ((3 - 0 + 1 - 1) / 1) = [0, 1, 2] from rfl]
    have e : ∀ x y : Int, (Op.equalIn 9999 3 (.int .i64 x) (.int .i64 y)).run Tryd.prog W = .ok (x == y) W := fun x y => run_equalIn_int W 9998 3 .i64 .i64 x y Tryd.underlying3
    by_cases ha : a = a'
    · subst ha
      by_cases hb : b = b'
      · subst hb
        by_cases hc : c = c'
        · subst hc
          rw [RW.dec_true ⟨rfl, rfl, rfl⟩]
          have x0 := hp #[.int .i64 a, .int .i64 b, .int .i64 c] 0 _ rfl
          have x1 := hp #[.int .i64 a, .int .i64 b, .int .i64 c] 1 _ rfl
          have x2 := hp #[.int .i64 a, .int .i64 b, .int .i64 c] 2 _ rfl
          have y0 := hp #[.int .i64 a, .int .i64 b, .int .i64 c] 0 _ rfl
          have y1 := hp #[.int .i64 a, .int .i64 b, .int .i64 c] 1 _ rfl
          have y2 := hp #[.int .i64 a, .int .i64 b, .int .i64 c] 2 _ rfl
          simp [List.forIn_cons, x0, x1, x2, e]
        · rw [RW.dec_false (fun h => hc h.2.2)]
          have x0 := hp #[.int .i64 a, .int .i64 b, .int .i64 c] 0 _ rfl
          have x1 := hp #[.int .i64 a, .int .i64 b, .int .i64 c] 1 _ rfl
          have x2 := hp #[.int .i64 a, .int .i64 b, .int .i64 c] 2 _ rfl
          have y0 := hp #[.int .i64 a, .int .i64 b, .int .i64 c'] 0 _ rfl
          have y1 := hp #[.int .i64 a, .int .i64 b, .int .i64 c'] 1 _ rfl
          have y2 := hp #[.int .i64 a, .int .i64 b, .int .i64 c'] 2 _ rfl
          simp [List.forIn_cons, x0, x1, x2, y0, y1, y2, e, hc]
      · rw [RW.dec_false (fun h => hb h.2.1)]
        have x0 := hp #[.int .i64 a, .int .i64 b, .int .i64 c] 0 _ rfl
        have x1 := hp #[.int .i64 a, .int .i64 b, .int .i64 c] 1 _ rfl
        have y0 := hp #[.int .i64 a, .int .i64 b', .int .i64 c'] 0 _ rfl
        have y1 := hp #[.int .i64 a, .int .i64 b', .int .i64 c'] 1 _ rfl
        simp [List.forIn_cons, x0, x1, y0, y1, e, hb]
    · rw [RW.dec_false (fun h => ha h.1)]
      have x0 := hp #[.int .i64 a, .int .i64 b, .int .i64 c] 0 _ rfl
      have y0 := hp #[.int .i64 a', .int .i64 b', .int .i64 c'] 0 _ rfl
      simp [List.forIn_cons, x0, y0, e, ha]
  rw [show (10000 : Nat) = 9999 + 1 from rfl, h]
  rfl
/-- variables of a law that hold facts: their blocks, and what they hold -/
structure FRows (l : List (Nat × (Nat → Int) × ByteArray)) (w W : World) : Prop where
  below : Below w.heap.size w W
  rows : ∀ x ∈ l, W.heap[x.1]? = some (.cells (RW.fcells x.2.1 x.2.2) 23 (0, 0))
section
variable {l : List (Nat × (Nat → Int) × ByteArray)} {w W W' : World}
theorem FRows.nil (hB : Below w.heap.size w W) : FRows [] w W := ⟨hB, by simp⟩
theorem FRows.lt (h : FRows l w W) (x : Nat × (Nat → Int) × ByteArray) (hx : x ∈ l) : x.1 < W.heap.size := (Array.getElem?_eq_some_iff.1 (h.rows x hx)).1
theorem FRows.next (h : FRows l w W) (hB : Below W.heap.size W W') : FRows l w W' :=
  ⟨h.below.trans (hB.mono h.below.size), fun x hx => (hB.block _ (h.lt x hx)).trans (h.rows x hx)⟩
theorem FRows.new (h : FRows l w W) (f : Nat → Int) (s : ByteArray) : FRows ((W.heap.size, f, s) :: l) w (W.alloc (.cells (RW.fcells f s) 23)) :=
  ⟨h.below.alloc h.below.size _, fun x hx => by
    rcases List.mem_cons.1 hx with rfl | hx
    · exact heap_alloc_new W _
    · exact (Below.heap_alloc _ _ _ (h.lt x hx)).trans (h.rows x hx)⟩
theorem FRows.set {b : Nat} {f : Nat → Int} {s : ByteArray} (h : FRows ((b, f, s) :: l) w W) (hb : w.heap.size ≤ b) (hne : ∀ x ∈ l, x.1 ≠ b) (j : Nat) (hj : j < 17) (n : Int) :
    FRows ((b, RW.upd f j n, s) :: l) w (W.setCell ⟨b, j, none⟩ (.int .i64 n)) :=
  ⟨h.below.setCell hb _, fun x hx => by
    rcases List.mem_cons.1 hx with rfl | hx
    · show (W.setCell ⟨b, j, none⟩ (.int .i64 n)).heap[b]? = some (.cells (RW.fcells (RW.upd f j n) s) 23 (0, 0))
      rw [← RW.fcells_upd f s j n hj]
      exact heap_setCell_same _ _ _ _ _ _ (h.rows _ (List.mem_cons_self ..))
    · exact (Below.heap_setCell _ _ _ _ (hne x hx)).trans (h.rows x (List.mem_cons_of_mem _ hx))⟩
theorem FRows.load (h : FRows l w W) (b : Nat) (f : Nat → Int) (s : ByteArray) (hx : (b, f, s) ∈ l) : (ldRow 23 (.pointer (some ⟨b, 0, none⟩))).run Tryd.prog W = .ok (.agg (RW.fcells f s)) W :=
  ldRow_eq _ _ _ _ _ _ _ (h.rows _ hx) Tryd.underlying23 rfl (fact_info f s)
theorem FRows.cell (h : FRows l w W) (b : Nat) (f : Nat → Int) (s : ByteArray) (hx : (b, f, s) ∈ l) (j : Nat) (hj : j < 17) : W.cell? ⟨b, j, none⟩ = some (.int .i64 (f j)) := by
  rw [cell_of_heap (h.rows _ hx), fcells_get _ _ _ hj]
theorem FRows.unfrozen (h : FRows l w W) (b : Nat) (f : Nat → Int) (s : ByteArray) (hx : (b, f, s) ∈ l) (j : Nat) : W.frozen? ⟨b, j, none⟩ = false := by
  have := h.rows _ hx
  simp [World.frozen?, this]
end
theorem err_kept {w W : World} {a : Addr} (hg : w.cell? ⟨0, 0, none⟩ = some (RW.eW a)) (hB : Below w.heap.size w W) : W.cell? ⟨0, 0, none⟩ = some (RW.eW a) := by
  have hl : 0 < w.heap.size := by
    cases h : w.heap[0]? with
    | none => simp [World.cell?, h] at hg
    | some o => exact (Array.getElem?_eq_some_iff.1 h).1
  exact (World.cell?_of_block (a := ⟨0, 0, none⟩) (hB.block _ hl)).trans hg
theorem rate_f1 (w : World) : Calls Tryd.prog 28 #[.int .i64 1, .int .i64 1000000] w fun e w' => e = .returned (.agg (RW.fcells RW.f1 ⟨#[]⟩)) ∧ Below w.heap.size w w' := rate_any 1 1000000 w
attribute [local go_sem ↓] ldRow_fact
set_option maxRecDepth 100000 in
set_option maxHeartbeats 4000000 in
theorem sane_any (K : Nat → Int) (ks : Array Value) (hks : RW.WsOk ks K) (a : Addr) (w : World) (hK : KLaid w ks) (hg : w.cell? ⟨0, 0, none⟩ = some (RW.eW a)) :
    Calls Tryd.prog 12 #[] w fun e w' => e = .returned (.bool true) ∧ Below w.heap.size w w' := by
  have hi1 := fact_info RW.f1 ⟨#[]⟩
  go_enter Tryd.func12, Tryd.ntmps12
  go_wp2_with fail
  refine (rate_f1 _).mono ?_
  rintro e w1 ⟨rfl, hB1⟩
  have hF := FRows.nil hB1
  have hgH := hide hg
  clear hB1 hg
  go_upto_region 2 with (refine wpList_store_new rfl 23 (.tmp 1) (.tmp 15) rfl (RW.fcells RW.f1 ⟨#[]⟩) rfl rfl 23 _ hi1 rfl (fcells_one _ _) ?_)
  obtain ⟨b1, hb1⟩ : ∃ b, b = w1.heap.size := ⟨_, rfl⟩
  have hF2 := hF.new RW.f1 ⟨#[]⟩
  have hle1 : w.heap.size ≤ b1 := hb1 ▸ hF.below.size
  rw [← hb1] at hF2 ⊢
  refine gen_world (FRows [(b1, RW.f1, ⟨#[]⟩)] w) hF2 ?_
  clear hF hF2 hb1
  intro w2 hF2
  have l1 := hF2.load b1 RW.f1 ⟨#[]⟩ (by simp)
  have hlt1 := hF2.lt (b1, RW.f1, ⟨#[]⟩) (by simp)
  go_upto_region 3 with (refine wpList_store_new rfl 23 (.tmp 2) (.tmp 16) rfl (RW.fcells RW.f1 ⟨#[]⟩) rfl rfl 23 _ hi1 rfl (fcells_one _ _) ?_)
  obtain ⟨b2, hb2⟩ : ∃ b, b = w2.heap.size := ⟨_, rfl⟩
  have hF3 := hF2.new RW.f1 ⟨#[]⟩
  rw [← hb2] at hF3 ⊢
  have hle2 : w.heap.size ≤ b2 := hb2 ▸ hF2.below.size
  have hne : b1 ≠ b2 := by simp only at hlt1; omega
  refine gen_world (FRows [(b2, RW.f1, ⟨#[]⟩), (b1, RW.f1, ⟨#[]⟩)] w) hF3 ?_
  clear hF2 hF3 l1 hlt1 hb2
  intro w3 hF3
  have c1 := hF3.cell b2 RW.f1 ⟨#[]⟩ (by simp) 1 (by decide)
  have u1 := hF3.unfrozen b2 RW.f1 ⟨#[]⟩ (by simp) 1
  go_upto_region 4 with fail
  refine gen_world (FRows [(b2, RW.upd RW.f1 1 1, ⟨#[]⟩), (b1, RW.f1, ⟨#[]⟩)] w) (hF3.set hle2 (by simpa using hne) 1 (by decide) 1) ?_
  clear hF3 c1 u1
  intro w4 hF4
  have l1 := hF4.load b1 RW.f1 ⟨#[]⟩ (by simp)
  go_wp2_with fail
  refine (encode_any RW.f1 ⟨#[]⟩ _).mono ?_
  rintro e w5 ⟨rfl, hB5⟩
  have hF5 := hF4.next hB5
  clear hF4 l1 hB5
  rw [RW.f1_encR]
  go_wp2_with fail
  refine (decode_any ⟨#[14, 0, 2, 10, 0, 0, 0, 0, 0, 0, 0, 0, 0, 128, 137, 122, 0, 6, 0, 0]⟩ (by decide) a _ (err_kept hgH.out hF5.below)).mono ?_
  rintro e w6 ⟨rfl, hB6⟩
  have hF6 := hF5.next hB6
  clear hF5 hB6
  rw [RW.f1_dec]
  have hi5 := fact_info (RW.low RW.f1 17) ⟨#[]⟩
  go_upto_region 6 with (refine wpList_store_new rfl 23 (.tmp 5) (.tmp 26) rfl (RW.fcells (RW.low RW.f1 17) ⟨#[]⟩) rfl rfl 23 _ hi5 rfl (fcells_one _ _) ?_)
  obtain ⟨b5, hb5⟩ : ∃ b, b = w6.heap.size := ⟨_, rfl⟩
  have hF7 := hF6.new (RW.low RW.f1 17) ⟨#[]⟩
  rw [← hb5] at hF7 ⊢
  refine gen_world (FRows [(b5, RW.low RW.f1 17, ⟨#[]⟩), (b2, RW.upd RW.f1 1 1, ⟨#[]⟩), (b1, RW.f1, ⟨#[]⟩)] w) hF7 ?_
  clear hF6 hF7 hb5
  intro w7 hF7
  have l1 := hF7.load b1 RW.f1 ⟨#[]⟩ (by simp)
  have eV1 := RW.f1_valid
  have eV2 := RW.odd_bad
  have eV3 := RW.rate_bad 1
  have eS1 : RW.dec (RW.feq RW.f1 (RW.low RW.f1 17) ⟨#[]⟩ ⟨#[]⟩) = true := RW.dec_true ⟨fun i hi => by unfold RW.low; rw [if_pos hi], rfl⟩
  have eS2 : RW.dec (RW.feq RW.f1 (RW.upd RW.f1 1 1) ⟨#[]⟩ ⟨#[]⟩) = false := RW.dec_false (fun h => by have := h.1 1 (by decide); simp [RW.upd, RW.f1, RW.rateF] at this)
  have hD : (⟨(RW.sha K (RW.encL RW.f1 (⟨#[]⟩ : ByteArray).data.toList)).toArray⟩ : ByteArray).size = 32 := by
    show (RW.sha K (RW.encL RW.f1 (⟨#[]⟩ : ByteArray).data.toList)).toArray.size = 32
    rw [List.size_toArray]; exact RW.sha_len _ _
  generalize hDD : (⟨(RW.sha K (RW.encL RW.f1 (⟨#[]⟩ : ByteArray).data.toList)).toArray⟩ : ByteArray) = D at hD
  have eI : RW.idR K RW.f1 ⟨#[]⟩ = .tuple #[.string D, .int .i64 0] := by rw [RW.idR_yes _ _ _ RW.f1_valid, hDD]
  have hEq := eql_key 7 3 5 7 3 5
  rw [RW.dec_true ⟨rfl, rfl, rfl⟩] at hEq
  have hEqH := hide hEq
  have hDH := hide hD
  have eV1H := hide eV1; have eV2H := hide eV2; have eV3H := hide eV3; have eS1H := hide eS1; have eS2H := hide eS2; have eIH := hide eI
  clear hDD hEq hD eV1 eV2 eV3 eS1 eS2 eI
  go_wp2_with fail
  refine (id_fact RW.f1 ⟨#[]⟩ K ks hks _ (RW.klaid hK hF7.below)).mono ?_
  rintro e w8 ⟨rfl, hB8⟩
  have hF8 := hF7.next hB8
  clear hB8 hF7 l1
  rw [eIH.out]
  have l2 := hF8.load b2 (RW.upd RW.f1 1 1) ⟨#[]⟩ (by simp)
  go_wp2_with fail
  refine (encode_any (RW.upd RW.f1 1 1) ⟨#[]⟩ _).mono ?_
  rintro e w9 ⟨rfl, hB9⟩
  have hF9 := hF8.next hB9
  clear hB9 hF8 l2
  rw [RW.encR_no _ _ eV2H.out]
  go_wp2_with fail
  refine (decode_any ⟨#[]⟩ (by decide) a _ (err_kept hgH.out hF9.below)).mono ?_
  rintro e w10 ⟨rfl, hB10⟩
  have hF10 := hF9.next hB10
  clear hB10 hF9
  rw [show RW.decV (RW.decF (⟨#[]⟩ : ByteArray).data.toList) = .tuple #[.agg (RW.fcells RW.zeroF ⟨#[]⟩), .int .i64 10] from rfl]
  have hi0 := fact_info RW.zeroF ⟨#[]⟩
  go_upto_region 9 with (refine wpList_store_new rfl 23 (.tmp 11) (.tmp 40) rfl (RW.fcells RW.zeroF ⟨#[]⟩) rfl rfl 23 _ hi0 rfl (fcells_one _ _) ?_)
  have hF11 := (hF10.new RW.zeroF ⟨#[]⟩)
  refine gen_world (FRows [(b5, RW.low RW.f1 17, ⟨#[]⟩), (b2, RW.upd RW.f1 1 1, ⟨#[]⟩), (b1, RW.f1, ⟨#[]⟩)] w) ⟨hF11.below, fun x hx => hF11.rows x (List.mem_cons_of_mem _ hx)⟩ ?_
  clear hF10 hF11
  intro w11 hF11
  have l1 := hF11.load b1 RW.f1 ⟨#[]⟩ (by simp)
  go_wp2_with fail
  refine (valid_any RW.f1 ⟨#[]⟩ _).mono ?_
  rintro e w12 ⟨rfl, hB12⟩
  have hF12 := hF11.next hB12
  clear hB12 hF11 l1
  rw [show RW.validB RW.f1 (⟨#[]⟩ : ByteArray).size = true from eV1H.out]
  have l2 := hF12.load b2 (RW.upd RW.f1 1 1) ⟨#[]⟩ (by simp)
  go_wp2_with fail
  refine (valid_any (RW.upd RW.f1 1 1) ⟨#[]⟩ _).mono ?_
  rintro e w13 ⟨rfl, hB13⟩
  have hF13 := hF12.next hB13
  clear hB13 hF12 l2
  rw [show RW.validB (RW.upd RW.f1 1 1) (⟨#[]⟩ : ByteArray).size = false from eV2H.out]
  go_wp2_with fail
  refine (rate_any 1 0 _).mono ?_
  rintro e w14 ⟨rfl, hB14⟩
  have hF14 := hF13.next hB14
  clear hB14 hF13
  go_wp2_with fail
  refine (valid_any (RW.rateF 1 0) ⟨#[]⟩ _).mono ?_
  rintro e w15 ⟨rfl, hB15⟩
  have hF15 := hF14.next hB15
  clear hB15 hF14
  rw [show RW.validB (RW.rateF 1 0) (⟨#[]⟩ : ByteArray).size = false from eV3H.out]
  have l1 := hF15.load b1 RW.f1 ⟨#[]⟩ (by simp)
  have l5 := hF15.load b5 (RW.low RW.f1 17) ⟨#[]⟩ (by simp)
  go_wp2_with fail
  refine (same_any RW.f1 (RW.low RW.f1 17) ⟨#[]⟩ ⟨#[]⟩ _).mono ?_
  rintro e w16 ⟨rfl, hB16⟩
  have hF16 := hF15.next hB16
  clear hB16 hF15 l1 l5
  rw [eS1H.out]
  have l1 := hF16.load b1 RW.f1 ⟨#[]⟩ (by simp)
  have l2 := hF16.load b2 (RW.upd RW.f1 1 1) ⟨#[]⟩ (by simp)
  go_wp2_with fail
  refine (same_any RW.f1 (RW.upd RW.f1 1 1) ⟨#[]⟩ ⟨#[]⟩ _).mono ?_
  rintro e w17 ⟨rfl, hB17⟩
  have hF17 := hF16.next hB17
  clear hB17 hF16 l1 l2
  rw [eS2H.out]
  have l1 := hF17.load b1 RW.f1 ⟨#[]⟩ (by simp)
  go_wp2_with fail
  refine (key_any RW.f1 ⟨#[]⟩ _).mono ?_
  rintro e w18 ⟨rfl, hB18⟩
  have hF18 := hF17.next hB18
  clear hB18 hF17 l1
  rw [show (.returned (.agg #[.int .i64 (RW.f1 0), .int .i64 (RW.keyV RW.f1).1, .int .i64 (RW.keyV RW.f1).2]) : Ending) = .returned (.agg #[.int .i64 7, .int .i64 3, .int .i64 5]) from rfl]
  have hEq := hEqH.out
  go_wp2_with fail
  refine (rate_any 2 5 _).mono ?_
  rintro e w19 ⟨rfl, hB19⟩
  have hF19 := hF18.next hB19
  clear hB19 hF18
  go_wp2_with fail
  refine (rate_any 1 9 _).mono ?_
  rintro e w20 ⟨rfl, hB20⟩
  have hF20 := hF19.next hB20
  clear hB20 hF19
  go_wp2_with fail
  refine (prev_any (RW.rateF 2 5) (RW.rateF 1 9) ⟨#[]⟩ ⟨#[]⟩ _).mono ?_
  rintro e w21 ⟨rfl, hB21⟩
  have hF21 := hF20.next hB21
  clear hB21 hF20
  rw [RW.prev1]
  go_wp2_with fail
  refine (rate_any 1 9 _).mono ?_
  rintro e w22 ⟨rfl, hB22⟩
  have hF22 := hF21.next hB22
  clear hB22 hF21
  go_wp2_with fail
  refine (rate_any 2 5 _).mono ?_
  rintro e w23 ⟨rfl, hB23⟩
  have hF23 := hF22.next hB23
  clear hB23 hF22
  go_wp2_with fail
  refine (prev_any (RW.rateF 1 9) (RW.rateF 2 5) ⟨#[]⟩ ⟨#[]⟩ _).mono ?_
  rintro e w24 ⟨rfl, hB24⟩
  have hF24 := hF23.next hB24
  clear hB24 hF23
  rw [RW.prev2]
  have l1 := hF24.load b1 RW.f1 ⟨#[]⟩ (by simp)
  go_wp2_with fail
  refine (prev_any RW.f1 RW.f1 ⟨#[]⟩ ⟨#[]⟩ _).mono ?_
  rintro e w25 ⟨rfl, hB25⟩
  have hF25 := hF24.next hB25
  clear hB25 hF24 l1
  rw [RW.prev3]
  have hD := hDH.out
  go_wp2_with fail
  go_ret
  exact ⟨rfl, hF25.below⟩
end Go.Proofs.YtpihhjpgdbcifaaDoor
