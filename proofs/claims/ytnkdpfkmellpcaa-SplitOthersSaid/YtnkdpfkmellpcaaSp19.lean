/-
  Package royaltylaw12: SplitOthers: it returns true; only new memory is written.
-/
import Derived.Test.YtnkdpfkmellpcaaSp15
import Derived.Test.YtnkdpfkmellpcaaSp14
import Derived.Test.YtnkdpfkmellpcaaStg3
import Derived.Test.YtnkdpfkmellpcaaSpB
namespace Go.Proofs.Ytnkdpfkmellpcaa
open Go.RowKit RG
namespace RW
def inT (f : Nat → Int) (t : Int) : Bool := decide (0 ≤ t) && (decide (t < 8) && decide (bitI (f 8) t = 1))
theorem inT_iff (f : Nat → Int) (t : Int) : inT f t = true ↔ 0 ≤ t ∧ t < 8 ∧ bitI (f 8) t = 1 := by simp [inT]
/-- what SplitOthers keeps -/
def othB (f : Nat → Int) (r ro t p : Int) : Bool := decide (f 7 = r) && (decide (f 10 = ro) && (inT f t && (decide (f 11 ≤ p) && decide (p < f 12))))
theorem othB_of {f : Nat → Int} {r ro t p : Int} (h : effB f r ro t p = true) : othB f r ro t p = true := by
  simp only [effB, inB, othB, inT, Bool.and_eq_true] at h ⊢
  obtain ⟨h1, h2, ⟨h3, h4, h5, h6, h7⟩, _⟩ := h
  exact ⟨h1, h2, ⟨h3, h4, h5⟩, h6, h7⟩
theorem claims_oth (r ro t p : Int) (L : List Fc) : claimsL r ro t p ((L.filter fun x => othB x.1 r ro t p).map (·.1)) = claimsL r ro t p (L.map (·.1)) := by
  have h1 : (L.filter fun x => othB x.1 r ro t p).map (·.1) = (L.map (·.1)).filter fun f => othB f r ro t p := by
    rw [List.filter_map]
    rfl
  rw [h1]
  exact claims_of_sum fun h => sumC_filter r ro t p h _ _ fun f _ hf => othB_of hf
/-- a base with claims, and another list in four places -/
def bd4 (v u : Value) : Array Value := #[u, u, v, u, u, .slice none 0 0, .slice none 0 0, .slice none 0 0, .slice none 0 0, .slice none 0 0]
end RW
attribute [local go_sem ↓] ldRow_shares ldRow_fact
theorem bd4_size (v u : Value) : (Try.prog.info? 25).map (·.size) = some (RW.bd4 v u).size := by kernel_rfl
theorem op_load_baseY {ev : Operand → Value} {o : Oper} {x : Operand} {w : World} {b : Nat} {Y : Array Value} (ho : o.op = .load 25 x) (hx : ev x = .pointer (some ⟨b, 0, none⟩)) (h : w.heap[b]? = some (.cells Y 25 (0, 0))) (hY : (Try.prog.info? 25).map (·.size) = some Y.size) : (execOp ev o).run Try.prog w = .ok (.value (.agg Y)) w := by
  have h1 : (Instr.loadAt 25 (.pointer (some ⟨b, 0, none⟩))).run Try.prog w = .ok (.agg Y) w :=
    ldRow_mid (cs := Y.toList) (fun j u hj => by rw [cellAt h, Nat.zero_add]; simpa using hj) Try.underlying25 rfl hY
  unfold execOp
  rw [ho]
  simp only [hx, Sem.run_bind, h1, Result.andThen_ok, Sem.run_pure]
set_option maxRecDepth 10000 in
set_option maxHeartbeats 2000000 in
theorem splitothers_any (v m : Value) (l ml : List RW.Fc) (r ro t p : Int) (hl : l.length ≤ 9223372036854775807) (hml : ml.length ≤ 9223372036854775807) (w : World) (hv : FactsV w v l) (hm : FactsV w m ml) :
    Calls Try.prog 9 #[v, m, .int .i64 r, .int .i64 ro, .int .i64 t, .int .i64 p] w fun e w' => e = .returned (.bool true) ∧ Below w.heap.size w w' := by
  obtain ⟨L, hL⟩ : ∃ L, L = l.take 30 := ⟨_, rfl⟩
  have hLn : L.length ≤ 30 := by rw [hL, List.length_take]; omega
  have hS := hide (sane_any w)
  have hC := hide (fun W (h : FactsV W v l) => cut_any v l hl W h)
  rw [← hL] at hC
  have hvH := hide hv
  obtain ⟨N, hN⟩ : ∃ N, N = L.length := ⟨_, rfl⟩
  have hNH := hide hN
  rw [← hN] at hLn
  obtain ⟨am, cm, rfl, hcm, ham⟩ := hm
  obtain ⟨nm, hnm⟩ : ∃ n, n = ml.length := ⟨_, rfl⟩
  rw [← hnm] at hcm hml ⊢
  have hmz := hide (show am = none → nm = 0 by
    rintro rfl
    rcases ham with rfl | ⟨b, o, h, _⟩
    · exact hnm
    · cases h)
  have hcmH := hide hcm
  have hmlH := hide hml
  clear hv hL hl hN hcm hml hnm ham
  go_enter Try.func9, Try.ntmps9
  go_upto_region 3 with (first
    | (go_at_call 11; refine hS.out.mono ?_; rintro e w1 ⟨rfl, hB1⟩; have hB1H := hide hB1; clear hB1)
    | (go_at_call 12; refine (hC.out _ (hvH.out.next hB1H.out)).mono ?_; rintro e w2 ⟨⟨v2, rfl, hO2⟩, hB2⟩; have hO2H := hide hO2; have hB2H := hide (hB1H.out.trans (hB2.mono hB1H.out.size)); clear hO2 hB2)
    | (refine wpListStoreNew rfl 25 (.tmp 14) (.tmp 25) rfl (RW.bcl v2) rfl rfl 25 _ (base_size _) rfl (base_one _ hO2H.out.facts.one) ?_))
  obtain ⟨bb, hbb⟩ : ∃ b, b = w2.heap.size := ⟨_, rfl⟩
  have hA2 := (Below.refl w2.heap.size w2).alloc (Nat.le_refl _) (.cells (RW.bcl v2) 25)
  refine gen_w (fun W => KE v2 L bb W ∧ Below w.heap.size w W) ⟨⟨newAt hbb, hO2H.out.facts.next hA2⟩, hB2H.out.alloc hB2H.out.size _⟩ ?_
  rw [← hbb]
  obtain ⟨a2, c2, rfl⟩ : ∃ a c, v2 = .slice a N c := by
    obtain ⟨a', c', e, _⟩ := hO2H.out.facts
    rw [← hNH.out] at e
    exact ⟨a', c', e⟩
  clear hbb hA2 hO2H hB2H hB1H hC hS hvH
  rintro w3 ⟨hk3, hB3⟩
  have hk3H := hide hk3
  have hB3H := hide hB3
  obtain ⟨B3, hB3e⟩ : ∃ b, b = w3.heap.size := ⟨_, rfl⟩
  have hB3eH := hide hB3e
  have hbH := hide (show bb < B3 by rw [hB3e]; exact (Array.getElem?_eq_some_iff.1 hk3.1).1)
  have hcell := hide (fun W (h : Below B3 w3 W) => (cellAt ((h.block _ hbH.out).trans hk3H.out.1) 2).trans (rfl : _ = some (Value.slice a2 N c2)))
  obtain ⟨a', c', he, _, ha⟩ := hk3.2
  rw [← hNH.out] at he
  obtain ⟨rfl, rfl⟩ : a2 = a' ∧ c2 = c' := by injection he; exact ⟨by assumption, by assumption⟩
  have haH := hide ha
  clear hk3 hB3 hB3e ha he
  go_wp2
  go_loopw [15, 16] (fun z i wr => ∃ j : Nat, i = .int .i64 j ∧ j ≤ N ∧ Hid (OwnF wr B3 z ((L.take j).filter fun x => RW.othB x.1 r ro t p) ∧ Below B3 w3 wr)) (fun _ i _ => N - (intOf i).toNat)
  case atStart => exact ⟨0, rfl, Nat.zero_le _, World.ownsRow_nil _ _ _ _, Below.refl _ _⟩
  case round =>
    obtain ⟨j, rfl, hjn, hP⟩ := hrel
    have cb := hcell.out wr hP.out.2
    obtain ⟨Fl, hFl⟩ : ∃ F, F = (L.take j).filter fun x => RW.othB x.1 r ro t p := ⟨_, rfl⟩
    have hFH := hide hFl
    have hFn := hide (show Fl.length ≤ 30 by rw [hFl]; have := List.length_filter_le (fun x : RW.Fc => RW.othB x.1 r ro t p) (L.take j); rw [List.length_take] at this; omega)
    rw [← hFl] at hP
    obtain ⟨az, cz, rfl, hcz, _⟩ := hP.out.1.facts
    obtain ⟨nz, hnz⟩ : ∃ n, n = Fl.length := ⟨_, rfl⟩
    have hnzH := hide hnz
    rw [← hnz] at hP hcz
    rw [← hnz]
    have hczH := hide hcz
    clear hFl hnz hcz
    by_cases hlt : j < N
    · obtain ⟨x, hx⟩ : ∃ x, L[j]? = some x := ⟨_, List.getElem?_eq_getElem (by rw [← hNH.out]; exact hlt)⟩
      have hst := hide (show (L.take (j + 1)).filter (fun x => RW.othB x.1 r ro t p) = Fl ++ [x].filter (fun x => RW.othB x.1 r ro t p) by rw [List.take_add_one, hx, Option.toList_some, List.filter_append, ← hFH.out])
      obtain ⟨b, o, rfl, hb, hc⟩ := haH.out.resolve_left (by rintro rfl; have := hNH.out; simp at this; omega)
      have hrg : wr.rangeAt b (o + j * 18) (RW.fce x) := fun i u hu => (World.cell?_of_block (a := ⟨b, o + j * 18 + i, none⟩) (hP.out.2.block _ (by rw [hB3eH.out]; exact hb))).trans (hc j x hx i u hu)
      have hps := fact_size x
      have hone := fact_one x
      obtain ⟨X, hX⟩ : ∃ X, X = (RW.fce x).toArray := ⟨_, rfl⟩
      have hXH := hide hX
      obtain ⟨bf, hbf⟩ : ∃ b, b = wr.heap.size := ⟨_, rfl⟩
      have hps' : (Try.prog.info? 43).map (·.size) = some X.size := by rw [hX]; exact hps
      have hg0 := hide (show (wr.alloc (.cells X 43)).heap[bf]? = some (.cells X 43 (0, 0)) from newAt hbf)
      have hgetH := hide (show ∀ i, i < 17 → X[i]? = some (.int .i64 (x.1 i)) from fun i hi => by rw [hX]; exact fc_get x.1 x.2 i hi)
      have hA := hide ((Below.refl wr.heap.size wr).alloc (Nat.le_refl _) (.cells X 43))
      have hBa := hide (hP.out.2.alloc (by rw [hB3eH.out]; exact hB3eH.out ▸ hP.out.2.size) (.cells X 43))
      have hbfH := hide hbf
      clear hbf
      go_upto_region 8 with (first
        | (refine wpList_load_mid rfl 43 (.tmp 36) rfl b (o + j * 18) rfl (RW.fce x) _ hrg Try.underlying43 rfl hps ?_)
        | (refine wpListStoreNew rfl 43 (.tmp 17) (.tmp 37) rfl (RW.fce x).toArray rfl rfl 43 _ hps rfl (fact_one x) ?_))
      rw [← hXH.out, ← hbfH.out]
      refine gen_w (fun W => W.heap[bf]? = some (.cells X 43 (0, 0)) ∧ OwnF W B3 (.slice az nz cz) Fl ∧ Below B3 w3 W) ⟨hg0.out, own_next hP.out.1 hA.out, hBa.out⟩ ?_
      clear hX hb hc hx hg0 hA hBa hrg hP cb
      rintro w5 ⟨hg5, hO5, hB5⟩
      have c7 : w5.cell? ⟨bf, 7, none⟩ = some (.int .i64 (x.1 7)) := (cellAt hg5 7).trans (hgetH.out 7 (by decide))
      have c8 : w5.cell? ⟨bf, 8, none⟩ = some (.int .i64 (x.1 8)) := (cellAt hg5 8).trans (hgetH.out 8 (by decide))
      have c10 : w5.cell? ⟨bf, 10, none⟩ = some (.int .i64 (x.1 10)) := (cellAt hg5 10).trans (hgetH.out 10 (by decide))
      have c11 : w5.cell? ⟨bf, 11, none⟩ = some (.int .i64 (x.1 11)) := (cellAt hg5 11).trans (hgetH.out 11 (by decide))
      have c12 : w5.cell? ⟨bf, 12, none⟩ = some (.int .i64 (x.1 12)) := (cellAt hg5 12).trans (hgetH.out 12 (by decide))
      have hld := fact_ld (x := x) (W := w5) (g := bf) (by rw [← hXH.out]; exact hg5)
      rw [← hXH.out] at hld
      have hO5H := hide hO5
      have hB5H := hide hB5
      clear hg5 hO5 hB5
      obtain ⟨qi, hqi⟩ : ∃ q, q = RW.inT x.1 t := ⟨_, rfl⟩
      have hqiH := hide hqi
      clear hqi
      simp only [Act.put]
      go_cut [18] (fun s wx => s = .bool qi ∧ wx = w5)
      case first =>
        have hI := RW.inT_iff x.1 t
        rw [← hqiH.out] at hI
        have no : ¬ (0 ≤ t ∧ t < 8 ∧ RW.bitI (x.1 8) t = 1) → qi = false := fun h => Bool.eq_false_iff.2 fun h' => h (hI.1 h')
        clear hld
        by_cases h1 : 0 ≤ t
        · by_cases h2 : t < 8
          · have e1 := run_shr (x.1 8) t h1 h2
            have e2 := RW.and_one (x.1 8 / 2 ^ t.toNat)
            by_cases h3 : RW.bitI (x.1 8) t = 1
            · have h3' : x.1 8 / 2 ^ t.toNat % 2 = 1 := h3
              rw [h3'] at e2
              have e := hide (show qi = true from hI.2 ⟨h1, h2, h3⟩)
              clear no hI h3 h3'
              go_wp2
              all_goals go_meet
              all_goals exact ⟨by rw [e.out] <;> rfl, rfl⟩
            · have e := hide (no fun h => h3 h.2.2)
              obtain ⟨y, hy⟩ : ∃ y, y = x.1 8 / 2 ^ t.toNat % 2 := ⟨_, rfl⟩
              have h3' : (y == 1) = false := by rw [beq_eq_false_iff_ne, hy]; exact h3
              rw [← hy] at e2
              clear no hI h3 hy
              go_wp2
              all_goals go_meet
              all_goals exact ⟨by rw [e.out] <;> rfl, rfl⟩
          · have e := hide (no fun h => h2 h.2.1)
            clear no hI
            go_wp2
            all_goals go_meet
            all_goals exact ⟨by rw [e.out] <;> rfl, rfl⟩
        · have e := hide (no fun h => h1 h.1)
          clear no hI
          go_wp2
          all_goals go_meet
          all_goals exact ⟨by rw [e.out] <;> rfl, rfl⟩
      case rest =>
      obtain ⟨rfl, hwx⟩ := hcut
      have hwx' := hwx.symm
      subst hwx'
      obtain ⟨q, hq⟩ : ∃ q, q = RW.othB x.1 r ro t p := ⟨_, rfl⟩
      have hqH := hide hq
      have hqe := hide (show q = (decide (x.1 7 = r) && (decide (x.1 10 = ro) && (qi && (decide (x.1 11 ≤ p) && decide (p < x.1 12))))) by rw [hq, RW.othB, hqiH.out])
      clear hq c8
      go_upto_region 9 with fail
      go_cut [76] (fun s wx => s = .bool q ∧ wx = w5)
      case first =>
        clear hld
        by_cases h7 : x.1 7 = r
        · have h7b : (x.1 7 == r) = true := by simp [h7]
          by_cases h10 : x.1 10 = ro
          · have h10b : (x.1 10 == ro) = true := by simp [h10]
            cases qi
            · have e := hide (show q = false by rw [hqe.out, Bool.false_and, Bool.and_false, Bool.and_false])
              clear h7 h10
              go_wp2
              all_goals go_meet
              all_goals exact ⟨by rw [e.out] <;> rfl, rfl⟩
            · by_cases h11 : x.1 11 ≤ p
              · by_cases h12 : p < x.1 12
                · have e := hide (show q = true by rw [hqe.out, decide_eq_true h7, decide_eq_true h10, decide_eq_true h11, decide_eq_true h12]; rfl)
                  clear h7 h10
                  go_wp2
                  all_goals go_meet
                  all_goals exact ⟨by rw [e.out] <;> rfl, rfl⟩
                · have e := hide (show q = false by rw [hqe.out, decide_eq_false h12]; simp)
                  clear h7 h10
                  go_wp2
                  all_goals go_meet
                  all_goals exact ⟨by rw [e.out] <;> rfl, rfl⟩
              · have e := hide (show q = false by rw [hqe.out, decide_eq_false h11]; simp)
                clear h7 h10
                go_wp2
                all_goals go_meet
                all_goals exact ⟨by rw [e.out] <;> rfl, rfl⟩
          · have h10b : (x.1 10 == ro) = false := by simp [h10]
            have e := hide (show q = false by rw [hqe.out, decide_eq_false h10]; simp)
            clear h7 h10
            go_wp2
            all_goals go_meet
            all_goals exact ⟨by rw [e.out] <;> rfl, rfl⟩
        · have h7b : (x.1 7 == r) = false := by simp [h7]
          have e := hide (show q = false by rw [hqe.out, decide_eq_false h7]; simp)
          clear h7
          go_wp2
          all_goals go_meet
          all_goals exact ⟨by rw [e.out] <;> rfl, rfl⟩
      case rest =>
      obtain ⟨rfl, hwx⟩ := hcut
      have hwx' := hwx.symm
      subst hwx'
      clear c7 c10 c11 c12 hqe hqiH
      cases q
      · have hst2 := hide (show (L.take (j + 1)).filter (fun x => RW.othB x.1 r ro t p) = Fl by rw [hst.out, List.filter_cons, ← hqH.out]; simp)
        go_wp2
        go_roundw
        case rel => exact ⟨j + 1, by go_num, by omega, by rw [hst2.out]; exact hO5H.out, hB5H.out⟩
        case measure => simp [intOf]; omega
      · have hst2 := hide (show (L.take (j + 1)).filter (fun x => RW.othB x.1 r ro t p) = Fl ++ [x] by rw [hst.out, List.filter_cons, ← hqH.out]; simp)
        have hX := hXH.out
        have hXe : (rowCells RW.fce [x]).toArray = X := by rw [hX, rowCells, List.flatMap_cons, List.flatMap_nil, List.append_nil]
        have hfold := fold_fc x
        rw [← hX] at hfold
        have hXs : X.size = 18 := by rw [hX]; rfl
        rw [hXs] at hfold
        have hlit : FactsV (w5.alloc (.cells (rowCells RW.fce [x]).toArray 43)) (.slice (some ⟨w5.heap.size, 0, none⟩) 1 1) [x] := rows_lit w5 43 fcl_len [x]
        have hO5 := hO5H.out
        obtain ⟨v6, w6, hrun, hO6, hB6, _⟩ := app_facts (W := w5.alloc (.cells (rowCells RW.fce [x]).toArray 43)) (hO5.alloc _) (by have := hB5H.out.size; have := hB3eH.out; simp; omega) hlit (by have := hFn.out; simp; omega) 22
        rw [hXe] at hrun hB6
        have hB6H := hide (hB5H.out.trans (((Below.refl B3 w5).alloc (by rw [hB3eH.out]; exact hB3eH.out ▸ hB5H.out.size) (.cells X 43)).trans hB6))
        have hO6H := hide hO6
        obtain ⟨a6, c6, hv6, _, _⟩ := hO6.facts
        obtain ⟨n6, hn6⟩ : ∃ n, n = (Fl ++ [x]).length := ⟨_, rfl⟩
        rw [← hn6] at hv6
        subst hv6
        clear hX hXe hlit hO5 hO6 hB6 hn6
        go_wp2_with (at_builtin; refine wpList_app_run rfl (.tmp 77) (.tmp 79) rfl rfl rfl hrun ?_)
        go_roundw
        case rel => exact ⟨j + 1, by go_num, by omega, by rw [hst2.out]; exact hO6H.out, hB6H.out⟩
        case measure => simp [intOf]; omega
    · obtain rfl : j = N := by omega
      have hFe := hide (show Fl = L.filter fun x => RW.othB x.1 r ro t p by rw [hFH.out, List.take_of_length_le (by rw [← hNH.out]; exact Nat.le_refl _)])
      obtain ⟨wo, hwo⟩ : ∃ wo, wo = wr := ⟨_, rfl⟩
      subst hwo
      have hB31 : Below w3.heap.size w3 wo := hB3eH.out ▸ hP.out.2
      have hkb := hide (hk3H.out.next hB31)
      have hBo := hide (hB3H.out.trans (hB31.mono hB3H.out.size))
      have hfo := hide (show FactsV wo (.slice az nz cz) Fl from OwnF.facts (B := B3) hP.out.1)
      clear hP hFH hB31 hk3H hB3H haH hcell hbH
      go_upto_region 12 with (refine wpListStoreNew rfl 25 (.tmp 19) (.tmp 82) rfl (RW.bcl (.slice az nz cz)) rfl rfl 25 _ (base_size _) rfl (base_one _ rfl) ?_)
      obtain ⟨bo, hbo⟩ : ∃ b, b = wo.heap.size := ⟨_, rfl⟩
      have hA1 := (Below.refl wo.heap.size wo).alloc (Nat.le_refl _) (.cells (RW.bcl (.slice az nz cz)) 25)
      refine gen_w (fun W => KE (.slice az nz cz) Fl bo W ∧ KE (.slice a2 j c2) L bb W ∧ Below w.heap.size w W) ⟨⟨newAt hbo, hfo.out.next hA1⟩, hkb.out.next hA1, hBo.out.alloc hBo.out.size _⟩ ?_
      rw [← hbo]
      clear hbo hA1 hfo hkb hBo
      rintro w11 ⟨g1, g2, g3⟩
      have ho11 := hide g1
      have hb11 := hide g2
      have hB11 := hide g3
      clear g1 g2 g3
      have hrw := hb11.out.1
      go_upto_region 13 with (first
        | (refine wpList_load_row rfl 25 (.tmp 14) rfl bb rfl 25 _ (0, 0) _ hrw Try.underlying25 rfl (base_size _) ?_)
        | (refine wpListStoreNew rfl 25 (.tmp 20) (.tmp 83) rfl (RW.bcl (.slice a2 j c2)) rfl rfl 25 _ (base_size _) rfl (base_one _ rfl) ?_))
      obtain ⟨bd, hbd⟩ : ∃ b, b = w11.heap.size := ⟨_, rfl⟩
      have hbdH := hide hbd
      refine gen_w (fun W => W.heap[bd]? = some (.cells (RW.bcl (.slice a2 j c2)) 25 (0, 0)) ∧ Below bd w11 W) ⟨newAt hbd, by rw [hbd]; exact (Below.refl _ _).alloc (Nat.le_refl _) _⟩ ?_
      rw [← hbd]
      clear hbd hrw
      rintro w12 ⟨g1, g2⟩
      have hbd12 := hide g1
      have hBd12 := hide g2
      clear g1 g2
      simp only [Act.put]
      go_cut [21] (fun s wx => (∃ a n c, s = .slice a n c) ∧ wx = w12)
      case first =>
        obtain ⟨mq, hmq⟩ : ∃ q, q = min nm 10 := ⟨_, rfl⟩
        have hq : mq ≤ nm ∧ mq ≤ 10 := by omega
        obtain ⟨hq1, hq2⟩ := hq
        have hx1 : min (nm : Int) 10 = (mq : Int) := by omega
        have hq3 := hcmH.out
        have hq4 := hmlH.out
        clear hmq
        cases am with
        | none =>
          obtain rfl := hmz.out rfl
          obtain rfl : mq = 0 := by omega
          go_wp2
          all_goals go_meet
          all_goals exact ⟨⟨_, _, _, rfl⟩, rfl⟩
        | some ad =>
          go_wp2
          all_goals go_meet
          all_goals exact ⟨⟨_, _, _, rfl⟩, rfl⟩
      case rest =>
      obtain ⟨⟨aw, nw, cw, rfl⟩, hwx⟩ := hcut
      have hwx' := hwx.symm
      subst hwx'
      clear hmz hcmH hmlH
      have hcb : w12.cell? ⟨bd, 0, none⟩ = some (.slice none 0 0) := (cellAt hbd12.out 0).trans rfl
      have hfb : w12.frozen? ⟨bd, 0, none⟩ = false := by simp [World.frozen?, hbd12.out]
      go_upto_region 15 with fail
      refine gen_w (fun W => W.heap[bd]? = some (.cells #[(.slice aw nw cw), .slice none 0 0, (.slice a2 j c2), .slice none 0 0, .slice none 0 0, .slice none 0 0, .slice none 0 0, .slice none 0 0, .slice none 0 0, .slice none 0 0] 25 (0, 0)) ∧ Below bd w11 W) ⟨(heap_setCell_same _ _ _ _ _ _ hbd12.out).trans rfl, hBd12.out.setCell (p := ⟨bd, 0, none⟩) (Nat.le_refl _) _⟩ ?_
      rintro w15 ⟨g1, g2⟩
      have hbd15 := hide g1
      have hBd15 := hide g2
      clear g1 g2 hcb hfb
      have hcb : w15.cell? ⟨bd, 1, none⟩ = some (.slice none 0 0) := (cellAt hbd15.out 1).trans rfl
      have hfb : w15.frozen? ⟨bd, 1, none⟩ = false := by simp [World.frozen?, hbd15.out]
      go_upto_region 16 with fail
      refine gen_w (fun W => W.heap[bd]? = some (.cells #[(.slice aw nw cw), (.slice aw nw cw), (.slice a2 j c2), .slice none 0 0, .slice none 0 0, .slice none 0 0, .slice none 0 0, .slice none 0 0, .slice none 0 0, .slice none 0 0] 25 (0, 0)) ∧ Below bd w11 W) ⟨(heap_setCell_same _ _ _ _ _ _ hbd15.out).trans rfl, hBd15.out.setCell (p := ⟨bd, 1, none⟩) (Nat.le_refl _) _⟩ ?_
      rintro w16 ⟨g1, g2⟩
      have hbd16 := hide g1
      have hBd16 := hide g2
      clear g1 g2 hcb hfb
      have hcb : w16.cell? ⟨bd, 3, none⟩ = some (.slice none 0 0) := (cellAt hbd16.out 3).trans rfl
      have hfb : w16.frozen? ⟨bd, 3, none⟩ = false := by simp [World.frozen?, hbd16.out]
      go_upto_region 17 with fail
      refine gen_w (fun W => W.heap[bd]? = some (.cells #[(.slice aw nw cw), (.slice aw nw cw), (.slice a2 j c2), (.slice aw nw cw), .slice none 0 0, .slice none 0 0, .slice none 0 0, .slice none 0 0, .slice none 0 0, .slice none 0 0] 25 (0, 0)) ∧ Below bd w11 W) ⟨(heap_setCell_same _ _ _ _ _ _ hbd16.out).trans rfl, hBd16.out.setCell (p := ⟨bd, 3, none⟩) (Nat.le_refl _) _⟩ ?_
      rintro w17 ⟨g1, g2⟩
      have hbd17 := hide g1
      have hBd17 := hide g2
      clear g1 g2 hcb hfb
      have hcb : w17.cell? ⟨bd, 4, none⟩ = some (.slice none 0 0) := (cellAt hbd17.out 4).trans rfl
      have hfb : w17.frozen? ⟨bd, 4, none⟩ = false := by simp [World.frozen?, hbd17.out]
      go_upto_region 18 with fail
      refine gen_w (fun W => W.heap[bd]? = some (.cells (RW.bd4 (.slice a2 j c2) (.slice aw nw cw)) 25 (0, 0)) ∧ Below bd w11 W) ⟨(heap_setCell_same _ _ _ _ _ _ hbd17.out).trans rfl, hBd17.out.setCell (p := ⟨bd, 4, none⟩) (Nat.le_refl _) _⟩ ?_
      rintro w18 ⟨g1, g2⟩
      have hbd18 := hide g1
      have hBd18 := hide g2
      clear g1 g2 hcb hfb
      have hBd := hbdH.out ▸ hBd18.out
      have ho18 := hide (ho11.out.next hBd)
      have hb18 := hide (hb11.out.next hBd)
      have hB18 := hide (hB11.out.trans (hBd.mono hB11.out.size))
      clear hBd ho11 hb11 hB11 hbd12 hbd15 hbd16 hbd17 hBd12 hBd15 hBd16 hBd17 hBd18 hbdH
      obtain ⟨N, hjN⟩ : ∃ N, N = j := ⟨_, rfl⟩
      subst hjN
      have hL6 : L.length ≤ 1000000 := by rw [← hNH.out]; omega
      obtain ⟨cl, hcl⟩ : ∃ cl, cl = RW.claimsL r ro t p (L.map (·.1)) := ⟨_, rfl⟩
      obtain ⟨R, hR⟩ : ∃ R, R = RW.resolve cl := ⟨_, rfl⟩
      have hOf1 := hide (fun W (h : FactsV W (.slice a2 N c2) L) => of_any (RW.bcl (.slice a2 N c2)) _ L r ro t p rfl rfl hL6 W h)
      have hOd := hide (fun W (h : FactsV W (.slice a2 N c2) L) => of_any (RW.bd4 (.slice a2 N c2) (.slice aw nw cw)) _ L r ro t p rfl rfl hL6 W h)
      have hOo := hide (fun W (h : FactsV W (.slice az nz cz) Fl) => of_any (RW.bcl (.slice az nz cz)) _ Fl r ro t p rfl rfl (Nat.le_trans hFn.out (by decide)) W h)
      have hco : RW.claimsL r ro t p (Fl.map (·.1)) = cl := by rw [hFe.out, RW.claims_oth, hcl]
      rw [← hcl, ← hR] at hOf1 hOd
      rw [hco, ← hR] at hOo
      have hcn := RW.claims_len r ro t p (L.map (·.1))
      rw [List.length_map, ← hcl] at hcn
      have hRl := hide (show R.1.length ≤ 1000000 by rw [hR]; exact rlen cl (Nat.le_trans hcn hL6))
      clear hcl hR hco hcn
      obtain ⟨R1, Rc, Ru⟩ := R
      have hrw := hb18.out.1
      go_upto_region 19 with (first
        | (refine wpList_load_row rfl 25 (.tmp 14) rfl bb rfl 25 _ (0, 0) _ hrw Try.underlying25 rfl (base_size _) ?_)
        | (go_at_call 17; refine (hOf1.out _ hb18.out.2).mono ?_; rintro e w8 ⟨⟨va, rfl, hva⟩, hB8⟩; have hvaH := hide hva.parts; have hB8H := hide hB8; clear hva hB8)
        | (refine wpListStoreNew rfl 32 (.tmp 22) (.tmp 102) rfl (RW.scl va Rc Ru) rfl rfl 32 _ (shares_size _ _ _) rfl (shares_one _ _ _ hvaH.out.one) ?_))
      obtain ⟨b8, hb8⟩ : ∃ b, b = w8.heap.size := ⟨_, rfl⟩
      have hA8 := hide (hB8H.out.alloc hB8H.out.size (.cells (RW.scl va Rc Ru) 32))
      refine gen_w (fun W => ShAt W b8 va (R1, Rc, Ru) ∧ KE (.slice az nz cz) Fl bo W ∧ FactsV W (.slice a2 N c2) L ∧ W.heap[bd]? = some (.cells (RW.bd4 (.slice a2 N c2) (.slice aw nw cw)) 25 (0, 0)) ∧ Below w.heap.size w W) ⟨by rw [hb8]; exact ShAt.new (s := (R1, Rc, Ru)) hvaH.out, ho18.out.next hA8.out, hb18.out.2.next hA8.out, (hA8.out.block _ (Array.getElem?_eq_some_iff.1 hbd18.out).1).trans hbd18.out, hB18.out.trans (hA8.out.mono hB18.out.size)⟩ ?_
      rw [← hb8]
      clear hb8 hA8 hrw hvaH hB8H ho18 hb18 hB18 hbd18 hOf1 hFe hL6 hFn
      rintro w9 ⟨g1, g2, g3, g5, g4⟩
      have hs8 := hide g1
      have hko := hide g2
      have hf9 := hide g3
      have hg4 := hide g4
      obtain ⟨n0, hn0e⟩ : ∃ n, n = w9.heap.size := ⟨_, rfl⟩
      have hrd := hide (fun W (h : Below n0 w9 W) => (Below.block h bd (by rw [hn0e]; exact (Array.getElem?_eq_some_iff.1 g5).1)).trans g5)
      have hn0 := hide hn0e
      clear hn0e g1 g2 g3 g4 g5
      refine wp_region_k (fun _ W => Below n0 w9 W) (fun _ => True) [8, 9, 18, 19] (.op 0 (.op 1 (.op 2 (.op 3 (.op 4 (.op 5 (.op 6 (.op 7 (.op 8 (.op 9 (.op 10 (.op 11 (.op 12 (.op 13 (.op 14 (.op 15 (.op 16 (.op 17 (.op 18 (.op 19 (.op 20 (.op 21 .nil)))))))))))))))))))))) (by kernel_rfl) (by kernel_rfl) (by rfl) (by kernel_rfl) ((Below.refl _ _).drew) trivial ?_
      refine k_val (.bool true) (by apply opN; repeat' (first | apply OpAt.z | apply OpAt.s)) (by rfl) (by rfl) (fun _ W hS => op_mv rfl rfl) ?_
      simp only [Act.put, List.setIfInBounds_toArray, List.set_cons_zero, List.set_cons_succ]
      refine k_val (.bool true) (by apply opN; repeat' (first | apply OpAt.z | apply OpAt.s)) (by rfl) (by rfl) (fun _ W hS => op_mv rfl rfl) ?_
      simp only [Act.put, List.setIfInBounds_toArray, List.set_cons_zero, List.set_cons_succ]
      refine k_val (.agg (RW.scl va Rc Ru)) (by apply opN; repeat' (first | apply OpAt.z | apply OpAt.s)) (by rfl) (by rfl) (fun _ W hS => op_load_sh rfl rfl (hs8.out.next (hn0.out ▸ hS)).ld) ?_
      simp only [Act.put, List.setIfInBounds_toArray, List.set_cons_zero, List.set_cons_succ]
      refine k_val (.agg (RW.bcl (.slice az nz cz))) (by apply opN; repeat' (first | apply OpAt.z | apply OpAt.s)) (by rfl) (by rfl) (fun _ W hS => op_load_base rfl rfl (hko.out.next (hn0.out ▸ hS))) ?_
      simp only [Act.put, List.setIfInBounds_toArray, List.set_cons_zero, List.set_cons_succ]
      refine k_val (.int .i64 r) (by apply opN; repeat' (first | apply OpAt.z | apply OpAt.s)) (by rfl) (by rfl) (fun _ W hS => op_mv rfl rfl) ?_
      simp only [Act.put, List.setIfInBounds_toArray, List.set_cons_zero, List.set_cons_succ]
      refine k_val (.int .i64 ro) (by apply opN; repeat' (first | apply OpAt.z | apply OpAt.s)) (by rfl) (by rfl) (fun _ W hS => op_mv rfl rfl) ?_
      simp only [Act.put, List.setIfInBounds_toArray, List.set_cons_zero, List.set_cons_succ]
      refine k_val (.int .i64 t) (by apply opN; repeat' (first | apply OpAt.z | apply OpAt.s)) (by rfl) (by rfl) (fun _ W hS => op_mv rfl rfl) ?_
      simp only [Act.put, List.setIfInBounds_toArray, List.set_cons_zero, List.set_cons_succ]
      refine k_val (.int .i64 p) (by apply opN; repeat' (first | apply OpAt.z | apply OpAt.s)) (by rfl) (by rfl) (fun _ W hS => op_mv rfl rfl) ?_
      simp only [Act.put, List.setIfInBounds_toArray, List.set_cons_zero, List.set_cons_succ]
      refine k_step (fun K' u => ∃ v7, u = .agg (RW.scl v7 Rc Ru) ∧ K' = fun W => PartsV W v7 R1) (by apply opN; repeat' (first | apply OpAt.z | apply OpAt.s)) (by rfl) (by rfl) (by rfl) (fun W hS _ => ?_) ?_
      · refine op_x5 rfl rfl rfl rfl rfl rfl rfl (fun _ _ => rfl) ((hOo.out W ((hko.out.next (hn0.out ▸ hS)).2)).mono ?_)
        rintro e W' ⟨⟨v7, rfl, hv7⟩, hB⟩
        exact ⟨_, rfl, Below.trans hS (hB.mono (Nat.le_trans (Nat.le_of_eq hn0.out) (Below.size hS))), _, hv7.parts, v7, rfl, rfl⟩
      rintro _ _ ⟨v9, rfl, rfl⟩
      simp only [Act.put, List.setIfInBounds_toArray, List.set_cons_zero, List.set_cons_succ]
      refine k_step (fun K' u => u = .bool true ∧ K' = fun _ => True) (by apply opN; repeat' (first | apply OpAt.z | apply OpAt.s)) (by rfl) (by rfl) (by rfl) (fun W hS hK => ?_) ?_
      · refine op_x2 rfl rfl rfl rfl (fun _ _ => rfl) ((rsame_any va v9 R1 R1 Rc Rc Ru Ru hRl.out hRl.out W (hs8.out.next (hn0.out ▸ hS)).parts hK).mono ?_)
        rintro e W' ⟨rfl, hB⟩
        exact ⟨_, rfl, Below.trans hS (hB.mono (Nat.le_trans (Nat.le_of_eq hn0.out) (Below.size hS))), _, trivial, by simp, rfl⟩
      rintro _ _ ⟨rfl, rfl⟩
      simp only [Act.put, List.setIfInBounds_toArray, List.set_cons_zero, List.set_cons_succ]
      refine k_val (.bool true) (by apply opN; repeat' (first | apply OpAt.z | apply OpAt.s)) (by rfl) (by rfl) (fun _ W hS => op_pk rfl rfl rfl rfl rfl) ?_
      simp only [Act.put, List.setIfInBounds_toArray, List.set_cons_zero, List.set_cons_succ]
      refine k_val (.bool true) (by apply opN; repeat' (first | apply OpAt.z | apply OpAt.s)) (by rfl) (by rfl) (fun _ W hS => op_mv rfl rfl) ?_
      simp only [Act.put, List.setIfInBounds_toArray, List.set_cons_zero, List.set_cons_succ]
      refine k_val (.agg (RW.scl va Rc Ru)) (by apply opN; repeat' (first | apply OpAt.z | apply OpAt.s)) (by rfl) (by rfl) (fun _ W hS => op_load_sh rfl rfl (hs8.out.next (hn0.out ▸ hS)).ld) ?_
      simp only [Act.put, List.setIfInBounds_toArray, List.set_cons_zero, List.set_cons_succ]
      refine k_val (.agg (RW.bd4 (.slice a2 N c2) (.slice aw nw cw))) (by apply opN; repeat' (first | apply OpAt.z | apply OpAt.s)) (by rfl) (by rfl) (fun _ W hS => op_load_baseY rfl rfl ((hrd.out W hS)) (bd4_size _ _)) ?_
      simp only [Act.put, List.setIfInBounds_toArray, List.set_cons_zero, List.set_cons_succ]
      refine k_val (.int .i64 r) (by apply opN; repeat' (first | apply OpAt.z | apply OpAt.s)) (by rfl) (by rfl) (fun _ W hS => op_mv rfl rfl) ?_
      simp only [Act.put, List.setIfInBounds_toArray, List.set_cons_zero, List.set_cons_succ]
      refine k_val (.int .i64 ro) (by apply opN; repeat' (first | apply OpAt.z | apply OpAt.s)) (by rfl) (by rfl) (fun _ W hS => op_mv rfl rfl) ?_
      simp only [Act.put, List.setIfInBounds_toArray, List.set_cons_zero, List.set_cons_succ]
      refine k_val (.int .i64 t) (by apply opN; repeat' (first | apply OpAt.z | apply OpAt.s)) (by rfl) (by rfl) (fun _ W hS => op_mv rfl rfl) ?_
      simp only [Act.put, List.setIfInBounds_toArray, List.set_cons_zero, List.set_cons_succ]
      refine k_val (.int .i64 p) (by apply opN; repeat' (first | apply OpAt.z | apply OpAt.s)) (by rfl) (by rfl) (fun _ W hS => op_mv rfl rfl) ?_
      simp only [Act.put, List.setIfInBounds_toArray, List.set_cons_zero, List.set_cons_succ]
      refine k_step (fun K' u => ∃ v7, u = .agg (RW.scl v7 Rc Ru) ∧ K' = fun W => PartsV W v7 R1) (by apply opN; repeat' (first | apply OpAt.z | apply OpAt.s)) (by rfl) (by rfl) (by rfl) (fun W hS _ => ?_) ?_
      · refine op_x5 rfl rfl rfl rfl rfl rfl rfl (fun _ _ => rfl) ((hOd.out W (hf9.out.next (hn0.out ▸ hS))).mono ?_)
        rintro e W' ⟨⟨v7, rfl, hv7⟩, hB⟩
        exact ⟨_, rfl, Below.trans hS (hB.mono (Nat.le_trans (Nat.le_of_eq hn0.out) (Below.size hS))), _, hv7.parts, v7, rfl, rfl⟩
      rintro _ _ ⟨v19, rfl, rfl⟩
      simp only [Act.put, List.setIfInBounds_toArray, List.set_cons_zero, List.set_cons_succ]
      refine k_step (fun K' u => u = .bool true ∧ K' = fun _ => True) (by apply opN; repeat' (first | apply OpAt.z | apply OpAt.s)) (by rfl) (by rfl) (by rfl) (fun W hS hK => ?_) ?_
      · refine op_x2 rfl rfl rfl rfl (fun _ _ => rfl) ((rsame_any va v19 R1 R1 Rc Rc Ru Ru hRl.out hRl.out W (hs8.out.next (hn0.out ▸ hS)).parts hK).mono ?_)
        rintro e W' ⟨rfl, hB⟩
        exact ⟨_, rfl, Below.trans hS (hB.mono (Nat.le_trans (Nat.le_of_eq hn0.out) (Below.size hS))), _, trivial, by simp, rfl⟩
      rintro _ _ ⟨rfl, rfl⟩
      simp only [Act.put, List.setIfInBounds_toArray, List.set_cons_zero, List.set_cons_succ]
      refine k_val (.bool true) (by apply opN; repeat' (first | apply OpAt.z | apply OpAt.s)) (by rfl) (by rfl) (fun _ W hS => op_pk rfl rfl rfl rfl rfl) ?_
      simp only [Act.put, List.setIfInBounds_toArray, List.set_cons_zero, List.set_cons_succ]
      refine k_val (.bool true) (by apply opN; repeat' (first | apply OpAt.z | apply OpAt.s)) (by rfl) (by rfl) (fun _ W hS => op_asg rfl rfl) ?_
      simp only [Act.put, List.setIfInBounds_toArray, List.set_cons_zero, List.set_cons_succ]
      refine k_nil ?_
      intro W' hb _
      have hbH := hide hb
      clear hb
      go_wp2
      go_ret
      exact ⟨rfl, hg4.out.trans (hbH.out.mono (by rw [hn0.out]; exact hg4.out.size))⟩
end Go.Proofs.Ytnkdpfkmellpcaa
