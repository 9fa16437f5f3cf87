/-
  Package split: Claims: the parts that it returns; only new memory is written.
-/
import Derived.Test.YtnkdpfkmellpcaaSp8
import Derived.Test.YtnkdpfkmellpcaaSkey
namespace Go.Proofs.Ytnkdpfkmellpcaa
open Go.RowKit
namespace RW
/-- a fact: its numbers, its text -/
abbrev Fc := (Nat → Int) × ByteArray
def fce (x : Fc) : List Value := fcl x.1 x.2
/-- a map says what a list of parts says -/
def MapIs (M : List (Int × Value)) (cl : List Pt) : Prop := ∀ h, KM.get h M = (getP h cl).map fun s => .int .i64 s
theorem MapIs.nil : MapIs [] [] := fun _ => rfl
theorem effB_of {f : Nat → Int} {r ro t p : Int} {a b c : Bool} (h1 : f 7 = r) (h2 : f 10 = ro) (h3 : inB f t p = a) (h4 : cntB (f 14) = b) (h : (a && b) = c) : effB f r ro t p = c := by
  rw [effB, decide_eq_true h1, decide_eq_true h2, h3, h4, Bool.true_and, Bool.true_and, h]
theorem MapIs.step {M : List (Int × Value)} {cl : List Pt} (hm : MapIs M cl) (ha : Asc cl) (h s : Int) (hs : s ≤ 1000000) :
    MapIs (KM.put h (.int .i64 (min ((getP h cl).getD 0 + s) 1000000)) M) (addR h s false cl) := by
  intro k
  rw [KM.get_put, (addR_asc ha).2.2 k]
  by_cases hk : k = h
  · subst hk
    rw [if_pos rfl, if_pos rfl]
    cases getP k cl with
    | none =>
      simp only [Option.getD_none, Option.map_some]
      rw [show min (0 + s) 1000000 = s by omega]
    | some u => rfl
  · rw [if_neg hk, if_neg hk, hm k]
theorem MapIs.keys {M : List (Int × Value)} {cl : List Pt} (hm : MapIs M cl) (h : Int) : h ∈ M.map (·.1) ↔ ∃ s, getP h cl = some s := by
  have h1 := hm h
  constructor
  · intro hk
    cases hg : getP h cl with
    | some s => exact ⟨s, rfl⟩
    | none =>
      rw [hg, Option.map_none, KM.get_none] at h1
      obtain ⟨y, hy, rfl⟩ := List.mem_map.1 hk
      exact absurd rfl (h1 y hy)
  · rintro ⟨s, hs⟩
    rw [hs, Option.map_some] at h1
    exact List.mem_map.2 ⟨_, KM.get_mem h1, rfl⟩
def valP (cl : List Pt) (h : Int) : Pt := (h, (getP h cl).getD 0)
theorem getP_vals (cl : List Pt) (k : Int) : ∀ zs : List Int, getP k (zs.map (valP cl)) = if k ∈ zs then some ((getP k cl).getD 0) else none
  | [] => rfl
  | z :: zs => by
    rw [List.map_cons, getP, getP_vals cl k zs]
    by_cases h : z = k
    · subst h
      rw [if_pos (show (valP cl z).1 = z from rfl), if_pos (List.mem_cons_self ..)]
      rfl
    · rw [if_neg (show ¬ (valP cl z).1 = k from h)]
      by_cases hk : k ∈ zs
      · rw [if_pos hk, if_pos (List.mem_cons_of_mem _ hk)]
      · rw [if_neg hk, if_neg (by rw [List.mem_cons]; rintro (e | e); exact h e.symm; exact hk e)]
theorem asc_vals (cl : List Pt) : ∀ zs : List Int, zs.Pairwise (· ≤ ·) → zs.Nodup → Asc (zs.map (valP cl))
  | [], _, _ => List.Pairwise.nil
  | z :: zs, h1, h2 => by
    rw [List.pairwise_cons] at h1
    rw [List.nodup_cons] at h2
    unfold Asc
    rw [List.map_cons, List.pairwise_cons]
    refine ⟨fun y hy => ?_, asc_vals cl zs h1.2 h2.2⟩
    obtain ⟨k, hk, rfl⟩ := List.mem_map.1 hy
    have := h1.1 k hk
    have hne : z ≠ k := by rintro rfl; exact h2.1 hk
    show z < k
    omega
theorem keys_list {zs : List Int} {M : List (Int × Value)} {cl : List Pt} (hm : MapIs M cl) (ha : Asc cl) (hp : zs.Perm (M.map (·.1))) (hs : zs.Pairwise (· ≤ ·)) (hn : (M.map (·.1)).Nodup) : zs.map (valP cl) = cl := by
  refine asc_ext (asc_vals cl zs hs (hp.nodup_iff.2 hn)) ha fun k => ?_
  rw [getP_vals]
  by_cases hk : k ∈ zs
  · rw [if_pos hk]
    obtain ⟨s, h⟩ := (hm.keys k).1 (hp.mem_iff.1 hk)
    rw [h]
    rfl
  · rw [if_neg hk]
    cases h : getP k cl with
    | none => rfl
    | some s => exact absurd (hp.mem_iff.2 ((hm.keys k).2 ⟨s, h⟩)) hk
end RW
theorem fcl_len (x : RW.Fc) : (RW.fce x).length = 18 := rfl
abbrev FactsV (W : World) (v : Value) (l : List RW.Fc) : Prop := RowV 18 RW.fce W v l
theorem fact_size (x : RW.Fc) : (Try.prog.info? 43).map (·.size) = some (RW.fce x).length := by kernel_rfl
theorem fact_one (x : RW.Fc) : (RW.fce x).toArray.all (·.oneCell') = true := by
  simp [RW.fce, RW.fcl]
  exact ⟨rfl, rfl, rfl, rfl, rfl, rfl, rfl, rfl, rfl, rfl, rfl, rfl, rfl, rfl, rfl, rfl, rfl, rfl⟩
theorem ldRow_fact (x : Value) : Instr.loadAt 43 x = ldRow 43 x := rfl
theorem fact_ld {W : World} {g : Nat} {x : RW.Fc} (h : W.heap[g]? = some (.cells (RW.fce x).toArray 43 (0, 0))) : (ldRow 43 (.pointer (some ⟨g, 0, none⟩))).run Try.prog W = .ok (.agg (RW.fce x).toArray) W :=
  ldRow_mid (fun j u hj => by rw [cellAt h, Nat.zero_add]; simpa using hj) Try.underlying43 rfl (fact_size x)
attribute [local go_sem ↓] ldRow_fact
set_option maxRecDepth 10000 in
set_option maxHeartbeats 4000000 in
theorem claims_any (bs : Array Value) (v : Value) (fs : List RW.Fc) (r ro t p : Int) (hbs : bs[2]? = some v) (hl : fs.length ≤ 1000000) (w : World) (hv : FactsV w v fs) :
    Calls Try.prog 14 #[.agg bs, .int .i64 r, .int .i64 ro, .int .i64 t, .int .i64 p] w fun e w' => (∃ v', e = .returned v' ∧ OwnP w' w.heap.size v' (RW.claimsL r ro t p (fs.map (·.1)))) ∧ Below w.heap.size w w' := by
  obtain ⟨a, ca, rfl, _, ha⟩ := hv
  have haH := hide ha
  obtain ⟨n, hn⟩ : ∃ n, n = fs.length := ⟨_, rfl⟩
  rw [← hn] at hl hbs
  have hnH := hide hn
  have c2 : (w.alloc (.cells bs 25)).cell? ⟨w.heap.size, 2, none⟩ = some (.slice a n ca) := by rw [cellAt (newAt rfl)]; exact hbs
  have hB0 := hide ((Below.refl w.heap.size w).alloc (Nat.le_refl _) (.cells bs 25))
  have hmk : ∀ W, (Instr.makeMap 54 none).run Try.prog W = .ok (.map (some W.heap.size)) (W.alloc (.map #[] 0)) := fun _ => rfl
  clear ha hn hbs
  go_enter Try.func14, Try.ntmps14
  go_upto_region 1 with fail
  refine gen_w (fun W => W.cell? ⟨w.heap.size, 2, none⟩ = some (.slice a n ca) ∧ Below w.heap.size w W ∧ w.heap.size < W.heap.size) ⟨c2, hB0.out, by simp⟩ ?_
  clear c2 hB0
  obtain ⟨rb, hrb⟩ : ∃ b, b = w.heap.size := ⟨_, rfl⟩
  rw [← hrb]
  rintro w1 ⟨c2, hB1, hlt1⟩
  have hB1H := hide hB1
  have hlt1H := hide hlt1
  have hrbH := hide hrb
  clear hB1 hlt1 hrb
  go_upto_region 2 with fail
  obtain ⟨mb, hmb⟩ : ∃ b, b = w1.heap.size := ⟨_, rfl⟩
  refine gen_w (fun W => W.cell? ⟨rb, 2, none⟩ = some (.slice a n ca) ∧ Below rb w W ∧ KM.OwnM RW.intK W mb []) ⟨Lib.cell?_alloc_some _ c2, hB1H.out.alloc (Nat.le_of_lt hlt1H.out) _, by rw [hmb]; exact KM.OwnM.made w1⟩ ?_
  rw [← hmb]
  have hmbr := hide (show rb < mb by rw [hmb]; exact hlt1H.out)
  clear c2 hB1H hlt1H hmb hmk
  rintro w2 ⟨c2, hB2, hown⟩
  have hB2H := hide hB2
  have hownH := hide hown
  clear hB2 hown
  go_wp2
  go_loopw [21] (fun i wr => ∃ (j : Nat) (M : List (Int × Value)), i = .int .i64 j ∧ j ≤ n ∧ Hid (KM.OwnM RW.intK wr mb M ∧ RW.MapIs M (RW.claimsL r ro t p ((fs.take j).map (·.1))) ∧ M.length ≤ j ∧ Below rb w wr)) (fun i _ => n - (intOf i).toNat)
  case atStart => exact ⟨0, [], rfl, Nat.zero_le _, hownH.out, RW.MapIs.nil, Nat.le_refl _, hB2H.out⟩
  case round =>
    clear c2
    obtain ⟨j, M, rfl, hjn, hP⟩ := hrel
    obtain ⟨cl, hcl⟩ : ∃ cl, cl = RW.claimsL r ro t p ((fs.take j).map (·.1)) := ⟨_, rfl⟩
    have hclH := hide hcl
    have hMI : Hid (RW.MapIs M cl) := by rw [hcl]; exact hP.out.2.1
    clear hcl
    by_cases hlt : j < n
    · obtain ⟨x, hx⟩ : ∃ x, fs[j]? = some x := ⟨_, List.getElem?_eq_getElem (by rw [← hnH.out]; exact hlt)⟩
      have hstep := hide (show RW.claimsL r ro t p ((fs.take (j + 1)).map (·.1)) = RW.stepC r ro t p cl x.1 by rw [List.take_add_one, hx, Option.toList_some, List.map_append, List.map_singleton, RW.claimsL_snoc, ← hclH.out])
      have hAsc := hide (show RW.Asc cl by rw [hclH.out]; exact RW.claims_asc _ _ _ _ _)
      have hSnd := hide (show RW.Sound cl by rw [hclH.out]; exact RW.claims_sound _ _ _ _ _)
      obtain ⟨b, o, rfl, hb, hc⟩ := haH.out.resolve_left (by rintro rfl; have := hnH.out; simp at this; omega)
      have hrg : wr.rangeAt b (o + j * 18) (RW.fce x) := fun i u hu => (World.cell?_of_block (a := ⟨b, o + j * 18 + i, none⟩) (hP.out.2.2.2.block _ (by rw [hrbH.out]; exact hb))).trans (hc j x hx i u hu)
      have hps := fact_size x
      have hone := fact_one x
      obtain ⟨X, hX⟩ : ∃ X, X = (RW.fce x).toArray := ⟨_, rfl⟩
      have hXH := hide hX
      obtain ⟨bf, hbf⟩ : ∃ b, b = wr.heap.size := ⟨_, rfl⟩
      have hps' : (Try.prog.info? 43).map (·.size) = some X.size := by rw [hX]; exact hps
      have hg0 : (wr.alloc (.cells X 43)).heap[bf]? = some (.cells X 43 (0, 0)) := newAt hbf
      have hld := fact_ld (x := x) (by rw [← hX]; exact hg0)
      have hget : ∀ i, i < 17 → X[i]? = some (.int .i64 (x.1 i)) := fun i hi => by rw [hX]; exact fc_get x.1 x.2 i hi
      rw [← hX] at hone hld
      have hI := hide (fun W => in_any x.1 x.2 t p W)
      have hXc : RW.fcells x.1 x.2 = X := hX.symm
      rw [hXc] at hI
      have hC := hide (fun W => counts_any (x.1 14) W)
      have hgetH := hide hget
      have c7 : (wr.alloc (.cells X 43)).cell? ⟨bf, 7, none⟩ = some (.int .i64 (x.1 7)) := (cellAt hg0 7).trans (hget 7 (by decide))
      have c10 : (wr.alloc (.cells X 43)).cell? ⟨bf, 10, none⟩ = some (.int .i64 (x.1 10)) := (cellAt hg0 10).trans (hget 10 (by decide))
      have hBa := hide (hP.out.2.2.2.alloc (Nat.le_trans (Nat.le_of_lt hmbr.out) (Nat.le_of_lt hP.out.1.lt)) (.cells X 43))
      have hownA := hide (hP.out.1.keep (Below.heap_alloc wr (.cells X 43) mb hP.out.1.lt))
      have hbfH := hide hbf
      go_upto_region 5 with (first
        | (refine wpList_load_mid rfl 43 (.tmp 23) rfl b (o + j * 18) rfl (RW.fce x) _ hrg Try.underlying43 rfl hps ?_)
        | (refine wpListStoreNew rfl 43 (.tmp 13) (.tmp 24) rfl (RW.fce x).toArray rfl rfl 43 _ hps rfl (fact_one x) ?_))
      rw [← hXH.out, ← hbfH.out]
      refine gen_w (fun W => W.heap[bf]? = some (.cells X 43 (0, 0)) ∧ KM.OwnM RW.intK W mb M ∧ Below rb w W) ⟨hg0, hownA.out, hBa.out⟩ ?_
      clear hX hb hc hx hXc hget hbf hg0 hld c7 c10 hownA hBa hrg
      rintro w5 ⟨hg5, hown5, hB5⟩
      have c7 : w5.cell? ⟨bf, 7, none⟩ = some (.int .i64 (x.1 7)) := (cellAt hg5 7).trans (hgetH.out 7 (by decide))
      have c10 : w5.cell? ⟨bf, 10, none⟩ = some (.int .i64 (x.1 10)) := (cellAt hg5 10).trans (hgetH.out 10 (by decide))
      have hld := fact_ld (x := x) (W := w5) (g := bf) (by rw [← hXH.out]; exact hg5)
      rw [← hXH.out] at hld
      have hg5H := hide hg5
      have hown5H := hide hown5
      have hB5H := hide hB5
      clear hg5 hown5 hB5
      by_cases h7 : x.1 7 = r
      · have h7b : (x.1 7 == r) = true := by simp [h7]
        have h7H := hide h7
        by_cases h10 : x.1 10 = ro
        · have h10b : (x.1 10 == ro) = true := by simp [h10]
          have h10H := hide h10
          obtain ⟨qi, hqi⟩ : ∃ q, q = RW.inB x.1 t p := ⟨_, rfl⟩
          obtain ⟨qc, hqc⟩ : ∃ q, q = RW.cntB (x.1 14) := ⟨_, rfl⟩
          have hqiH := hide hqi
          have hqcH := hide hqc
          rw [← hqi] at hI
          rw [← hqc] at hC
          clear h7 h10 hqi hqc
          cases qi
          · have hno := hide (show RW.effB x.1 r ro t p = false from RW.effB_of h7H.out h10H.out hqiH.out.symm hqcH.out.symm rfl)
            go_wp2_with (go_at_call 27; refine (hI.out _).mono ?_; rintro e w6 ⟨rfl, hB6⟩; have hg6 := (hB6.block bf (Array.getElem?_eq_some_iff.1 hg5H.out).1).trans hg5H.out; have c14 := (cellAt hg6 14).trans (hgetH.out 14 (by decide)); have c9 := (cellAt hg6 9).trans (hgetH.out 9 (by decide)); have hown6 := hide (hown5H.out.keep (hB6.block mb hown5H.out.lt)); have hB6H := hide (hB5H.out.trans (hB6.mono (Nat.le_trans (Nat.le_of_lt hmbr.out) (Nat.le_of_lt hown5H.out.lt)))); have hg6H := hide hg6; clear hB6 hg6)
            go_roundw
            case rel => exact ⟨j + 1, M, by go_num, by omega, hown6.out, by rw [hstep.out, RW.stepC, if_neg (by rw [hno.out]; exact Bool.false_ne_true)]; exact hMI.out, by have := hP.out.2.2.1; omega, hB6H.out⟩
            case measure => simp [intOf]; omega
          · cases qc
            · have hno := hide (show RW.effB x.1 r ro t p = false from RW.effB_of h7H.out h10H.out hqiH.out.symm hqcH.out.symm rfl)
              go_wp2_with (first | (go_at_call 27; refine (hI.out _).mono ?_; rintro e w6 ⟨rfl, hB6⟩; have hg6 := (hB6.block bf (Array.getElem?_eq_some_iff.1 hg5H.out).1).trans hg5H.out; have c14 := (cellAt hg6 14).trans (hgetH.out 14 (by decide)); have c9 := (cellAt hg6 9).trans (hgetH.out 9 (by decide)); have hown6 := hide (hown5H.out.keep (hB6.block mb hown5H.out.lt)); have hB6H := hide (hB5H.out.trans (hB6.mono (Nat.le_trans (Nat.le_of_lt hmbr.out) (Nat.le_of_lt hown5H.out.lt)))); have hg6H := hide hg6; clear hB6 hg6) | (go_at_call 28; refine (hC.out _).mono ?_; rintro e w' ⟨rfl, rfl⟩))
              go_roundw
              case rel => exact ⟨j + 1, M, by go_num, by omega, hown6.out, by rw [hstep.out, RW.stepC, if_neg (by rw [hno.out]; exact Bool.false_ne_true)]; exact hMI.out, by have := hP.out.2.2.1; omega, hB6H.out⟩
              case measure => simp [intOf]; omega
            · have hyes := hide (show RW.effB x.1 r ro t p = true from RW.effB_of h7H.out h10H.out hqiH.out.symm hqcH.out.symm rfl)
              go_upto_region 6 with (first | (go_at_call 27; refine (hI.out _).mono ?_; rintro e w6 ⟨rfl, hB6⟩; have hg6 := (hB6.block bf (Array.getElem?_eq_some_iff.1 hg5H.out).1).trans hg5H.out; have c14 := (cellAt hg6 14).trans (hgetH.out 14 (by decide)); have c9 := (cellAt hg6 9).trans (hgetH.out 9 (by decide)); have hown6 := hide (hown5H.out.keep (hB6.block mb hown5H.out.lt)); have hB6H := hide (hB5H.out.trans (hB6.mono (Nat.le_trans (Nat.le_of_lt hmbr.out) (Nat.le_of_lt hown5H.out.lt)))); have hg6H := hide hg6; clear hB6 hg6) | (go_at_call 28; refine (hC.out _).mono ?_; rintro e w' ⟨rfl, rfl⟩))
              have hs14 := RW.eff_share hyes.out
              obtain ⟨u, hu⟩ : ∃ u, u = (RW.getP (x.1 9) cl).getD 0 := ⟨_, rfl⟩
              have hu0 : 0 ≤ u ∧ u ≤ 1000000 := by
                rw [hu]
                cases hg : RW.getP (x.1 9) cl with
                | none => simp
                | some z => have := hSnd.out _ (RW.getP_mem hg); simp at this ⊢; omega
              have hlk := KM.OwnM.lookup hown6.out (KM.int_key Try.underlying3) Try.underlying54 (z := .int .i64 0) (by go_simp) (x.1 9)
              have hval : (KM.get (x.1 9) M).getD (.int .i64 0) = .int .i64 u := by
                rw [hMI.out, hu]
                cases RW.getP (x.1 9) cl <;> rfl
              rw [hval] at hlk
              obtain ⟨w7, hup, hown7, g1, g2, g3, g4, g5⟩ := KM.OwnM.update hown6.out (KM.int_key Try.underlying3) Try.underlying54 (x.1 9) (.int .i64 (min (u + x.1 14) 1000000))
              have hst := hide (hMI.out.step hAsc.out (x.1 9) (x.1 14) hs14.2)
              rw [← hu] at hst
              have hlen : (KM.put (x.1 9) (.int .i64 (min (u + x.1 14) 1000000)) M).length ≤ j + 1 := by
                rw [KM.length_put]
                have := hP.out.2.2.1
                split <;> omega
              have hlenH := hide hlen
              have hB7 := hide (show Below rb w w7 from ⟨g1.trans hB6H.out.os, g2.trans hB6H.out.tape, g3.trans hB6H.out.output, by rw [g4]; exact hB6H.out.size, fun k hk => (g5 k (by have := hmbr.out; omega)).trans (hB6H.out.block k hk)⟩)
              have hown7H := hide hown7
              have hup' : ∀ v, v = .int .i64 (min (u + x.1 14) 1000000) → (Instr.mapUpdate 54 (.map (some mb)) (.int .i64 (x.1 9)) v).run Try.prog w6 = .ok () w7 := fun v hv => by rw [hv]; exact hup
              have hlk' : (Instr.lookup 54 (.map (some mb)) (.int .i64 (x.1 9)) false).run Try.prog w6 = .ok (.int .i64 u) w6 := hlk
              obtain ⟨h14a, h14b⟩ := hs14
              obtain ⟨hu0a, hu0b⟩ := hu0
              have huH := hide hu
              clear hlk hval hup hlen g1 g2 g3 g4 g5 hown7 hu hgetH
              go_wp2
              exact ⟨⟨j + 1, KM.put (x.1 9) (.int .i64 (min (u + x.1 14) 1000000)) M, by go_num, by omega, hown7H.out, by rw [hstep.out, RW.stepC, if_pos hyes.out]; exact hst.out, hlenH.out, hB7.out⟩, by simp [intOf]; omega⟩
        · have h10b : (x.1 10 == ro) = false := by simp [h10]
          have hno := hide (show RW.effB x.1 r ro t p = false by rw [RW.effB, decide_eq_false h10, Bool.false_and, Bool.and_false])
          clear h7 h10
          go_wp2
          go_roundw
          case rel => exact ⟨j + 1, M, by go_num, by omega, hown5H.out, by rw [hstep.out, RW.stepC, if_neg (by rw [hno.out]; exact Bool.false_ne_true)]; exact hMI.out, by have := hP.out.2.2.1; omega, hB5H.out⟩
          case measure => simp [intOf]; omega
      · have h7b : (x.1 7 == r) = false := by simp [h7]
        have hno := hide (show RW.effB x.1 r ro t p = false by rw [RW.effB, decide_eq_false h7, Bool.false_and])
        clear h7
        go_wp2
        go_roundw
        case rel => exact ⟨j + 1, M, by go_num, by omega, hown5H.out, by rw [hstep.out, RW.stepC, if_neg (by rw [hno.out]; exact Bool.false_ne_true)]; exact hMI.out, by have := hP.out.2.2.1; omega, hB5H.out⟩
        case measure => simp [intOf]; omega
    · obtain rfl : j = n := by omega
      have hclE := hide (show cl = RW.claimsL r ro t p (fs.map (·.1)) by rw [hclH.out, List.take_of_length_le (by rw [← hnH.out]; exact Nat.le_refl _)])
      have hAsc := hide (show RW.Asc cl by rw [hclH.out]; exact RW.claims_asc _ _ _ _ _)
      obtain ⟨wo, hwo⟩ : ∃ wo, wo = wr := ⟨_, rfl⟩
      subst hwo
      have hown9 := hide hP.out.1
      have hMI9 := hide hMI.out
      have hB9 := hide hP.out.2.2.2
      have hlen9 := hide (Nat.le_trans hP.out.2.2.1 hl)
      have hK := hide (keys_any mb wo)
      have hS := hide (sorted_keys mb M wo hown9.out hlen9.out)
      clear hP haH hownH hB2H hclH
      go_upto_region 10 with (first
        | (go_at_call 30; refine hK.out.mono ?_; rintro e w' ⟨rfl, rfl⟩)
        | (go_at_call 29; refine hS.out.mono ?_; rintro e w3 ⟨vz, zs, rfl, hzp, hzs, ⟨az, cz, hvz, hzc, hza⟩, hzB⟩; have hzpH := hide hzp; have hzsH := hide hzs; have hzaH := hide hza; have hzBH := hide hzB; clear hzp hzs hza hzB; subst hvz))
      have hzl := hide (show zs.length = M.length by rw [hzpH.out.length_eq, List.length_map])
      obtain ⟨k, hk⟩ : ∃ k, k = zs.length := ⟨_, rfl⟩
      rw [← hk] at hzc ⊢
      have hkH := hide hk
      have hk1 : k ≤ 1000000 := by rw [hk, hzl.out]; exact hlen9.out
      have hown3 := hide (hown9.out.keep (hzBH.out.block mb hown9.out.lt))
      obtain ⟨B3, hB3⟩ : ∃ b, b = w3.heap.size := ⟨_, rfl⟩
      have hB3H := hide hB3
      have hmb3 := hide (show mb < B3 by rw [hB3]; exact hown3.out.lt)
      clear hk hS hK hB3
      go_wp2
      go_loopw [14, 62] (fun z i wr => ∃ m : Nat, i = .int .i64 m ∧ m ≤ k ∧ Hid (OwnP wr B3 z ((zs.take m).map (RW.valP cl)) ∧ Below B3 w3 wr)) (fun _ i _ => k - (intOf i).toNat)
      case atStart => exact ⟨0, rfl, Nat.zero_le _, World.ownsRow_nil _ _ _ _, Below.refl _ _⟩
      case round =>
        obtain ⟨m, rfl, hmk, hQ⟩ := hrel
        by_cases hlt : m < k
        · obtain ⟨x, hx⟩ : ∃ x, zs[m]? = some x := ⟨_, List.getElem?_eq_getElem (by rw [← hkH.out]; exact hlt)⟩
          obtain ⟨b, o, rfl, hb, hc⟩ := hzaH.out.resolve_left (by rintro rfl; have := hkH.out; simp at this; omega)
          have cx : wr.cell? ⟨b, o + m, none⟩ = some (.int .i64 x) := by
            have h1 := hc m x hx 0 _ rfl
            rw [Nat.mul_one, Nat.add_zero] at h1
            exact (World.cell?_of_block (a := ⟨b, o + m, none⟩) (hQ.out.2.block _ (by rw [hB3H.out]; exact hb))).trans h1
          have hownr := hown3.out.keep (hQ.out.2.block mb hmb3.out)
          have hlk := KM.OwnM.lookup hownr (KM.int_key Try.underlying3) Try.underlying54 (z := .int .i64 0) (by go_simp) x
          obtain ⟨u, hu⟩ : ∃ u, u = (RW.getP x cl).getD 0 := ⟨_, rfl⟩
          have hval : (KM.get x M).getD (.int .i64 0) = .int .i64 u := by
            rw [hMI9.out, hu]
            cases RW.getP x cl <;> rfl
          rw [hval] at hlk
          have hlk' : (Instr.lookup 54 (.map (some mb)) (.int .i64 x) false).run Try.prog wr = .ok (.int .i64 u) wr := hlk
          have hsz := hide (show B3 ≤ wr.heap.size from hB3H.out ▸ hQ.out.2.size)
          have hln := hide (show ((zs.take m).map (RW.valP cl)).length ≤ 1000000 by rw [List.length_map, List.length_take]; omega)
          have hnx := hide (show (zs.take (m + 1)).map (RW.valP cl) = (zs.take m).map (RW.valP cl) ++ [(x, u)] by rw [List.take_add_one, hx, Option.toList_some, List.map_append, List.map_singleton, RW.valP, hu])
          clear hx hb hc hownr hlk hval hu
          go_wp2_with (at_builtin; refine wpList_app_part rfl (.tmp 66) (.tmp 72) rfl rfl hQ.out.1 (x, u) rfl hsz.out hln.out ?_; intro z' w4 hO4 hB4; have hO4H := hide hO4; have hB4H := hide hB4; clear hO4 hB4)
          go_roundw
          case rel => exact ⟨m + 1, by go_num, by omega, by rw [hnx.out]; exact hO4H.out, hQ.out.2.trans hB4H.out⟩
          case measure => simp [intOf]; omega
        · obtain rfl : m = k := by omega
          have hL := RW.keys_list hMI9.out hAsc.out hzpH.out hzsH.out hown9.out.nodup
          have hQ1 := hQ.out.1
          rw [List.take_of_length_le (by rw [← hkH.out]; exact Nat.le_refl _), hL] at hQ1
          have hQ1H := hide hQ1
          have hBe := hide (show Below rb w wr from hB9.out.trans ((hzBH.out.mono (Nat.le_trans (Nat.le_of_lt hmbr.out) (Nat.le_of_lt hown9.out.lt))).trans (hQ.out.2.mono (Nat.le_trans (Nat.le_of_lt hmbr.out) (Nat.le_of_lt hmb3.out)))))
          have hwB3 := hide (show w.heap.size ≤ B3 by have := hmb3.out; have := hmbr.out; have := hrbH.out; omega)
          clear hL hQ1
          go_wp2
          go_ret
          exact ⟨⟨_, rfl, by rw [← hclE.out]; exact own_base hQ1H.out hwB3.out⟩, hrbH.out ▸ hBe.out⟩
end Go.Proofs.Ytnkdpfkmellpcaa
