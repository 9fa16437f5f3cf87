/-
  Package statement: Of: what it returns; only new memory is written.
-/
import Derived.Test.YtillplhadimgmaaSt11
import Derived.Test.YtillplhadimgmaaSt12
import Derived.Test.YtillplhadimgmaaStO
namespace Go.Proofs.Ytillplhadimgmaa
open Go.RowKit RG
theorem cf_paid : ∀ args w, (callFunc 25 args).run Try.prog w = .ok (.enter 25 args) w := fun args w => by go_simp
theorem cf_ofc : ∀ args w, (callFunc 27 args).run Try.prog w = .ok (.enter 27 args) w := fun args w => by go_simp
theorem cf_allc : ∀ args w, (callFunc 32 args).run Try.prog w = .ok (.enter 32 args) w := fun args w => by go_simp
theorem bk_size (z : Int) (v : Value) : (Try.prog.info? 28).map (·.size) = some (bks z v).size := by kernel_rfl
theorem bk_ld {W : World} {g : Nat} {z : Int} {v : Value} (h : W.heap[g]? = some (.cells (bks z v) 28 (0, 0))) : (ldRow 28 (.pointer (some ⟨g, 0, none⟩))).run Try.prog W = .ok (.agg (bks z v)) W := by
  have h0 : W.rangeAt g 0 (bks z v).toList := fun i u hu => by rw [Nat.zero_add, cellAt h, ← Array.getElem?_toList]; exact hu
  have := ldRow_mid (P := Try.prog) h0 Try.underlying28 rfl (bk_size z v)
  simpa using this
theorem al_ln (W : World) : (Instr.alloc 61 true (.tuple #[])).run Try.prog W = .ok (.pointer (some ⟨W.heap.size, 0, none⟩)) (W.alloc (.cells #[.int .i64 0, .int .i64 0, .int .i64 0] 61)) := by
  go_simp
theorem op_bl {ev : Operand → Value} {o : Oper} {x y z : Operand} {w : World} {p b a : Int} (ho : o.op = .build 61 #[(0, x), (1, y), (2, z)]) (hx : ev x = .int .i64 p) (hy : ev y = .int .i64 b) (hz : ev z = .int .i64 a) : (execOp ev o).run Try.prog w = .ok (.value (.agg #[.int .i64 p, .int .i64 b, .int .i64 a])) w := by
  unfold execOp
  rw [ho]
  go_simp
theorem ln_st {W : World} {g : Nat} (h : W.heap[g]? = some (.cells #[.int .i64 0, .int .i64 0, .int .i64 0] 61 (0, 0))) (x : RW.Ln) :
    ∃ W', (stRow 61 (.pointer (some ⟨g, 0, none⟩)) (.agg (RW.lnl x).toArray)).run Try.prog W = .ok () W' ∧ W'.heap[g]? = some (.cells (RW.lnl x).toArray 61 (0, 0)) ∧ ∀ B w, Below B w W → B ≤ w.heap.size → B ≤ g → Below B w W' := by
  have ht : W.there g 0 (RW.lnl x).toArray.size := fun j hj => by
    refine ⟨?_, by simp [World.frozen?, h]⟩
    have h3 : j < 3 := hj
    rw [cellAt h, Nat.zero_add]
    rcases j with _ | _ | _ | j
    · rfl
    · rfl
    · rfl
    · omega
  refine ⟨_, stRow_mid ht (ln_size x) (ln_one x), (setCells_heap _ _ _ _ _ _ _ h).trans rfl, fun B w hB h0 hg => hB.grown (setCells_grown _ _ _ _) (Nat.le_trans h0 hB.size) fun k hk => by cases hk; exact hg⟩
/-- the state of Of: the two books, the holder -/
structure OfW (W : World) (B : Nat) (w : World) (zb za h : Int) (vb va : Value) : Prop where
  b0 : W.heap[B]? = some (.cells (bks zb vb) 28 (0, 0))
  b1 : W.heap[B + 1]? = some (.cells (bks za va) 28 (0, 0))
  b2 : W.heap[B + 1 + 1]? = some (.cells #[.int .i64 h] 3 (0, 0))
  b3 : W.heap[B + 1 + 1 + 1]? = some (.cells #[.int .i64 0, .int .i64 0, .slice none 0 0] 39 (0, 0))
  bel : Below B w W
theorem alloc_old (W : World) (o : Obj) {k : Nat} {x : Obj} (h : W.heap[k]? = some x) : (W.alloc o).heap[k]? = some x := (Below.heap_alloc W o k (Array.getElem?_eq_some_iff.1 h).1).trans h
theorem OfW.next {W W' : World} {B n : Nat} {w : World} {zb za h : Int} {vb va : Value} (hO : OfW W B w zb za h vb va) (hB : Below n W W') (hn : B + 1 + 1 + 1 < n) : OfW W' B w zb za h vb va :=
  ⟨(hB.block _ (by omega)).trans hO.b0, (hB.block _ (by omega)).trans hO.b1, (hB.block _ (by omega)).trans hO.b2, (hB.block _ (by omega)).trans hO.b3, hO.bel.trans (hB.mono (by omega))⟩
theorem OfW.lt {W : World} {B : Nat} {w : World} {zb za h : Int} {vb va : Value} (hO : OfW W B w zb za h vb va) : B + 1 + 1 + 1 < W.heap.size := (Array.getElem?_eq_some_iff.1 hO.b3).1
theorem OfW.start (w : World) (zb za h : Int) (vb va : Value) : OfW ((((w.alloc (.cells (bks zb vb) 28)).alloc (.cells (bks za va) 28)).alloc (.cells #[.int .i64 h] 3)).alloc (.cells #[.int .i64 0, .int .i64 0, .slice none 0 0] 39)) w.heap.size w zb za h vb va := by
  obtain ⟨W1, h1⟩ : ∃ X, X = w.alloc (.cells (bks zb vb) 28) := ⟨_, rfl⟩
  obtain ⟨W2, h2⟩ : ∃ X, X = W1.alloc (.cells (bks za va) 28) := ⟨_, rfl⟩
  obtain ⟨W3, h3⟩ : ∃ X, X = W2.alloc (.cells #[.int .i64 h] 3) := ⟨_, rfl⟩
  rw [← h1, ← h2, ← h3]
  have s1 : W1.heap.size = w.heap.size + 1 := by rw [h1, alloc_size]
  have s2 : W2.heap.size = w.heap.size + 1 + 1 := by rw [h2, alloc_size, s1]
  have s3 : W3.heap.size = w.heap.size + 1 + 1 + 1 := by rw [h3, alloc_size, s2]
  have k1 : W1.heap[w.heap.size]? = some (.cells (bks zb vb) 28 (0, 0)) := by rw [h1]; exact alloc_at1 _ _
  have k2 : W2.heap[w.heap.size + 1]? = some (.cells (bks za va) 28 (0, 0)) := by rw [h2, ← s1]; exact alloc_at1 _ _
  have k3 : W3.heap[w.heap.size + 1 + 1]? = some (.cells #[.int .i64 h] 3 (0, 0)) := by rw [h3, ← s2]; exact alloc_at1 _ _
  refine ⟨alloc_old _ _ (by rw [h3]; exact alloc_old _ _ (by rw [h2]; exact alloc_old _ _ k1)), alloc_old _ _ (by rw [h3]; exact alloc_old _ _ k2), alloc_old _ _ k3, by rw [← s3]; exact alloc_at1 _ _, ?_⟩
  have b1 := alloc_bel (Below.refl w.heap.size w) (Nat.le_refl _) (.cells (bks zb vb) 28)
  rw [← h1] at b1
  have b2 := alloc_bel b1 (Nat.le_refl _) (.cells (bks za va) 28)
  rw [← h2] at b2
  have b3 := alloc_bel b2 (Nat.le_refl _) (.cells #[.int .i64 h] 3)
  rw [← h3] at b3
  exact alloc_bel b3 (Nat.le_refl _) _
theorem LnsO.appNew {W : World} {B : Nat} {v : Value} {l : List RW.Ln} (h : LnsO W B v l) (x : RW.Ln) (hl : l.length ≤ 100000) (hB : B ≤ W.heap.size) :
    ∃ v' W', (Builtin.append_ #[37, 37] 37 #[v, .slice (some ⟨W.heap.size, 0, none⟩) 1 1]).run Try.prog (W.alloc (.cells (RW.lnl x).toArray 61)) = .ok v' W' ∧ LnsO W' B v' (l ++ [x]) ∧ Below B W W' := by
  have hA := alloc_bel (Below.refl W.heap.size W) (Nat.le_refl _) (.cells (RW.lnl x).toArray 61)
  have h1 : LnsO (W.alloc (.cells (RW.lnl x).toArray 61)) B v l := h.next hA
  have hy : LnsV (W.alloc (.cells (RW.lnl x).toArray 61)) (.slice (some ⟨W.heap.size, 0, none⟩) 1 1) [x] := by
    have := rows_lit (k := 3) (enc := RW.lnl) W 61 ln_len [x]
    simpa [rowCells] using this
  obtain ⟨v', W', g1, g2, g3, _⟩ := h1.app (m := [x]) (by simp; omega) (Nat.le_trans hB hA.size) hy
  exact ⟨v', W', g1, g2, (hA.mono hB).trans ((Below.refl B _).grown g3 (Nat.le_trans hB hA.size) fun k hk => (own_block h1 hk).1)⟩
namespace RW
theorem pers_nums (l : List Rw) (h : Int) : asc (nums (fun r => r 1) (fun r => decide (r 0 = h)) l) = pers l h := rfl
theorem hols_nums (l : List Rw) : asc (nums (fun r => r 0) (fun _ => true) l) = hols l := by
  unfold nums hols
  rw [List.filter_eq_self.2 fun _ _ => rfl]
theorem pers_len (l : List Rw) (h : Int) : (pers l h).length ≤ l.length := by
  rw [← pers_nums]
  exact Nat.le_trans (asc_len _) (nums_len _ _ _)
theorem hols_len (l : List Rw) : (hols l).length ≤ l.length := by
  rw [← hols_nums]
  exact Nat.le_trans (asc_len _) (nums_len _ _ _)
theorem lns_len (b a : List Rw) (h : Int) : (lns b a h).length ≤ b.length + a.length := by
  unfold lns
  refine Nat.le_trans (List.length_filter_le _ _) ?_
  rw [List.length_map, ← List.length_append]
  exact pers_len _ _
/-- the lines of the first periods -/
def lnsP (b a : List Rw) (h : Int) (ps : List Int) : List Ln := (ps.map (lnOf b a h)).filter dif
theorem lnsP_snoc (b a : List Rw) (h : Int) (ps : List Int) (p : Int) : lnsP b a h (ps ++ [p]) = lnsP b a h ps ++ (if dif (lnOf b a h p) = true then [lnOf b a h p] else []) := by
  unfold lnsP
  rw [List.map_append, List.filter_append]
  congr 1
  cases hd : dif (lnOf b a h p)
  · rw [List.map_cons, List.map_nil, List.filter_cons_of_neg (by rw [hd]; simp)]
    simp
  · rw [List.map_cons, List.map_nil, List.filter_cons_of_pos hd]
    simp
theorem lnsP_len (b a : List Rw) (h : Int) (ps : List Int) : (lnsP b a h ps).length ≤ ps.length := by
  unfold lnsP
  refine Nat.le_trans (List.length_filter_le _ _) ?_
  rw [List.length_map]
  exact Nat.le_refl _
end RW
set_option maxRecDepth 10000 in
set_option maxHeartbeats 4000000 in
theorem of_any (zb za h : Int) (vb va : Value) (lb la : List RW.Rw) (hlb : lb.length ≤ 50) (hla : la.length ≤ 50) (hnb : RW.NearR lb) (hna : RW.NearR la) (w : World) (hvb : RwsV w vb lb) (hva : RwsV w va la) :
    Calls Try.prog 12 #[.agg (bks zb vb), .agg (bks za va), .int .i64 h] w fun e w' => ∃ v, e = .returned (.agg #[.int .i64 h, .int .i64 za, v]) ∧ LnsO w' w.heap.size v (RW.lns lb la h) ∧ Below w.heap.size w w' := by
  obtain ⟨B, hB⟩ : ∃ B, B = w.heap.size := ⟨_, rfl⟩
  have hBH := hide hB
  have hvbH := hide (fun W (hW : Below B w W) => hvb.next (hB ▸ hW))
  have hvaH := hide (fun W (hW : Below B w W) => hva.next (hB ▸ hW))
  have hS0 := hide (OfW.start w zb za h vb va)
  have hlbH := hide hlb
  have hlaH := hide hla
  have hnbH := hide hnb
  have hnaH := hide hna
  obtain ⟨ab, cb, hvbe, hcbl, _⟩ := hvb
  obtain ⟨aa, ca, hvae, hcal, _⟩ := hva
  obtain ⟨nb, hnbe⟩ : ∃ n, n = lb.length := ⟨_, rfl⟩
  obtain ⟨na, hnae⟩ : ∃ n, n = la.length := ⟨_, rfl⟩
  rw [← hnbe] at hvbe
  rw [← hnae] at hvae
  subst hvbe hvae
  rw [← hB] at hS0 ⊢
  clear hlb hla hnb hna hcbl hcal hnbe hnae
  have hS1 := hide hS0.out
  unfold bks at hS1 ⊢
  go_enter Try.func12, Try.ntmps12
  go_upto_region 1 with fail
  rw [← hB]
  refine gen_w (fun W => OfW W B w zb za h (.slice ab nb cb) (.slice aa na ca)) hS0.out ?_
  clear hS0 hS1 hB
  intro w1 hO1
  have hO1H := hide hO1
  have e2 : w1.cell? ⟨B + 1 + 1, 0, none⟩ = some (.int .i64 h) := cellAt hO1.b2 0
  have e1 : w1.cell? ⟨B + 1, 0, none⟩ = some (.int .i64 za) := cellAt hO1.b1 0
  obtain ⟨B4, hB4⟩ : ∃ b, b = w1.heap.size := ⟨_, rfl⟩
  have hB4H := hide hB4
  have hlt := hide (show B + 1 + 1 + 1 < B4 by rw [hB4]; exact hO1.lt)
  have hA4 := hide (alloc_bel (Below.refl w1.heap.size w1) (Nat.le_refl _) (.cells #[.int .i64 h, .int .i64 za, .slice none 0 0] 39))
  have hg4 := hide (show (w1.alloc (.cells #[.int .i64 h, .int .i64 za, .slice none 0 0] 39)).heap[B4]? = some (.cells #[.int .i64 h, .int .i64 za, .slice none 0 0] 39 (0, 0)) from newAt hB4)
  have hO4 := hide (hO1.next hA4.out (by rw [← hB4]; exact hlt.out))
  clear hO1
  go_upto_region 2 with fail
  rw [← hB4]
  refine gen_w (fun W => OfW W B w zb za h (.slice ab nb cb) (.slice aa na ca) ∧ W.heap[B4]? = some (.cells #[.int .i64 h, .int .i64 za, .slice none 0 0] 39 (0, 0))) ⟨hO4.out, hg4.out⟩ ?_
  clear hO4 hg4 hA4 e1 e2 hO1H hB4H hB4
  rintro w2 ⟨hO2, hg2⟩
  have e0 : w2.cell? ⟨B, 2, none⟩ = some (.slice ab nb cb) := cellAt hO2.b0 2
  have e1 : w2.cell? ⟨B + 1, 2, none⟩ = some (.slice aa na ca) := cellAt hO2.b1 2
  have hO2H := hide hO2
  have hg2H := hide hg2
  have hB4w := hide (show B4 < w2.heap.size from (Array.getElem?_eq_some_iff.1 hg2).1)
  have hA5 := hide (alloc_bel (Below.refl w2.heap.size w2) (Nat.le_refl _) (.cells #[.slice ab nb cb, .slice aa na ca] 23))
  have hB2w := hide (show Below B w (w2.alloc (.cells #[.slice ab nb cb, .slice aa na ca] 23)) from hO2.bel.trans (hA5.out.mono (by have := hO2.lt; omega)))
  have hO5 := hide (hO2.next hA5.out hO2.lt)
  have hh5 := hide (show (w2.alloc (.cells #[.slice ab nb cb, .slice aa na ca] 23)).cell? ⟨B + 1 + 1, 0, none⟩ = some (.int .i64 h) from cellAt hO5.out.b2 0)
  have hN := hide (numbers_any 27 #[.pointer (some ⟨B + 1 + 1, 0, none⟩)] (fun r => r 1) (fun r => decide (r 0 = h)) cf_ofc (.slice ab nb cb) (.slice aa na ca) lb la (by have := hlbH.out; omega) (by have := hlaH.out; omega) w2.heap.size (w2.alloc (.cells #[.slice ab nb cb, .slice aa na ca] 23)) (hvbH.out _ hB2w.out) (hvaH.out _ hB2w.out) (newAt rfl)
    (fun r W hW => ofc_any (B + 1 + 1) h r W (Nat.lt_of_lt_of_le (Nat.lt_of_succ_lt hO5.out.lt) hW.size) ((World.cell?_of_block (a := ⟨B + 1 + 1, 0, none⟩) (hW.block _ (Nat.lt_of_succ_lt hO5.out.lt))).trans hh5.out)))
  clear hO2 hg2
  go_upto_region 3 with (go_at_call 26; refine hN.out.mono ?_; rintro e w3 ⟨u, rfl, hI3, hB3⟩; have hI3H := hide hI3; have hB3H := hide hB3; clear hI3 hB3)
  have hB23 := hide (hA5.out.trans (hB3H.out.mono hA5.out.size))
  have hO3 := hide (hO2H.out.next hB23.out hO2H.out.lt)
  have hg3 := hide ((hB23.out.block _ (Array.getElem?_eq_some_iff.1 hg2H.out).1).trans hg2H.out)
  obtain ⟨ps, hps⟩ : ∃ ps, ps = RW.pers (lb ++ la) h := ⟨_, rfl⟩
  have hpsl := hide (show ps.length ≤ 100 by rw [hps]; have h1 := RW.pers_len (lb ++ la) h; rw [List.length_append] at h1; have := hlbH.out; have := hlaH.out; omega)
  have hpsH := hide hps
  rw [RW.pers_nums, ← hps] at hI3H
  clear hps hB3H hN hh5 hO5 hB2w hO2H hg2H e0 e1
  obtain ⟨Bq, hBq⟩ : ∃ b, b = (w2.alloc (.cells #[.slice ab nb cb, .slice aa na ca] 23)).heap.size := ⟨_, rfl⟩
  rw [← hBq] at hI3H
  obtain ⟨w3s, hw3s⟩ : ∃ n, n = w3.heap.size := ⟨_, rfl⟩
  have hw3sH := hide hw3s
  have hlt4 := hide (show B4 < w3s by rw [hw3s]; exact (Array.getElem?_eq_some_iff.1 hg3.out).1)
  have hlq := hide (show B4 < Bq by rw [hBq, alloc_size]; have := hB4w.out; omega)
  have hown := hide (fun g (hg : u.ownBlock = some g) => (show Bq ≤ g ∧ g < w3s from ⟨(own_block hI3H.out hg).1, by rw [hw3s]; exact (own_block hI3H.out hg).2.1⟩))
  obtain ⟨av, cv, hue⟩ := hI3H.out.form
  obtain ⟨m, hm⟩ : ∃ m, m = ps.length := ⟨_, rfl⟩
  rw [← hm] at hue
  subst hue
  have hmH := hide hm
  have hm100 : m ≤ 100 := by rw [hm]; exact hpsl.out
  clear hm hB23 hw3s hBq hA5 hB4w
  go_wp2
  go_loopw [25] (fun i wr => ∃ (j : Nat) (v : Value), i = .int .i64 j ∧ j ≤ m ∧ Hid (OfW wr B w zb za h (.slice ab nb cb) (.slice aa na ca) ∧ wr.heap[B4]? = some (.cells #[.int .i64 h, .int .i64 za, v] 39 (0, 0)) ∧ LnsO wr w3s v (RW.lnsP lb la h (ps.take j)) ∧ IntsO wr Bq (.slice av m cv) ps ∧ w3s ≤ wr.heap.size)) (fun i _ => m - (intOf i).toNat)
  case atStart => exact ⟨0, _, rfl, Nat.zero_le _, hO3.out, hg3.out, LnsO.nil _ _, hI3H.out, Nat.le_of_eq hw3sH.out⟩
  case round =>
    obtain ⟨j, v, rfl, hj, hQ⟩ := hrel
    obtain ⟨wo, hwo⟩ : ∃ wo, wo = wr := ⟨_, rfl⟩
    subst hwo
    have hO := hide hQ.out.1
    have hG := hide hQ.out.2.1
    have hL := hide hQ.out.2.2.1
    have hPs := hide hQ.out.2.2.2.1
    have hsz := hide hQ.out.2.2.2.2
    clear hQ hO3 hg3
    by_cases hjm : j < m
    · obtain ⟨p, hp⟩ : ∃ p, ps[j]? = some p := ⟨_, List.getElem?_eq_getElem (by rw [← hmH.out]; exact hjm)⟩
      obtain ⟨a', c', hae, _, hav⟩ := hPs.out.row
      cases hae
      obtain ⟨b, o, rfl, hbb, hcc⟩ := hav.resolve_left (by rintro rfl; simp at hp)
      have hcell : wo.cell? ⟨b, o + j, none⟩ = some (.int .i64 p) := ints_cell hcc hp
      have htk := hide (show ps.take (j + 1) = ps.take j ++ [p] by rw [List.take_add_one, hp]; rfl)
      have hlen := hide (show (RW.lnsP lb la h (ps.take j)).length ≤ 100000 by
        have h1 := RW.lnsP_len lb la h (ps.take j)
        rw [List.length_take] at h1
        have := hpsl.out
        omega)
      clear hp hav hbb hcc
      go_upto_region 6 with fail
      obtain ⟨pb, hpb⟩ : ∃ z, z = RW.paid lb h p := ⟨_, rfl⟩
      obtain ⟨pa, hpa⟩ : ∃ z, z = RW.paid la h p := ⟨_, rfl⟩
      have hc1 := hide (fun W (hW : Below wo.heap.size wo W) => paid_any zb h p (.slice ab nb cb) lb (by have := hlbH.out; omega) hnbH.out W (hvbH.out W (hO.out.bel.trans (hW.mono (by have := hO.out.lt; omega)))))
      have hc2 := hide (fun W (hW : Below wo.heap.size wo W) => paid_any za h p (.slice aa na ca) la (by have := hlaH.out; omega) hnaH.out W (hvaH.out W (hO.out.bel.trans (hW.mono (by have := hO.out.lt; omega)))))
      rw [← hpb] at hc1
      rw [← hpa] at hc2
      have hsn := hide (show RW.lnsP lb la h (ps.take (j + 1)) = RW.lnsP lb la h (ps.take j) ++ (if RW.dif (p, pb, pa) = true then [(p, pb, pa)] else []) by rw [htk.out, RW.lnsP_snoc, hpb, hpa]; rfl)
      have hr0 := hide (fun W (hW : Below wo.heap.size wo W) => hO.out.next hW hO.out.lt)
      clear hpb hpa
      go_cut [11] (fun s wx => ∃ g, s = .pointer (some ⟨g, 0, none⟩) ∧ wo.heap.size ≤ g ∧ Below wo.heap.size wo wx ∧ wx.heap[g]? = some (.cells (RW.lnl (p, pb, pa)).toArray 61 (0, 0)))
      case first =>
        refine wp_region_k (fun _ W => Below wo.heap.size wo W) (fun _ => True) [4, 8, 10, 11] (.op 0 (.op 1 (.op 2 (.op 3 (.op 5 (.op 6 (.op 7 (.fork 4 (.fork 8 (.op 9 (.op 10 (.op 11 .nil))) 10 (.op 8 (.op 9 (.op 11 .nil)))) 10 (.op 4 (.op 8 (.op 9 (.op 11 .nil)))))))))))) (by kernel_rfl) (by kernel_rfl) (by rfl) (by kernel_rfl) (Below.refl wo.heap.size wo).drew trivial ?_
        refine k_val (.int .i64 p) (by apply opN; repeat' (first | apply OpAt.z | apply OpAt.s)) (by rfl) (by rfl) (fun _ W hS => op_mv rfl rfl) ?_
        simp only [Act.put, List.setIfInBounds_toArray, List.set_cons_zero, List.set_cons_succ]
        refine k_val (.agg (bks zb (.slice ab nb cb))) (by apply opN; repeat' (first | apply OpAt.z | apply OpAt.s)) (by rfl) (by rfl) (fun _ W hS => op_ld rfl rfl (bk_ld (hr0.out W hS).b0)) ?_
        simp only [Act.put, List.setIfInBounds_toArray, List.set_cons_zero, List.set_cons_succ]
        refine k_val (.int .i64 h) (by apply opN; repeat' (first | apply OpAt.z | apply OpAt.s)) (by rfl) (by rfl) (fun _ W hS => op_ld rfl rfl (int_ld (cellAt (hr0.out W hS).b2 0))) ?_
        simp only [Act.put, List.setIfInBounds_toArray, List.set_cons_zero, List.set_cons_succ]
        refine k_val (.int .i64 p) (by apply opN; repeat' (first | apply OpAt.z | apply OpAt.s)) (by rfl) (by rfl) (fun _ W hS => op_mv rfl rfl) ?_
        simp only [Act.put, List.setIfInBounds_toArray, List.set_cons_zero, List.set_cons_succ]
        refine k_val (.agg (bks za (.slice aa na ca))) (by apply opN; repeat' (first | apply OpAt.z | apply OpAt.s)) (by rfl) (by rfl) (fun _ W hS => op_ld rfl rfl (bk_ld (hr0.out W hS).b1)) ?_
        simp only [Act.put, List.setIfInBounds_toArray, List.set_cons_zero, List.set_cons_succ]
        refine k_val (.int .i64 h) (by apply opN; repeat' (first | apply OpAt.z | apply OpAt.s)) (by rfl) (by rfl) (fun _ W hS => op_ld rfl rfl (int_ld (cellAt (hr0.out W hS).b2 0))) ?_
        simp only [Act.put, List.setIfInBounds_toArray, List.set_cons_zero, List.set_cons_succ]
        refine k_val (.int .i64 p) (by apply opN; repeat' (first | apply OpAt.z | apply OpAt.s)) (by rfl) (by rfl) (fun _ W hS => op_mv rfl rfl) ?_
        simp only [Act.put, List.setIfInBounds_toArray, List.set_cons_zero, List.set_cons_succ]
        refine h_fork ?_ ?_
        · refine k_one (fun K' u => u = .int .i64 pb ∧ K' = fun _ => True) (by apply opN; repeat' (first | apply OpAt.z | apply OpAt.s)) (by rfl) (by rfl) (by rfl) (fun W hC hK => ?_) ?_
          · refine op_x3 rfl rfl rfl rfl rfl cf_paid ?_
            refine (hc1.out W hC).mono ?_
            rintro e W' ⟨rfl, h5⟩
            exact ⟨_, rfl, hC.trans (h5.mono hC.size), _, trivial, rfl, rfl⟩
          rintro _ _ ⟨rfl, rfl⟩
          simp only [Act.put, List.setIfInBounds_toArray, List.set_cons_zero, List.set_cons_succ]
          refine h_fork ?_ ?_
          · refine k_one (fun K' u => u = .int .i64 pa ∧ K' = fun _ => True) (by apply opN; repeat' (first | apply OpAt.z | apply OpAt.s)) (by rfl) (by rfl) (by rfl) (fun W hC hK => ?_) ?_
            · refine op_x3 rfl rfl rfl rfl rfl cf_paid ?_
              refine (hc2.out W hC).mono ?_
              rintro e W' ⟨rfl, h5⟩
              exact ⟨_, rfl, hC.trans (h5.mono hC.size), _, trivial, rfl, rfl⟩
            rintro _ _ ⟨rfl, rfl⟩
            simp only [Act.put, List.setIfInBounds_toArray, List.set_cons_zero, List.set_cons_succ]
            refine k_val (.agg #[.int .i64 p, .int .i64 pb, .int .i64 pa]) (by apply opN; repeat' (first | apply OpAt.z | apply OpAt.s)) (by rfl) (by rfl) (fun _ W hS => op_bl rfl rfl rfl rfl) ?_
            simp only [Act.put, List.setIfInBounds_toArray, List.set_cons_zero, List.set_cons_succ]
            refine k_step (fun K' u => ∃ g, u = .pointer (some ⟨g, 0, none⟩) ∧ K' = fun W => wo.heap.size ≤ g ∧ W.heap[g]? = some (.cells #[.int .i64 0, .int .i64 0, .int .i64 0] 61 (0, 0))) (by apply opN; repeat' (first | apply OpAt.z | apply OpAt.s)) (by rfl) (by rfl) (by rfl) (fun W hC hK => ?_) ?_
            · exact xup_val (op_al rfl (al_ln W)) ⟨alloc_bel hC (Nat.le_refl _) _, _, ⟨hC.size, alloc_at1 W _⟩, W.heap.size, rfl, rfl⟩
            rintro _ _ ⟨g, rfl, rfl⟩
            simp only [Act.put, List.setIfInBounds_toArray, List.set_cons_zero, List.set_cons_succ]
            refine k_step (fun K' u => K' = fun W => wo.heap.size ≤ g ∧ W.heap[g]? = some (.cells (RW.lnl (p, pb, pa)).toArray 61 (0, 0))) (by apply opN; repeat' (first | apply OpAt.z | apply OpAt.s)) (by rfl) (by rfl) (by rfl) (fun W hC hK => ?_) ?_
            · obtain ⟨W', r1, r2, r3⟩ := ln_st hK.2 (p, pb, pa)
              exact xup_skip (op_st rfl rfl rfl r1) ⟨r3 _ _ hC (Nat.le_refl _) hK.1, _, ⟨hK.1, r2⟩, rfl⟩
            rintro _ _ rfl
            simp only [Act.put]
            refine k_nil ?_
            intro W hC hK
            have hG9 := hide (show ∃ g', (Value.pointer (some ⟨g, 0, none⟩)) = .pointer (some ⟨g', 0, none⟩) ∧ wo.heap.size ≤ g' ∧ Below wo.heap.size wo W ∧ W.heap[g']? = some (.cells (RW.lnl (p, pb, pa)).toArray 61 (0, 0)) from ⟨g, rfl, hK.1, hC, hK.2⟩)
            clear hC hK
            go_wp2
            all_goals go_meet
            all_goals exact hG9.out
          · refine k_one (fun K' u => ∃ g, u = .pointer (some ⟨g, 0, none⟩) ∧ K' = fun W => wo.heap.size ≤ g ∧ W.heap[g]? = some (.cells #[.int .i64 0, .int .i64 0, .int .i64 0] 61 (0, 0))) (by apply opN; repeat' (first | apply OpAt.z | apply OpAt.s)) (by rfl) (by rfl) (by rfl) (fun W hC hK => ?_) ?_
            · exact xup_val (op_al rfl (al_ln W)) ⟨alloc_bel hC (Nat.le_refl _) _, _, ⟨hC.size, alloc_at1 W _⟩, W.heap.size, rfl, rfl⟩
            rintro _ _ ⟨g, rfl, rfl⟩
            simp only [Act.put, List.setIfInBounds_toArray, List.set_cons_zero, List.set_cons_succ]
            refine k_step (fun K' u => u = .int .i64 pa ∧ K' = fun W => wo.heap.size ≤ g ∧ W.heap[g]? = some (.cells #[.int .i64 0, .int .i64 0, .int .i64 0] 61 (0, 0))) (by apply opN; repeat' (first | apply OpAt.z | apply OpAt.s)) (by rfl) (by rfl) (by rfl) (fun W hC hK => ?_) ?_
            · refine op_x3 rfl rfl rfl rfl rfl cf_paid ?_
              refine (hc2.out W hC).mono ?_
              rintro e W' ⟨rfl, h5⟩
              exact ⟨_, rfl, hC.trans (h5.mono hC.size), _, ⟨hK.1, (h5.block _ (Array.getElem?_eq_some_iff.1 hK.2).1).trans hK.2⟩, rfl, rfl⟩
            rintro _ _ ⟨rfl, rfl⟩
            simp only [Act.put, List.setIfInBounds_toArray, List.set_cons_zero, List.set_cons_succ]
            refine k_val (.agg #[.int .i64 p, .int .i64 pb, .int .i64 pa]) (by apply opN; repeat' (first | apply OpAt.z | apply OpAt.s)) (by rfl) (by rfl) (fun _ W hS => op_bl rfl rfl rfl rfl) ?_
            simp only [Act.put, List.setIfInBounds_toArray, List.set_cons_zero, List.set_cons_succ]
            refine k_step (fun K' u => K' = fun W => wo.heap.size ≤ g ∧ W.heap[g]? = some (.cells (RW.lnl (p, pb, pa)).toArray 61 (0, 0))) (by apply opN; repeat' (first | apply OpAt.z | apply OpAt.s)) (by rfl) (by rfl) (by rfl) (fun W hC hK => ?_) ?_
            · obtain ⟨W', r1, r2, r3⟩ := ln_st hK.2 (p, pb, pa)
              exact xup_skip (op_st rfl rfl rfl r1) ⟨r3 _ _ hC (Nat.le_refl _) hK.1, _, ⟨hK.1, r2⟩, rfl⟩
            rintro _ _ rfl
            simp only [Act.put]
            refine k_nil ?_
            intro W hC hK
            have hG9 := hide (show ∃ g', (Value.pointer (some ⟨g, 0, none⟩)) = .pointer (some ⟨g', 0, none⟩) ∧ wo.heap.size ≤ g' ∧ Below wo.heap.size wo W ∧ W.heap[g']? = some (.cells (RW.lnl (p, pb, pa)).toArray 61 (0, 0)) from ⟨g, rfl, hK.1, hC, hK.2⟩)
            clear hC hK
            go_wp2
            all_goals go_meet
            all_goals exact hG9.out
        · refine k_one (fun K' u => ∃ g, u = .pointer (some ⟨g, 0, none⟩) ∧ K' = fun W => wo.heap.size ≤ g ∧ W.heap[g]? = some (.cells #[.int .i64 0, .int .i64 0, .int .i64 0] 61 (0, 0))) (by apply opN; repeat' (first | apply OpAt.z | apply OpAt.s)) (by rfl) (by rfl) (by rfl) (fun W hC hK => ?_) ?_
          · exact xup_val (op_al rfl (al_ln W)) ⟨alloc_bel hC (Nat.le_refl _) _, _, ⟨hC.size, alloc_at1 W _⟩, W.heap.size, rfl, rfl⟩
          rintro _ _ ⟨g, rfl, rfl⟩
          simp only [Act.put, List.setIfInBounds_toArray, List.set_cons_zero, List.set_cons_succ]
          refine k_step (fun K' u => u = .int .i64 pb ∧ K' = fun W => wo.heap.size ≤ g ∧ W.heap[g]? = some (.cells #[.int .i64 0, .int .i64 0, .int .i64 0] 61 (0, 0))) (by apply opN; repeat' (first | apply OpAt.z | apply OpAt.s)) (by rfl) (by rfl) (by rfl) (fun W hC hK => ?_) ?_
          · refine op_x3 rfl rfl rfl rfl rfl cf_paid ?_
            refine (hc1.out W hC).mono ?_
            rintro e W' ⟨rfl, h5⟩
            exact ⟨_, rfl, hC.trans (h5.mono hC.size), _, ⟨hK.1, (h5.block _ (Array.getElem?_eq_some_iff.1 hK.2).1).trans hK.2⟩, rfl, rfl⟩
          rintro _ _ ⟨rfl, rfl⟩
          simp only [Act.put, List.setIfInBounds_toArray, List.set_cons_zero, List.set_cons_succ]
          refine k_step (fun K' u => u = .int .i64 pa ∧ K' = fun W => wo.heap.size ≤ g ∧ W.heap[g]? = some (.cells #[.int .i64 0, .int .i64 0, .int .i64 0] 61 (0, 0))) (by apply opN; repeat' (first | apply OpAt.z | apply OpAt.s)) (by rfl) (by rfl) (by rfl) (fun W hC hK => ?_) ?_
          · refine op_x3 rfl rfl rfl rfl rfl cf_paid ?_
            refine (hc2.out W hC).mono ?_
            rintro e W' ⟨rfl, h5⟩
            exact ⟨_, rfl, hC.trans (h5.mono hC.size), _, ⟨hK.1, (h5.block _ (Array.getElem?_eq_some_iff.1 hK.2).1).trans hK.2⟩, rfl, rfl⟩
          rintro _ _ ⟨rfl, rfl⟩
          simp only [Act.put, List.setIfInBounds_toArray, List.set_cons_zero, List.set_cons_succ]
          refine k_val (.agg #[.int .i64 p, .int .i64 pb, .int .i64 pa]) (by apply opN; repeat' (first | apply OpAt.z | apply OpAt.s)) (by rfl) (by rfl) (fun _ W hS => op_bl rfl rfl rfl rfl) ?_
          simp only [Act.put, List.setIfInBounds_toArray, List.set_cons_zero, List.set_cons_succ]
          refine k_step (fun K' u => K' = fun W => wo.heap.size ≤ g ∧ W.heap[g]? = some (.cells (RW.lnl (p, pb, pa)).toArray 61 (0, 0))) (by apply opN; repeat' (first | apply OpAt.z | apply OpAt.s)) (by rfl) (by rfl) (by rfl) (fun W hC hK => ?_) ?_
          · obtain ⟨W', r1, r2, r3⟩ := ln_st hK.2 (p, pb, pa)
            exact xup_skip (op_st rfl rfl rfl r1) ⟨r3 _ _ hC (Nat.le_refl _) hK.1, _, ⟨hK.1, r2⟩, rfl⟩
          rintro _ _ rfl
          simp only [Act.put]
          refine k_nil ?_
          intro W hC hK
          have hG9 := hide (show ∃ g', (Value.pointer (some ⟨g, 0, none⟩)) = .pointer (some ⟨g', 0, none⟩) ∧ wo.heap.size ≤ g' ∧ Below wo.heap.size wo W ∧ W.heap[g']? = some (.cells (RW.lnl (p, pb, pa)).toArray 61 (0, 0)) from ⟨g, rfl, hK.1, hC, hK.2⟩)
          clear hC hK
          go_wp2
          all_goals go_meet
          all_goals exact hG9.out
      case rest =>
      obtain ⟨g, rfl, hgl, hBx, hgx⟩ := hcut
      have hgxH := hide hgx
      have hglH := hide hgl
      have c1 : wc.cell? ⟨g, 1, none⟩ = some (.int .i64 pb) := cellAt hgx 1
      have c2 : wc.cell? ⟨g, 2, none⟩ = some (.int .i64 pa) := cellAt hgx 2
      have hOx := hide (hr0.out wc hBx)
      have hGx := (hBx.block _ (Array.getElem?_eq_some_iff.1 hG.out).1).trans hG.out
      have hLx := hide (hL.out.next hBx)
      have hPx := hide (hPs.out.next hBx)
      have hszx := hide (Nat.le_trans hsz.out hBx.size)
      clear hBx hgx hgl hPs hL hO hG hr0 hc1 hc2 hcell
      by_cases hd : pb = pa
      · have hf := hide (show RW.dif (p, pb, pa) = false by unfold RW.dif; exact decide_eq_false (fun e => e hd))
        have hGH := hide hGx
        subst hd
        clear hGx
        go_wp2
        go_roundw
        case rel => exact ⟨j + 1, v, by go_num, by omega, hOx.out, hGH.out, by rw [hsn.out, hf.out, if_neg (by decide), List.append_nil]; exact hLx.out, hPx.out, hszx.out⟩
        case measure => simp [intOf]; omega
      · have ht := hide (show RW.dif (p, pb, pa) = true by unfold RW.dif; exact decide_eq_true hd)
        have e4 : wc.cell? ⟨B4, 2, none⟩ = some v := cellAt hGx 2
        have hrow : wc.rangeAt g 0 (RW.lnl (p, pb, pa)) := fun i u hu => by rw [Nat.zero_add]; exact (cellAt hgxH.out i).trans (by rw [List.getElem?_toArray]; exact hu)
        have hps := ln_size (p, pb, pa)
        have hl3 : (RW.lnl (p, pb, pa)).length = 3 := rfl
        obtain ⟨v8, w8, hrun, hL8, hB8⟩ := hLx.out.appNew (p, pb, pa) hlen.out hszx.out
        have hL8H := hide hL8
        have hB8H := hide hB8
        have hG8 := hide ((hB8.block _ hlt4.out).trans hGx)
        have f4 : w8.cell? ⟨B4, 2, none⟩ = some v := cellAt hG8.out 2
        have f4f : w8.frozen? ⟨B4, 2, none⟩ = false := by simp [World.frozen?, hG8.out]
        obtain ⟨a8, n8, hv8⟩ : ∃ a n, v8 = .slice a (RW.lnsP lb la h (ps.take j) ++ [(p, pb, pa)]).length n := lnl_block hL8
        obtain ⟨q8, hq8⟩ : ∃ q, q = (RW.lnsP lb la h (ps.take j) ++ [(p, pb, pa)]).length := ⟨_, rfl⟩
        rw [← hq8] at hv8
        subst hv8
        obtain ⟨av0, cv0, hv0⟩ := lnl_block hLx.out
        obtain ⟨q0, hq0⟩ : ∃ q, q = (RW.lnsP lb la h (ps.take j)).length := ⟨_, rfl⟩
        rw [← hq0] at hv0
        subst hv0
        clear hL8 hB8 hGx hq8 hq0
        go_wp2_with (first
          | (refine wpList_load_mid rfl 61 (.tmp 11) rfl g 0 rfl (RW.lnl (p, pb, pa)) _ hrow Try.underlying61 rfl hps ?_)
          | (at_builtin; refine wpList_app_run rfl (.tmp 45) (.tmp 47) rfl rfl rfl hrun ?_))
        have hset : (w8.setCell ⟨B4, 2, none⟩ (.slice a8 q8 n8)).heap[B4]? = some (.cells #[.int .i64 h, .int .i64 za, .slice a8 q8 n8] 39 (0, 0)) := (heap_setCell_same _ _ _ _ _ _ hG8.out).trans rfl
        have hkeep : ∀ k, k ≠ B4 → (w8.setCell ⟨B4, 2, none⟩ (.slice a8 q8 n8)).heap[k]? = w8.heap[k]? := fun k hk => Below.heap_setCell _ _ _ _ hk
        have hO8 := hOx.out.next hB8H.out (by have := hlt.out; have := hlt4.out; omega)
        have hlt' := hlt.out
        have hlt4' := hlt4.out
        go_roundw
        case rel => exact ⟨j + 1, _, by go_num, by omega, ⟨(hkeep _ (by omega)).trans hO8.b0, (hkeep _ (by omega)).trans hO8.b1, (hkeep _ (by omega)).trans hO8.b2, (hkeep _ (by omega)).trans hO8.b3, hO8.bel.setCell (p := ⟨B4, 2, none⟩) (by show B ≤ B4; omega) _⟩, hset, by rw [hsn.out, ht.out, if_pos rfl]; exact own_keep hL8H.out fun g hg => hkeep g (by have := (own_block hL8H.out hg).1; omega), own_keep hPx.out (fun g hg => by
          have h1 := hown.out g hg
          have h2 := hlq.out
          exact (hkeep g (by omega)).trans (hB8H.out.block g h1.2)), by rw [show (w8.setCell ⟨B4, 2, none⟩ (.slice a8 q8 n8)).heap.size = w8.heap.size by simp [World.setCell]]; exact Nat.le_trans hszx.out hB8H.out.size⟩
        case measure => simp [intOf]; omega
    · obtain rfl : m = j := by omega
      have hL2 := hide (show LnsO wo w3s v (RW.lns lb la h) by
        have h1 := hL.out
        rw [List.take_of_length_le (by rw [← hmH.out]; exact Nat.le_refl _), hpsH.out] at h1
        exact h1)
      obtain ⟨a9, n9, hv9⟩ := lnl_block hL2.out
      obtain ⟨q9, hq9⟩ : ∃ q, q = (RW.lns lb la h).length := ⟨_, rfl⟩
      rw [← hq9] at hv9
      subst hv9
      clear hq9
      have g4 := hG.out
      have g3 := hO.out.b3
      have hi : (Try.prog.info? 39).map (·.size) = some (#[Value.int .i64 h, .int .i64 za, .slice a9 q9 n9] : Array Value).size := st_size (h, za, .slice a9 q9 n9)
      have hone : (#[Value.int .i64 h, .int .i64 za, .slice a9 q9 n9] : Array Value).all (·.oneCell') = true := by simp; exact ⟨rfl, rfl, rfl⟩
      go_wp2_with (first
        | (refine wpList_load_row rfl 39 (.tmp 7) rfl B4 rfl 39 _ (0, 0) _ g4 Try.underlying39 rfl hi ?_)
        | (refine wpList_store_row rfl 39 (.tmp 6) (.tmp 51) rfl (B + 1 + 1 + 1) #[.int .i64 h, .int .i64 za, .slice a9 q9 n9] rfl rfl 39 _ g3 hi rfl hone ?_))
      have hlt' := hlt.out
      have hlt4' := hlt4.out
      refine bodyPost_ret (results_cell_row rfl _ _ (B + 1 + 1 + 1) 39 #[.int .i64 h, .int .i64 za, .slice a9 q9 n9] (0, 0) _ rfl (setRow_heap _ _ _ _ _ _ hO.out.b3) Try.underlying39 rfl hi) rfl ⟨.slice a9 q9 n9, rfl, ?_, ?_⟩
      · exact own_base (own_setRow hL2.out _ (by omega) _) (by omega)
      · exact belowSetRow (hBH.out ▸ hO.out.bel) (by omega) _
end Go.Proofs.Ytillplhadimgmaa
