/-
  Package royaltyref10: Cluster: what it returns; only new memory is written.
-/
import Derived.Test.YtbmlfejlmedmgaaG16
import Derived.Test.YtbmlfejlmedmgaaGP4
import Derived.Test.YtbmlfejlmedmgaaG14
namespace Go.Proofs.Ytbmlfejlmedmgaa
open Go.RowKit RG
namespace RW
/-- accounts and devices of the cluster of x, not all of them yet -/
structure Sbs (l : List Ed) (x : Int) (X Y : List Int) : Prop where
  ux : X.Pairwise (· < ·)
  uy : Y.Pairwise (· < ·)
  ix : ∀ a ∈ X, a ∈ cAcc l x
  iy : ∀ d ∈ Y, d ∈ cDev l x
  ct : x ∈ accs l → x ∈ X
def Cls (l : List Ed) (X Y : List Int) : Prop := ∀ e ∈ l, e.1 ∈ X ↔ e.2 ∈ Y
theorem cAcc_up (l : List Ed) (x : Int) : (cAcc l x).Pairwise (· < ·) := by
  unfold cAcc
  split
  · exact (asc_up _).filter _
  · exact List.Pairwise.nil
theorem cDev_up (l : List Ed) (x : Int) : (cDev l x).Pairwise (· < ·) := by
  unfold cDev
  split
  · exact (asc_up _).filter _
  · exact List.Pairwise.nil
theorem Sbs.done {l : List Ed} {x : Int} {X Y : List Int} (h : Sbs l x X Y) (hc : Cls l X Y) : X = cAcc l x ∧ Y = cDev l x := by
  obtain ⟨S, hS⟩ : ∃ S : Nd → Prop, S = fun u => if u.1 = true then u.2 ∈ Y else u.2 ∈ X := ⟨_, rfl⟩
  have h1 : ∀ u v, Cn l u v → (S u ↔ S v) := fun u v c => by
    induction c with
    | refl u => exact Iff.rfl
    | edge e he => rw [hS]; exact hc e he
    | symm _ ih => exact ih.symm
    | trans _ _ ih1 ih2 => exact ih1.trans ih2
  have sx : ∀ a, S (false, a) ↔ a ∈ X := fun a => by rw [hS]; exact Iff.rfl
  have sy : ∀ a, S (true, a) ↔ a ∈ Y := fun a => by rw [hS]; exact Iff.rfl
  constructor
  · refine asc_eq h.ux (cAcc_up l x) fun a => ⟨h.ix a, fun ha => ?_⟩
    obtain ⟨k1, _, k3⟩ := mem_cAcc.1 ha
    exact (sx a).1 ((h1 _ _ ((conn_iff l _ _).1 k3)).2 ((sx x).2 (h.ct k1)))
  · refine asc_eq h.uy (cDev_up l x) fun a => ⟨h.iy a, fun ha => ?_⟩
    obtain ⟨k1, _, k3⟩ := mem_cDev.1 ha
    exact (sy a).1 ((h1 _ _ ((conn_iff l _ _).1 k3)).2 ((sx x).2 (h.ct k1)))
theorem Sbs.dev {l : List Ed} {x : Int} {X Y : List Int} (h : Sbs l x X Y) {e : Ed} (he : e ∈ l) (h1 : e.1 ∈ X) : Sbs l x X (ins Y e.2) := by
  refine ⟨h.ux, asc_ins h.uy, h.ix, fun d hd => ?_, h.ct⟩
  rcases mem_ins.1 hd with hd | rfl
  · exact h.iy d hd
  · obtain ⟨k1, _, k3⟩ := mem_cAcc.1 (h.ix _ h1)
    exact mem_cDev.2 ⟨k1, mem_devs.2 ⟨e, he, rfl⟩, (edge_conn l e he).symm.trans k3⟩
theorem Sbs.acc {l : List Ed} {x : Int} {X Y : List Int} (h : Sbs l x X Y) {e : Ed} (he : e ∈ l) (h1 : e.2 ∈ Y) : Sbs l x (ins X e.1) Y := by
  refine ⟨asc_ins h.ux, h.uy, fun d hd => ?_, h.iy, fun hx => mem_ins.2 (.inl (h.ct hx))⟩
  rcases mem_ins.1 hd with hd | rfl
  · exact h.ix d hd
  · obtain ⟨k1, _, k3⟩ := mem_cDev.1 (h.iy _ h1)
    exact mem_cAcc.2 ⟨k1, mem_accs.2 ⟨e, he, rfl⟩, (edge_conn l e he).trans k3⟩
theorem ins_new {l : List Int} {n : Int} (h : l.Pairwise (· < ·)) (hn : n ∉ l) : (ins l n).length = l.length + 1 := by
  have hp : (ins l n).Perm (n :: l) := (List.perm_ext_iff_of_nodup (asc_nodup (asc_ins h)) (List.nodup_cons.2 ⟨hn, asc_nodup h⟩)).2 fun x => by
    rw [mem_ins, List.mem_cons]
    exact or_comm
  rw [hp.length_eq, List.length_cons]
theorem asc_sub_len {X C : List Int} (hX : X.Pairwise (· < ·)) (hC : C.Pairwise (· < ·)) (h : ∀ a ∈ X, a ∈ C) : X.length ≤ C.length := by
  have : X = C.filter fun a => X.contains a := asc_eq hX (hC.filter _) fun a => by
    rw [List.mem_filter, List.contains_iff_mem]
    exact ⟨fun ha => ⟨h a ha, ha⟩, fun ha => ha.2⟩
  rw [this]
  exact List.length_filter_le _ _
theorem Sbs.len {l : List Ed} {x : Int} {X Y : List Int} (h : Sbs l x X Y) (hl : l.length ≤ 1000) : X.length ≤ 1000 ∧ Y.length ≤ 1000 := by
  have h1 := asc_sub_len h.ux (cAcc_up l x) h.ix
  have h2 := asc_sub_len h.uy (cDev_up l x) h.iy
  have h3 : (cAcc l x).length ≤ l.length := by
    have := asc_len (l.map (·.1))
    rw [List.length_map] at this
    unfold cAcc
    split
    · exact Nat.le_trans (List.length_filter_le _ _) this
    · exact Nat.zero_le _
  have h4 : (cDev l x).length ≤ l.length := by
    have := asc_len (l.map (·.2))
    rw [List.length_map] at this
    unfold cDev
    split
    · exact Nat.le_trans (List.length_filter_le _ _) this
    · exact Nat.zero_le _
  omega
/-- the account alone, if it occurs -/
def one (l : List Ed) (x : Int) : List Int := if l.any (fun e => decide (e.1 = x)) = true then [x] else []
theorem one_snoc (l : List Ed) (e : Ed) (x : Int) : one (l ++ [e]) x = if e.1 = x then [x] else one l x := by
  unfold one
  rw [List.any_append]
  by_cases h : e.1 = x
  · rw [if_pos h, if_pos (by simp [h])]
  · rw [if_neg h]
    have h2 : [e].any (fun e => decide (e.1 = x)) = false := by
      rw [List.any_cons, decide_eq_false h]
      rfl
    rw [h2, Bool.or_false]
theorem one_sbs (l : List Ed) (x : Int) : Sbs l x (one l x) [] := by
  have hm : ∀ a, a ∈ one l x ↔ a = x ∧ x ∈ accs l := fun a => by
    unfold one
    rw [mem_accs]
    by_cases h : l.any (fun e => decide (e.1 = x)) = true
    · rw [if_pos h, List.mem_singleton]
      obtain ⟨e, he, hq⟩ := List.any_eq_true.1 h
      exact ⟨fun q => ⟨q, e, he, by simpa using hq⟩, fun q => q.1⟩
    · rw [if_neg h]
      exact ⟨fun q => (by cases q), fun q => absurd (by obtain ⟨_, e, he, hq⟩ := q; exact List.any_eq_true.2 ⟨e, he, by simpa using hq⟩) h⟩
  refine ⟨?_, List.Pairwise.nil, fun a ha => ?_, fun d hd => (by cases hd), fun hx => (hm x).2 ⟨rfl, hx⟩⟩
  · unfold one
    split
    · simp
    · exact List.Pairwise.nil
  · obtain ⟨rfl, hx⟩ := (hm a).1 ha
    exact mem_cAcc.2 ⟨hx, hx, rfl⟩
end RW
/-- the length of a slice value -/
def lenV : Value → Nat
  | .slice _ n _ => n
  | _ => 0
theorem RowV.lenV {W : World} {v : Value} {l : List Int} (h : RowV 1 encI W v l) : Go.Proofs.Ytbmlfejlmedmgaa.lenV v = l.length := by
  obtain ⟨a, c, rfl, _⟩ := h
  rfl
def boolV : Value → Nat
  | .bool true => 1
  | _ => 0
set_option maxRecDepth 10000 in
set_option maxHeartbeats 8000000 in
theorem rcluster_any (v : Value) (l : List RW.Ed) (x : Int) (hl : l.length ≤ 400) (w : World) (hv : RowV 2 RW.edl w v l) :
    Calls Try.prog 12 #[v, .int .i64 x] w fun e w' => ∃ u1 u2, e = .returned (.tuple #[u1, u2]) ∧ IntsO w' w.heap.size u1 (RW.cAcc l x) ∧ IntsO w' w.heap.size u2 (RW.cDev l x) ∧ Below w.heap.size w w' := by
  obtain ⟨av, cv, rfl, _, hav⟩ := hv
  obtain ⟨m, hm⟩ : ∃ m, m = l.length := ⟨_, rfl⟩
  have hmH := hide hm
  have hl1 := hide (show l.length ≤ 1000 by omega)
  rw [← hm] at hl
  obtain ⟨B, hB⟩ : ∃ B, B = w.heap.size := ⟨_, rfl⟩
  have hBH := hide hB
  have hsz := hide (fun W (h : Below B w W) => (show B ≤ W.heap.size by rw [hB]; exact hB ▸ h.size))
  have hpin := hide (fun (j : Nat) (e : RW.Ed) (he : l[j]? = some e) => rowV_pin (show RowV 2 RW.edl w (.slice av l.length cv) l from ⟨av, cv, rfl, by assumption, hav⟩) he)
  rw [← hm, ← hB]
  clear hm hav hB
  go_enter Try.func12, Try.ntmps12
  go_wp2
  go_loopw [6, 8] (fun u i wr => ∃ j : Nat, i = .int .i64 j ∧ j ≤ m ∧ Hid (IntsO wr B u (RW.one (l.take j) x) ∧ Below B w wr)) (fun _ i _ => m - (intOf i).toNat)
  case atStart => exact ⟨0, rfl, Nat.zero_le _, IntsO.nil _ _, by rw [hBH.out]; exact Below.refl _ _⟩
  case round =>
    obtain ⟨j, rfl, hj, hQ⟩ := hrel
    obtain ⟨wo, hwo⟩ : ∃ wo, wo = wr := ⟨_, rfl⟩
    subst hwo
    have hO := hide hQ.out.1
    have hBw := hide hQ.out.2
    clear hQ
    by_cases hjm : j < m
    · obtain ⟨⟨ac, dv⟩, hx⟩ : ∃ x, l[j]? = some x := ⟨_, List.getElem?_eq_getElem (by rw [← hmH.out]; exact hjm)⟩
      obtain ⟨be, oe, rfl, pe⟩ := hpin.out j _ hx
      have e0 : wo.cell? ⟨be, oe + j * 2, none⟩ = some (.int .i64 ac) := pe wo (hBH.out ▸ hBw.out) 0 _ rfl
      have htk := hide (show RW.one (l.take (j + 1)) x = if ac = x then [x] else RW.one (l.take j) x by rw [List.take_add_one, hx]; exact RW.one_snoc _ _ _)
      clear hx pe
      by_cases hax : ac = x
      · have hlit := hide (show IntsO (wo.alloc (.cells #[.int .i64 x] 3)) B (.slice (some ⟨wo.heap.size, 0, none⟩) 1 1) [x] from ⟨rfl, .inr ⟨wo.heap.size, 1, _, rfl, hsz.out wo hBw.out, alloc_at1 _ _, Nat.le_refl _, by unfold maxLen; omega, rfl, rfl⟩⟩)
        have hA := hide (hBw.out.alloc (hsz.out wo hBw.out) (.cells #[.int .i64 x] 3))
        go_wp2
        go_roundw
        case rel => exact ⟨j + 1, by go_num, by omega, by rw [htk.out, if_pos hax]; exact hlit.out, hA.out⟩
        case measure => simp [intOf]; omega
      · go_wp2
        go_roundw
        case rel => exact ⟨j + 1, by go_num, by omega, by rw [htk.out, if_neg hax]; exact hO.out, hBw.out⟩
        case measure => simp [intOf]; omega
    · obtain rfl : m = j := by omega
      have htl : l.take m = l := List.take_of_length_le (by rw [← hmH.out]; exact Nat.le_refl _)
      rw [htl] at hO
      have hS0 := hide (RW.one_sbs l x)
      clear htl
      go_wp2
      go_loopw [6, 7, 9] (fun u u2 mr wr => ∃ (X Y : List Int) (mo : Bool), mr = .bool mo ∧ IntsO wr B u X ∧ IntsO wr B u2 Y ∧ Hid (RW.Sbs l x X Y ∧ (mo = false → RW.Cls l X Y) ∧ Below B w wr)) (fun u u2 mr _ => 2 * (3000 - lenV u - lenV u2) + boolV mr)
      case atStart => exact ⟨_, [], true, rfl, hO.out, IntsO.nil _ _, hS0.out, (fun h => by cases h), hBw.out⟩
      case round =>
        obtain ⟨X, Y, mo, rfl, hX0, hY0, hQ⟩ := hrel
        obtain ⟨w4, hw4⟩ : ∃ x, x = wr := ⟨_, rfl⟩
        subst hw4
        have hS := hide hQ.out.1
        have hcl := hide hQ.out.2.1
        have hB4 := hide hQ.out.2.2
        have hX := hide hX0
        have hY := hide hY0
        have hXl := hide hX0.row.lenV
        have hYl := hide hY0.row.lenV
        clear hQ hX0 hY0
        cases mo
        · obtain ⟨d1, d2⟩ := hS.out.done (hcl.out rfl)
          have d1H := hide d1
          have d2H := hide d2
          clear d1 d2
          go_wp2
          exact bodyPost_ret (results_tmp2 rfl _ _ _) rfl ⟨_, _, rfl, d1H.out ▸ hX.out, d2H.out ▸ hY.out, hBH.out ▸ hB4.out⟩
        · clear hcl
          go_wp2
          go_loopw [6, 7, 9, 10] (fun u u2 mr i wr => ∃ (X' Y' : List Int) (mo : Bool) (j : Nat), i = .int .i64 j ∧ mr = .bool mo ∧ j ≤ m ∧ Hid (IntsO wr B u X' ∧ IntsO wr B u2 Y' ∧ RW.Sbs l x X' Y' ∧ (mo = false → X' = X ∧ Y' = Y ∧ RW.Cls (l.take j) X Y) ∧ (mo = true → X.length + Y.length < X'.length + Y'.length) ∧ Below B w wr)) (fun _ _ _ i _ => m - (intOf i).toNat)
          case atStart => exact ⟨X, Y, false, 0, rfl, rfl, Nat.zero_le _, hX.out, hY.out, hS.out, (fun _ => ⟨rfl, rfl, fun e he => by simp at he⟩), (fun h => by cases h), hB4.out⟩
          case round =>
            obtain ⟨X', Y', mo, j, rfl, rfl, hj, hQ⟩ := hrel
            obtain ⟨w5, hw5⟩ : ∃ x, x = wr := ⟨_, rfl⟩
            subst hw5
            obtain ⟨k1, k2, k3, k4, k5, k6⟩ := hQ.out
            have hX' := hide k1
            have hY' := hide k2
            have hS' := hide k3
            have hc' := hide k4
            have hl' := hide k5
            have hB5 := hide k6
            clear hQ
            by_cases hjm : j < m
            · obtain ⟨au, cu, rfl⟩ := k1.form
              obtain ⟨ad, cd, rfl⟩ := k2.form
              clear k1 k2 k3 k4 k5 k6
              obtain ⟨nu, hnu⟩ : ∃ n, n = X'.length := ⟨_, rfl⟩
              obtain ⟨nd, hnd⟩ : ∃ n, n = Y'.length := ⟨_, rfl⟩
              have hnuH := hide hnu
              have hndH := hide hnd
              have hXr := hide hX'.out.row
              rw [← hnu] at hXr
              have hYr := hide hY'.out.row
              rw [← hnd] at hYr
              rw [← hnu, ← hnd]
              clear hnu hnd
              obtain ⟨⟨ac, dv⟩, hx⟩ : ∃ x, l[j]? = some x := ⟨_, List.getElem?_eq_getElem (by rw [← hmH.out]; exact hjm)⟩
              obtain ⟨be, oe, rfl, pe0⟩ := hpin.out j _ hx
              have pe := hide pe0
              have e0 : w5.cell? ⟨be, oe + j * 2, none⟩ = some (.int .i64 ac) := pe0 w5 (hBH.out ▸ hB5.out) 0 _ rfl
              have e1 : w5.cell? ⟨be, oe + j * 2 + 1, none⟩ = some (.int .i64 dv) := pe0 w5 (hBH.out ▸ hB5.out) 1 _ rfl
              have hmem := hide (List.mem_of_getElem? hx)
              have htk := hide (show l.take (j + 1) = l.take j ++ [(ac, dv)] by rw [List.take_add_one, hx]; rfl)
              have hle := hide (hS'.out.len hl1.out)
              have hH1 := hide (has_any _ X' ac (by have := hle.out.1; omega) w5 hXr.out)
              have hH2 := hide (has_any _ Y' dv (by have := hle.out.2; omega) w5 hYr.out)
              clear hx pe0
              cases ho : X'.contains ac with
              | true =>
                have h1 := List.contains_iff_mem.1 ho
                cases ht : Y'.contains dv with
                | true =>
                  have h2 := List.contains_iff_mem.1 ht
                  rw [ho] at hH1
                  rw [ht] at hH2
                  have h1H := hide h1
                  have h2H := hide h2
                  clear ho ht h1 h2
                  go_upto_region 15 with (go_at_call 21; refine hH1.out.mono ?_; rintro e w' ⟨rfl, rfl⟩)
                  go_wp2_with (go_at_call 21; refine hH2.out.mono ?_; rintro e w' ⟨rfl, rfl⟩)
                  go_roundw
                  case rel => exact ⟨X', Y', mo, j + 1, by go_num, rfl, by omega, (by rw [hnuH.out]; exact hX'.out), (by rw [hndH.out]; exact hY'.out), hS'.out, (fun h => by
                    obtain ⟨a1, a2, a3⟩ := hc'.out h
                    refine ⟨a1, a2, fun e he => ?_⟩
                    rw [htk.out, List.mem_append, List.mem_singleton] at he
                    rcases he with he | rfl
                    · exact a3 e he
                    · exact ⟨fun _ => a2 ▸ h2H.out, fun _ => a1 ▸ h1H.out⟩), hl'.out, hB5.out⟩
                  case measure => simp [intOf]; omega
                | false =>
                  have h2 : dv ∉ Y' := fun q => by rw [List.contains_iff_mem.2 q] at ht; cases ht
                  rw [ho] at hH1
                  rw [ht] at hH2
                  have hIn := hide (insert_any _ Y' dv hle.out.2 hS'.out.uy w5 hYr.out)
                  have hS2 := hide (hS'.out.dev hmem.out h1)
                  have hln := hide (RW.ins_new hS'.out.uy h2)
                  clear ho ht h1 h2
                  go_upto_region 15 with (go_at_call 21; refine hH1.out.mono ?_; rintro e w' ⟨rfl, rfl⟩)
                  go_wp2_with (first
                    | (go_at_call 21; refine hH2.out.mono ?_; rintro e w' ⟨rfl, rfl⟩)
                    | (go_at_call 25; refine hIn.out.mono ?_; rintro e w6 ⟨u6, rfl, q1, q⟩; have g1 := hide (own_base q1 (hsz.out _ hB5.out)); have g2 := hide (hX'.out.next q); have g3 := hide (hB5.out.trans (q.mono (hsz.out _ hB5.out))); clear q q1))
                  go_roundw
                  case rel => exact ⟨X', RW.ins Y' dv, true, j + 1, by go_num, rfl, by omega, (by rw [hnuH.out]; exact g2.out), g1.out, hS2.out, (fun h => by cases h), (fun _ => by
                    rw [hln.out]
                    cases mo
                    · obtain ⟨a1, a2, _⟩ := hc'.out rfl
                      rw [a1, a2]
                      omega
                    · have := hl'.out rfl
                      omega), g3.out⟩
                  case measure => simp [intOf]; omega
              | false =>
                have h1 : ac ∉ X' := fun q => by rw [List.contains_iff_mem.2 q] at ho; cases ho
                cases ht : Y'.contains dv with
                | true =>
                  have h2 := List.contains_iff_mem.1 ht
                  rw [ho] at hH1
                  rw [ht] at hH2
                  have hIn := hide (insert_any _ X' ac hle.out.1 hS'.out.ux w5 hXr.out)
                  have hS2 := hide (hS'.out.acc hmem.out h2)
                  have hln := hide (RW.ins_new hS'.out.ux h1)
                  clear ho ht h1 h2
                  go_upto_region 15 with (go_at_call 21; refine hH1.out.mono ?_; rintro e w' ⟨rfl, rfl⟩)
                  go_wp2_with (first
                    | (go_at_call 21; refine hH2.out.mono ?_; rintro e w' ⟨rfl, rfl⟩)
                    | (go_at_call 25; refine hIn.out.mono ?_; rintro e w6 ⟨u6, rfl, q1, q⟩; have g1 := hide (own_base q1 (hsz.out _ hB5.out)); have g2 := hide (hY'.out.next q); have g3 := hide (hB5.out.trans (q.mono (hsz.out _ hB5.out))); clear q q1))
                  go_roundw
                  case rel => exact ⟨RW.ins X' ac, Y', true, j + 1, by go_num, rfl, by omega, g1.out, (by rw [hndH.out]; exact g2.out), hS2.out, (fun h => by cases h), (fun _ => by
                    rw [hln.out]
                    cases mo
                    · obtain ⟨a1, a2, _⟩ := hc'.out rfl
                      rw [a1, a2]
                      omega
                    · have := hl'.out rfl
                      omega), g3.out⟩
                  case measure => simp [intOf]; omega
                | false =>
                  have h2 : dv ∉ Y' := fun q => by rw [List.contains_iff_mem.2 q] at ht; cases ht
                  rw [ho] at hH1
                  rw [ht] at hH2
                  have h1H := hide h1
                  have h2H := hide h2
                  clear ho ht h1 h2
                  go_upto_region 15 with (go_at_call 21; refine hH1.out.mono ?_; rintro e w' ⟨rfl, rfl⟩)
                  go_wp2_with (go_at_call 21; refine hH2.out.mono ?_; rintro e w' ⟨rfl, rfl⟩)
                  go_roundw
                  case rel => exact ⟨X', Y', mo, j + 1, by go_num, rfl, by omega, (by rw [hnuH.out]; exact hX'.out), (by rw [hndH.out]; exact hY'.out), hS'.out, (fun h => by
                    obtain ⟨a1, a2, a3⟩ := hc'.out h
                    refine ⟨a1, a2, fun e he => ?_⟩
                    rw [htk.out, List.mem_append, List.mem_singleton] at he
                    rcases he with he | rfl
                    · exact a3 e he
                    · exact ⟨fun q => absurd (a1 ▸ q) h1H.out, fun q => absurd (a2 ▸ q) h2H.out⟩), hl'.out, hB5.out⟩
                  case measure => simp [intOf]; omega
            · obtain rfl : m = j := by omega
              have htl : l.take m = l := List.take_of_length_le (by rw [← hmH.out]; exact Nat.le_refl _)
              rw [htl] at hc'
              have hl9 := hide (hS'.out.len hl1.out)
              have e1 := hide k1.row.lenV
              have e2 := hide k2.row.lenV
              clear htl k1 k2 k3 k4 k5 k6
              go_wp2
              go_roundw
              case rel => exact ⟨X', Y', mo, rfl, hX'.out, hY'.out, hS'.out, (fun h => by
                obtain ⟨a1, a2, a3⟩ := hc'.out h
                rw [a1, a2]
                exact a3), hB5.out⟩
              case measure =>
                rw [hXl.out, hYl.out, e1.out, e2.out]
                have := hl9.out
                cases mo
                · obtain ⟨a1, a2, _⟩ := hc'.out rfl
                  rw [a1, a2]
                  simp [boolV]
                · have := hl'.out rfl
                  simp [boolV]
                  omega
end Go.Proofs.Ytbmlfejlmedmgaa
