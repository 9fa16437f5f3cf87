/-
  Package royaltyref19: insert: what it returns; only new memory is written.
-/
import Derived.Test.YtillplhadimgmaaStA
namespace Go.Proofs.Ytillplhadimgmaa
open Go.RowKit RG
namespace RW
theorem ins_big {l : List Int} {n : Int} (h : ∀ y ∈ l, y < n) : ins l n = l ++ [n] := by
  unfold ins
  rw [List.filter_eq_self.2 fun y hy => decide_eq_true (h y hy), List.filter_eq_nil_iff.2 fun y hy => by have := h y hy; simp; omega]
theorem ins_gt {l : List Int} {n x : Int} (hx : n < x) : ins (l ++ [x]) n = ins l n ++ [x] := by
  unfold ins
  rw [List.filter_append, List.filter_append]
  have h1 : [x].filter (fun y => decide (y < n)) = [] := by
    rw [List.filter_cons, decide_eq_false (by omega)]
    rfl
  have h2 : [x].filter (fun y => decide (n < y)) = [x] := by
    rw [List.filter_cons, decide_eq_true hx]
    rfl
  rw [h1, h2, List.append_nil]
  simp
theorem ins_eq {l : List Int} {n : Int} (h : ∀ y ∈ l, y < n) : ins (l ++ [n]) n = l ++ [n] := by
  have h0 := ins_big h
  unfold ins at h0 ⊢
  rw [List.filter_append, List.filter_append]
  have h1 : [n].filter (fun y => decide (y < n)) = [] := by
    rw [List.filter_cons, decide_eq_false (by omega)]
    rfl
  have h2 : [n].filter (fun y => decide (n < y)) = [] := by
    rw [List.filter_cons, decide_eq_false (by omega)]
    rfl
  rw [h1, h2, List.append_nil, List.append_nil]
  exact h0
theorem ins_len (l : List Int) (n : Int) : (ins l n).length ≤ 2 * l.length + 1 := by
  unfold ins
  rw [List.length_append, List.length_cons]
  have h1 := List.length_filter_le (fun x => decide (x < n)) l
  have h2 := List.length_filter_le (fun x => decide (n < x)) l
  omega
/-- what insert holds behind its first rounds -/
def insS (l : List Int) (n : Int) (d : Bool) : List Int := if d = true then ins l n else l
end RW
set_option maxRecDepth 10000 in
set_option maxHeartbeats 4000000 in
theorem insert_any (v : Value) (l : List Int) (n : Int) (hl : l.length ≤ 1000) (hup : l.Pairwise (· < ·)) (w : World) (hv : RowV 1 encI w v l) :
    Calls Try.prog 28 #[v, .int .i64 n] w fun e w' => ∃ u, e = .returned u ∧ IntsO w' w.heap.size u (RW.ins l n) ∧ Below w.heap.size w w' := by
  obtain ⟨av, cv, rfl, _, hav⟩ := hv
  obtain ⟨m, hm⟩ : ∃ m, m = l.length := ⟨_, rfl⟩
  have hmH := hide hm
  have havH := hide hav
  have hupH := hide hup
  rw [← hm] at hl ⊢
  obtain ⟨B, hB⟩ : ∃ B, B = w.heap.size := ⟨_, rfl⟩
  have hBH := hide hB
  have hsz := hide (fun W (h : Below B w W) => (show B ≤ W.heap.size by rw [hB]; exact hB ▸ h.size))
  rw [← hB]
  clear hm hav hup hB
  go_enter Try.func28, Try.ntmps28
  go_wp2
  go_loopw [5, 6, 7] (fun u dn i wr => ∃ (j : Nat) (d : Bool), i = .int .i64 j ∧ dn = .bool d ∧ j ≤ m ∧ Hid (IntsO wr B u (RW.insS (l.take j) n d) ∧ (d = false → ∀ y ∈ l.take j, y < n) ∧ (d = true → ∃ y ∈ l.take j, n ≤ y) ∧ Below B w wr)) (fun _ _ i _ => m - (intOf i).toNat)
  case atStart => exact ⟨0, false, rfl, rfl, Nat.zero_le _, IntsO.nil _ _, (fun _ y hy => by simp at hy), (fun h => by cases h), by rw [hBH.out]; exact Below.refl _ _⟩
  case round =>
    obtain ⟨j, d, rfl, rfl, hj, hQ⟩ := hrel
    obtain ⟨wo, hwo⟩ : ∃ wo, wo = wr := ⟨_, rfl⟩
    subst hwo
    have hO := hide hQ.out.1
    have hF := hide hQ.out.2.1
    have hT := hide hQ.out.2.2.1
    have hBw := hide hQ.out.2.2.2
    clear hQ
    have hlen := hide (show (RW.insS (l.take j) n d).length ≤ 3000 by
      have h1 : (l.take j).length ≤ 1000 := by rw [List.length_take]; omega
      have h2 := RW.ins_len (l.take j) n
      unfold RW.insS
      split <;> omega)
    by_cases hjm : j < m
    · obtain ⟨x, hx⟩ : ∃ x, l[j]? = some x := ⟨_, List.getElem?_eq_getElem (by rw [← hmH.out]; exact hjm)⟩
      obtain ⟨bq, oq, rfl, hbq, hcq⟩ := havH.out.resolve_left (by rintro rfl; simp at hx)
      have hcell := hide (fun W (h : Below B w W) => (World.cell?_of_block (a := ⟨bq, oq + j, none⟩) (h.block _ (by rw [hBH.out]; exact hbq))).trans (ints_cell hcq hx))
      have e0 : wo.cell? ⟨bq, oq + j, none⟩ = some (.int .i64 x) := hcell.out wo hBw.out
      have htk := hide (show l.take (j + 1) = l.take j ++ [x] by rw [List.take_add_one, hx]; rfl)
      have hbig := hide (show ∀ y ∈ l.take j, y < x from fun y hy => by
        obtain ⟨i, hi⟩ := List.getElem?_of_mem hy
        have hil := (List.getElem?_eq_some_iff.1 hi).1
        rw [List.length_take] at hil
        rw [List.getElem?_take_of_lt (by omega)] at hi
        obtain ⟨a1, a2⟩ := List.getElem?_eq_some_iff.1 hi
        obtain ⟨b1, b2⟩ := List.getElem?_eq_some_iff.1 hx
        have := List.pairwise_iff_getElem.1 hupH.out i j a1 b1 (by omega)
        omega)
      clear hbq hcq hx
      cases d
      · have hF' := hide (hF.out rfl)
        by_cases hge : n ≤ x
        · obtain ⟨v8, w8, hrun, hO8, hB8⟩ := hO.out.appNew n (by have := hlen.out; omega) (hsz.out wo hBw.out)
          have hO8H := hide hO8
          have hB8H := hide (hBw.out.trans hB8)
          have e1 : w8.cell? ⟨bq, oq + j, none⟩ = some (.int .i64 x) := hcell.out w8 hB8H.out
          clear hO8 hB8
          by_cases hne : x = n
          · go_wp2_with (at_builtin; refine wpList_app_run rfl (.tmp 24) (.tmp 26) rfl rfl rfl hrun ?_)
            go_roundw
            case rel => exact ⟨j + 1, true, by go_num, rfl, by omega, by rw [htk.out, hne, RW.insS, if_pos rfl, RW.ins_eq hF'.out]; exact hO8H.out, (fun h => by cases h), (fun _ => ⟨x, by rw [htk.out]; simp, by omega⟩), hB8H.out⟩
            case measure => simp [intOf]; omega
          · obtain ⟨v9, w9, hrun2, hO9, hB9⟩ := hO8H.out.appNew x (by rw [List.length_append]; have := hlen.out; simp; omega) (hsz.out w8 hB8H.out)
            have hO9H := hide hO9
            have hB9H := hide (hB8H.out.trans hB9)
            have hnx := hide (show n < x by omega)
            clear hO9 hB9
            go_wp2_with (first
              | (at_builtin; refine wpList_app_run rfl (.tmp 24) (.tmp 26) rfl rfl rfl hrun ?_)
              | (at_builtin; refine wpList_app_run rfl (.tmp 34) (.tmp 39) rfl rfl rfl hrun2 ?_))
            go_roundw
            case rel => exact ⟨j + 1, true, by go_num, rfl, by omega, by rw [htk.out, RW.insS, if_pos rfl, RW.ins_gt hnx.out, RW.ins_big hF'.out]; exact hO9H.out, (fun h => by cases h), (fun _ => ⟨x, by rw [htk.out]; simp, by have := hnx.out; omega⟩), hB9H.out⟩
            case measure => simp [intOf]; omega
        · have hne : ¬ x = n := by omega
          obtain ⟨v8, w8, hrun, hO8, hB8⟩ := hO.out.appNew x (by have := hlen.out; omega) (hsz.out wo hBw.out)
          have hO8H := hide hO8
          have hB8H := hide (hBw.out.trans hB8)
          have hxn := hide (show x < n by omega)
          clear hO8 hB8
          go_wp2_with (at_builtin; refine wpList_app_run rfl (.tmp 34) (.tmp 39) rfl rfl rfl hrun ?_)
          go_roundw
          case rel => exact ⟨j + 1, false, by go_num, rfl, by omega, by rw [htk.out]; exact hO8H.out, (fun _ y hy => by rw [htk.out, List.mem_append, List.mem_singleton] at hy; exact hy.elim (hF'.out y) (fun e => e ▸ hxn.out)), (fun h => by cases h), hB8H.out⟩
          case measure => simp [intOf]; omega
      · have hnx := hide (show n < x by
          obtain ⟨y, hy, hny⟩ := hT.out rfl
          have := hbig.out y hy
          omega)
        have hne : ¬ x = n := by have := hnx.out; omega
        obtain ⟨v8, w8, hrun, hO8, hB8⟩ := hO.out.appNew x (by have := hlen.out; omega) (hsz.out wo hBw.out)
        have hO8H := hide hO8
        have hB8H := hide (hBw.out.trans hB8)
        clear hO8 hB8
        go_wp2_with (at_builtin; refine wpList_app_run rfl (.tmp 34) (.tmp 39) rfl rfl rfl hrun ?_)
        go_roundw
        case rel => exact ⟨j + 1, true, by go_num, rfl, by omega, by rw [htk.out, RW.insS, if_pos rfl, RW.ins_gt hnx.out]; exact hO8H.out, (fun h => by cases h), (fun _ => ⟨x, by rw [htk.out]; simp, by have := hnx.out; omega⟩), hB8H.out⟩
        case measure => simp [intOf]; omega
    · obtain rfl : m = j := by omega
      have htl : l.take m = l := List.take_of_length_le (by rw [← hmH.out]; exact Nat.le_refl _)
      rw [htl] at hO hF
      clear htl hT
      cases d
      · obtain ⟨v8, w8, hrun, hO8, hB8⟩ := hO.out.appNew n (by have := hlen.out; rw [List.take_of_length_le (by rw [← hmH.out]; exact Nat.le_refl _)] at this; omega) (hsz.out wo hBw.out)
        have hO8H := hide (show IntsO w8 B v8 (RW.ins l n) by rw [RW.ins_big (hF.out rfl)]; exact hO8)
        have hB8H := hide (hBw.out.trans hB8)
        clear hO8 hB8
        go_wp2_with (at_builtin; refine wpList_app_run rfl (.tmp 43) (.tmp 45) rfl rfl rfl hrun ?_)
        go_ret
        exact ⟨v8, rfl, hBH.out ▸ hO8H.out, hBH.out ▸ hB8H.out⟩
      · have hO8H := hide (show IntsO wo B _ (RW.ins l n) from hO.out)
        go_wp2
        go_ret
        exact ⟨_, rfl, hBH.out ▸ hO8H.out, hBH.out ▸ hBw.out⟩
end Go.Proofs.Ytillplhadimgmaa
