/-
  Facts appended to a row of the call's own; package royaltylaw12: cut: what it returns; only new memory is written.
-/
import Derived.Test.YtnkdpfkmellpcaaSp12
import Derived.Test.YtnkdpfkmellpcaaSpP2
namespace Go.Proofs.Ytnkdpfkmellpcaa
open Go.RowKit
theorem info_fact : (Try.prog.info? 43).map (fun i => (i.zero, i.size, i.bytes)) = some (some (.agg (RW.fcells (fun _ => 0) ⟨#[]⟩)), 18, 152) := by kernel_rfl
theorem fce_one (x : RW.Fc) : ∀ u ∈ RW.fce x, u.oneCell' = true := by
  have := fact_one x
  rw [List.all_toArray, List.all_eq_true] at this
  exact this
/-- a row of facts that the call made -/
abbrev OwnF (W : World) (B : Nat) (v : Value) (l : List RW.Fc) : Prop := W.ownsRow B 43 18 v l.length (rowCells RW.fce l)
theorem OwnF.facts {W : World} {B : Nat} {v : Value} {l : List RW.Fc} (h : OwnF W B v l) : FactsV W v l := rowV_own fcl_len (by decide) h
theorem own_next {W W' : World} {B : Nat} {e : TypeId} {k n : Nat} {v : Value} {xs : List Value} (h : W.ownsRow B e k v n xs) (hB : Below W.heap.size W W') : W'.ownsRow B e k v n xs := by
  refine ⟨h.1, h.2.imp id ?_⟩
  rintro ⟨g, cap, cur, h1, h2, h3, h4⟩
  exact ⟨g, cap, cur, h1, h2, (hB.block g (Array.getElem?_eq_some_iff.1 h3).1).trans h3, h4⟩
theorem app_facts {W : World} {B : Nat} {v y : Value} {l m : List RW.Fc} (hown : OwnF W B v l) (hB : B ≤ W.heap.size) (hy : FactsV W y m) (hlen : l.length + m.length ≤ 1000000) (ty : TypeId) :
    ∃ v' W', (Builtin.append_ #[22, 22] ty #[v, y]).run Try.prog W = .ok v' W' ∧ OwnF W' B v' (l ++ m) ∧ Below B W W' ∧ W.grownBy W' v.ownBlock :=
  run_app_rows (P := Try.prog) ty Try.underlying22 info_fact (by rfl) (by decide) fcl_len fce_one hown hB hy (by unfold maxLen; omega) (by omega)
theorem own_emptyF (W : World) : OwnF (W.alloc (.cells #[] 43)) W.heap.size (.slice (some ⟨W.heap.size, 0, none⟩) 0 0) [] :=
  World.ownsRow_made (base := W.heap.size) (e := 43) (size := 18) W #[] 0 (Nat.le_refl _) (Nat.zero_le _) (by simp)
theorem base_size (v : Value) : (Try.prog.info? 25).map (·.size) = some (RW.bcl v).size := by kernel_rfl
theorem base_one (v : Value) (hv : v.oneCell' = true) : (RW.bcl v).all (·.oneCell') = true := by
  simp [RW.bcl, hv]
  rfl
set_option maxRecDepth 10000 in
set_option maxHeartbeats 2000000 in
/-- what 'cut' takes -/
theorem cut_any (v : Value) (l : List RW.Fc) (hl : l.length ≤ 9223372036854775807) (w : World) (hv : FactsV w v l) :
    Calls Try.prog 12 #[v] w fun e w' => (∃ v', e = .returned (.agg (RW.bcl v')) ∧ OwnF w' w.heap.size v' (l.take 30)) ∧ Below w.heap.size w w' := by
  obtain ⟨a, ca, rfl, hca, ha⟩ := hv
  obtain ⟨m, hm⟩ : ∃ m, m = min l.length 30 := ⟨_, rfl⟩
  obtain ⟨W0, hW0⟩ : ∃ W, W = w.alloc (.cells (RW.bcl (.slice none 0 0)) 25) := ⟨_, rfl⟩
  have hA0 : Below w.heap.size w W0 := by rw [hW0]; exact (Below.refl _ w).alloc (Nat.le_refl _) _
  have hr0 : W0.heap[w.heap.size]? = some (.cells (RW.bcl (.slice none 0 0)) 25 (0, 0)) := by rw [hW0]; exact newAt rfl
  have hB0 := hide ((Below.refl W0.heap.size W0).alloc (Nat.le_refl _) (.cells #[] 43))
  have hf : FactsV (W0.alloc (.cells #[] 43)) (.slice a m ca) (l.take m) := RowV.first (RowV.next (RowV.next ⟨a, ca, rfl, hca, ha⟩ hA0) hB0.out) m (by omega)
  obtain ⟨v', W', hrun, hO, hB, _⟩ := app_facts (own_emptyF W0) (by simp) hf (by rw [List.length_take]; simp; omega) 22
  have ht : l.take m = l.take 30 := by
    rw [hm]
    rcases Nat.le_total l.length 30 with h | h
    · rw [Nat.min_eq_left h, List.take_of_length_le (Nat.le_refl _), List.take_of_length_le h]
    · rw [Nat.min_eq_right h]
  rw [List.nil_append, ht] at hO
  have hlt := (Array.getElem?_eq_some_iff.1 hr0).1
  have hr1 : W'.heap[w.heap.size]? = some (.cells (RW.bcl (.slice none 0 0)) 25 (0, 0)) := (hB.block _ hlt).trans ((hB0.out.block _ hlt).trans hr0)
  obtain ⟨a', c', hv'⟩ : ∃ a c, v' = .slice a (l.take 30).length c := by
    obtain ⟨a', c', e, _⟩ := hO.facts
    exact ⟨a', c', e⟩
  obtain ⟨n', hn'⟩ : ∃ n, n = (l.take 30).length := ⟨_, rfl⟩
  rw [← hn'] at hv'
  subst hv'
  have hOs := hide (own_setRow hO w.heap.size hlt (RW.bcl (.slice a' n' c')))
  have hOs2 := hide (own_base hOs.out (Nat.le_of_lt hlt))
  have hBs := hide (belowSetRow (hA0.trans ((hB0.out.mono hA0.size).trans (hB.mono hA0.size))) (Nat.le_refl _) (RW.bcl (.slice a' n' c')))
  obtain ⟨n, hn⟩ : ∃ n, n = l.length := ⟨_, rfl⟩
  rw [← hn] at hl hca hm ⊢
  have hq : m ≤ n ∧ m ≤ 30 := by omega
  obtain ⟨hq1, hq2⟩ := hq
  have hx1 : min (n : Int) 30 = (m : Int) := by omega
  have hzn : a = none → n = 0 ∧ m = 0 := by
    rintro rfl
    rcases ha with rfl | ⟨b, o, hab, _⟩
    · simp at hn; omega
    · cases hab
  have hW0H := hide hW0
  have hi := base_size (.slice a' n' c')
  have ho := base_one (.slice a' n' c') rfl
  clear hO hB hf ht ha hm hn hA0 hr0 hlt hn' hW0
  cases a with
  | none =>
    obtain ⟨rfl, rfl⟩ := hzn rfl
    clear hzn
    go_enter Try.func12, Try.ntmps12
    go_upto_region 1 with fail
    rw [show (w.alloc (.cells #[.slice none 0 0, .slice none 0 0, .slice none 0 0, .slice none 0 0, .slice none 0 0, .slice none 0 0, .slice none 0 0, .slice none 0 0, .slice none 0 0, .slice none 0 0] 25)) = W0 from hW0H.out.symm]
    go_wp2_with (first
      | (at_builtin; refine wpList_app_run rfl (.tmp 3) (.tmp 8) rfl rfl rfl hrun ?_)
      | (refine wpList_store_row rfl 25 (.tmp 2) (.tmp 10) rfl w.heap.size (RW.bcl (.slice a' n' c')) rfl rfl 25 _ hr1 hi rfl ho ?_))
    exact bodyPost_ret (results_cell_row rfl _ _ w.heap.size 25 (RW.bcl (.slice a' n' c')) (0, 0) _ rfl (setRow_heap _ _ _ _ _ _ hr1) Try.underlying25 rfl hi) rfl ⟨⟨_, rfl, hOs2.out⟩, hBs.out⟩
  | some ad =>
    clear hzn
    go_enter Try.func12, Try.ntmps12
    go_upto_region 1 with fail
    rw [show (w.alloc (.cells #[.slice none 0 0, .slice none 0 0, .slice none 0 0, .slice none 0 0, .slice none 0 0, .slice none 0 0, .slice none 0 0, .slice none 0 0, .slice none 0 0, .slice none 0 0] 25)) = W0 from hW0H.out.symm]
    go_wp2_with (first
      | (at_builtin; refine wpList_app_run rfl (.tmp 3) (.tmp 8) rfl rfl rfl hrun ?_)
      | (refine wpList_store_row rfl 25 (.tmp 2) (.tmp 10) rfl w.heap.size (RW.bcl (.slice a' n' c')) rfl rfl 25 _ hr1 hi rfl ho ?_))
    exact bodyPost_ret (results_cell_row rfl _ _ w.heap.size 25 (RW.bcl (.slice a' n' c')) (0, 0) _ rfl (setRow_heap _ _ _ _ _ _ hr1) Try.underlying25 rfl hi) rfl ⟨⟨_, rfl, hOs2.out⟩, hBs.out⟩
end Go.Proofs.Ytnkdpfkmellpcaa
