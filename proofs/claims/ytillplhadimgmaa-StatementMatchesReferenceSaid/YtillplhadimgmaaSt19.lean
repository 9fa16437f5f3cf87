/-
  Package statement: the reader's read, of three pointers: what it lays.
-/
import Derived.Test.YtillplhadimgmaaSt10
import Derived.Test.YtillplhadimgmaaStE
namespace Go.Proofs.Ytillplhadimgmaa
open Go.RowKit RG
/-- a cell that holds an int: its block and place -/
abbrev PA := Nat × Nat
def paV (p : PA) : Value := .pointer (some ⟨p.1, p.2, none⟩)
def stp (W : World) (gr : Nat) (p : PA) (n : Int) (a : Nat) : World := (W.setCell ⟨p.1, p.2, none⟩ (.int .i64 n)).setCell ⟨gr, 1, none⟩ (.int .i64 a)
def rdW (l : List UInt8) (gr : Nat) : List PA → World → Nat → World
  | [], W, _ => W
  | p :: ps, W, a => match RW.decI (l.drop a) with
    | none => W.setCell ⟨gr, 2, none⟩ (.bool true)
    | some (n, k) => rdW l gr ps (stp W gr p n (a + k)) (a + k)
theorem rdW_none {l : List UInt8} {gr : Nat} {p : PA} {ps : List PA} {W : World} {a : Nat} (h : RW.decI (l.drop a) = none) : rdW l gr (p :: ps) W a = W.setCell ⟨gr, 2, none⟩ (.bool true) := by rw [rdW, h]
theorem rdW_some {l : List UInt8} {gr : Nat} {p : PA} {ps : List PA} {W : World} {a k : Nat} {n : Int} (h : RW.decI (l.drop a) = some (n, k)) : rdW l gr (p :: ps) W a = rdW l gr ps (stp W gr p n (a + k)) (a + k) := by rw [rdW, h]
theorem rdW3 (l : List UInt8) (gr : Nat) (p0 p1 p2 : PA) (W : World) (a : Nat) (ha : a ≤ l.length) :
    (RW.decZ 3 (l.drop a) = none ∧ (rdW l gr [p0, p1, p2] W a = W.setCell ⟨gr, 2, none⟩ (.bool true) ∨ (∃ n0 a0, rdW l gr [p0, p1, p2] W a = (stp W gr p0 n0 a0).setCell ⟨gr, 2, none⟩ (.bool true)) ∨ ∃ n0 a0 n1 a1, rdW l gr [p0, p1, p2] W a = (stp (stp W gr p0 n0 a0) gr p1 n1 a1).setCell ⟨gr, 2, none⟩ (.bool true))) ∨
    ∃ n0 n1 n2 a0 a1 a2, RW.decZ 3 (l.drop a) = some ([n0, n1, n2], l.drop a2) ∧ a2 ≤ l.length ∧ rdW l gr [p0, p1, p2] W a = stp (stp (stp W gr p0 n0 a0) gr p1 n1 a1) gr p2 n2 a2 := by
  have hle : ∀ (a k : Nat) (n : Int), a ≤ l.length → RW.decI (l.drop a) = some (n, k) → a + k ≤ l.length := fun a k n h0 h => by
    have := (RW.decI_le _ _ _ h).2.1
    rw [List.length_drop] at this
    omega
  rcases h0 : RW.decI (l.drop a) with _ | ⟨n0, k0⟩
  · exact .inl ⟨RW.decZ_none h0, .inl (rdW_none h0)⟩
  have b0 := hle _ _ _ ha h0
  rcases h1 : RW.decI (l.drop (a + k0)) with _ | ⟨n1, k1⟩
  · left
    refine ⟨?_, .inr (.inl ⟨n0, a + k0, by rw [rdW_some h0, rdW_none h1]⟩)⟩
    rw [RW.decZ_some h0, List.drop_drop, RW.decZ_none h1]
    rfl
  have b1 := hle _ _ _ b0 h1
  rcases h2 : RW.decI (l.drop (a + k0 + k1)) with _ | ⟨n2, k2⟩
  · left
    refine ⟨?_, .inr (.inr ⟨n0, a + k0, n1, a + k0 + k1, by rw [rdW_some h0, rdW_some h1, rdW_none h2]⟩)⟩
    rw [RW.decZ_some h0, List.drop_drop, RW.decZ_some h1, List.drop_drop, RW.decZ_none h2]
    rfl
  · right
    refine ⟨n0, n1, n2, a + k0, a + k0 + k1, a + k0 + k1 + k2, ?_, hle _ _ _ b1 h2, by rw [rdW_some h0, rdW_some h1, rdW_some h2]; rfl⟩
    rw [RW.decZ_some h0, List.drop_drop, RW.decZ_some h1, List.drop_drop, RW.decZ_some h2, List.drop_drop]
    rfl
/-- the reader, its pointers and their cells, at a place of the text -/
structure RdI (W : World) (gr gq : Nat) (s : ByteArray) (a : Nat) (ps : List PA) : Prop where
  r : W.heap[gr]? = some (.cells #[.string s, .int .i64 a, .bool false] 82 (0, 0))
  q : ∀ (j : Nat) (p : PA), ps[j]? = some p → W.cell? ⟨gq, j, none⟩ = some (paV p)
  ne : gq ≠ gr
  ps : ∀ p ∈ ps, p.1 ≠ gr ∧ p.1 ≠ gq ∧ (∃ v, W.cell? ⟨p.1, p.2, none⟩ = some v) ∧ W.frozen? ⟨p.1, p.2, none⟩ = false
  le : a ≤ s.size
theorem cell_set {w : World} {p q : Addr} {x v : Value} (h : w.cell? q = some v) : ∃ v', (w.setCell p x).cell? q = some v' := by
  by_cases e : p = q
  · subst e; exact ⟨x, World.cell?_setCell_same w p x h⟩
  · exact ⟨v, (World.cell?_setCell_other w p q x e).trans h⟩
theorem RdI.step {W : World} {gr gq : Nat} {s : ByteArray} {a a2 : Nat} {p : PA} {ps : List PA} {n : Int} (h : RdI W gr gq s a ps) (hp : p ∈ ps) (h2 : a2 ≤ s.size) : RdI (stp W gr p n a2) gr gq s a2 ps := by
  obtain ⟨n1, n2, _, _⟩ := h.ps p hp
  have k1 : (W.setCell ⟨p.1, p.2, none⟩ (.int .i64 n)).heap[gr]? = some (.cells #[.string s, .int .i64 a, .bool false] 82 (0, 0)) := (Below.heap_setCell _ _ _ _ (Ne.symm n1)).trans h.r
  refine ⟨(heap_setCell_same _ _ _ _ _ _ k1).trans rfl, fun j q hq => ?_, h.ne, fun q hq => ?_, h2⟩
  · unfold stp
    rw [World.cell?_setCell_other _ _ _ _ (by intro e; cases e; exact h.ne rfl), World.cell?_setCell_other _ _ _ _ (by intro e; cases e; exact n2 rfl)]
    exact h.q j q hq
  · obtain ⟨m1, m2, ⟨v, m3⟩, m4⟩ := h.ps q hq
    obtain ⟨v1, g1⟩ := cell_set (p := ⟨p.1, p.2, none⟩) (x := .int .i64 n) m3
    obtain ⟨v2, g2⟩ := cell_set (p := ⟨gr, 1, none⟩) (x := .int .i64 a2) g1
    exact ⟨m1, m2, ⟨v2, g2⟩, by unfold stp; rw [World.frozen?_setCell, World.frozen?_setCell]; exact m4⟩
theorem RdI.drew {W : World} {gr gq : Nat} {s : ByteArray} {a : Nat} {ps : List PA} (h : RdI W gr gq s a ps) (m : Nat) : RdI (W.drewN m) gr gq s a ps := ⟨h.r, h.q, h.ne, h.ps, h.le⟩
set_option maxRecDepth 10000 in
set_option maxHeartbeats 4000000 in
theorem read_any (s : ByteArray) (hs : s.size ≤ 9223372036854775807) (gr gq : Nat) (p0 p1 p2 : PA) (a : Nat) (w : World) (h : RdI w gr gq s a [p0, p1, p2]) :
    Calls Try.prog 40 #[.pointer (some ⟨gr, 0, none⟩), .slice (some ⟨gq, 0, none⟩) 3 3] w fun e w' => e = .returned (.tuple #[]) ∧ ∃ m, w' = (rdW s.data.toList gr [p0, p1, p2] w a).drewN m := by
  have hH := hide h
  have hsH := hide hs
  obtain ⟨E, hE⟩ : ∃ E, E = rdW s.data.toList gr [p0, p1, p2] w a := ⟨_, rfl⟩
  rw [← hE]
  have hEH := hide hE
  clear h hE hs
  go_enter Try.func40, Try.ntmps40
  go_wp2
  go_loopw [11] (fun i wr => ∃ j : Nat, i = .int .i64 j ∧ j ≤ 3 ∧ Hid (∃ (a' m : Nat) (W : World), wr = W.drewN m ∧ E = rdW s.data.toList gr ([p0, p1, p2].drop j) W a' ∧ RdI W gr gq s a' [p0, p1, p2])) (fun i _ => 3 - (intOf i).toNat)
  case atStart => exact ⟨0, rfl, by omega, a, 0, w, rfl, hEH.out, hH.out⟩
  case round =>
    obtain ⟨j, rfl, hj, hQ⟩ := hrel
    obtain ⟨wo, hwo⟩ : ∃ wo, wo = wr := ⟨_, rfl⟩
    subst hwo
    obtain ⟨a', m, W, hwW, hEW, hR⟩ := hQ.out
    have hwWH := hide hwW
    have hEWH := hide hEW
    have hRo := hide (show RdI wo gr gq s a' [p0, p1, p2] from hwW ▸ hR.drew m)
    have hRW := hide hR
    clear hQ hwW hEW hR
    by_cases hlt : j < 3
    · obtain ⟨⟨pb, po⟩, hp⟩ : ∃ p, [p0, p1, p2][j]? = some p := ⟨_, List.getElem?_eq_getElem (by simpa using hlt)⟩
      have hpH := hide hp
      have e0 : wo.cell? ⟨gq, j, none⟩ = some (.pointer (some ⟨pb, po, none⟩)) := hRo.out.q j _ hp
      have hdr := hide (show [p0, p1, p2].drop j = (pb, po) :: [p0, p1, p2].drop (j + 1) by
        rw [List.drop_eq_getElem_cons (by simpa using hlt)]
        obtain ⟨_, he⟩ := List.getElem?_eq_some_iff.1 hp
        rw [he])
      clear hp
      go_upto_region 3 with fail
      have c0 : wo.cell? ⟨gr, 0, none⟩ = some (.string s) := cellAt hRo.out.r 0
      have c1 : wo.cell? ⟨gr, 1, none⟩ = some (.int .i64 a') := cellAt hRo.out.r 1
      have hI := hide (fun m => mono_quiet (int_walk s a' (wo.drewN m) hsH.out hRo.out.le))
      rcases hd : RW.decI (s.data.toList.drop a') with _ | ⟨n, k⟩
      · have hEn := hide (show E = W.setCell ⟨gr, 2, none⟩ (.bool true) by rw [hEWH.out, hdr.out, rdW_none hd])
        rw [hd] at hI
        simp only [intRes] at hI
        clear hd e0
        go_quiet (exact hI.out _)
        go_upto_region 4 with fail
        refine gen_w (fun X => ∃ m, X = wo.drewN m) ⟨_, rfl⟩ ?_
        clear c0 c1
        rintro x5 ⟨m5, hx5⟩
        have hx5H := hide hx5
        have h2 : x5.cell? ⟨gr, 2, none⟩ = some (.bool false) := by rw [hx5]; exact cellAt hRo.out.r 2
        have h2f : x5.frozen? ⟨gr, 2, none⟩ = false := by rw [hx5]; show wo.frozen? _ = false; simp [World.frozen?, hRo.out.r]
        clear hx5
        go_wp2
        (try simp only [Exit.inBlock, Exit.then])
        refine bodyPost_ret (results_none rfl _ _ _) rfl ?_
        exact ⟨rfl, m + m5, by rw [hEn.out, hx5H.out, hwWH.out, World.drewN_drewN]; rfl⟩
      · have hle := (RW.decI_le _ _ _ hd).2.1
        rw [List.length_drop] at hle
        obtain ⟨a2, ha2⟩ : ∃ a2, a2 = a' + k := ⟨_, rfl⟩
        have hEn := hide (show E = rdW s.data.toList gr ([p0, p1, p2].drop (j + 1)) (stp W gr (pb, po) n a2) a2 by rw [hEWH.out, hdr.out, rdW_some hd, ha2])
        have hle2 := hide (show a2 ≤ s.size by
          have h1 := hRo.out.le
          have h3 : s.data.toList.length = s.size := by rw [Array.length_toList]; rfl
          omega)
        rw [hd] at hI
        simp only [intRes] at hI
        rw [← ha2] at hI
        clear hd e0 hle ha2
        go_quiet (exact hI.out _)
        go_upto_region 4 with fail
        refine gen_w (fun X => ∃ m, X = wo.drewN m) ⟨_, rfl⟩ ?_
        clear c0 c1
        rintro x5 ⟨m5, hx5⟩
        have hx5H := hide hx5
        have hR5 := hide (show RdI x5 gr gq s a' [p0, p1, p2] from hx5 ▸ hRo.out.drew m5)
        have hmem := hide (List.mem_of_getElem? hpH.out)
        obtain ⟨v0, hv0⟩ := (hR5.out.ps _ hmem.out).2.2.1
        have h2 : x5.cell? ⟨pb, po, none⟩ = some v0 := hv0
        have h2f : x5.frozen? ⟨pb, po, none⟩ = false := (hR5.out.ps _ hmem.out).2.2.2
        have h3 : (x5.setCell ⟨pb, po, none⟩ (.int .i64 n)).cell? ⟨gr, 1, none⟩ = some (.int .i64 a') := by
          rw [World.cell?_setCell_other _ _ _ _ (by intro e; cases e; exact (hR5.out.ps _ hmem.out).1 rfl)]
          exact cellAt hR5.out.r 1
        have h3f : (x5.setCell ⟨pb, po, none⟩ (.int .i64 n)).frozen? ⟨gr, 1, none⟩ = false := by
          rw [World.frozen?_setCell]
          simp [World.frozen?, hR5.out.r]
        clear hx5 hv0
        go_wp2
        go_roundw
        case rel => exact ⟨j + 1, by go_num, by omega, a2, m + m5, stp W gr (pb, po) n a2, by rw [hx5H.out, hwWH.out, World.drewN_drewN]; rfl, hEn.out, hRW.out.step hmem.out hle2.out⟩
        case measure => simp [intOf]; omega
    · obtain rfl : j = 3 := by omega
      have hEn := hide (show E = W by rw [hEWH.out]; rfl)
      go_wp2
      go_end0
      exact ⟨rfl, m, by rw [hEn.out]; exact hwWH.out⟩
end Go.Proofs.Ytillplhadimgmaa
