/-
  Package journal: Append: what it returns, what it leaves of the journal and of the disk.
-/
import Derived.Test.YtllbphanfahkkaaGreatDoorJn8
namespace Go.Proofs.YtllbphanfahkkaaGreatDoor
open Go.RowKit RG
theorem Append_nil (lv : Value) (w : World) : Calls Tryz.prog 11 #[.pointer none, lv] w fun e w' => e = .returned (.int .i64 1) ∧ w = w' := by
  go_enter Tryz.func11, Tryz.ntmps11
  go_wp2
  go_ret
  exact ⟨rfl, rfl⟩
namespace RW
theorem stos_ge (H : List UInt8 → List UInt8) : ∀ (rs : List ByteArray) (h : List UInt8), rs.length ≤ (stos H h rs).length
  | [], _ => Nat.zero_le _
  | r :: rs, h => by
    have h2 := stos_ge H rs (chn H h r)
    show _ ≤ (sto H h r ++ stos H (chn H h r) rs).length
    rw [List.length_append, List.length_cons]
    unfold sto
    rw [List.length_cons]
    omega
theorem japp_long {H : List UInt8 → List UInt8} {n : Nat} {S : Dk} {rs l : List ByteArray} {br : Bool} (h : br = true ∨ l.any (fun r => decide (65536 < r.size)) = true) : japp H n S rs br l = (230, rs, br, S) := by
  unfold japp
  rw [if_pos h]
theorem japp_full {H : List UInt8 → List UInt8} {n : Nat} {S : Dk} {rs l : List ByteArray} (h : l.any (fun r => decide (65536 < r.size)) = false) (hf : n - (stos H z32 rs).length < (stos H (hds H z32 rs) l).length) : japp H n S rs false l = (231, rs, false, S) := by
  unfold japp
  rw [if_neg (by rw [h]; simp), if_pos hf]
theorem japp_none {H : List UInt8 → List UInt8} {n : Nat} {S : Dk} {rs : List ByteArray} : japp H n S rs false [] = (0, rs, false, S) := by
  unfold japp
  rw [if_neg (by simp), if_neg (by simp [stos]), if_pos rfl]
theorem japp_wr {H : List UInt8 → List UInt8} {n : Nat} {S : Dk} {rs l : List ByteArray} (h : l.any (fun r => decide (65536 < r.size)) = false) (hf : ¬ (n - (stos H z32 rs).length < (stos H (hds H z32 rs) l).length)) (hl : l ≠ []) {R : Int × Dk}
    (hR : R = (if (wrsy n S ((stos H z32 rs).length + 1) ((stos H (hds H z32 rs) l).drop 1)).1 ≠ 0 then wrsy n S ((stos H z32 rs).length + 1) ((stos H (hds H z32 rs) l).drop 1) else wrsy n (wrsy n S ((stos H z32 rs).length + 1) ((stos H (hds H z32 rs) l).drop 1)).2 (stos H z32 rs).length ((stos H (hds H z32 rs) l).take 1))) :
    japp H n S rs false l = if R.1 ≠ 0 then (R.1, rs, true, R.2) else (0, rs ++ l, false, R.2) := by
  unfold japp
  rw [if_neg (by rw [h]; simp), if_neg hf, if_neg hl]
  by_cases h1 : (wrsy n S ((stos H z32 rs).length + 1) ((stos H (hds H z32 rs) l).drop 1)).1 = 0
  · rw [if_neg (by rw [h1]; simp)] at hR ⊢
    rw [hR]
  · rw [if_pos h1] at hR ⊢
    rw [hR, if_pos h1]
end RW
/-- Append under way: the next tape, the text -/
structure ApW (W w : World) (N tb bb : Nat) (rv : Value) (hd : ByteArray) (n : Nat) (rs : List ByteArray) (t : List UInt8) : Prop where
  b : W.heap[tb]? = some (.cells (tpc rv hd n []) 83 (0, 0))
  own : StrsOwn W N rv rs
  bl : Lib.IsBuilder 89 5 bb bb (Lib.byteCells t) W
  bel : Below N w W
  tbN : N ≤ tb
  bbN : N ≤ bb
theorem bl_block {T e : TypeId} {B b : Nat} {bs : List Value} {W : World} (h : Lib.IsBuilder T e B b bs W) : ∃ cs, W.heap[b]? = some (.cells cs T (0, 0)) := by
  rcases h with ⟨_, v, hb, _⟩ | ⟨_, v, hb, _⟩
  · exact ⟨_, hb⟩
  · exact ⟨_, hb⟩
theorem ApW.ne {W w : World} {N tb bb : Nat} {rv : Value} {hd : ByteArray} {n : Nat} {rs : List ByteArray} {t : List UInt8} (h : ApW W w N tb bb rv hd n rs t) : tb ≠ bb := by
  obtain ⟨cs, hc⟩ := bl_block h.bl
  exact blocks_ne h.b hc (by decide)
/-- a record added -/
theorem ApW.add {W W' w : World} {N tb bb : Nat} {rv rv' : Value} {hd hd' : ByteArray} {n n' : Nat} {rs rs' : List ByteArray} {t : List UInt8} (h : ApW W w N tb bb rv hd n rs t) (g : TA W' W N tb rv rv' hd' n' [] 83 rs') : ApW W' w N tb bb rv' hd' n' rs' t :=
  ⟨g.b, g.own, bld_other h.bl g.ch (by
    rintro k c t fr (rfl | e) hk
    · rw [h.b] at hk
      cases hk
      exact ⟨by decide, by decide⟩
    · obtain ⟨_, _, c', fr', hc⟩ := own_blk h.own e
      rw [hc] at hk
      cases hk
      exact ⟨by decide, by decide⟩), h.bel.trans (g.ch.belowJ (fun k hk => hk.elim (fun e => e ▸ h.tbN) fun e => (own_blk h.own e).1) (Nat.le_trans h.tbN (Nat.le_of_lt (Array.getElem?_eq_some_iff.1 h.b).1))), h.tbN, h.bbN⟩
/-- the text written -/
theorem ApW.put {W W' w : World} {N tb bb : Nat} {rv : Value} {hd : ByteArray} {n : Nat} {rs : List ByteArray} {t t' : List UInt8} (h : ApW W w N tb bb rv hd n rs t) (hb : Lib.IsBuilder 89 5 bb bb (Lib.byteCells t') W') (hB : Below bb W W') (hk : RW.BKept 5 bb W W') : ApW W' w N tb bb rv hd n rs t' :=
  ⟨(hk tb _ _ _ h.b (by decide) h.ne).trans h.b, own_keep h.own fun g hg => by
    obtain ⟨_, _, c, fr, hc⟩ := own_blk h.own hg
    obtain ⟨cs, hcs⟩ := bl_block h.bl
    exact hk g _ _ _ hc (by decide) (blocks_ne hc hcs (by decide)), hb, h.bel.trans (hB.mono h.bbN), h.tbN, h.bbN⟩
theorem byte_strCells (l : List UInt8) : Lib.strCells ⟨l.toArray⟩ = Lib.byteCells l := by simp [Lib.strCells, Lib.byteCells]
theorem byte_app (a b : List UInt8) : Lib.byteCells (a ++ b) = Lib.byteCells a ++ Lib.byteCells b := by simp [Lib.byteCells]
theorem disk_chg {W W' : World} {B b n db vb jb : Nat} {pv : Value} {S : RW.Dk} {cs : Array Value} (h : DiskAt W B b n db vb pv S) (hj : W.heap[jb]? = some (.cells cs 85 (0, 0))) (hc : Chg jb W W') : DiskAt W' B b n db vb pv S :=
  h.keep fun k hk hq => hc.block k hk (by
    rintro rfl
    rcases hq with e | e | e | ⟨cur, fr, e⟩
    · exact blocks_ne hj h.row (by decide) e
    · exact blocks_ne hj h.dur (by decide) e
    · exact blocks_ne hj h.vis (by decide) e
    · exact blocks_ne hj e (by decide) rfl)
/-- the next tape, written -/
structure TpW (W : World) (N tb : Nat) (rv : Value) (hd : ByteArray) (n : Nat) (rs : List ByteArray) : Prop where
  b : W.heap[tb]? = some (.cells (tpc rv hd n []) 83 (0, 0))
  own : StrsOwn W N rv rs
theorem TpW.next {W W' : World} {N tb n : Nat} {rv : Value} {hd : ByteArray} {rs : List ByteArray} (h : TpW W N tb rv hd n rs) (hB : Below W.heap.size W W') : TpW W' N tb rv hd n rs :=
  ⟨(hB.block _ (Array.getElem?_eq_some_iff.1 h.b).1).trans h.b, own_keep h.own fun g hg => hB.block _ (own_blk h.own hg).2.1⟩
theorem TpW.tch {W W' : World} {B b n' db vb N tb n : Nat} {pv rv : Value} {S : RW.Dk} {hd : ByteArray} {rs : List ByteArray} (h : TpW W N tb rv hd n rs) (hd' : DiskAt W B b n' db vb pv S) (hT : Tch b db vb W W') : TpW W' N tb rv hd n rs :=
  ⟨tch_keep h.b hd' hT (by decide), own_keep h.own fun g hg => by
    obtain ⟨_, _, c, fr, hc⟩ := own_blk h.own hg
    rw [hc]
    exact tch_keep hc hd' hT (by decide)⟩
theorem ApW.kept {W W' w : World} {N tb bb : Nat} {rv : Value} {hd : ByteArray} {n : Nat} {rs : List ByteArray} {t : List UInt8} (h : ApW W w N tb bb rv hd n rs t) (hk : RW.BKept 5 bb W W') : TpW W' N tb rv hd n rs :=
  ⟨(hk tb _ _ _ h.b (by decide) h.ne).trans h.b, own_keep h.own fun g hg => by
    obtain ⟨_, _, c, fr, hc⟩ := own_blk h.own hg
    obtain ⟨cs, hcs⟩ := bl_block h.bl
    exact hk g _ _ _ hc (by decide) (blocks_ne hc hcs (by decide))⟩
/-- what Append leaves -/
def AppOut (H : List UInt8 → List UInt8) (B b n db vb jb : Nat) (S : RW.Dk) (rs l : List ByteArray) (br : Bool) (w : World) (e : Ending) (w' : World) : Prop :=
  e = .returned (.int .i64 (RW.japp H n S rs br l).1) ∧ (∃ pv' rv', DiskAt w' B b n db vb pv' (RW.japp H n S rs br l).2.2.2 ∧ JrAt H w' B jb b rv' (RW.japp H n S rs br l).2.1 (RW.japp H n S rs br l).2.2.1) ∧ TchJ jb b db vb w w' ∧ Below B w w'
section
variable {ev : Operand → Value} {o : Oper} {x y z u : Operand} {w : World}
theorem op_sl1 {s : ByteArray} (ho : o.op = .slice 9 x (some y) none none) (hx : ev x = .string s) (hy : ev y = .int .i64 1) (h : 1 ≤ s.size) : (execOp ev o).run Tryz.prog w = .ok (.value (.string (s.extract 1 s.size))) w := by
  have h2 : (1 : Int) ≤ (s.size : Int) := by omega
  unfold execOp
  rw [ho]
  simp only [hx, hy, Option.map_some, Option.map_none]
  go_simp
theorem op_sl01 {s : ByteArray} (ho : o.op = .slice 9 x none (some y) none) (hx : ev x = .string s) (hy : ev y = .int .i64 1) (h : 1 ≤ s.size) : (execOp ev o).run Tryz.prog w = .ok (.value (.string (s.extract 0 1))) w := by
  have h2 : (1 : Int) ≤ (s.size : Int) := by omega
  unfold execOp
  rw [ho]
  simp only [hx, hy, Option.map_some, Option.map_none]
  go_simp
theorem op_bf4 {p q b : Nat} (ho : o.op = .buildSlice 164 4 #[(0, x), (1, y), (2, z), (3, u)]) (hx : ev x = wcl p) (hy : ev y = scl b) (hz : ev z = wcl q) (hu : ev u = scl b) : (execOp ev o).run Tryz.prog w = .ok (.value (.slice (some ⟨w.heap.size, 0, none⟩) 4 4)) (w.alloc (.cells #[wcl p, scl b, wcl q, scl b] 96)) := by
  unfold wcl at hx hz
  unfold scl at hy hu
  unfold wcl scl execOp
  rw [ho]
  go_simp
end
theorem tp_size (rv : Value) (h : ByteArray) (n : Nat) : (Tryz.prog.info? 83).map (·.size) = some (tpc rv h n []).size := by kernel_rfl
theorem tp_sizeL (rv : Value) (h : ByteArray) (n : Nat) : (Tryz.prog.info? 83).map (·.size) = some ([rv, .string h, .int .i64 (n : Int)] : List Value).length := by kernel_rfl
theorem tpc_range {W : World} {jb : Nat} {rv : Value} {h : ByteArray} {n : Nat} {rest : List Value} {T : TypeId} (hb : W.heap[jb]? = some (.cells (tpc rv h n rest) T (0, 0))) : W.rangeAt jb 0 [rv, .string h, .int .i64 (n : Int)] := fun i u hu => by
  rw [Nat.zero_add]
  rcases i with _ | _ | _ | i
  · cases hu; exact cell_of hb (tpc0 _ _ _ _)
  · cases hu; exact cell_of hb (tpc1 _ _ _ _)
  · cases hu; exact cell_of hb (tpc2 _ _ _ _)
  · simp at hu
theorem tpc_there {W : World} {jb : Nat} {rv u : Value} {h h' : ByteArray} {n n' : Nat} {rest : List Value} {T : TypeId} (hb : W.heap[jb]? = some (.cells (tpc rv h n rest) T (0, 0))) : W.there jb 0 (tpc u h' n' []).size := fun j hj => by
  have h3 : j < 3 := hj
  refine ⟨?_, by simp [World.frozen?, hb]⟩
  rw [Nat.zero_add]
  rcases j with _ | _ | _ | j
  · rw [cell_of hb (tpc0 _ _ _ _)]; rfl
  · rw [cell_of hb (tpc1 _ _ _ _)]; rfl
  · rw [cell_of hb (tpc2 _ _ _ _)]; rfl
  · omega
theorem tpc_splice (rv u : Value) (h h' : ByteArray) (n n' : Nat) (rest : List Value) : splice (tpc rv h n rest) 0 (tpc u h' n' []).toList = tpc u h' n' rest := by
  show splice (tpc rv h n rest) 0 [u, .string h', .int .i64 (n' : Int)] = _
  unfold splice splice splice splice
  rw [tpc_set0, tpc_set1, tpc_set2]
theorem setCells_chg (W : World) (g o : Nat) (vs : List Value) : Chg g W (W.setCells g o vs) := by
  have h := setCells_grown vs W g o
  exact ⟨h.os, h.tape, h.output, h.size, fun k hk hn => h.block k hk (fun e => hn (Option.some.inj e))⟩
theorem gen_wlJ {P : Program} {ops : Array Oper} {rest : List Oper} {Q : Exit → Act → World → Prop} {a : Act} {W : World} (R : World → Prop) (hR : R W) (h : ∀ W', R W' → wpList P ops Q rest a W') : wpList P ops Q rest a W := h W hR
theorem jr_broken {H : List UInt8 → List UInt8} {W : World} {B jb d : Nat} {rv : Value} {rs : List ByteArray} {br : Bool} (h : JrAt H W B jb d rv rs br) : JrAt H (W.setCell ⟨jb, 4, none⟩ (.bool true)) B jb d rv rs true ∧ Chg jb W (W.setCell ⟨jb, 4, none⟩ (.bool true)) :=
  ⟨⟨heap_setCell_same _ _ _ _ _ _ h.b, own_keep h.own fun g hg => by
    obtain ⟨_, _, c, fr, hc⟩ := own_blk h.own hg
    exact Below.heap_setCell _ _ _ _ (blocks_ne hc h.b (by decide)), h.hb⟩, (Chg.refl _ _).set _⟩
theorem jr_next {H : List UInt8 → List UInt8} {W : World} {B N jb d tb : Nat} {rv rv' : Value} {rs rs' : List ByteArray} {br : Bool} (h : JrAt H W B jb d rv rs br) (g : TpW W N tb rv' (RW.strOf (RW.hds H RW.z32 rs')) (RW.stos H RW.z32 rs').length rs') (hBN : B ≤ N) : JrAt H (W.setCells jb 0 (tpc rv' (RW.strOf (RW.hds H RW.z32 rs')) (RW.stos H RW.z32 rs').length []).toList) B jb d rv' rs' br :=
  ⟨by
    have h1 := setCells_heap (tpc rv' (RW.strOf (RW.hds H RW.z32 rs')) (RW.stos H RW.z32 rs').length []).toList W jb 0 _ _ _ h.b
    rwa [tpc_splice] at h1, own_keep (own_mono g.own hBN) fun k hk => by
    obtain ⟨_, hl, c, fr, hc⟩ := own_blk g.own hk
    exact (setCells_chg _ _ _ _).block k hl (blocks_ne hc h.b (by decide)), h.hb⟩
theorem tpc_one (rv : Value) (h : ByteArray) (n : Nat) (hv : rv.oneCell' = true) : (tpc rv h n []).all (·.oneCell') = true := by
  refine all_oneCell_toArray ?_
  intro v hv'
  rcases List.mem_cons.1 hv' with rfl | hv'
  · exact hv
  rcases List.mem_cons.1 hv' with rfl | hv'
  · rfl
  rcases List.mem_cons.1 hv' with rfl | hv'
  · rfl
  · cases hv'
set_option maxRecDepth 100000 in
set_option maxHeartbeats 8000000 in
theorem Append_any (B b n db vb jb : Nat) (pv rv lv : Value) (S : RW.Dk) (rs l : List ByteArray) (br : Bool) (K : Nat → Int) (ks : Array Value) (hks : RW.WsOk ks K) (w : World) (hD : DiskAt w B b n db vb pv S) (hp : S.pend.length < 900000) (hJ : JrAt (RW.sha K) w B jb b rv rs br) (hfit : (RW.stos (RW.sha K) RW.z32 rs).length ≤ n) (hl : StrR w lv l) (hll : l.length ≤ 1000) (hK : KLaid w ks) :
    Calls Tryz.prog 11 #[.pointer (some ⟨jb, 0, none⟩), lv] w (AppOut (RW.sha K) B b n db vb jb S rs l br w) := by
  have hBs := hide (show B ≤ w.heap.size from Nat.le_trans hD.hb (Nat.le_of_lt hD.lt.1))
  have hnx := hide (fun W (hW : Below w.heap.size w W) => (show DiskAt W B b n db vb pv S ∧ JrAt (RW.sha K) W B jb b rv rs br ∧ StrR W lv l ∧ KLaid W ks ∧ TchJ jb b db vb w W ∧ Below B w W from ⟨hD.next hW, hJ.next hW, hl.next hW, RW.jklaid hK hW (Nat.le_refl _), .of_tch (Tch.of_below hW), hW.mono hBs.out⟩))
  have hn := hD.hn
  have c4 : w.cell? ⟨jb, 4, none⟩ = some (.bool br) := hJ.brk
  cases br
  case true =>
    have hR := hide (RW.japp_long (H := RW.sha K) (n := n) (S := S) (rs := rs) (l := l) (br := true) (.inl rfl))
    have q0 := hide (hnx.out w (Below.refl _ _))
    clear hD hJ hl hK hfit hnx
    go_enter Tryz.func11, Tryz.ntmps11
    go_wp2
    go_ret
    unfold AppOut
    rw [hR.out]
    obtain ⟨q1, q2, _, _, q5, q6⟩ := q0.out
    exact ⟨rfl, ⟨pv, rv, q1, q2⟩, q5, q6⟩
  case false =>
    have hCo := hide (containsLong hl (by omega))
    cases hlong : l.any (fun r => decide (65536 < r.size))
    case true =>
      have hR := hide (RW.japp_long (H := RW.sha K) (n := n) (S := S) (rs := rs) (l := l) (br := false) (.inr hlong))
      rw [hlong] at hCo
      clear hD hJ hl hK hfit hlong
      go_enter Tryz.func11, Tryz.ntmps11
      go_wp2_with (go_at_call 40; refine hCo.out.mono ?_; rintro e w1 ⟨rfl, hq1⟩; have hB1H := hide (show Below w.heap.size w w1 by obtain ⟨q, rfl⟩ := hq1; exact ⟨rfl, rfl, rfl, Nat.le_refl _, fun _ _ => rfl⟩); clear hq1)
      go_ret
      unfold AppOut
      rw [hR.out]
      obtain ⟨q1, q2, _, _, q5, q6⟩ := hnx.out _ hB1H.out
      exact ⟨rfl, ⟨pv, rv, q1, q2⟩, q5, q6⟩
    case false =>
      rw [hlong] at hCo
      have hlm := hide (show ∀ r ∈ l, r.size ≤ 65536 from fun r hr => by
        have h1 : ¬ 65536 < r.size := fun e => by
          have : l.any (fun r => decide (65536 < r.size)) = true := List.any_eq_true.2 ⟨r, hr, decide_eq_true e⟩
          rw [hlong] at this
          cases this
        omega)
      have hlongH := hide hlong
      have hfitH := hide hfit
      obtain ⟨N, hN⟩ : ∃ N, N = w.heap.size := ⟨_, rfl⟩
      have hNH := hide hN
      rw [← hN] at hnx hBs
      have hrl := hide (show rs.length ≤ 4194304 by have := RW.stos_ge (RW.sha K) rs RW.z32; omega)
      obtain ⟨ra, rc, rfl⟩ := own_shape hJ.own
      obtain ⟨hd0, hhd0⟩ : ∃ h, h = RW.hds (RW.sha K) RW.z32 rs := ⟨_, rfl⟩
      obtain ⟨at_, hat⟩ : ∃ h, h = (RW.stos (RW.sha K) RW.z32 rs).length := ⟨_, rfl⟩
      have hhd0H := hide hhd0
      have hatH := hide hat
      rw [← hat] at hfitH hfit
      have hJbW := hide (fun W (hW : Below N w W) => (show W.heap[jb]? = some (.cells (tpc (.slice ra rs.length rc) (RW.strOf hd0) at_ [.pointer (some ⟨b, 0, none⟩), .bool false]) 85 (0, 0)) from by rw [hhd0, hat]; exact ((hnx.out W hW).2.1).b))
      clear hD hJ hl hK hlong hhd0 hat hN
      go_enter Tryz.func11, Tryz.ntmps11
      go_upto_region 6 with (go_at_call 40; refine hCo.out.mono ?_; rintro e w1 ⟨rfl, hq1⟩; have hB1H := hide (show Below N w w1 by obtain ⟨q, rfl⟩ := hq1; exact ⟨rfl, rfl, rfl, Nat.le_refl _, fun _ _ => rfl⟩); clear hq1)
      clear hCo c4
      have hrow := tpc_range (hJbW.out w1 hB1H.out)
      have hps := tp_sizeL (.slice ra rs.length rc) (RW.strOf hd0) at_
      go_upto_region 7 with (refine wpList_load_mid rfl 83 (.tmp 25) rfl jb 0 rfl [.slice ra rs.length rc, .string (RW.strOf hd0), .int .i64 (at_ : Int)] _ hrow Tryz.underlying83 rfl hps ?_)
      obtain ⟨tb, htb⟩ : ∃ t, t = w1.heap.size := ⟨_, rfl⟩
      have h2 := hide (show (w1.alloc (.cells #[.slice ra rs.length rc, .string (RW.strOf hd0), .int .i64 (at_ : Int)] 83)).heap[tb]? = some (.cells (tpc (.slice ra rs.length rc) (RW.strOf hd0) at_ []) 83 (0, 0)) ∧ Below N w (w1.alloc (.cells #[.slice ra rs.length rc, .string (RW.strOf hd0), .int .i64 (at_ : Int)] 83)) ∧ N ≤ tb from ⟨newAt htb, alloc_bel hB1H.out (Nat.le_of_eq hNH.out) _, by rw [htb, hNH.out]; exact hB1H.out.size⟩)
      rw [← htb]
      refine gen_w (fun W => W.heap[tb]? = some (.cells (tpc (.slice ra rs.length rc) (RW.strOf hd0) at_ []) 83 (0, 0)) ∧ Below N w W ∧ N ≤ tb) h2.out ?_
      clear h2 htb hrow hps hB1H
      rintro w2 ⟨ht2, hB2, htN⟩
      have c0 : w2.cell? ⟨tb, 0, none⟩ = some (.slice ra rs.length rc) := cell_of ht2 (tpc0 _ _ _ _)
      have hCl := hide (clone_any (strs_own (hnx.out w2 hB2).2.1.own) (by have := hrl.out; omega))
      have ht2H := hide ht2
      have hB2H := hide hB2
      have htNH := hide htN
      clear ht2 hB2 htN
      go_upto_region 9 with (go_at_call 41; refine hCl.out.mono ?_; rintro e w3 ⟨u, rfl, hu3, hB3⟩; obtain ⟨ua, uc, eu⟩ := own_shape hu3; subst eu; have hu3H := hide hu3; have hB3H := hide hB3; have d0 : w3.cell? ⟨tb, 0, none⟩ = some (.slice ra rs.length rc) := cell_of ((hB3.block _ (Array.getElem?_eq_some_iff.1 ht2H.out).1).trans ht2H.out) (tpc0 _ _ _ _); have f0 : w3.frozen? ⟨tb, 0, none⟩ = false := unfrozen ((hB3.block _ (Array.getElem?_eq_some_iff.1 ht2H.out).1).trans ht2H.out); clear hu3 hB3)
      obtain ⟨bb, hbb⟩ : ∃ t, t = w3.heap.size := ⟨_, rfl⟩
      have h4 := hide (show ∀ W4, W4 = (w3.setCell ⟨tb, 0, none⟩ (.slice ua rs.length uc)).alloc (.cells #[.pointer none, .slice none 0 0] 89) → ApW W4 w N tb bb (.slice ua rs.length uc) (RW.strOf hd0) at_ rs [] from by
        rintro W4 rfl
        have hb3 := (hB3H.out.block _ (Array.getElem?_eq_some_iff.1 ht2H.out).1).trans ht2H.out
        have hset : (w3.setCell ⟨tb, 0, none⟩ (.slice ua rs.length uc)).heap[tb]? = some (.cells (tpc (.slice ua rs.length uc) (RW.strOf hd0) at_ []) 83 (0, 0)) := by
          rw [← tpc_set0 (.slice ra rs.length rc)]
          exact heap_setCell_same _ _ _ _ _ _ hb3
        have hbel : Below N w (w3.setCell ⟨tb, 0, none⟩ (.slice ua rs.length uc)) := (hB2H.out.trans (hB3H.out.mono (by rw [hNH.out]; exact hB2H.out.size))).setCell (p := ⟨tb, 0, none⟩) htNH.out _
        have hsz : (w3.setCell ⟨tb, 0, none⟩ (.slice ua rs.length uc)).heap.size = w3.heap.size := by simp
        refine ⟨alloc_old _ _ hset, own_keep (own_mono hu3H.out (by rw [hNH.out]; exact hB2H.out.size)) fun g hg => ?_, ?_, alloc_bel hbel (Nat.le_of_eq hNH.out) _, htNH.out, ?_⟩
        · obtain ⟨_, h5, c, fr, hc⟩ := own_blk hu3H.out hg
          refine (Below.heap_alloc _ _ g (by rw [hsz]; exact h5)).trans (Below.heap_setCell _ _ _ _ ?_)
          exact blocks_ne hc hb3 (by decide)
        · refine .inl ⟨Nat.le_refl _, .slice none 0 0, ?_, ⟨rfl, .inl ⟨rfl, rfl⟩⟩, fun e => by cases e⟩
          rw [hbb, ← hsz]
          exact alloc_at1 _ _
        · rw [hbb, hNH.out]
          exact Nat.le_trans hB2H.out.size hB3H.out.size)
      have hbbH := hide hbb
      clear hbb
      have hsz4 : (w3.setCell ⟨tb, 0, none⟩ (.slice ua rs.length uc)).heap.size = w3.heap.size := by simp
      have hlA := hide (fun W (hW : Below N w W) => (hnx.out W hW).2.2.1)
      obtain ⟨la, lc, elv, _, _⟩ := id (hlA.out w (Below.refl _ _))
      subst elv
      obtain ⟨m, hm⟩ : ∃ m, m = l.length := ⟨_, rfl⟩
      have hmH := hide hm
      rw [← hm] at hlA hll ⊢
      clear hm
      go_wp2
      try rw [hsz4]
      rw [← hbbH.out]
      go_loopw [33] (fun i wr => ∃ (j : Nat), i = .int .i64 j ∧ j ≤ m ∧ Hid (∃ rv1, ApW wr w N tb bb rv1 (RW.strOf (RW.hds (RW.sha K) RW.z32 (rs ++ l.take j))) (RW.stos (RW.sha K) RW.z32 (rs ++ l.take j)).length (rs ++ l.take j) (RW.stos (RW.sha K) hd0 (l.take j)))) (fun i _ => m - (intOf i).toNat)
      case atStart =>
        refine ⟨0, rfl, Nat.zero_le _, .slice ua rs.length uc, ?_⟩
        have h5 := h4.out _ rfl
        rw [List.take_zero, List.append_nil, ← hhd0H.out, ← hatH.out]
        exact h5
      case round =>
        obtain ⟨j, rfl, hj, hQ⟩ := hrel
        obtain ⟨wo, hwo⟩ : ∃ wo, wo = wr := ⟨_, rfl⟩
        subst hwo
        obtain ⟨rv1, hA1⟩ := hQ.out
        have hAH := hide hA1
        clear hQ hA1 h4 c0 d0 f0 hsz4
        by_cases hjm : j < m
        · obtain ⟨r, hr⟩ : ∃ r, l[j]? = some r := ⟨_, List.getElem?_eq_getElem (by rw [← hmH.out]; exact hjm)⟩
          obtain ⟨la', lc', e', _, hcell⟩ := hlA.out wo hAH.out.bel
          cases e'
          obtain ⟨g0, o0, rfl, _, hcc⟩ := hcell.resolve_left (by rintro rfl; simp at hr)
          have e0 : wo.cell? ⟨g0, o0 + j, none⟩ = some (.string r) := by
            have := hcc j r hr 0 _ rfl
            rwa [Nat.mul_one, Nat.add_zero] at this
          have hrm := hlm.out r (List.mem_of_getElem? hr)
          have htk := hide (RW.take_snocB hr)
          have hj1000 := hide (show j ≤ 1000 by omega)
          obtain ⟨X, hX⟩ : ∃ X : ByteArray, X = ⟨(RW.sto (RW.sha K) (RW.hds (RW.sha K) RW.z32 (rs ++ l.take j)) r).toArray⟩ := ⟨_, rfl⟩
          have hlent := hide (show (l.take j).length = j by rw [List.length_take]; omega)
          have hst := hide (show (RW.stos (RW.sha K) RW.z32 (rs ++ l.take j)).length ≤ 80000000 by
            rw [RW.stos_app, List.length_append, ← hatH.out]
            have h1 := RW.stos_len_le (RW.sha_len K) (l.take j) (RW.hds (RW.sha K) RW.z32 rs) (fun q hq => hlm.out q (List.mem_of_mem_take hq))
            rw [hlent.out] at h1
            have := hfitH.out
            have := hj1000.out
            omega)
          have hbl := hide (show (RW.stos (RW.sha K) hd0 (l.take j)).length ≤ 80000000 by
            have h1 := RW.stos_len_le (RW.sha_len K) (l.take j) hd0 (fun q hq => hlm.out q (List.mem_of_mem_take hq))
            rw [hlent.out] at h1
            have := hj1000.out
            omega)
          have hTa := hide (tadd_any tb N rv1 (RW.strOf (RW.hds (RW.sha K) RW.z32 (rs ++ l.take j))) r (RW.stos (RW.sha K) RW.z32 (rs ++ l.take j)).length [] 83 (by decide) (rs ++ l.take j) (by rw [List.length_append, hlent.out]; have := hrl.out; have := hj1000.out; omega) hrm (by rw [RW.strOf_size]; exact hds_len K _) (by have := hst.out; omega) K ks hks wo ((hnx.out wo hAH.out.bel).2.2.2.1) (Nat.le_trans hAH.out.tbN (Nat.le_of_lt (Array.getElem?_eq_some_iff.1 hAH.out.b).1)) hAH.out.b hAH.out.own)
          rw [RW.strOf_list, ← hX] at hTa
          have hXl := hide (show X.data.toList = RW.sto (RW.sha K) (RW.hds (RW.sha K) RW.z32 (rs ++ l.take j)) r by rw [hX])
          have hXs := hide (show X.size ≤ 70000 by
            rw [← size_list, hXl.out, RW.sto_len _ (RW.sha_len K)]
            have h4 := RW.putI_len (r.data.toList.length : Int)
            have h5 := size_list r
            unfold RW.putS
            rw [List.length_append]
            omega)
          have hnew := hide (show ∀ (W : World) (rv2 : Value) (t : List UInt8), ApW W w N tb bb rv2 ⟨(RW.chn (RW.sha K) (RW.hds (RW.sha K) RW.z32 (rs ++ l.take j)) r).toArray⟩ ((RW.stos (RW.sha K) RW.z32 (rs ++ l.take j)).length + (RW.sto (RW.sha K) (RW.hds (RW.sha K) RW.z32 (rs ++ l.take j)) r).length) ((rs ++ l.take j) ++ [r]) (RW.stos (RW.sha K) hd0 (l.take j) ++ X.data.toList) → ApW W w N tb bb rv2 (RW.strOf (RW.hds (RW.sha K) RW.z32 (rs ++ l.take (j + 1)))) (RW.stos (RW.sha K) RW.z32 (rs ++ l.take (j + 1))).length (rs ++ l.take (j + 1)) (RW.stos (RW.sha K) hd0 (l.take (j + 1))) from by
            intro W rv2 t h
            have e1 : RW.hds (RW.sha K) hd0 (l.take j) = RW.hds (RW.sha K) RW.z32 (rs ++ l.take j) := by rw [RW.hds_app, hhd0H.out]
            rw [htk.out, ← List.append_assoc, RW.hds_snoc, RW.stos_snoc, RW.stos_snoc, List.length_append, e1, ← hXl.out]
            rw [← hXl.out] at h
            exact h)
          clear hr hcc hcell hX hrm
          go_wp2_with (first
            | (go_at_call 43; refine hTa.out.mono ?_; rintro e w5 ⟨rfl, rv2, hT5⟩; have hA5 := hide (hAH.out.add hT5); clear hT5)
            | (go_at_call 42; refine (writestring bb bb _ X w5 hA5.out.bl (by rw [Lib.byteCells_length]; have := hbl.out; have := hXs.out; omega) (by obtain ⟨cs, hcs⟩ := bl_block hA5.out.bl; exact Nat.le_of_lt (Array.getElem?_eq_some_iff.1 hcs).1)).mono ?_; rintro e w6 ⟨rfl, hb6, hB6, hk6⟩; have hA6 := hide (hA5.out.put (t' := RW.stos (RW.sha K) hd0 (l.take j) ++ X.data.toList) (.inr (by rw [byte_app, ← byte_strCells X.data.toList]; exact hb6)) hB6 hk6); clear hb6 hB6 hk6))
          go_roundw
          case rel => exact ⟨j + 1, by go_num, by omega, rv2, hnew.out _ _ [] hA6.out⟩
          case measure => simp [intOf]; omega
        · obtain rfl : m = j := by omega
          have htl := hide (show l.take m = l by rw [hmH.out]; exact List.take_length)
          obtain ⟨O, hO⟩ : ∃ O, O = RW.stos (RW.sha K) hd0 l := ⟨_, rfl⟩
          have hAl := hide (show ApW wo w N tb bb rv1 (RW.strOf (RW.hds (RW.sha K) RW.z32 (rs ++ l))) (RW.stos (RW.sha K) RW.z32 (rs ++ l)).length (rs ++ l) O from by
            have h := hAH.out
            rw [htl.out, ← hO] at h
            exact h)
          have hOH := hide hO
          have hOl := hide (show O.length ≤ 80000000 by
            rw [hO]
            have h1 := RW.stos_len_le (RW.sha_len K) l hd0 hlm.out
            have h2 : l.length ≤ 1000 := by rw [← hmH.out]; exact hll
            omega)
          clear hO hAH
          obtain ⟨X, hX⟩ : ∃ X : ByteArray, X = RW.strOf O := ⟨_, rfl⟩
          have hXs : X.size = O.length := by rw [hX, RW.strOf_size]
          have hfit0 := hfitH.out
          obtain ⟨q, hq⟩ : ∃ q : Nat, (n : Int) - (at_ : Int) = (q : Int) := ⟨n - at_, by omega⟩
          have hbbl := hide (show bb ≤ wo.heap.size by obtain ⟨cs, hcs⟩ := bl_block hAl.out.bl; exact Nat.le_of_lt (Array.getElem?_eq_some_iff.1 hcs).1)
          have hS := hide (show Calls Tryz.prog 44 #[.pointer (some ⟨bb, 0, none⟩)] wo fun e w' => e = .returned (.string X) ∧ Below bb wo w' ∧ (O ≠ [] → RW.BKept 5 bb wo w') from by
            rw [hX]
            by_cases h0 : O = []
            · refine (SH.Builder_String_any bb bb O wo hAl.out.bl hbbl.out).mono ?_
              rintro e w' ⟨rfl, h⟩
              exact ⟨rfl, h, fun h1 => absurd h0 h1⟩
            · refine (bstring bb bb O wo hAl.out.bl h0).mono ?_
              rintro e w' ⟨rfl, h, h1⟩
              exact ⟨rfl, h, fun _ => h1⟩)
          have hRm := hide (fun W (hW : Below N w W) => (show Calls Tryz.prog 21 #[.pointer (some ⟨jb, 0, none⟩)] W fun e w' => e = .returned (.int .i64 (q : Int)) ∧ ∃ k, w' = W.drewN k from by
            have h := hnx.out W hW
            refine (room_any B b n db vb jb pv _ S rs false (by rw [← hatH.out]; have := hfitH.out; omega) W h.1 h.2.1).mono ?_
            rintro e w' ⟨rfl, hk⟩
            exact ⟨by rw [← hatH.out, hq], hk⟩))
          have hXH := hide hX
          have hqH := hide hq
          have hpH := hide hp
          clear hX hq htl hfit hfit0 hp
          by_cases hfull : q < O.length
          · have hcm0 : q < X.size := by omega
            have hcmp : decide (q < X.size) = true := decide_eq_true hcm0
            have hR := hide (RW.japp_full (H := RW.sha K) (n := n) (S := S) (rs := rs) (l := l) hlongH.out (by rw [← hatH.out, ← hhd0H.out, ← hOH.out]; have := hqH.out; omega))
            clear hfull hXs
            go_wp2_with (first
              | (go_at_call 44; refine hS.out.mono ?_; rintro e w7 ⟨rfl, hB7, hk7⟩; have hB7H := hide (hAl.out.bel.trans (hB7.mono hAl.out.bbN)); have hk7H := hide hk7; clear hB7 hk7)
              | (go_at_call 21; refine (hRm.out w7 hB7H.out).mono ?_; rintro e w8 ⟨rfl, hk8⟩; have hB8H := hide (show Below N w w8 from by obtain ⟨k, rfl⟩ := hk8; exact hB7H.out.trans ⟨rfl, rfl, rfl, Nat.le_refl _, fun _ _ => rfl⟩); have hk8H := hide hk8; clear hk8))
            go_ret
            unfold AppOut
            rw [hR.out]
            obtain ⟨q1, q2, _, _, q5, q6⟩ := hnx.out _ hB8H.out
            exact ⟨rfl, ⟨pv, _, q1, q2⟩, q5, q6⟩
          · have hcm0 : ¬ (q < X.size) := by omega
            have hcmp : decide (q < X.size) = false := decide_eq_false hcm0
            by_cases hO0 : O = []
            · have hemp : X.toList.isEmpty = true := RW.emp_yes0 X (by rw [hXH.out, hO0]; rfl)
              have hR := hide (show RW.japp (RW.sha K) n S rs false l = (0, rs, false, S) by
                have h1 := RW.stos_ge (RW.sha K) l hd0
                rw [← hOH.out, hO0] at h1
                have h2 : l = [] := List.eq_nil_of_length_eq_zero (Nat.le_zero.1 h1)
                rw [h2]
                exact RW.japp_none)
              clear hfull hXs hO0
              go_wp2_with (first
                | (go_at_call 44; refine hS.out.mono ?_; rintro e w7 ⟨rfl, hB7, hk7⟩; have hB7H := hide (hAl.out.bel.trans (hB7.mono hAl.out.bbN)); have hk7H := hide hk7; clear hB7 hk7)
                | (go_at_call 21; refine (hRm.out w7 hB7H.out).mono ?_; rintro e w8 ⟨rfl, hk8⟩; have hB8H := hide (show Below N w w8 from by obtain ⟨k, rfl⟩ := hk8; exact hB7H.out.trans ⟨rfl, rfl, rfl, Nat.le_refl _, fun _ _ => rfl⟩); have hk8H := hide hk8; clear hk8))
              go_ret
              unfold AppOut
              rw [hR.out]
              obtain ⟨q1, q2, _, _, q5, q6⟩ := hnx.out _ hB8H.out
              exact ⟨rfl, ⟨pv, _, q1, q2⟩, q5, q6⟩
            · have hemp : X.toList.isEmpty = false := RW.emp_no0 X (by rw [hXH.out, RW.strOf_list]; exact hO0)
              have hX1 := hide (show 1 ≤ X.size by rw [hXs]; cases O with | nil => exact absurd rfl hO0 | cons a t => simp)
              have hl0 := hide (show l ≠ [] from fun e => hO0 (by rw [hOH.out, e]; rfl))
              have hff := hide (show ¬ (n - (RW.stos (RW.sha K) RW.z32 rs).length < (RW.stos (RW.sha K) (RW.hds (RW.sha K) RW.z32 rs) l).length) by rw [← hatH.out, ← hhd0H.out, ← hOH.out]; have := hqH.out; omega)
              have hO0H := hide hO0
              have hOql := hide (show O.length ≤ 4194304 by have := hqH.out; omega)
              have hXsH := hide hXs
              clear hfull hXs hO0
              go_upto_region 19 with (first
                | (go_at_call 44; refine hS.out.mono ?_; rintro e w7 ⟨rfl, hB7, hk7⟩; have hB7H := hide (hAl.out.bel.trans (hB7.mono hAl.out.bbN)); have hk7H := hide hk7; clear hB7 hk7)
                | (go_at_call 21; refine (hRm.out w7 hB7H.out).mono ?_; rintro e w8 ⟨rfl, hk8⟩; have hB8H := hide (show Below N w w8 from by obtain ⟨k, rfl⟩ := hk8; exact hB7H.out.trans ⟨rfl, rfl, rfl, Nat.le_refl _, fun _ _ => rfl⟩); have hk8H := hide hk8; clear hk8))
              have hTp8 := hide (show TpW w8 N tb rv1 (RW.strOf (RW.hds (RW.sha K) RW.z32 (rs ++ l))) (RW.stos (RW.sha K) RW.z32 (rs ++ l)).length (rs ++ l) from by
                obtain ⟨k, rfl⟩ := hk8H.out
                exact (hAl.out.kept (hk7H.out hO0H.out)).next ⟨rfl, rfl, rfl, Nat.le_refl _, fun _ _ => rfl⟩)
              have hD8 := hide ((hnx.out w8 hB8H.out).1)
              have hJ8 := hide ((hnx.out w8 hB8H.out).2.1)
              have hT8 := hide ((hnx.out w8 hB8H.out).2.2.2.2)
              have c2W := hide (fun W (hW : Below w8.heap.size w8 W) => (show W.cell? ⟨jb, 2, none⟩ = some (.int .i64 (at_ : Int)) from by rw [hatH.out]; exact cell_of (hJ8.out.next hW).b (tpc2 _ _ _ _)))
              have c3W := hide (fun W (hW : Below w8.heap.size w8 W) => (show W.cell? ⟨jb, 3, none⟩ = some (.pointer (some ⟨b, 0, none⟩)) from (hJ8.out.next hW).disk))
              have eX1 := hide (show X.extract 1 X.size = RW.strOf (O.drop 1) from by
                refine ByteArray.ext (Array.ext' ?_)
                rw [RW.extract_eq X 1 X.size (Nat.le_refl _), hXH.out, RW.strOf_list, RW.strOf_list, RW.strOf_size, ← List.length_drop, List.take_length])
              have eX2 := hide (show X.extract 0 1 = RW.strOf (O.take 1) from by
                refine ByteArray.ext (Array.ext' ?_)
                rw [RW.extract_eq X 0 1 hX1.out, hXH.out, RW.strOf_list, RW.strOf_list, List.drop_zero])
              obtain ⟨E, hE⟩ : ∃ E : Int × RW.Dk, E = (if (RW.wrsy n S (at_ + 1) (O.drop 1)).1 ≠ 0 then RW.wrsy n S (at_ + 1) (O.drop 1) else RW.wrsy n (RW.wrsy n S (at_ + 1) (O.drop 1)).2 at_ (O.take 1)) := ⟨_, rfl⟩
              have hEH := hide hE
              have hJw := hide (RW.japp_wr (H := RW.sha K) (n := n) (S := S) (rs := rs) (l := l) hlongH.out hff.out hl0.out (R := E) (by rw [← hatH.out, ← hhd0H.out, ← hOH.out]; exact hE))
              clear hE hk8H hk7H hB7H hAl hS hRm hcmp hcm0 hemp
              refine wp_region_k (fun h W => 30 ∈ h ∨ Below w8.heap.size w8 W) (fun _ => True) [9, 23, 29, 30] (.op 0 (.op 1 (.op 2 (.op 3 (.op 4 (.op 5 (.op 6 (.op 7 (.op 8 (.op 10 (.op 11 (.op 12 (.op 13 (.op 14 (.op 15 (.op 16 (.op 17 (.op 18 (.op 19 (.op 20 (.op 21 (.op 22 (.op 24 (.op 25 (.op 26 (.op 27 (.op 28 (.op 9 (.op 23 (.op 29 (.op 30 (.op 31 .nil)))))))))))))))))))))))))))))))) (by kernel_rfl) (by kernel_rfl) (by rfl) (by kernel_rfl) (.inr (Below.refl w8.heap.size w8).drew) trivial ?_
              refine k_val (.pointer (some ⟨jb, 0, none⟩)) (by apply opN; repeat' (first | apply OpAt.z | apply OpAt.s)) (by rfl) (by rfl) (fun _ W hS => op_mv rfl rfl) ?_
              simp only [Act.put, List.setIfInBounds_toArray, List.set_cons_zero, List.set_cons_succ]
              refine k_val (.pointer (some ⟨jb, 0, none⟩)) (by apply opN; repeat' (first | apply OpAt.z | apply OpAt.s)) (by rfl) (by rfl) (fun _ W hS => op_mv rfl rfl) ?_
              simp only [Act.put, List.setIfInBounds_toArray, List.set_cons_zero, List.set_cons_succ]
              refine k_val (.pointer (some ⟨jb, 0, none⟩)) (by apply opN; repeat' (first | apply OpAt.z | apply OpAt.s)) (by rfl) (by rfl) (fun _ W hS => op_nc rfl rfl) ?_
              simp only [Act.put, List.setIfInBounds_toArray, List.set_cons_zero, List.set_cons_succ]
              refine k_val (.pointer (some ⟨jb, 0, none⟩)) (by apply opN; repeat' (first | apply OpAt.z | apply OpAt.s)) (by rfl) (by rfl) (fun _ W hS => op_fa rfl rfl (fa_jt W)) ?_
              simp only [Act.put, List.setIfInBounds_toArray, List.set_cons_zero, List.set_cons_succ]
              refine k_val (.pointer (some ⟨jb, 2, none⟩)) (by apply opN; repeat' (first | apply OpAt.z | apply OpAt.s)) (by rfl) (by rfl) (fun _ W hS => op_fa rfl rfl (fa_tp2 W)) ?_
              simp only [Act.put, List.setIfInBounds_toArray, List.set_cons_zero, List.set_cons_succ]
              refine k_bef 30 (.int .i64 (at_ : Int)) (by apply opN; repeat' (first | apply OpAt.z | apply OpAt.s)) (by rfl) (by rfl) (by decide +kernel) (by rfl) (fun _ W hg hS => op_ld rfl rfl (jint_ld (c2W.out W (hS.resolve_left hg)))) ?_
              simp only [Act.put, List.setIfInBounds_toArray, List.set_cons_zero, List.set_cons_succ]
              refine k_val (.int .i64 ((at_ + 1 : Nat) : Int)) (by apply opN; repeat' (first | apply OpAt.z | apply OpAt.s)) (by rfl) (by rfl) (fun _ W hS => op_addj rfl rfl rfl (by omega) (by have := hfitH.out; omega)) ?_
              simp only [Act.put, List.setIfInBounds_toArray, List.set_cons_zero, List.set_cons_succ]
              refine k_val (.string X) (by apply opN; repeat' (first | apply OpAt.z | apply OpAt.s)) (by rfl) (by rfl) (fun _ W hS => op_mv rfl rfl) ?_
              simp only [Act.put, List.setIfInBounds_toArray, List.set_cons_zero, List.set_cons_succ]
              refine k_val (.string (RW.strOf (O.drop 1))) (by apply opN; repeat' (first | apply OpAt.z | apply OpAt.s)) (by rfl) (by rfl) (fun _ W hS => (op_sl1 rfl rfl rfl hX1.out).trans (by rw [eX1.out])) ?_
              simp only [Act.put, List.setIfInBounds_toArray, List.set_cons_zero, List.set_cons_succ]
              refine k_val (.pointer (some ⟨jb, 0, none⟩)) (by apply opN; repeat' (first | apply OpAt.z | apply OpAt.s)) (by rfl) (by rfl) (fun _ W hS => op_mv rfl rfl) ?_
              simp only [Act.put, List.setIfInBounds_toArray, List.set_cons_zero, List.set_cons_succ]
              refine k_val (.pointer (some ⟨jb, 0, none⟩)) (by apply opN; repeat' (first | apply OpAt.z | apply OpAt.s)) (by rfl) (by rfl) (fun _ W hS => op_nc rfl rfl) ?_
              simp only [Act.put, List.setIfInBounds_toArray, List.set_cons_zero, List.set_cons_succ]
              refine k_val (.pointer (some ⟨jb, 3, none⟩)) (by apply opN; repeat' (first | apply OpAt.z | apply OpAt.s)) (by rfl) (by rfl) (fun _ W hS => op_fa rfl rfl (fa_jd W)) ?_
              simp only [Act.put, List.setIfInBounds_toArray, List.set_cons_zero, List.set_cons_succ]
              refine k_bef 30 (.pointer (some ⟨b, 0, none⟩)) (by apply opN; repeat' (first | apply OpAt.z | apply OpAt.s)) (by rfl) (by rfl) (by decide +kernel) (by rfl) (fun _ W hg hS => op_ld rfl rfl (ptr_ldd (c3W.out W (hS.resolve_left hg)))) ?_
              simp only [Act.put, List.setIfInBounds_toArray, List.set_cons_zero, List.set_cons_succ]
              refine k_val (scl b) (by apply opN; repeat' (first | apply OpAt.z | apply OpAt.s)) (by rfl) (by rfl) (fun _ W hS => op_mfs rfl rfl) ?_
              simp only [Act.put, List.setIfInBounds_toArray, List.set_cons_zero, List.set_cons_succ]
              refine k_val (.pointer (some ⟨jb, 0, none⟩)) (by apply opN; repeat' (first | apply OpAt.z | apply OpAt.s)) (by rfl) (by rfl) (fun _ W hS => op_mv rfl rfl) ?_
              simp only [Act.put, List.setIfInBounds_toArray, List.set_cons_zero, List.set_cons_succ]
              refine k_val (.pointer (some ⟨jb, 0, none⟩)) (by apply opN; repeat' (first | apply OpAt.z | apply OpAt.s)) (by rfl) (by rfl) (fun _ W hS => op_mv rfl rfl) ?_
              simp only [Act.put, List.setIfInBounds_toArray, List.set_cons_zero, List.set_cons_succ]
              refine k_val (.pointer (some ⟨jb, 0, none⟩)) (by apply opN; repeat' (first | apply OpAt.z | apply OpAt.s)) (by rfl) (by rfl) (fun _ W hS => op_nc rfl rfl) ?_
              simp only [Act.put, List.setIfInBounds_toArray, List.set_cons_zero, List.set_cons_succ]
              refine k_val (.pointer (some ⟨jb, 0, none⟩)) (by apply opN; repeat' (first | apply OpAt.z | apply OpAt.s)) (by rfl) (by rfl) (fun _ W hS => op_fa rfl rfl (fa_jt W)) ?_
              simp only [Act.put, List.setIfInBounds_toArray, List.set_cons_zero, List.set_cons_succ]
              refine k_val (.pointer (some ⟨jb, 2, none⟩)) (by apply opN; repeat' (first | apply OpAt.z | apply OpAt.s)) (by rfl) (by rfl) (fun _ W hS => op_fa rfl rfl (fa_tp2 W)) ?_
              simp only [Act.put, List.setIfInBounds_toArray, List.set_cons_zero, List.set_cons_succ]
              refine k_bef 30 (.int .i64 (at_ : Int)) (by apply opN; repeat' (first | apply OpAt.z | apply OpAt.s)) (by rfl) (by rfl) (by decide +kernel) (by rfl) (fun _ W hg hS => op_ld rfl rfl (jint_ld (c2W.out W (hS.resolve_left hg)))) ?_
              simp only [Act.put, List.setIfInBounds_toArray, List.set_cons_zero, List.set_cons_succ]
              refine k_val (.string X) (by apply opN; repeat' (first | apply OpAt.z | apply OpAt.s)) (by rfl) (by rfl) (fun _ W hS => op_mv rfl rfl) ?_
              simp only [Act.put, List.setIfInBounds_toArray, List.set_cons_zero, List.set_cons_succ]
              refine k_val (.string (RW.strOf (O.take 1))) (by apply opN; repeat' (first | apply OpAt.z | apply OpAt.s)) (by rfl) (by rfl) (fun _ W hS => (op_sl01 rfl rfl rfl hX1.out).trans (by rw [eX2.out])) ?_
              simp only [Act.put, List.setIfInBounds_toArray, List.set_cons_zero, List.set_cons_succ]
              refine k_val (.pointer (some ⟨jb, 0, none⟩)) (by apply opN; repeat' (first | apply OpAt.z | apply OpAt.s)) (by rfl) (by rfl) (fun _ W hS => op_mv rfl rfl) ?_
              simp only [Act.put, List.setIfInBounds_toArray, List.set_cons_zero, List.set_cons_succ]
              refine k_val (.pointer (some ⟨jb, 0, none⟩)) (by apply opN; repeat' (first | apply OpAt.z | apply OpAt.s)) (by rfl) (by rfl) (fun _ W hS => op_nc rfl rfl) ?_
              simp only [Act.put, List.setIfInBounds_toArray, List.set_cons_zero, List.set_cons_succ]
              refine k_val (.pointer (some ⟨jb, 3, none⟩)) (by apply opN; repeat' (first | apply OpAt.z | apply OpAt.s)) (by rfl) (by rfl) (fun _ W hS => op_fa rfl rfl (fa_jd W)) ?_
              simp only [Act.put, List.setIfInBounds_toArray, List.set_cons_zero, List.set_cons_succ]
              refine k_bef 30 (.pointer (some ⟨b, 0, none⟩)) (by apply opN; repeat' (first | apply OpAt.z | apply OpAt.s)) (by rfl) (by rfl) (by decide +kernel) (by rfl) (fun _ W hg hS => op_ld rfl rfl (ptr_ldd (c3W.out W (hS.resolve_left hg)))) ?_
              simp only [Act.put, List.setIfInBounds_toArray, List.set_cons_zero, List.set_cons_succ]
              refine k_val (scl b) (by apply opN; repeat' (first | apply OpAt.z | apply OpAt.s)) (by rfl) (by rfl) (fun _ W hS => op_mfs rfl rfl) ?_
              simp only [Act.put, List.setIfInBounds_toArray, List.set_cons_zero, List.set_cons_succ]
              refine k_step (fun K' u => ∃ p, u = wcl p ∧ K' = fun W => WrC W p jb ((at_ + 1 : Nat) : Int) (RW.strOf (O.drop 1))) (by apply opN; repeat' (first | apply OpAt.z | apply OpAt.s)) (by rfl) (by rfl) (by rfl) (fun W hCW hK => ?_) ?_
              · refine op_x3 rfl rfl rfl rfl rfl cf_writing ?_
                refine (writing_any jb ((at_ + 1 : Nat) : Int) (RW.strOf (O.drop 1)) W).mono ?_
                rintro e W' ⟨rfl, rfl⟩
                obtain ⟨h4, h5⟩ := WrC.new W jb ((at_ + 1 : Nat) : Int) (RW.strOf (O.drop 1))
                exact ⟨_, rfl, .inr ((hCW.resolve_left (by decide)).trans (h5.mono (hCW.resolve_left (by decide)).size)), _, h4, W.heap.size, rfl, rfl⟩
              rintro _ _ ⟨p, rfl, rfl⟩
              simp only [Act.put, List.setIfInBounds_toArray, List.set_cons_zero, List.set_cons_succ]
              refine k_step (fun K' u => ∃ p2, u = wcl p2 ∧ K' = fun W => WrC W p jb ((at_ + 1 : Nat) : Int) (RW.strOf (O.drop 1)) ∧ WrC W p2 jb (at_ : Int) (RW.strOf (O.take 1))) (by apply opN; repeat' (first | apply OpAt.z | apply OpAt.s)) (by rfl) (by rfl) (by rfl) (fun W hCW hK => ?_) ?_
              · refine op_x3 rfl rfl rfl rfl rfl cf_writing ?_
                refine (writing_any jb (at_ : Int) (RW.strOf (O.take 1)) W).mono ?_
                rintro e W' ⟨rfl, rfl⟩
                obtain ⟨h4, h5⟩ := WrC.new W jb (at_ : Int) (RW.strOf (O.take 1))
                exact ⟨_, rfl, .inr ((hCW.resolve_left (by decide)).trans (h5.mono (hCW.resolve_left (by decide)).size)), _, ⟨hK.next h5, h4⟩, W.heap.size, rfl, rfl⟩
              rintro _ _ ⟨p2, rfl, rfl⟩
              simp only [Act.put, List.setIfInBounds_toArray, List.set_cons_zero, List.set_cons_succ]
              refine k_step (fun K' u => ∃ g4, u = .slice (some ⟨g4, 0, none⟩) 4 4 ∧ K' = fun W => WrC W p jb ((at_ + 1 : Nat) : Int) (RW.strOf (O.drop 1)) ∧ WrC W p2 jb (at_ : Int) (RW.strOf (O.take 1)) ∧ W.heap[g4]? = some (.cells #[wcl p, scl b, wcl p2, scl b] 96 (0, 0))) (by apply opN; repeat' (first | apply OpAt.z | apply OpAt.s)) (by rfl) (by rfl) (by rfl) (fun W hCW hK => ?_) ?_
              · exact xup_val (op_bf4 rfl rfl rfl rfl rfl) ⟨.inr (alloc_bel (hCW.resolve_left (by decide)) (Nat.le_refl _) _), _, ⟨hK.1.next (alloc_bel (Below.refl _ _) (Nat.le_refl _) _), hK.2.next (alloc_bel (Below.refl _ _) (Nat.le_refl _) _), alloc_at1 W _⟩, W.heap.size, rfl, rfl⟩
              rintro _ _ ⟨g4, rfl, rfl⟩
              simp only [Act.put, List.setIfInBounds_toArray, List.set_cons_zero, List.set_cons_succ]
              refine k_step (fun K' u => u = .int .i64 E.1 ∧ K' = fun W => ∃ pv', DiskAt W B b n db vb pv' E.2 ∧ JrAt (RW.sha K) W B jb b (.slice ra rs.length rc) rs false ∧ WrC W p jb ((at_ + 1 : Nat) : Int) (RW.strOf (O.drop 1)) ∧ WrC W p2 jb (at_ : Int) (RW.strOf (O.take 1)) ∧ W.heap[g4]? = some (.cells #[wcl p, scl b, wcl p2, scl b] 96 (0, 0)) ∧ TpW W N tb rv1 (RW.strOf (RW.hds (RW.sha K) RW.z32 (rs ++ l))) (RW.stos (RW.sha K) RW.z32 (rs ++ l)).length (rs ++ l) ∧ Tch b db vb w8 W ∧ Below B w8 W) (by apply opN; repeat' (first | apply OpAt.z | apply OpAt.s)) (by rfl) (by rfl) (by rfl) (fun W hCW hK => ?_) ?_
              · have hb9 := hCW.resolve_left (by decide)
                have h0 : (fun W => JrAt (RW.sha K) W B jb b (.slice ra rs.length rc) rs false ∧ WrC W p jb ((at_ + 1 : Nat) : Int) (RW.strOf (O.drop 1)) ∧ WrC W p2 jb (at_ : Int) (RW.strOf (O.take 1)) ∧ W.heap[g4]? = some (.cells #[wcl p, scl b, wcl p2, scl b] 96 (0, 0)) ∧ TpW W N tb rv1 (RW.strOf (RW.hds (RW.sha K) RW.z32 (rs ++ l))) (RW.stos (RW.sha K) RW.z32 (rs ++ l)).length (rs ++ l) ∧ Tch b db vb w8 W ∧ Below B w8 W) W := ⟨hJ8.out.next hb9, hK.1, hK.2.1, hK.2.2, hTp8.out.next hb9, Tch.of_below hb9, hb9.mono (Nat.le_trans hD8.out.hb (Nat.le_of_lt hD8.out.lt.1))⟩
                refine op_x1 rfl rfl rfl cf_first ?_
                refine (first4 (H := RW.sha K) (rv := .slice ra rs.length rc) (rs := rs) (br := false) (z := O.drop 1) (z2 := O.take 1) (o := at_ + 1) (o2 := at_) (p := p) (p2 := p2) (Fr := fun W => JrAt (RW.sha K) W B jb b (.slice ra rs.length rc) rs false ∧ WrC W p jb ((at_ + 1 : Nat) : Int) (RW.strOf (O.drop 1)) ∧ WrC W p2 jb (at_ : Int) (RW.strOf (O.take 1)) ∧ W.heap[g4]? = some (.cells #[wcl p, scl b, wcl p2, scl b] 96 (0, 0)) ∧ TpW W N tb rv1 (RW.strOf (RW.hds (RW.sha K) RW.z32 (rs ++ l))) (RW.stos (RW.sha K) RW.z32 (rs ++ l)).length (rs ++ l) ∧ Tch b db vb w8 W ∧ Below B w8 W) (fun W1 W2 pv1 S1 hd1 hf1 ht1 hbb1 => ⟨hf1.1.tch hd1 ht1, hf1.2.1.tch hd1 ht1, hf1.2.2.1.tch hd1 ht1, tch_keep hf1.2.2.2.1 hd1 ht1 (by decide), hf1.2.2.2.2.1.tch hd1 ht1, hf1.2.2.2.2.2.1.trans ht1, hf1.2.2.2.2.2.2.trans hbb1⟩) (fun W1 hf1 => ⟨hf1.1, hf1.2.1⟩) (fun W1 hf1 => ⟨hf1.1, hf1.2.2.1⟩) (fun W1 hf1 => hf1.2.2.2.1) hpH.out (by rw [List.length_drop]; have := hOql.out; omega) (by rw [List.length_take]; omega) (hD8.out.next hb9) h0).mono ?_
                rintro e W' ⟨R, hR, rfl, h4⟩
                rw [← hEH.out] at hR
                subst hR
                exact ⟨_, rfl, .inl (by decide), _, h4, rfl, rfl⟩
              rintro _ _ ⟨rfl, rfl⟩
              simp only [Act.put, List.setIfInBounds_toArray, List.set_cons_zero, List.set_cons_succ]
              refine k_val (.int .i64 E.1) (by apply opN; repeat' (first | apply OpAt.z | apply OpAt.s)) (by rfl) (by rfl) (fun _ W hS => op_asg rfl rfl) ?_
              simp only [Act.put, List.setIfInBounds_toArray, List.set_cons_zero, List.set_cons_succ]
              refine k_nil ?_
              intro W hCW hK
              obtain ⟨pv', hD9, hJ9, _, _, _, hTp9, hT9, hB9⟩ := hK
              have hD9H := hide hD9
              have hJ9H := hide hJ9
              have hTp9H := hide hTp9
              have hT9H := hide (hT8.out.1.trans (.of_tch hT9))
              have hB9H := hide (hT8.out.2.trans hB9)
              clear hCW hD9 hJ9 hTp9 hT9 hB9 hD8 hT8 hJ8 c3W c2W
              obtain ⟨E1, E2⟩ := E
              have hBW := hide (show B ≤ W.heap.size from Nat.le_trans hD9H.out.hb (Nat.le_of_lt hD9H.out.lt.1))
              by_cases hE0 : E1 = 0
              · subst hE0
                have hJ := hide (show RW.japp (RW.sha K) n S rs false l = (0, rs ++ l, false, E2) by rw [hJw.out, if_neg (by simp)])
                have hj5 := hide (jr_next hJ9H.out hTp9H.out hBs.out)
                have hch := hide (setCells_chg W jb 0 (tpc rv1 (RW.strOf (RW.hds (RW.sha K) RW.z32 (rs ++ l))) (RW.stos (RW.sha K) RW.z32 (rs ++ l)).length []).toList)
                have h10 := hide (show ∃ pv' rv', DiskAt (W.setCells jb 0 (tpc rv1 (RW.strOf (RW.hds (RW.sha K) RW.z32 (rs ++ l))) (RW.stos (RW.sha K) RW.z32 (rs ++ l)).length []).toList) B b n db vb pv' E2 ∧ JrAt (RW.sha K) (W.setCells jb 0 (tpc rv1 (RW.strOf (RW.hds (RW.sha K) RW.z32 (rs ++ l))) (RW.stos (RW.sha K) RW.z32 (rs ++ l)).length []).toList) B jb b rv' (rs ++ l) false ∧ TchJ jb b db vb w (W.setCells jb 0 (tpc rv1 (RW.strOf (RW.hds (RW.sha K) RW.z32 (rs ++ l))) (RW.stos (RW.sha K) RW.z32 (rs ++ l)).length []).toList) ∧ Below B w (W.setCells jb 0 (tpc rv1 (RW.strOf (RW.hds (RW.sha K) RW.z32 (rs ++ l))) (RW.stos (RW.sha K) RW.z32 (rs ++ l)).length []).toList) from
                  ⟨pv', rv1, disk_chg hD9H.out hJ9H.out.b hch.out, hj5.out, hT9H.out.trans (.of_chg hch.out), hB9H.out.trans (hch.out.below hJ9H.out.hb hBW.out)⟩)
                have hrw := hTp9H.out.b
                have hth := tpc_there (u := rv1) (h' := RW.strOf (RW.hds (RW.sha K) RW.z32 (rs ++ l))) (n' := (RW.stos (RW.sha K) RW.z32 (rs ++ l)).length) hJ9H.out.b
                have hps := tp_size rv1 (RW.strOf (RW.hds (RW.sha K) RW.z32 (rs ++ l))) (RW.stos (RW.sha K) RW.z32 (rs ++ l)).length
                obtain ⟨ru, rw1, erv⟩ := own_shape hTp9H.out.own
                have hone := tpc_one rv1 (RW.strOf (RW.hds (RW.sha K) RW.z32 (rs ++ l))) (RW.stos (RW.sha K) RW.z32 (rs ++ l)).length (by rw [erv]; rfl)
                clear hJw hEH erv hj5 hch hJ9H hD9H hT9H hB9H hTp9H
                go_wp2_with (first
                  | (refine wpList_load_row rfl 83 (.tmp 6) rfl tb rfl 83 _ (0, 0) _ hrw Tryz.underlying83 rfl hps ?_)
                  | (refine wpList_store_mid rfl 83 (.tmp 91) (.tmp 89) rfl jb 0 (tpc rv1 (RW.strOf (RW.hds (RW.sha K) RW.z32 (rs ++ l))) (RW.stos (RW.sha K) RW.z32 (rs ++ l)).length []) rfl rfl hth hps hone ?_; refine gen_wlJ (fun W => ∃ pv' rv', DiskAt W B b n db vb pv' E2 ∧ JrAt (RW.sha K) W B jb b rv' (rs ++ l) false ∧ TchJ jb b db vb w W ∧ Below B w W) h10.out ?_; clear h10 hth hrw; rintro w10 h11'; have h11 := hide h11'; clear h11'))
                go_ret
                obtain ⟨pv1, rv2, q1, q2, q3, q4⟩ := h11.out
                unfold AppOut
                rw [hJ.out]
                exact ⟨rfl, ⟨pv1, rv2, q1, q2⟩, q3, q4⟩
              · have hJ := hide (show RW.japp (RW.sha K) n S rs false l = (E1, rs, true, E2) by rw [hJw.out, if_pos hE0])
                have hne : (E1 != 0) = true := by simp [hE0]
                have hjb := hide (jr_broken hJ9H.out)
                have c4 : W.cell? ⟨jb, 4, none⟩ = some (.bool false) := hJ9H.out.brk
                have f4 : W.frozen? ⟨jb, 4, none⟩ = false := unfrozen hJ9H.out.b
                clear hJw hEH hE0
                go_wp2
                go_ret
                unfold AppOut
                rw [hJ.out]
                exact ⟨rfl, ⟨pv', _, disk_chg hD9H.out hJ9H.out.b hjb.out.2, hjb.out.1⟩, hT9H.out.trans (.of_chg hjb.out.2), hB9H.out.trans (hjb.out.2.below hJ9H.out.hb hBW.out)⟩
end Go.Proofs.YtllbphanfahkkaaGreatDoor
