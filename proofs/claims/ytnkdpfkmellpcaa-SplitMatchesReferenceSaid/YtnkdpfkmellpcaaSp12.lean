/-
  Package royaltylaw12: sane: it returns true; only new memory is written.
-/
import Derived.Test.YtnkdpfkmellpcaaSp11
namespace Go.Proofs.Ytnkdpfkmellpcaa
open Go.RowKit
attribute [local go_sem ↓] ldRow_fact
namespace RW
def saneFs : List Fc := [(claimF 1 7 700000, ⟨#[]⟩), (claimF 2 5 600000, ⟨#[]⟩)]
theorem sane_claims : claimsL 3 1 0 5 (saneFs.map (·.1)) = [(5, 600000), (7, 700000)] := by decide +kernel
theorem sane_of : resolve (claimsL 3 1 0 5 (saneFs.map (·.1))) = ([(5, 300000), (7, 400000)], 300000, 0) := by decide +kernel
theorem sane_none : resolve (claimsL 4 1 0 5 (saneFs.map (·.1))) = ([], 0, 1000000) := by decide +kernel
theorem sane_some : resolve [(5, 600000), (7, 300000)] = ([(5, 600000), (7, 300000)], 0, 100000) := by decide +kernel
/-- a base of claims -/
def bcl (v : Value) : Array Value := #[.slice none 0 0, .slice none 0 0, v, .slice none 0 0, .slice none 0 0, .slice none 0 0, .slice none 0 0, .slice none 0 0, .slice none 0 0, .slice none 0 0]
end RW
/-- the base of claims, in memory -/
structure BaseAt (B : Nat) (w : World) (bb : Nat) (v : Value) (fs : List RW.Fc) (W : World) : Prop where
  row : W.heap[bb]? = some (.cells (RW.bcl v) 25 (0, 0))
  facts : FactsV W v fs
  below : Below B w W
  le : B ≤ bb
theorem BaseAt.lt {B : Nat} {w W : World} {bb : Nat} {v : Value} {fs : List RW.Fc} (h : BaseAt B w bb v fs W) : bb < W.heap.size := (Array.getElem?_eq_some_iff.1 h.row).1
theorem BaseAt.next {B : Nat} {w W W' : World} {bb : Nat} {v : Value} {fs : List RW.Fc} (h : BaseAt B w bb v fs W) (hB : Below W.heap.size W W') : BaseAt B w bb v fs W' :=
  ⟨(hB.block _ h.lt).trans h.row, h.facts.next hB, h.below.trans (hB.mono (Nat.le_trans h.le (Nat.le_of_lt h.lt))), h.le⟩
/-- shares, in memory -/
structure ShAt (W : World) (b : Nat) (v : Value) (s : RW.Sh) : Prop where
  row : W.heap[b]? = some (.cells (RW.scl v s.2.1 s.2.2) 32 (0, 0))
  parts : PartsV W v s.1
theorem ShAt.lt {W : World} {b : Nat} {v : Value} {s : RW.Sh} (h : ShAt W b v s) : b < W.heap.size := (Array.getElem?_eq_some_iff.1 h.row).1
theorem ShAt.next {W W' : World} {b : Nat} {v : Value} {s : RW.Sh} (h : ShAt W b v s) (hB : Below W.heap.size W W') : ShAt W' b v s := ⟨(hB.block _ h.lt).trans h.row, h.parts.next hB⟩
theorem ShAt.new {W : World} {v : Value} {s : RW.Sh} (h : PartsV W v s.1) : ShAt (W.alloc (.cells (RW.scl v s.2.1 s.2.2) 32)) W.heap.size v s := ⟨newAt rfl, h.next ((Below.refl _ _).alloc (Nat.le_refl _) _)⟩
theorem ldRow_shares (x : Value) : Instr.loadAt 32 x = ldRow 32 x := rfl
theorem ShAt.ld {W : World} {b : Nat} {v : Value} {s : RW.Sh} (h : ShAt W b v s) : (ldRow 32 (.pointer (some ⟨b, 0, none⟩))).run Try.prog W = .ok (.agg (RW.scl v s.2.1 s.2.2)) W :=
  ldRow_mid (cs := (RW.scl v s.2.1 s.2.2).toList) (fun j u hj => by rw [cellAt h.row, Nat.zero_add]; simpa using hj) Try.underlying32 rfl (shares_size _ _ _)
/-- a slice literal of parts -/
theorem parts_lit (W : World) (l : List RW.Pt) : PartsV (W.alloc (.cells (rowCells RW.pcl l).toArray 39)) (.slice (some ⟨W.heap.size, 0, none⟩) l.length l.length) l :=
  ⟨_, _, rfl, Nat.le_refl _, .inr ⟨W.heap.size, 0, rfl, by simp, fun i x hx j u hj => by rw [cellAt (newAt rfl), Nat.zero_add, List.getElem?_toArray]; exact rowCells_get pcl_len l i x hx j u hj⟩⟩
attribute [local go_sem ↓] ldRow_shares
namespace RW
def L1 : List Pt := [(5, 600000), (7, 700000)]
def L2 : List Pt := [(5, 300000), (7, 400000)]
def L3 : List Pt := [(5, 600000), (7, 300000)]
end RW
set_option maxRecDepth 10000 in
set_option maxHeartbeats 4000000 in
theorem sane_any (w : World) : Calls Try.prog 11 #[] w fun e w' => e = .returned (.bool true) ∧ Below w.heap.size w w' := by
  have hB := Below.refl w.heap.size w
  obtain ⟨B, hBe⟩ : ∃ B, B = w.heap.size := ⟨_, rfl⟩
  rw [← hBe] at hB ⊢
  have hC := hide (fun id h s W => claim_any id h s W)
  have hBH := hide hB
  have hBeH := hide hBe
  obtain ⟨X1, hX1⟩ : ∃ X, X = RW.fcells (RW.claimF 1 7 700000) ⟨#[]⟩ := ⟨_, rfl⟩
  obtain ⟨X2, hX2⟩ : ∃ X, X = RW.fcells (RW.claimF 2 5 600000) ⟨#[]⟩ := ⟨_, rfl⟩
  have hX1H := hide hX1
  have hX2H := hide hX2
  clear hB hBe hX1 hX2
  go_enter Try.func11, Try.ntmps11
  have tok1 : True := trivial
  go_upto_region 2 with (first
    | (go_at_call 26; have _t := tok1; refine (hC.out 1 7 700000 _).mono ?_; rintro e w1 ⟨rfl, hB1⟩; have hB1H := hide (hBH.out.trans (hB1.mono (Nat.le_of_eq hBeH.out))); clear hB1 tok1)
    | (go_at_call 26; refine (hC.out 2 5 600000 _).mono ?_; rintro e w2 ⟨rfl, hB2⟩; have hB2H := hide (hB1H.out.trans (hB2.mono (Nat.le_trans (Nat.le_of_eq hBeH.out) hB1H.out.size))); clear hB2))
  obtain ⟨sb, hsb⟩ : ∃ b, b = w2.heap.size := ⟨_, rfl⟩
  refine gen_w (fun W => W.heap[sb + 1]? = some (.cells (RW.bcl (.slice (some ⟨sb, 0, none⟩) 2 2)) 25 (0, 0)) ∧ FactsV W (.slice (some ⟨sb, 0, none⟩) 2 2) RW.saneFs ∧ Below B w W) ⟨?_, ⟨_, _, rfl, Nat.le_refl _, .inr ⟨sb, 0, rfl, by simp; omega, fun i x hx j u hj => ?_⟩⟩, ?_⟩ ?_
  · rw [newAt (by simp; omega), ← hsb]
    rfl
  · rw [World.cell?_of_block (a := ⟨sb, 0 + i * 18 + j, none⟩) (Below.heap_alloc _ _ _ (by simp; omega)), cellAt (newAt hsb)]
    show (rowCells RW.fce RW.saneFs).toArray[0 + i * 18 + j]? = some u
    rw [Nat.zero_add, List.getElem?_toArray]
    exact rowCells_get fcl_len RW.saneFs i x hx j u hj
  · exact (hB2H.out.alloc (Nat.le_trans (Nat.le_of_eq hBeH.out) hB2H.out.size) _).alloc (by simp; have := hB2H.out.size; have := hBeH.out; omega) _
  rw [← hsb]
  have hsbH := hide (show B ≤ sb by rw [hsb]; exact Nat.le_trans (Nat.le_of_eq hBeH.out) hB2H.out.size)
  clear hB1H hB2H hsb hC
  rintro w3 ⟨hb3, hf3, hB3⟩
  obtain ⟨fv, hfv⟩ : ∃ v, v = Value.slice (some ⟨sb, 0, none⟩) 2 2 := ⟨_, rfl⟩
  rw [← hfv] at hb3 hf3
  obtain ⟨bb, hbb⟩ : ∃ b, b = sb + 1 := ⟨_, rfl⟩
  have hS3 : BaseAt B w bb fv RW.saneFs w3 := ⟨by rw [hbb]; exact hb3, hf3, hB3, by rw [hbb]; exact Nat.le_succ_of_le hsbH.out⟩
  rw [← hbb]
  have hS3H := hide hS3
  clear hb3 hf3 hB3 hfv hbb hsbH hS3
  have hCl := hide (fun W (h : FactsV W fv RW.saneFs) => claims_any (RW.bcl fv) fv RW.saneFs 3 1 0 5 rfl (by decide) W h)
  have hO1 := hide (fun W (h : FactsV W fv RW.saneFs) => of_any (RW.bcl fv) fv RW.saneFs 3 1 0 5 rfl rfl (by decide) W h)
  have hO2 := hide (fun W (h : FactsV W fv RW.saneFs) => of_any (RW.bcl fv) fv RW.saneFs 4 1 0 5 rfl rfl (by decide) W h)
  have hRv := hide (fun W v (h : PartsV W v RW.L3) => resolve_any v RW.L3 (by decide) W h)
  rw [RW.sane_claims] at hCl
  rw [RW.sane_of] at hO1
  rw [RW.sane_none] at hO2
  rw [show RW.resolve RW.L3 = (RW.L3, 0, 100000) from RW.sane_some] at hRv
  have hib : (Try.prog.info? 25).map (·.size) = some (RW.bcl fv).size := by kernel_rfl
  have hrow := hS3H.out.row
  go_upto_region 3 with (first
    | (refine wpList_load_row rfl 25 (.tmp 1) rfl bb rfl 25 (RW.bcl fv) (0, 0) _ hrow Try.underlying25 rfl hib ?_)
    | (go_at_call 14; refine (hCl.out _ hS3H.out.facts).mono ?_; rintro e w4 ⟨⟨v2, rfl, hv2⟩, hB4⟩; have hv2H := hide hv2.parts; have hS4H := hide (hS3H.out.next hB4); clear hv2 hB4))
  have hrow4 := hS4H.out.row
  clear hrow hS3H
  go_upto_region 4 with (first
    | (refine wpList_load_row rfl 25 (.tmp 1) rfl bb rfl 25 (RW.bcl fv) (0, 0) _ hrow4 Try.underlying25 rfl hib ?_)
    | (go_at_call 17; refine (hO1.out _ hS4H.out.facts).mono ?_; rintro e w5 ⟨⟨v3, rfl, hv3⟩, hB5⟩; have hv3H := hide hv3; have hS5H := hide (hS4H.out.next hB5); have hp2 := hide (hv2H.out.next hB5); clear hv3 hB5)
    | (refine wpListStoreNew rfl 32 (.tmp 3) (.tmp 14) rfl (RW.scl v3 300000 0) rfl rfl 32 _ (shares_size _ _ _) rfl (shares_one _ _ _ hv3H.out.parts.one) ?_))
  obtain ⟨b3, hb3⟩ : ∃ b, b = w5.heap.size := ⟨_, rfl⟩
  have hBa := (Below.refl w5.heap.size w5).alloc (Nat.le_refl _) (.cells (RW.scl v3 300000 0) 32)
  refine gen_w (fun W => BaseAt B w bb fv RW.saneFs W ∧ PartsV W v2 RW.L1 ∧ ShAt W b3 v3 (RW.L2, 300000, 0)) ⟨hS5H.out.next hBa, hp2.out.next hBa, by rw [hb3]; exact ShAt.new (s := (RW.L2, 300000, 0)) hv3H.out.parts⟩ ?_
  rw [← hb3]
  clear hb3 hBa hS5H hp2 hv3H hrow4 hS4H hv2H hCl hO1
  rintro w6 ⟨hS6, hp6, h36⟩
  have hS6H := hide hS6
  have hp6H := hide hp6
  have h36H := hide h36
  clear hS6 hp6 h36
  go_upto_region 5 with fail
  obtain ⟨b4, hb4⟩ : ∃ b, b = w6.heap.size + 1 := ⟨_, rfl⟩
  obtain ⟨v4, hv4⟩ : ∃ v, v = Value.slice (some ⟨w6.heap.size, 0, none⟩) 2 2 := ⟨_, rfl⟩
  have hA1 := (Below.refl w6.heap.size w6).alloc (Nat.le_refl _) (.cells (rowCells RW.pcl RW.L2).toArray 39)
  have hA2 := hA1.alloc (by simp) (.cells (RW.scl v4 300000 0) 32)
  have hP4 : PartsV (w6.alloc (.cells (rowCells RW.pcl RW.L2).toArray 39)) v4 RW.L2 := by rw [hv4]; exact parts_lit w6 RW.L2
  refine gen_w (fun W => BaseAt B w bb fv RW.saneFs W ∧ PartsV W v2 RW.L1 ∧ ShAt W b3 v3 (RW.L2, 300000, 0) ∧ ShAt W b4 v4 (RW.L2, 300000, 0)) (by
    have h := ShAt.new (s := (RW.L2, 300000, 0)) hP4
    have hA := And.intro (hS6H.out.next hA2) (And.intro (hp6H.out.next hA2) (And.intro (h36H.out.next hA2) h))
    rw [show (w6.alloc (.cells (rowCells RW.pcl RW.L2).toArray 39)).heap.size = b4 by rw [hb4]; simp] at hA
    rw [hv4] at hA ⊢
    exact hA) ?_
  rw [← hb4]
  clear hb4 hv4 hA1 hA2 hP4 hS6H hp6H h36H
  rintro w7 ⟨hS7, hp7, h37, h47⟩
  have hS7H := hide hS7
  have hp7H := hide hp7
  have h37H := hide h37
  have h47H := hide h47
  have hrow7 := hS7.row
  clear hS7 hp7 h37 h47
  go_upto_region 6 with (first
    | (refine wpList_load_row rfl 25 (.tmp 1) rfl bb rfl 25 (RW.bcl fv) (0, 0) _ hrow7 Try.underlying25 rfl hib ?_)
    | (go_at_call 17; refine (hO2.out _ hS7H.out.facts).mono ?_; rintro e w8 ⟨⟨v5, rfl, hv5⟩, hB8⟩; have hv5H := hide hv5; have hS8H := hide (hS7H.out.next hB8); have hp8H := hide (hp7H.out.next hB8); have h38H := hide (h37H.out.next hB8); have h48H := hide (h47H.out.next hB8); clear hv5 hB8)
    | (refine wpListStoreNew rfl 32 (.tmp 5) (.tmp 20) rfl (RW.scl v5 0 1000000) rfl rfl 32 _ (shares_size _ _ _) rfl (shares_one _ _ _ hv5H.out.parts.one) ?_))
  obtain ⟨b5, hb5⟩ : ∃ b, b = w8.heap.size := ⟨_, rfl⟩
  have hBa := (Below.refl w8.heap.size w8).alloc (Nat.le_refl _) (.cells (RW.scl v5 0 1000000) 32)
  refine gen_w (fun W => Below B w W ∧ B ≤ W.heap.size ∧ PartsV W v2 RW.L1 ∧ ShAt W b3 v3 (RW.L2, 300000, 0) ∧ ShAt W b4 v4 (RW.L2, 300000, 0) ∧ ShAt W b5 v5 ([], 0, 1000000)) ⟨(hS8H.out.next hBa).below, Nat.le_trans (hS8H.out.next hBa).le (Nat.le_of_lt (hS8H.out.next hBa).lt), hp8H.out.next hBa, h38H.out.next hBa, h48H.out.next hBa, by rw [hb5]; exact ShAt.new (s := ([], 0, 1000000)) hv5H.out.parts⟩ ?_
  rw [← hb5]
  clear hb5 hBa hS8H hp8H h38H h48H hv5H hrow7 hS7H hp7H h37H h47H hO2
  rintro w9 ⟨hB9, hz9, hp9, h39, h49, h59⟩
  have hB9H := hide hB9
  have hz9H := hide hz9
  have hp9H := hide hp9
  have h39H := hide h39
  have h49H := hide h49
  have h59H := hide h59
  clear hB9 hz9 hp9 h39 h49 h59
  have hA9 := (Below.refl w9.heap.size w9).alloc (Nat.le_refl _) (.cells (rowCells RW.pcl RW.L3).toArray 39)
  have hA9H := hide hA9
  have hR9 := hide (hRv.out _ _ (parts_lit w9 RW.L3))
  clear hA9 hRv
  go_upto_region 7 with (first
    | (go_at_call 20; refine Calls.mono hR9.out ?_; rintro e w10 ⟨⟨v6, rfl, hv6⟩, hB10⟩; have hv6H := hide hv6; have hB10H := hide (hA9H.out.trans (hB10.mono hA9H.out.size)); clear hv6 hB10)
    | (refine wpListStoreNew rfl 32 (.tmp 6) (.tmp 24) rfl (RW.scl v6 0 100000) rfl rfl 32 _ (shares_size _ _ _) rfl (shares_one _ _ _ hv6H.out.parts.one) ?_))
  obtain ⟨b6, hb6⟩ : ∃ b, b = w10.heap.size := ⟨_, rfl⟩
  have hBa := (Below.refl w10.heap.size w10).alloc (Nat.le_refl _) (.cells (RW.scl v6 0 100000) 32)
  have hBb := hB10H.out.trans (hBa.mono hB10H.out.size)
  refine gen_w (fun W => Below B w W ∧ B ≤ W.heap.size ∧ PartsV W v2 RW.L1 ∧ ShAt W b3 v3 (RW.L2, 300000, 0) ∧ ShAt W b4 v4 (RW.L2, 300000, 0) ∧ ShAt W b5 v5 ([], 0, 1000000) ∧ ShAt W b6 v6 (RW.L3, 0, 100000)) ⟨hB9H.out.trans (hBb.mono hz9H.out), Nat.le_trans hz9H.out hBb.size, hp9H.out.next hBb, h39H.out.next hBb, h49H.out.next hBb, h59H.out.next hBb, by rw [hb6]; exact ShAt.new (s := (RW.L3, 0, 100000)) hv6H.out.parts⟩ ?_
  have hf6 : ∃ a c, v6 = .slice a 2 c := hv6H.out.form
  obtain ⟨a6, c6, rfl⟩ := hf6
  rw [← hb6]
  clear hb6 hBa hBb hB9H hz9H hp9H h39H h49H h59H hB10H hv6H hR9 hA9H
  rintro w11 ⟨hB, hz, hp, h3, h4, h5, h6⟩
  have hA := hide ((Below.refl w11.heap.size w11).alloc (Nat.le_refl _) (.cells (rowCells RW.pcl RW.L1).toArray 39))
  have hSP := hide (same_parts _ _ RW.L1 RW.L1 (by decide) (by decide) _ (hp.next hA.out) (parts_lit w11 RW.L1))
  rw [decide_eq_true (rfl : RW.L1 = RW.L1)] at hSP
  have hRS := hide (fun W (h3 : ShAt W b3 v3 (RW.L2, 300000, 0)) (h4 : ShAt W b4 v4 (RW.L2, 300000, 0)) => rsame_any v3 v4 RW.L2 RW.L2 300000 300000 0 0 (by decide) (by decide) W h3.parts h4.parts)
  have hSS := hide (fun W (h3 : ShAt W b3 v3 (RW.L2, 300000, 0)) (h4 : ShAt W b4 v4 (RW.L2, 300000, 0)) => ssame_any v3 v4 RW.L2 RW.L2 300000 300000 0 0 (by decide) (by decide) W h3.parts h4.parts)
  have hSN := hide (fun W (h3 : ShAt W b3 v3 (RW.L2, 300000, 0)) (h5 : ShAt W b5 v5 ([], 0, 1000000)) => ssame_any v3 v5 RW.L2 [] 300000 0 0 1000000 (by decide) (by decide) W h3.parts h5.parts)
  rw [decide_eq_true (rfl : ((RW.L2, 300000, 0) : RW.Sh) = (RW.L2, 300000, 0))] at hRS hSS
  rw [show decide (((RW.L2, 300000, 0) : RW.Sh) = ([], 0, 1000000)) = false by decide +kernel] at hSN
  have hBH2 := hide hB
  have hzH := hide hz
  have h3H := hide h3
  have h4H := hide h4
  have h5H := hide h5
  have h6H := hide h6
  clear hB hz hp h3 h4 h5 h6
  have tok2 : True := trivial
  go_wp2_with (first
    | (go_at_call 13; refine Calls.mono hSP.out ?_; rintro e w12 ⟨rfl, hB12⟩; have hb12 := hA.out.trans (hB12.mono hA.out.size); have k3 := hide (h3H.out.next hb12); have k4 := hide (h4H.out.next hb12); have k5 := hide (h5H.out.next hb12); have k6 := hide (h6H.out.next hb12); have kB := hide (hBH2.out.trans (hb12.mono hzH.out)); have kz := hide (Nat.le_trans hzH.out hb12.size); have l3 := k3.out.ld; have l4 := k4.out.ld; clear hB12 hb12)
    | (go_at_call 16; refine Calls.mono (hRS.out _ k3.out k4.out) ?_; rintro e w13 ⟨rfl, hB13⟩; have m3 := hide (k3.out.next hB13); have m4 := hide (k4.out.next hB13); have m5 := hide (k5.out.next hB13); have m6 := hide (k6.out.next hB13); have mB := hide (kB.out.trans (hB13.mono kz.out)); have mz := hide (Nat.le_trans kz.out hB13.size); have p3 := m3.out.ld; have p4 := m4.out.ld; have q5 := (cellAt m5.out.row 2).trans (rfl : _ = some (Value.int .i64 1000000)); have q6 := (cellAt m6.out.row 2).trans (rfl : _ = some (Value.int .i64 100000)); have q7 := (cellAt m6.out.row 0).trans (rfl : _ = some (Value.slice a6 2 c6)); clear hB13)
    | (go_at_call 22; have _t := tok2; refine Calls.mono (hSS.out _ m3.out m4.out) ?_; rintro e w14 ⟨rfl, hB14⟩; have n3 := hide (m3.out.next hB14); have n5 := hide (m5.out.next hB14); have nB := hide (mB.out.trans (hB14.mono mz.out)); have nz := hide (Nat.le_trans mz.out hB14.size); have o3 := n3.out.ld; have o5 := n5.out.ld; clear hB14 tok2)
    | (go_at_call 22; refine Calls.mono (hSN.out _ n3.out n5.out) ?_; rintro e w15 ⟨rfl, hB15⟩; have rB := hide (nB.out.trans (hB15.mono nz.out)); clear hB15))
  go_ret
  exact ⟨rfl, rB.out⟩
end Go.Proofs.Ytnkdpfkmellpcaa
