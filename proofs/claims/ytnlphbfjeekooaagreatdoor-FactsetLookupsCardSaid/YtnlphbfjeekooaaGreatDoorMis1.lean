/-
  slices.IndexFunc and slices.DeleteFunc at strings, with a predicate that lays memory: the strings that stay; only new memory and the row are written.
-/
import Derived.Test.YtnlphbfjeekooaaGreatDoorFs2
namespace Go.Proofs.YtnlphbfjeekooaaGreatDoor
open Go.RowKit RG
theorem strCellsD : ∀ l : List ByteArray, rowCells (fun s => [Value.string s]) l = l.map Value.string
  | [] => rfl
  | x :: l => by
    have := strCellsD l
    unfold rowCells at this ⊢
    rw [List.flatMap_cons, this]
    rfl
abbrev MisF (Bc : Nat) : Value := .func (.func 52) #[] #[.pointer (some ⟨Bc, 0, none⟩)]
/-- the predicate, in every world that has grown from w -/
def MisP (B Bc : Nat) (p : ByteArray → Bool) (w : World) : Prop := ∀ (W : World) (x : ByteArray), Below B w W → Calls Tryz.prog 52 #[.string x, .pointer (some ⟨Bc, 0, none⟩)] W fun e w' => e = .returned (.bool (p x)) ∧ Below W.heap.size W w'
/-- the first string that the predicate meets -/
def IdxS (p : ByteArray → Bool) (l : List ByteArray) (r : Int) : Prop := (r = -1 ∧ ∀ x ∈ l, p x = false) ∨ ∃ i : Nat, r = i ∧ i < l.length ∧ (∀ x ∈ l.take i, p x = false) ∧ ∀ x, l[i]? = some x → p x = true
set_option maxRecDepth 10000 in
set_option maxHeartbeats 2000000 in
theorem sindex_any (B Bc b cap : Nat) (p : ByteArray → Bool) (l : List ByteArray) (hl : l.length ≤ 1000000) (w : World) (hB : B ≤ w.heap.size) (hP : MisP B Bc p w) (hb : b < w.heap.size) (hc : ∀ i x, l[i]? = some x → w.cell? ⟨b, i, none⟩ = some (.string x)) :
    Calls Tryz.prog 70 #[.slice (some ⟨b, 0, none⟩) l.length cap, MisF Bc] w fun e w' => (∃ r, e = .returned (.int .i64 r) ∧ IdxS p l r) ∧ Below w.heap.size w w' := by
  have hcH := hide hc
  have hbH := hide hb
  have hP := hide hP
  have hBH := hide hB
  clear hc hb hB
  obtain ⟨n, hn⟩ : ∃ n, n = l.length := ⟨_, rfl⟩
  rw [← hn] at hl ⊢
  have hnH := hide hn
  clear hn
  go_enter Tryz.func70, Tryz.ntmps70
  go_wp2
  go_loopw [8] (fun i wr => ∃ j : Nat, j ≤ n ∧ i = .int .i64 j ∧ Hid (∀ x ∈ l.take j, p x = false) ∧ Below w.heap.size w wr) (fun i _ => n - (intOf i).toNat)
  case atStart => exact ⟨0, Nat.zero_le _, rfl, (by intro x hx; simp at hx), Below.refl _ _⟩
  case round =>
    obtain ⟨j, hj, rfl, ha, hB⟩ := hrel
    have hWH := hide hB
    clear hB
    by_cases hlt : j < n
    · have hjl : j < l.length := by rw [← hnH.out]; exact hlt
      obtain ⟨x, hx⟩ : ∃ x, l[j]? = some x := ⟨_, List.getElem?_eq_getElem hjl⟩
      have cx : wr.cell? ⟨b, j, none⟩ = some (.string x) := (World.cell?_of_block (a := ⟨b, j, none⟩) (hWH.out.block _ hbH.out)).trans (hcH.out j x hx)
      have hN := hide (hP.out wr x (hWH.out.mono hBH.out))
      have hxH := hide hx
      obtain ⟨q, hq⟩ : ∃ q, q = p x := ⟨_, rfl⟩
      have hqH := hide hq
      rw [← hq] at hN
      clear hx hq
      cases q
      · go_wp2_with (go_at_call 52; refine hN.out.mono ?_; rintro e w2 ⟨rfl, hB2⟩; have hB2H := hide hB2; clear hB2)
        go_roundw
        case rel =>
          refine ⟨j + 1, by omega, by go_num, fun y hy => ?_, hWH.out.trans (hB2H.out.mono hWH.out.size)⟩
          rw [List.take_add_one, hxH.out] at hy
          rcases List.mem_append.1 hy with hy | hy
          · exact ha.out y hy
          · simp at hy
            subst hy
            exact hqH.out.symm
        case measure => simp [intOf]; omega
      · go_wp2_with (go_at_call 52; refine hN.out.mono ?_; rintro e w2 ⟨rfl, hB2⟩; have hB2H := hide hB2; clear hB2)
        go_ret
        exact ⟨⟨_, rfl, .inr ⟨j, rfl, hjl, ha.out, fun y hy => by obtain rfl := Option.some.inj (hxH.out.symm.trans hy); exact hqH.out.symm⟩⟩, hWH.out.trans (hB2H.out.mono hWH.out.size)⟩
    · obtain rfl : j = n := by omega
      have hA := hide (show ∀ x ∈ l, p x = false by have := ha.out; rwa [List.take_of_length_le (by rw [hnH.out]; exact Nat.le_refl _)] at this)
      go_wp2
      go_ret
      exact ⟨⟨-1, rfl, .inl ⟨rfl, hA.out⟩⟩, hWH.out⟩
theorem sindex_none (Bc : Nat) (a : Option Addr) (cap : Nat) (w : World) : Calls Tryz.prog 70 #[.slice a 0 cap, MisF Bc] w fun e w' => e = .returned (.int .i64 (-1)) ∧ w = w' := by
  go_enter Tryz.func70, Tryz.ntmps70
  go_wp2
  refine wp_loop_rounds 1 ?_
  rw [rounds_succ]
  go_wp2
  go_ret
  exact ⟨rfl, rfl⟩
/-- the strings that the predicate does not meet -/
def RW.misL (p : ByteArray → Bool) (l : List ByteArray) : List ByteArray := l.filter fun x => !p x
theorem RW.mis_take_succ {p : ByteArray → Bool} {l : List ByteArray} {j : Nat} {x : ByteArray} (h : l[j]? = some x) : RW.misL p (l.take (j + 1)) = RW.misL p (l.take j) ++ if p x then [] else [x] := by
  rw [List.take_add_one, h]
  unfold RW.misL
  cases hq : p x <;> simp [List.filter_append, List.filter_cons, hq]
theorem RW.mis_all {p : ByteArray → Bool} {l : List ByteArray} (h : ∀ x ∈ l, p x = false) : RW.misL p l = l := List.filter_eq_self.2 fun x hx => by rw [h x hx]; rfl
abbrev ReO (W : World) (B : Nat) (v : Value) (l : List ByteArray) : Prop := W.ownsRow B 9 1 v l.length (rowCells (fun s => [Value.string s]) l)
theorem str_zeroD (w : World) : (zeroValue 9).run Tryz.prog w = .ok (.string ⟨#[]⟩) w := by go_simp
set_option maxRecDepth 10000 in
set_option maxHeartbeats 4000000 in
theorem sdelete_any (B Bc g cap : Nat) (p : ByteArray → Bool) (l : List ByteArray) (hl : l.length ≤ 1000000) (w : World) (hB : B ≤ w.heap.size) (hP : MisP B Bc p w) (h : StrsOwn w B (.slice (some ⟨g, 0, none⟩) l.length cap) l) :
    Calls Tryz.prog 50 #[.slice (some ⟨g, 0, none⟩) l.length cap, MisF Bc] w fun e w' => ∃ v', e = .returned v' ∧ StrsOwn w' B v' (RW.misL p l) ∧ Below B w w' := by
  have h : ReO w B (.slice (some ⟨g, 0, none⟩) l.length cap) l := by unfold ReO; rw [strCellsD]; exact h
  obtain ⟨cur, hBg, hgl, hg, hncap, hcm, hcs, hct⟩ := own_row h rfl
  have hcx := hide (fun i x (hx : l[i]? = some x) => (show w.cell? ⟨g, i, none⟩ = some (.string x) from by
    have e := own_range h (i * 1) [Value.string x] (fun j u hj => rowCells_get (enc := fun s => [Value.string s]) (k := 1) (fun _ => rfl) l i x hx j u hj) 0 _ rfl
    rwa [Nat.mul_one, Nat.add_zero] at e))
  have hI := hide (sindex_any B Bc g cap p l hl w hB hP hgl hcx.out)
  obtain ⟨n, hn⟩ : ∃ n, n = l.length := ⟨_, rfl⟩
  have hnH := hide hn
  have hH := hide h
  have hBH := hide hB
  have hBgH := hide hBg
  have hP := hide hP
  rw [← hn] at hl hI hncap ⊢
  clear hg hcs hct hcm hn h hB hBg cur hcx
  go_enter Tryz.func50, Tryz.ntmps50
  go_upto_region 2 with (go_at_call 70; refine hI.out.mono ?_; rintro e w1 ⟨⟨r, rfl, hr⟩, hB1⟩; have hrH := hide hr; have hB1H := hide hB1; clear hr hB1)
  have hOwn1 := hide (show ReO w1 B (.slice (some ⟨g, 0, none⟩) l.length cap) l from own_keep hH.out fun g hg => hB1H.out.block g (own_blk hH.out hg).2.1)
  have hW1 := hide (show Below B w w1 from hB1H.out.mono hBH.out)
  rcases hrH.out with ⟨rfl, hall⟩ | ⟨i, rfl, hil, hpre, hit⟩
  · have hok := hide (RW.mis_all hall)
    clear hrH hall hI
    go_wp2
    go_ret
    exact ⟨_, rfl, by rw [hok.out, hnH.out]; have := hOwn1.out; unfold ReO at this; rw [strCellsD] at this; exact this, hW1.out⟩
  · have hpreH := hide hpre
    have hitH := hide hit
    rw [← hnH.out] at hil
    have hi1 : ((i : Int) == -1) = false := by rw [beq_eq_false_iff_ne]; omega
    clear hrH hpre hit hI
    go_wp2
    go_loopw [5, 6] (fun a b wr => ∃ (i j : Nat) (ps : List ByteArray), a = .int .i64 i ∧ b = .int .i64 j ∧ i < j ∧ j ≤ n ∧ Hid (ps.length = n ∧ ReO wr B (.slice (some ⟨g, 0, none⟩) ps.length cap) ps ∧ ps.take i = RW.misL p (l.take j) ∧ ps.drop j = l.drop j ∧ Below B w wr)) (fun _ b _ => n - (intOf b).toNat)
    case atStart =>
      refine ⟨i, i + 1, l, rfl, by go_num, by omega, by omega, hnH.out.symm, hOwn1.out, ?_, rfl, hW1.out⟩
      obtain ⟨x, hx⟩ : ∃ x, l[i]? = some x := ⟨_, List.getElem?_eq_getElem (by rw [← hnH.out]; exact hil)⟩
      rw [RW.mis_take_succ hx, hitH.out x hx, RW.mis_all hpreH.out]
      simp
    case round =>
      clear hW1 hOwn1 hB1H hpreH hitH hi1 hil
      obtain ⟨i, j, ps, rfl, rfl, hij, hjn, hQ⟩ := hrel
      by_cases hlt : j < n
      · obtain ⟨x, hx⟩ : ∃ x, l[j]? = some x := ⟨_, List.getElem?_eq_getElem (by rw [← hnH.out]; exact hlt)⟩
        have hpx : ps[j]? = some x := by
          have := congrArg (·[0]?) hQ.out.2.2.2.1
          simp only [List.getElem?_drop, Nat.add_zero] at this
          rw [this, hx]
        have hil : i < ps.length := by rw [hQ.out.1]; omega
        have cx : wr.cell? ⟨g, j, none⟩ = some (.string x) := by
          have e := own_range hQ.out.2.1 (j * 1) [Value.string x] (fun k u hk => rowCells_get (enc := fun s => [Value.string s]) (k := 1) (fun _ => rfl) ps j x hpx k u hk) 0 _ rfl
          rwa [Nat.mul_one, Nat.add_zero] at e
        have hN := hide (hP.out wr x hQ.out.2.2.2.2)
        have hxH := hide hx
        have hilH := hide hil
        obtain ⟨q, hq⟩ : ∃ q, q = p x := ⟨_, rfl⟩
        have hqH := hide hq
        rw [← hq] at hN
        clear hx hpx hq hil
        cases q
        · go_upto_region 9 with (go_at_call 52; refine hN.out.mono ?_; rintro e w2 ⟨rfl, hB2⟩; have hB2H := hide hB2; clear hB2)
          have hO2 := hide (show ReO w2 B (.slice (some ⟨g, 0, none⟩) ps.length cap) ps from own_keep hQ.out.2.1 fun g hg => hB2H.out.block g (own_blk hQ.out.2.1 hg).2.1)
          have hset := hide (own_set (k := 1) (enc := fun s => [Value.string s]) (fun _ => rfl) (by decide) hO2.out i hilH.out x)
          have hB3 := hide (hQ.out.2.2.2.2.trans (hB2H.out.mono (Nat.le_trans hBH.out hQ.out.2.2.2.2.size)))
          obtain ⟨ci, hci⟩ : ∃ u, w2.cell? ⟨g, i, none⟩ = some u := by
            obtain ⟨z, hz⟩ : ∃ z, ps[i]? = some z := ⟨_, List.getElem?_eq_getElem hilH.out⟩
            have e := own_range hO2.out (i * 1) [Value.string z] (fun k u hk => rowCells_get (enc := fun s => [Value.string s]) (k := 1) (fun _ => rfl) ps i z hz k u hk) 0 _ rfl
            rw [Nat.mul_one, Nat.add_zero] at e
            exact ⟨_, e⟩
          have hfi : w2.frozen? ⟨g, i, none⟩ = false := by
            obtain ⟨_, _, _, hg2, _⟩ := own_row hO2.out rfl
            exact unfrozen hg2
          have hjn2 : i < n := by omega
          clear hO2 hB2H hN cx
          go_wp2
          go_roundw
          case rel =>
            have hlen : (ps.set i x).length = ps.length := List.length_set
            have hs := hset.out
            rw [Nat.mul_one] at hs
            refine ⟨i + 1, j + 1, ps.set i x, by go_num, by go_num, by omega, by omega, hlen.trans hQ.out.1, by rw [ReO, hlen]; exact hs, ?_, ?_, hB3.out.setCell hBgH.out _⟩
            · rw [List.take_add_one, List.getElem?_set_self hilH.out, List.take_set, List.set_eq_of_length_le (by rw [List.length_take]; omega), RW.mis_take_succ hxH.out, ← hqH.out, hQ.out.2.2.1]; rfl
            · rw [List.drop_set_of_lt (by omega)]
              have := congrArg (List.drop 1) hQ.out.2.2.2.1
              rwa [List.drop_drop, List.drop_drop] at this
          case measure => simp [intOf]; omega
        · go_wp2_with (go_at_call 52; refine hN.out.mono ?_; rintro e w2 ⟨rfl, hB2⟩; have hB2H := hide hB2; clear hB2)
          go_roundw
          case rel =>
            have hO := hQ.out.2.1
            refine ⟨i, j + 1, ps, rfl, by go_num, by omega, by omega, hQ.out.1, own_keep hO fun g hg => hB2H.out.block g (own_blk hO hg).2.1, ?_, ?_, hQ.out.2.2.2.2.trans (hB2H.out.mono (Nat.le_trans hBH.out hQ.out.2.2.2.2.size))⟩
            · rw [RW.mis_take_succ hxH.out, ← hqH.out, hQ.out.2.2.1]; simp
            · have := congrArg (List.drop 1) hQ.out.2.2.2.1
              rwa [List.drop_drop, List.drop_drop] at this
          case measure => simp [intOf]; omega
      · obtain rfl : j = n := by omega
        have e1 : (0 : Int) ≤ (i : Int) := by omega
        have e2 : (i : Int) ≤ (j : Int) := by omega
        have hth : wr.there g i ((j - i) * (Value.string ⟨#[]⟩).cells.size) := own_there hQ.out.2.1 i _ (by show i + (j - i) * 1 ≤ ps.length * 1; rw [hQ.out.1]; omega)
        obtain ⟨vs, _, hcl⟩ := run_clear_rows (P := Tryz.prog) wr 27 9 (.string ⟨#[]⟩) Tryz.underlying27 str_zeroD (by intro u hu; simp [Value.cells] at hu; subst hu; rfl) g i (j - i) (cap - i) (by omega) hth
        have hcut := own_cut (k := 1) (enc := fun s => [Value.string s]) (fun _ => rfl) hQ.out.2.1 i (by rw [hQ.out.1]; omega)
        rw [hQ.out.2.2.1, List.take_of_length_le (by rw [← hnH.out]; exact Nat.le_refl _)] at hcut
        have hil : i = (RW.misL p l).length := by
          have := congrArg List.length hQ.out.2.2.1
          rw [List.length_take, hQ.out.1, List.take_of_length_le (by rw [← hnH.out]; exact Nat.le_refl _)] at this
          omega
        have hend := hide (own_tail hcut i (by omega) vs)
        have hilH := hide hil
        have hB3 := hide (hQ.out.2.2.2.2.grown (setCells_grown vs wr g i) (Nat.le_trans hBH.out hQ.out.2.2.2.2.size) (fun k e => by cases e; exact hBgH.out))
        clear hth hcut hil hQ
        go_wp2
        go_ret
        exact ⟨_, rfl, by rw [StrsOwn, ← hilH.out]; have := hend.out; rw [strCellsD] at this; exact this, hB3.out⟩
end Go.Proofs.YtnlphbfjeekooaaGreatDoor
