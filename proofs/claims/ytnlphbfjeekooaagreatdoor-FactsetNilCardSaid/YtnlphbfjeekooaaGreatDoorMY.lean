/-
  slices.IndexFunc and slices.DeleteFunc at strings, with a predicate that lays memory: the strings that stay; only new memory and the row are written.
-/
import Derived.Test.YtnlphbfjeekooaaGreatDoorMV
import Derived.Test.YtnlphbfjeekooaaGreatDoorMX
namespace Go.Proofs.YtnlphbfjeekooaaGreatDoor
open Go.RowKit RG
theorem strCellsD : ∀ l : List ByteArray, rowCells (fun s => [Value.string s]) l = l.map Value.string
  | [] => rfl
  | x :: l => by
    have := strCellsD l
    unfold rowCells at this ⊢
    rw [List.flatMap_cons, this]
    rfl
abbrev MisF (Bc : Nat) : Value := .func (.func 52) #[] #[.pointer (some ⟨Bc, 0, none⟩)]
/-- the predicate, in every world that has grown from w -/
def MisP (B Bc : Nat) (p : ByteArray → Bool) (w : World) : Prop := ∀ (W : World) (x : ByteArray), Below B w W → Calls Tryz.prog 52 #[.string x, .pointer (some ⟨Bc, 0, none⟩)] W fun e w' => e = .returned (.bool (p x)) ∧ Below W.heap.size W w'
/-- the first string that the predicate meets -/
def IdxS (p : ByteArray → Bool) (l : List ByteArray) (r : Int) : Prop := (r = -1 ∧ ∀ x ∈ l, p x = false) ∨ ∃ i : Nat, r = i ∧ i < l.length ∧ (∀ x ∈ l.take i, p x = false) ∧ ∀ x, l[i]? = some x → p x = true
set_option maxRecDepth 10000 in
set_option maxHeartbeats 2000000 in
theorem sindex_any (B Bc b cap : Nat) (p : ByteArray → Bool) (l : List ByteArray) (hl : l.length ≤ 1000000) (w : World) (hB : B ≤ w.heap.size) (hP : MisP B Bc p w) (hb : b < w.heap.size) (hc : ∀ i x, l[i]? = some x → w.cell? ⟨b, i, none⟩ = some (.string x)) :
    Calls Tryz.prog 70 #[.slice (some ⟨b, 0, none⟩) l.length cap, MisF Bc] w fun e w' => (∃ r, e = .returned (.int .i64 r) ∧ IdxS p l r) ∧ Below w.heap.size w w' := by
  have hcH := hide hc
  have hbH := hide hb
  have hP := hide hP
  have hBH := hide hB
  clear hc hb hB
  obtain ⟨n, hn⟩ : ∃ n, n = l.length := ⟨_, rfl⟩
  rw [← hn] at hl ⊢
  have hnH := hide hn
  clear hn
  go_enter Tryz.func70, Tryz.ntmps70
  go_wp2
  go_loopw [8] (fun i wr => ∃ j : Nat, j ≤ n ∧ i = .int .i64 j ∧ Hid (∀ x ∈ l.take j, p x = false) ∧ Below w.heap.size w wr) (fun i _ => n - (intOf i).toNat)
  case atStart => exact ⟨0, Nat.zero_le _, rfl, (by intro x hx; simp at hx), Below.refl _ _⟩
  case round =>
    obtain ⟨j, hj, rfl, ha, hB⟩ := hrel
    have hWH := hide hB
    clear hB
    by_cases hlt : j < n
    · have hjl : j < l.length := by rw [← hnH.out]; exact hlt
      obtain ⟨x, hx⟩ : ∃ x, l[j]? = some x := ⟨_, List.getElem?_eq_getElem hjl⟩
      have cx : wr.cell? ⟨b, j, none⟩ = some (.string x) := (World.cell?_of_block (a := ⟨b, j, none⟩) (hWH.out.block _ hbH.out)).trans (hcH.out j x hx)
      have hN := hide (hP.out wr x (hWH.out.mono hBH.out))
      have hxH := hide hx
      obtain ⟨q, hq⟩ : ∃ q, q = p x := ⟨_, rfl⟩
      have hqH := hide hq
      rw [← hq] at hN
      clear hx hq
      cases q
      · go_wp2_with (go_at_call 52; refine hN.out.mono ?_; rintro e w2 ⟨rfl, hB2⟩; have hB2H := hide hB2; clear hB2)
        go_roundw
        case rel =>
          refine ⟨j + 1, by omega, by go_num, fun y hy => ?_, hWH.out.trans (hB2H.out.mono hWH.out.size)⟩
          rw [List.take_add_one, hxH.out] at hy
          rcases List.mem_append.1 hy with hy | hy
          · exact ha.out y hy
          · simp at hy
            subst hy
            exact hqH.out.symm
        case measure => simp [intOf]; omega
      · go_wp2_with (go_at_call 52; refine hN.out.mono ?_; rintro e w2 ⟨rfl, hB2⟩; have hB2H := hide hB2; clear hB2)
        go_ret
        exact ⟨⟨_, rfl, .inr ⟨j, rfl, hjl, ha.out, fun y hy => by obtain rfl := Option.some.inj (hxH.out.symm.trans hy); exact hqH.out.symm⟩⟩, hWH.out.trans (hB2H.out.mono hWH.out.size)⟩
    · obtain rfl : j = n := by omega
      have hA := hide (show ∀ x ∈ l, p x = false by have := ha.out; rwa [List.take_of_length_le (by rw [hnH.out]; exact Nat.le_refl _)] at this)
      go_wp2
      go_ret
      exact ⟨⟨-1, rfl, .inl ⟨rfl, hA.out⟩⟩, hWH.out⟩
theorem sindex_none (Bc : Nat) (a : Option Addr) (cap : Nat) (w : World) : Calls Tryz.prog 70 #[.slice a 0 cap, MisF Bc] w fun e w' => e = .returned (.int .i64 (-1)) ∧ w = w' := by
  go_enter Tryz.func70, Tryz.ntmps70
  go_wp2
  refine wp_loop_rounds 1 ?_
  rw [rounds_succ]
  go_wp2
  go_ret
  exact ⟨rfl, rfl⟩
/-- the strings that the predicate does not meet -/
def RW.misL (p : ByteArray → Bool) (l : List ByteArray) : List ByteArray := l.filter fun x => !p x
theorem RW.mis_take_succ {p : ByteArray → Bool} {l : List ByteArray} {j : Nat} {x : ByteArray} (h : l[j]? = some x) : RW.misL p (l.take (j + 1)) = RW.misL p (l.take j) ++ if p x then [] else [x] := by
  rw [List.take_add_one, h]
  unfold RW.misL
  cases hq : p x <;> simp [List.filter_append, List.filter_cons, hq]
theorem RW.mis_all {p : ByteArray → Bool} {l : List ByteArray} (h : ∀ x ∈ l, p x = false) : RW.misL p l = l := List.filter_eq_self.2 fun x hx => by rw [h x hx]; rfl
abbrev ReO (W : World) (B : Nat) (v : Value) (l : List ByteArray) : Prop := W.ownsRow B 9 1 v l.length (rowCells (fun s => [Value.string s]) l)
theorem str_zeroD (w : World) : (zeroValue 9).run Tryz.prog w = .ok (.string ⟨#[]⟩) w := by go_simp
set_option maxRecDepth 10000 in
set_option maxHeartbeats 4000000 in
theorem sdelete_any (B Bc g cap : Nat) (p : ByteArray → Bool) (l : List ByteArray) (hl : l.length ≤ 1000000) (w : World) (hB : B ≤ w.heap.size) (hP : MisP B Bc p w) (h : StrsOwn w B (.slice (some ⟨g, 0, none⟩) l.length cap) l) :
    Calls Tryz.prog 50 #[.slice (some ⟨g, 0, none⟩) l.length cap, MisF Bc] w fun e w' => ∃ v', e = .returned v' ∧ StrsOwn w' B v' (RW.misL p l) ∧ Below B w w' := by
  have h : ReO w B (.slice (some ⟨g, 0, none⟩) l.length cap) l := by unfold ReO; rw [strCellsD]; exact h
  obtain ⟨cur, hBg, hgl, hg, hncap, hcm, hcs, hct⟩ := own_row h rfl
  have hcx := hide (fun i x (hx : l[i]? = some x) => (show w.cell? ⟨g, i, none⟩ = some (.string x) from by
    have e := own_range h (i * 1) [Value.string x] (fun j u hj => rowCells_get (enc := fun s => [Value.string s]) (k := 1) (fun _ => rfl) l i x hx j u hj) 0 _ rfl
    rwa [Nat.mul_one, Nat.add_zero] at e))
  have hI := hide (sindex_any B Bc g cap p l hl w hB hP hgl hcx.out)
  obtain ⟨n, hn⟩ : ∃ n, n = l.length := ⟨_, rfl⟩
  have hnH := hide hn
  have hH := hide h
  have hBH := hide hB
  have hBgH := hide hBg
  have hP := hide hP
  rw [← hn] at hl hI hncap ⊢
  clear hg hcs hct hcm hn h hB hBg cur hcx
  go_enter Tryz.func50, Tryz.ntmps50
  go_upto_region 2 with (go_at_call 70; refine hI.out.mono ?_; rintro e w1 ⟨⟨r, rfl, hr⟩, hB1⟩; have hrH := hide hr; have hB1H := hide hB1; clear hr hB1)
  have hOwn1 := hide (show ReO w1 B (.slice (some ⟨g, 0, none⟩) l.length cap) l from own_keep hH.out fun g hg => hB1H.out.block g (own_blk hH.out hg).2.1)
  have hW1 := hide (show Below B w w1 from hB1H.out.mono hBH.out)
  rcases hrH.out with ⟨rfl, hall⟩ | ⟨i, rfl, hil, hpre, hit⟩
  · have hok := hide (RW.mis_all hall)
    clear hrH hall hI
    go_wp2
    go_ret
    exact ⟨_, rfl, by rw [hok.out, hnH.out]; have := hOwn1.out; unfold ReO at this; rw [strCellsD] at this; exact this, hW1.out⟩
  · have hpreH := hide hpre
    have hitH := hide hit
    rw [← hnH.out] at hil
    have hi1 : ((i : Int) == -1) = false := by rw [beq_eq_false_iff_ne]; omega
    clear hrH hpre hit hI
    go_wp2
    go_loopw [5, 6] (fun a b wr => ∃ (i j : Nat) (ps : List ByteArray), a = .int .i64 i ∧ b = .int .i64 j ∧ i < j ∧ j ≤ n ∧ Hid (ps.length = n ∧ ReO wr B (.slice (some ⟨g, 0, none⟩) ps.length cap) ps ∧ ps.take i = RW.misL p (l.take j) ∧ ps.drop j = l.drop j ∧ Below B w wr)) (fun _ b _ => n - (intOf b).toNat)
    case atStart =>
      refine ⟨i, i + 1, l, rfl, by go_num, by omega, by omega, hnH.out.symm, hOwn1.out, ?_, rfl, hW1.out⟩
      obtain ⟨x, hx⟩ : ∃ x, l[i]? = some x := ⟨_, List.getElem?_eq_getElem (by rw [← hnH.out]; exact hil)⟩
      rw [RW.mis_take_succ hx, hitH.out x hx, RW.mis_all hpreH.out]
      simp
    case round =>
      clear hW1 hOwn1 hB1H hpreH hitH hi1 hil
      obtain ⟨i, j, ps, rfl, rfl, hij, hjn, hQ⟩ := hrel
      by_cases hlt : j < n
      · obtain ⟨x, hx⟩ : ∃ x, l[j]? = some x := ⟨_, List.getElem?_eq_getElem (by rw [← hnH.out]; exact hlt)⟩
        have hpx : ps[j]? = some x := by
          have := congrArg (·[0]?) hQ.out.2.2.2.1
          simp only [List.getElem?_drop, Nat.add_zero] at this
          rw [this, hx]
        have hil : i < ps.length := by rw [hQ.out.1]; omega
        have cx : wr.cell? ⟨g, j, none⟩ = some (.string x) := by
          have e := own_range hQ.out.2.1 (j * 1) [Value.string x] (fun k u hk => rowCells_get (enc := fun s => [Value.string s]) (k := 1) (fun _ => rfl) ps j x hpx k u hk) 0 _ rfl
          rwa [Nat.mul_one, Nat.add_zero] at e
        have hN := hide (hP.out wr x hQ.out.2.2.2.2)
        have hxH := hide hx
        have hilH := hide hil
        obtain ⟨q, hq⟩ : ∃ q, q = p x := ⟨_, rfl⟩
        have hqH := hide hq
        rw [← hq] at hN
        clear hx hpx hq hil
        cases q
        · go_upto_region 9 with (go_at_call 52; refine hN.out.mono ?_; rintro e w2 ⟨rfl, hB2⟩; have hB2H := hide hB2; clear hB2)
          have hO2 := hide (show ReO w2 B (.slice (some ⟨g, 0, none⟩) ps.length cap) ps from own_keep hQ.out.2.1 fun g hg => hB2H.out.block g (own_blk hQ.out.2.1 hg).2.1)
          have hset := hide (own_set (k := 1) (enc := fun s => [Value.string s]) (fun _ => rfl) (by decide) hO2.out i hilH.out x)
          have hB3 := hide (hQ.out.2.2.2.2.trans (hB2H.out.mono (Nat.le_trans hBH.out hQ.out.2.2.2.2.size)))
          obtain ⟨ci, hci⟩ : ∃ u, w2.cell? ⟨g, i, none⟩ = some u := by
            obtain ⟨z, hz⟩ : ∃ z, ps[i]? = some z := ⟨_, List.getElem?_eq_getElem hilH.out⟩
            have e := own_range hO2.out (i * 1) [Value.string z] (fun k u hk => rowCells_get (enc := fun s => [Value.string s]) (k := 1) (fun _ => rfl) ps i z hz k u hk) 0 _ rfl
            rw [Nat.mul_one, Nat.add_zero] at e
            exact ⟨_, e⟩
          have hfi : w2.frozen? ⟨g, i, none⟩ = false := by
            obtain ⟨_, _, _, hg2, _⟩ := own_row hO2.out rfl
            exact unfrozen hg2
          have hjn2 : i < n := by omega
          clear hO2 hB2H hN cx
          go_wp2
          go_roundw
          case rel =>
            have hlen : (ps.set i x).length = ps.length := List.length_set
            have hs := hset.out
            rw [Nat.mul_one] at hs
            refine ⟨i + 1, j + 1, ps.set i x, by go_num, by go_num, by omega, by omega, hlen.trans hQ.out.1, by rw [ReO, hlen]; exact hs, ?_, ?_, hB3.out.setCell hBgH.out _⟩
            · rw [List.take_add_one, List.getElem?_set_self hilH.out, List.take_set, List.set_eq_of_length_le (by rw [List.length_take]; omega), RW.mis_take_succ hxH.out, ← hqH.out, hQ.out.2.2.1]; rfl
            · rw [List.drop_set_of_lt (by omega)]
              have := congrArg (List.drop 1) hQ.out.2.2.2.1
              rwa [List.drop_drop, List.drop_drop] at this
          case measure => simp [intOf]; omega
        · go_wp2_with (go_at_call 52; refine hN.out.mono ?_; rintro e w2 ⟨rfl, hB2⟩; have hB2H := hide hB2; clear hB2)
          go_roundw
          case rel =>
            have hO := hQ.out.2.1
            refine ⟨i, j + 1, ps, rfl, by go_num, by omega, by omega, hQ.out.1, own_keep hO fun g hg => hB2H.out.block g (own_blk hO hg).2.1, ?_, ?_, hQ.out.2.2.2.2.trans (hB2H.out.mono (Nat.le_trans hBH.out hQ.out.2.2.2.2.size))⟩
            · rw [RW.mis_take_succ hxH.out, ← hqH.out, hQ.out.2.2.1]; simp
            · have := congrArg (List.drop 1) hQ.out.2.2.2.1
              rwa [List.drop_drop, List.drop_drop] at this
          case measure => simp [intOf]; omega
      · obtain rfl : j = n := by omega
        have e1 : (0 : Int) ≤ (i : Int) := by omega
        have e2 : (i : Int) ≤ (j : Int) := by omega
        have hth : wr.there g i ((j - i) * (Value.string ⟨#[]⟩).cells.size) := own_there hQ.out.2.1 i _ (by show i + (j - i) * 1 ≤ ps.length * 1; rw [hQ.out.1]; omega)
        obtain ⟨vs, _, hcl⟩ := run_clear_rows (P := Tryz.prog) wr 27 9 (.string ⟨#[]⟩) Tryz.underlying27 str_zeroD (by intro u hu; simp [Value.cells] at hu; subst hu; rfl) g i (j - i) (cap - i) (by omega) hth
        have hcut := own_cut (k := 1) (enc := fun s => [Value.string s]) (fun _ => rfl) hQ.out.2.1 i (by rw [hQ.out.1]; omega)
        rw [hQ.out.2.2.1, List.take_of_length_le (by rw [← hnH.out]; exact Nat.le_refl _)] at hcut
        have hil : i = (RW.misL p l).length := by
          have := congrArg List.length hQ.out.2.2.1
          rw [List.length_take, hQ.out.1, List.take_of_length_le (by rw [← hnH.out]; exact Nat.le_refl _)] at this
          omega
        have hend := hide (own_tail hcut i (by omega) vs)
        have hilH := hide hil
        have hB3 := hide (hQ.out.2.2.2.2.grown (setCells_grown vs wr g i) (Nat.le_trans hBH.out hQ.out.2.2.2.2.size) (fun k e => by cases e; exact hBgH.out))
        clear hth hcut hil hQ
        go_wp2
        go_ret
        exact ⟨_, rfl, by rw [StrsOwn, ← hilH.out]; have := hend.out; rw [strCellsD] at this; exact this, hB3.out⟩
end Go.Proofs.YtnlphbfjeekooaaGreatDoor

/-
  Package factset: Missing: the strings that a set does not have, ascending, each once; only new memory is written.
-/
namespace Go.Proofs.YtnlphbfjeekooaaGreatDoor
open Go.RowKit Go.Shelf Go.Lib Go.Sort RG
namespace RW
abbrev dl (l : List ByteArray) : List (List UInt8) := l.map fun x => x.data.toList
def toB (x : List UInt8) : ByteArray := ⟨x.toArray⟩
theorem toB_dl (l : List ByteArray) : (dl l).map toB = l := by
  rw [List.map_map]
  conv => rhs; rw [← List.map_id l]
  apply List.map_congr_left
  intro x _
  show (⟨x.data.toList.toArray⟩ : ByteArray) = x
  simp
theorem blt_toB (x y : List UInt8) : blt (toB x) (toB y) = Op.bytesLess x y := by unfold blt toB; simp
theorem bcompact (l : List (List UInt8)) (hl : l.Pairwise fun x y => Op.bytesLess y x = false) : ∀ m, m ≤ l.length → (Lib.compactUpTo l.toArray m).Pairwise (fun x y => Op.bytesLess x y = true) ∧ (∀ x ∈ Lib.compactUpTo l.toArray m, ∃ j, ∃ h : j < l.length, j < m ∧ x = l[j]) ∧ (∀ j, ∀ h : j < l.length, j < m → l[j] ∈ Lib.compactUpTo l.toArray m)
  | 0, _ => ⟨List.Pairwise.nil, fun x hx => by simp [Lib.compactUpTo] at hx, fun j _ h => absurd h (by omega)⟩
  | m + 1, hm => by
    obtain ⟨h1, h2, h3⟩ := bcompact l hl m (by omega)
    have hml : m < l.length := by omega
    have hle : ∀ i j, ∀ hi : i < l.length, ∀ hj : j < l.length, i ≤ j → Op.bytesLess l[j] l[i] = false := fun i j hi hj hij => by
      rcases Nat.lt_or_eq_of_le hij with h | h
      · exact List.pairwise_iff_getElem.1 hl i j hi hj h
      · subst h; exact bl_irrefl _
    have hg : ∀ j, ∀ h : j < l.length, l.toArray[j]! = l[j] := fun j h => by
      rw [getElem!_pos l.toArray j (by simpa using h)]
      simp
    rw [Lib.compactUpTo_succ]
    cases hk : Lib.keeps l.toArray m
    · have hne : ¬ (m = 0 ∨ l.toArray[m]! ≠ l.toArray[m - 1]!) := by
        have := hk
        unfold Lib.keeps at this
        exact of_decide_eq_false this
      have hm0 : m ≠ 0 := fun h => hne (.inl h)
      have heq : l[m] = l[m - 1] := by
        have := Decidable.not_not.1 fun h => hne (.inr h)
        rw [hg m hml, hg (m - 1) (by omega)] at this
        exact this
      rw [if_neg Bool.false_ne_true, List.append_nil]
      refine ⟨h1, fun x hx => ?_, fun j h hj => ?_⟩
      · obtain ⟨j, hj, hjm, e⟩ := h2 x hx
        exact ⟨j, hj, by omega, e⟩
      · rcases Nat.lt_or_eq_of_le (Nat.le_of_lt_succ hj) with h' | h'
        · exact h3 j h h'
        · subst h'
          rw [heq]
          exact h3 (j - 1) (by omega) (by omega)
    · have hkk : m = 0 ∨ l.toArray[m]! ≠ l.toArray[m - 1]! := by
        have := hk
        unfold Lib.keeps at this
        exact of_decide_eq_true this
      rw [if_pos rfl, hg m hml]
      refine ⟨?_, fun x hx => ?_, fun j h hj => ?_⟩
      · rw [List.pairwise_append]
        refine ⟨h1, List.pairwise_singleton _ _, fun x hx y hy => ?_⟩
        rw [List.mem_singleton] at hy
        subst hy
        obtain ⟨j, hj, hjm, e⟩ := h2 x hx
        subst e
        have h4 := hkk.resolve_left (by omega)
        rw [hg m hml, hg (m - 1) (by omega)] at h4
        have h5 := hle j (m - 1) hj (by omega) (by omega)
        have h6 := hle (m - 1) m (by omega) hml (by omega)
        have h7 : Op.bytesLess l[m - 1] l[m] = true := by
          cases e : Op.bytesLess l[m - 1] l[m] with
          | true => rfl
          | false => exact absurd (bl_total _ _ h6 e) h4
        cases e : Op.bytesLess l[j] l[m - 1] with
        | true => exact bl_trans _ _ _ e h7
        | false => rw [bl_total _ _ e h5]; exact h7
      · rcases List.mem_append.1 hx with hx | hx
        · obtain ⟨j, hj, hjm, e⟩ := h2 x hx
          exact ⟨j, hj, by omega, e⟩
        · rw [List.mem_singleton] at hx
          exact ⟨m, hml, by omega, hx⟩
      · rcases Nat.lt_or_eq_of_le (Nat.le_of_lt_succ hj) with h' | h'
        · exact List.mem_append_left _ (h3 j h h')
        · subst h'
          exact List.mem_append_right _ (List.mem_singleton.2 rfl)
/-- the strings that occur, ascending, each once -/
def uqB (l : List ByteArray) : List ByteArray := (Lib.compact ((dl l).mergeSort fun x y => decide (x ≤ y))).map toB
theorem srt_le (ss : List (List UInt8)) : (ss.mergeSort fun x y => decide (x ≤ y)).Pairwise fun x y => Op.bytesLess y x = false := by
  have h1 := List.pairwise_mergeSort (le := fun x y : List UInt8 => decide (x ≤ y)) (by
    intro a b c h1 h2
    rw [le_bl, Bool.not_eq_true'] at h1 h2 ⊢
    cases e : Op.bytesLess c a with
    | false => rfl
    | true =>
      cases e2 : Op.bytesLess b c with
      | true => rw [bl_trans _ _ _ e2 e] at h1; cases h1
      | false => rw [bl_total _ _ e2 h2] at h1; rw [h1] at e; cases e) (by
    intro a b
    rw [le_bl, le_bl]
    cases e : Op.bytesLess b a with
    | false => rfl
    | true => rw [bl_asymm e]; rfl) ss
  exact h1.imp fun h => by rw [le_bl, Bool.not_eq_true'] at h; exact h
theorem uqB_asc (l : List ByteArray) : AscB (uqB l) := by
  have h := (bcompact _ (srt_le (dl l)) _ (Nat.le_refl _)).1
  unfold AscB uqB
  rw [List.pairwise_map]
  exact h.imp fun h => by rw [blt_toB]; exact h
theorem mem_uqB {l : List ByteArray} {x : ByteArray} : x ∈ uqB l ↔ x ∈ l := by
  have h := (bcompact _ (srt_le (dl l)) _ (Nat.le_refl _)).2
  have hp := List.mergeSort_perm (dl l) fun x y : List UInt8 => decide (x ≤ y)
  obtain ⟨s, hs⟩ : ∃ s, s = (dl l).mergeSort fun x y : List UInt8 => decide (x ≤ y) := ⟨_, rfl⟩
  have e : uqB l = (Lib.compactUpTo s.toArray s.length).map toB := by unfold uqB; rw [← hs]; rfl
  rw [← hs] at h hp
  have h2 : ∀ y, y ∈ Lib.compactUpTo s.toArray s.length ↔ y ∈ dl l := fun y => by
    rw [← hp.mem_iff]
    constructor
    · intro hy
      obtain ⟨j, hj, _, rfl⟩ := h.1 y hy
      exact List.getElem_mem hj
    · intro hy
      obtain ⟨j, hj, rfl⟩ := List.getElem_of_mem hy
      exact h.2 j hj hj
  rw [e]
  constructor
  · intro hx
    obtain ⟨y, hy, rfl⟩ := List.mem_map.1 hx
    have := List.mem_map_of_mem (f := toB) ((h2 y).1 hy)
    rwa [toB_dl] at this
  · intro hx
    have hm : x ∈ (dl l).map toB := by rw [toB_dl]; exact hx
    obtain ⟨y, hy, rfl⟩ := List.mem_map.1 hm
    exact List.mem_map_of_mem ((h2 y).2 hy)
/-- what Missing returns -/
def missB (p : ByteArray → Bool) (l : List ByteArray) : List ByteArray := uqB (misL p l)
theorem mem_missB {p : ByteArray → Bool} {l : List ByteArray} {x : ByteArray} : x ∈ missB p l ↔ x ∈ l ∧ p x = false := by
  unfold missB misL
  rw [mem_uqB, List.mem_filter]
  simp
theorem uqB_len (l : List ByteArray) : (uqB l).length ≤ l.length := nodup_len _ _ (AscB.nodup (uqB_asc l)) fun x hx => mem_uqB.1 hx
theorem missB_len (p : ByteArray → Bool) (l : List ByteArray) : (missB p l).length ≤ l.length := Nat.le_trans (uqB_len _) (List.length_filter_le _ _)
end RW
theorem encS (x : ByteArray) : encStr x.data.toList = .string x := by show Value.string ⟨x.data.toList.toArray⟩ = _; simp
theorem encT (x : List UInt8) : encStr x = .string (RW.toB x) := rfl
abbrev RowE (W : World) (B : Nat) (v : Value) (ss : List (List UInt8)) : Prop := W.ownsRow B 9 1 v ss.length (ss.map encStr)
theorem rowE_of {W : World} {B : Nat} {v : Value} {l : List ByteArray} (h : StrsOwn W B v l) : RowE W B v (RW.dl l) := by
  rw [RowE, List.length_map, List.map_map, show (encStr ∘ fun x : ByteArray => x.data.toList) = Value.string from funext encS]
  exact h
theorem rowE_to {W : World} {B : Nat} {v : Value} {ss : List (List UInt8)} (h : RowE W B v ss) : StrsOwn W B v (ss.map RW.toB) := by
  rw [StrsOwn, List.length_map, List.map_map, show (Value.string ∘ RW.toB) = encStr from rfl]
  exact h
abbrev encE : List UInt8 → List Value := fun z => [encStr z]
theorem cellsE : ∀ l : List (List UInt8), rowCells encE l = l.map encStr
  | [] => rfl
  | x :: l => by
    have := cellsE l
    unfold rowCells at this ⊢
    rw [List.flatMap_cons, this]
    rfl
/-- a row's cells laid anew, then cut -/
theorem relaidE {W : World} {B g cap q k : Nat} {os : Array Obj} {l ts : List (List UInt8)} (h : RowE W B (.slice (some ⟨g, 0, none⟩) l.length cap) l) (ht : ts.length = l.length) (hk : k ≤ ts.length) :
    RowE (Sort.grow (putRow encStr (Sort.ahead W q) g 0 ts.toArray) os) B (.slice (some ⟨g, 0, none⟩) (ts.take k).length cap) (ts.take k) ∧ ChgS (fun j => j = g) W (Sort.grow (putRow encStr (Sort.ahead W q) g 0 ts.toArray) os) := by
  obtain ⟨cur, hBg, _, hg, hn, hm, hs, _⟩ := own_row h rfl
  have hown := ownsRow_sorted (n := q) (os := os) (ss := l) (ts := ts) ht hBg hg hn hm hs
  have hgr := grownBy_sorted (w := W) (g := g) (n := q) (os := os) ts.toArray
  refine ⟨?_, ⟨hgr.os, hgr.tape, hgr.output, hgr.size, fun j hj hne => hgr.block j hj fun e => hne (Option.some.inj e)⟩⟩
  rw [← ht, ← cellsE] at hown
  have hcut := own_cut (enc := encE) (fun _ => rfl) hown k hk
  rw [cellsE] at hcut
  have hl : (ts.take k).length = k := by rw [List.length_take]; omega
  rw [RowE, hl]
  exact hcut
theorem compactE_len (l : List (List UInt8)) : (Lib.compact l).length ≤ l.length := by
  unfold Lib.compact Lib.compactUpTo
  rw [List.length_map]
  exact Nat.le_trans (List.length_filter_le _ _) (by simp)
theorem compactE {W : World} {B : Nat} {v : Value} {l : List (List UInt8)} (h : RowE W B v l) (hl : l.length ≤ 1000000) :
    Calls Tryz.prog 54 #[v] W fun e w' => ∃ v', e = .returned v' ∧ RowE w' B v' (Lib.compact l) ∧ ChgS (fun j => v.ownBlock = some j) W w' := by
  rcases h.2 with ⟨rfl, h0⟩ | ⟨g, cap, cur, rfl, hBg, hg, hn, hm, hs, ht⟩
  · obtain rfl : l = [] := List.eq_nil_of_length_eq_zero h0
    refine (AnyG.slices_Compact_string_empty SH.laysCompactS none 0 W).mono ?_
    rintro e w' ⟨rfl, rfl⟩
    exact ⟨_, rfl, h, ChgS.refl _ _⟩
  · have hH : Holds encStr W g 0 l.toArray := holds_of_block hg (by simpa using ht)
    refine (AnyG.slices_Compact_string SH.laysCompactS g 0 cap l W hH (by omega) hn).mono ?_
    rintro e w' ⟨rfl, q, rfl⟩
    have hc := compactE_len l
    have hr := relaidE (q := q) (os := #[]) (k := (Lib.compact l).length) h (ts := Lib.compact l ++ List.replicate (l.length - (Lib.compact l).length) []) (by simp; omega) (by simp)
    rw [List.take_left'  rfl, grow_empty] at hr
    exact ⟨_, rfl, hr.1, hr.2.os, hr.2.tape, hr.2.output, hr.2.size, fun j hj hne => hr.2.block j hj fun e => hne (by rw [e]; rfl)⟩
theorem sortE {W : World} {B : Nat} {v : Value} {l : List (List UInt8)} (h : RowE W B v l) (hl : l.length ≤ 1000000) :
    Calls Tryz.prog 53 #[v] W fun e w' => (∃ u, e = .returned u) ∧ RowE w' B v (l.mergeSort fun x y => decide (x ≤ y)) ∧ ChgS (fun j => v.ownBlock = some j) W w' := by
  rcases h.2 with ⟨rfl, h0⟩ | ⟨g, cap, cur, rfl, hBg, hg, hn, hm, hs, ht⟩
  · obtain rfl : l = [] := List.eq_nil_of_length_eq_zero h0
    refine (AnyM.slices_Sort_string_none SH.laysSortS none 0 W).mono ?_
    rintro e w' ⟨rfl, rfl⟩
    exact ⟨⟨_, rfl⟩, by rw [List.mergeSort_nil]; exact h, ChgS.refl _ _⟩
  · have hH : Holds encStr W g 0 l.toArray := holds_of_block hg (by simpa using ht)
    refine (AnyM.slices_Sort_string SH.laysSortS g 0 cap l W hH (Array.getElem?_eq_some_iff.1 hg).1 (by omega)).mono ?_
    rintro e w' ⟨rfl, nn, os, rfl⟩
    have hown := ownsRow_sorted (n := nn) (os := os) (ss := l) (ts := l.mergeSort fun x y => decide (x ≤ y)) (by simp) hBg hg hn hm hs
    have hgr := grownBy_sorted (w := W) (g := g) (n := nn) (os := os) (l.mergeSort fun x y => decide (x ≤ y)).toArray
    refine ⟨⟨_, rfl⟩, ?_, ⟨hgr.os, hgr.tape, hgr.output, hgr.size, fun j hj hne => hgr.block j hj fun e => hne e.symm⟩⟩
    rw [RowE, List.length_mergeSort]
    exact hown
/-- Has, whatever set it is asked of: its contract -/
def HasP (a : Option Addr) (p : ByteArray → Bool) (w : World) : Prop := ∀ (W : World) (x : ByteArray), Below w.heap.size w W → Calls Tryz.prog 37 #[.pointer a, .string x] W fun e w' => e = .returned (.bool (p x)) ∧ Below W.heap.size W w'
theorem hasP_set {sb mb : Nat} {C : RW.Ents} {w : World} (h : SetAt w sb mb C) : HasP (some ⟨sb, 0, none⟩) (fun x => (KM.get x C).isSome) w := fun W x hW => shas_any sb mb C x W (h.next hW)
theorem hasP_nil (w : World) : HasP none (fun _ => false) w := fun W x _ => shas_nil x W
theorem misP_of {a : Option Addr} {p : ByteArray → Bool} {w : World} (h : HasP a p w) : MisP (w.heap.size + 1) w.heap.size p (w.alloc (.cells #[.pointer a] 25)) := by
  intro W x hW
  have c0 : W.cell? ⟨w.heap.size, 0, none⟩ = some (.pointer a) := (World.cell?_of_block (a := ⟨w.heap.size, 0, none⟩) (hW.block _ (show w.heap.size < w.heap.size + 1 by omega))).trans (cellAt (newAt rfl) 0)
  have hH := hide (h W x ((alloc_bel (Below.refl _ _) (Nat.le_refl _) _).trans (hW.mono (by omega))))
  obtain ⟨Bc, hBc⟩ : ∃ b, b = w.heap.size := ⟨_, rfl⟩
  rw [← hBc] at c0 ⊢
  obtain ⟨q, hq⟩ : ∃ q, q = p x := ⟨_, rfl⟩
  rw [← hq] at hH ⊢
  clear h hW hBc hq
  go_enter Tryz.func52, Tryz.ntmps52
  go_wp2_with (go_at_call 37; refine hH.out.mono ?_; rintro e w1 ⟨rfl, h5⟩; have hB1 := hide h5; clear h5)
  go_ret
  exact ⟨rfl, hB1.out⟩
theorem sdelete_none (Bc : Nat) (a : Option Addr) (cap : Nat) (w : World) : Calls Tryz.prog 50 #[.slice a 0 cap, MisF Bc] w fun e w' => e = .returned (.slice a 0 cap) ∧ w = w' := by
  have hI := hide (sindex_none Bc a cap w)
  go_enter Tryz.func50, Tryz.ntmps50
  go_wp2_with (go_at_call 70; refine hI.out.mono ?_; rintro e w1 ⟨rfl, rfl⟩)
  go_ret
  exact ⟨rfl, rfl⟩
/-- DeleteFunc at a row of the call's own -/
theorem sdelete_own (B Bc : Nat) (p : ByteArray → Bool) (v : Value) (l : List ByteArray) (hl : l.length ≤ 1000000) (w : World) (hB : B ≤ w.heap.size) (hP : MisP B Bc p w) (h : StrsOwn w B v l) :
    Calls Tryz.prog 50 #[v, MisF Bc] w fun e w' => ∃ v', e = .returned v' ∧ StrsOwn w' B v' (RW.misL p l) ∧ Below B w w' := by
  rcases h.2 with ⟨rfl, h0⟩ | ⟨g, cap, cur, rfl, hBg, hg, hn, hm, hs, ht⟩
  · obtain rfl : l = [] := List.eq_nil_of_length_eq_zero h0
    refine (sdelete_none Bc none 0 w).mono ?_
    rintro e w' ⟨rfl, rfl⟩
    exact ⟨_, rfl, h, Below.refl _ _⟩
  · exact sdelete_any B Bc g cap p l hl w hB hP h
set_option maxRecDepth 10000 in
set_option maxHeartbeats 2000000 in
theorem smiss_any (a : Option Addr) (p : ByteArray → Bool) (v : Value) (l : List ByteArray) (hl : l.length ≤ 1000000) (w : World) (hH : HasP a p w) (hv : StrR w v l) :
    Calls Tryz.prog 32 #[.pointer a, v] w fun e w' => ∃ u, e = .returned u ∧ StrsOwn w' w.heap.size u (RW.missB p l) ∧ Below w.heap.size w w' := by
  have hP := hide (misP_of hH)
  have hA := hide (alloc_bel (Below.refl w.heap.size w) (Nat.le_refl _) (.cells #[.pointer a] 25))
  have hsz : (w.alloc (.cells #[.pointer a] 25)).heap.size = w.heap.size + 1 := alloc_size _ _
  have hC := hide (clone_any (W := w.alloc (.cells #[.pointer a] 25)) (hv.next (hA.out)) (by omega : l.length ≤ 5000000))
  rw [hsz] at hC
  have hD := hide (fun W (hW : Below (w.heap.size + 1) (w.alloc (.cells #[.pointer a] 25)) W) u (hu : StrsOwn W (w.heap.size + 1) u l) => sdelete_own (w.heap.size + 1) w.heap.size p u l hl W (by rw [← hsz]; exact hW.size) (fun W' x hW' => hP.out W' x (hW.trans hW')) hu)
  have hml : (RW.misL p l).length ≤ 1000000 := Nat.le_trans (List.length_filter_le _ _) hl
  have hmH := hide hml
  have hszH := hide hsz
  obtain ⟨b0, hb0⟩ : ∃ b, b = w.heap.size := ⟨_, rfl⟩
  have hb0H := hide hb0
  rw [← hb0] at hD hC hA hP ⊢
  obtain ⟨w1, hw1⟩ : ∃ w1, w1 = w.alloc (.cells #[.pointer a] 25) := ⟨_, rfl⟩
  rw [← hw1] at hD hC hA hP
  rw [← hw1] at hszH
  have hw1H := hide hw1
  clear hsz hv hH hml hb0 hw1 hl hP
  go_enter Tryz.func32, Tryz.ntmps32
  go_upto_region 1 with fail
  rw [← hb0H.out, ← hw1H.out]
  go_upto_region 2 with (first
    | (go_at_call 51; refine hC.out.mono ?_; rintro e w2 ⟨u1, rfl, h1, h2⟩; have h1H := hide h1; have h2H := hide h2; clear h1 h2)
    | (go_at_call 50; refine (hD.out w2 h2H.out u1 h1H.out).mono ?_; rintro e w3 ⟨u2, rfl, h1, h2⟩; have h3H := hide h1; have h4H := hide h2; clear h1 h2))
  have hE := hide (rowE_of h3H.out)
  go_upto_region 3 with (go_at_call 53; refine (sortE hE.out (by rw [List.length_map]; exact hmH.out)).mono ?_; rintro e w4 ⟨⟨u, rfl⟩, h1, h2⟩; have h5H := hide h1; have h6H := hide h2; clear h1 h2)
  go_wp2_with (go_at_call 54; refine (compactE h5H.out (by rw [List.length_mergeSort, List.length_map]; exact hmH.out)).mono ?_; rintro e w5 ⟨u5, rfl, h1, h2⟩; have h7H := hide h1; have h8H := hide h2; clear h1 h2)
  go_ret
  have hown : ∀ k, u2.ownBlock = some k → b0 + 1 ≤ k := fun k hk => (own_blk h3H.out hk).1
  have hs1 : b0 + 1 ≤ w1.heap.size := Nat.le_of_eq (by rw [hszH.out, hb0H.out])
  have hs3 : b0 + 1 ≤ w3.heap.size := Nat.le_trans hs1 (Nat.le_trans h2H.out.size h4H.out.size)
  have hB13 := h2H.out.trans h4H.out
  have hB4 : Below (b0 + 1) w3 w4 := h6H.out.belowJ hown hs3
  have hB5 : Below (b0 + 1) w4 w5 := h8H.out.belowJ hown (Nat.le_trans hs3 hB4.size)
  have hB : Below (b0 + 1) w1 w5 := hB13.trans (hB4.trans hB5)
  refine ⟨u5, rfl, ?_, hA.out.trans (hB.mono (by omega))⟩
  have := (rowE_to h7H.out)
  refine ⟨this.1, this.2.imp id ?_⟩
  rintro ⟨g, cap, cur, h1, h2, h3⟩
  exact ⟨g, cap, cur, h1, by omega, h3⟩
end Go.Proofs.YtnlphbfjeekooaaGreatDoor
