/-
  Package royaltyref02: extended, constants: what they return; only new memory is written.
-/
import Derived.Test.YtnlphbfjeekooaaGreatDoorMB
namespace Go.Proofs.YtnlphbfjeekooaaGreatDoor
open Go.RowKit
theorem info_u8 : (Tryz.prog.info? 5).map (fun i => (i.zero, i.size, i.bytes)) = some (some (.int .u8 0), 1, 1) := by kernel_rfl
theorem info_u32 : (Tryz.prog.info? 119).map (fun i => (i.zero, i.size, i.bytes)) = some (some (.int .u32 0), 1, 4) := by kernel_rfl
/-- behind an append of what was just built -/
theorem below_app {B : Nat} {w wr w3 : World} {e : TypeId} {size n : Nat} {v : Value} {xs : List Value} {o : Obj} (hB : Below B w wr) (hs : B ≤ wr.heap.size) (hown : wr.ownsRow B e size v n xs) (hg : (wr.alloc o).grownBy w3 v.ownBlock) : Below B w w3 ∧ B ≤ w3.heap.size := by
  have h1 := hB.alloc hs o
  have h2 := hg.size
  simp at h2
  exact ⟨h1.grown hg (by simp; omega) (fun k hk => (hown.lt k hk).1), by omega⟩
theorem owns_form {w : World} {B : Nat} {e : TypeId} {v : Value} {n size : Nat} {xs : List Value} (h : w.ownsRow B e size v n xs) : ∃ a cap, v = .slice a n cap := by
  rcases h.2 with ⟨h1, h2⟩ | ⟨g, cap, cur, h2, _⟩
  · exact ⟨none, 0, by rw [h1, h2]⟩
  · exact ⟨_, _, h2⟩
def ExtPost (s : ByteArray) (w : World) (e : Ending) (w' : World) : Prop :=
  ∃ v, e = .returned v ∧ w'.ownsRow w.heap.size 5 1 v (RW.padL s.data.toList).length (RW.bytesV (RW.padL s.data.toList)) ∧ Below w.heap.size w w'
set_option maxRecDepth 100000 in
set_option maxHeartbeats 4000000 in
theorem extended_any (s : ByteArray) (hs : s.size ≤ 1099511627776) (w : World) :
    Calls Tryz.prog 85 #[.string s] w (ExtPost s w) := by
  obtain ⟨i0, hi, hz0, hz1, hz2⟩ := info_parts info_u8
  obtain ⟨B, hB⟩ : ∃ b, b = w.heap.size := ⟨_, rfl⟩
  have hBH := hide hB
  have hwB := hide (show B ≤ w.heap.size by omega)
  clear hB
  go_enter Tryz.func85, Tryz.ntmps85
  go_wp2
  go_loopw [3, 4] (fun v i wr => ∃ k : Nat, k ≤ s.size ∧ i = .int .i64 k ∧ wr.ownsRow B 5 1 v k (RW.bytesV (s.data.toList.take k)) ∧ Below B w wr ∧ B ≤ wr.heap.size) (fun _ i _ => s.size - (intOf i).toNat)
  case atStart => exact ⟨0, by omega, rfl, World.ownsRow_nil _ _ _ _, Below.refl _ _, hwB.out⟩
  case round =>
    obtain ⟨k, hk, rfl, hown, hBw, hBs⟩ := hrel
    by_cases hlt : k < s.size
    · have ht : RW.bytesV (s.data.toList.take k) ++ [.int .u8 (s[k].toNat : Int)] = RW.bytesV (s.data.toList.take (k + 1)) := by
        rw [List.take_succ_eq_append_getElem (by simpa using hlt)]; simp [RW.bytesV]; rfl
      have htH := hide ht
      clear ht
      go_wp2_with (at_builtin; refine wpList_append_own _ rfl _ _ 104 rfl B 5 i0 (.int .u8 0) 1 1 Tryz.underlying104 hi hz0 hz1 hz2 rfl (by decide) _ _ _ rfl (hown.alloc _) ⟨wr.heap.size, 0, none⟩ 1 1 [.int .u8 (s[k].toNat : Int)] rfl rfl ?c1 ?c2 ?c3 ?c4 ?c5 ?_)
      case c1 => exact cell_one_new _ _ _
      case c2 => intro u hu; simp at hu; subst hu; rfl
      case c3 => unfold maxLen; omega
      case c4 => omega
      case c5 => simp; omega
      intro v' w3 hown' hgrow _
      rw [htH.out] at hown'
      obtain ⟨hB3, hs3⟩ := below_app hBw hBs hown hgrow
      clear hgrow hown hBw hBs
      go_wp2
      go_roundw
      case rel => exact ⟨k + 1, by omega, by go_num, hown', hB3, hs3⟩
      case measure => simp [intOf]; omega
    · obtain rfl : k = s.size := by omega
      have ht : s.data.toList.take s.size = s.data.toList := List.take_of_length_le (by simp)
      rw [ht] at hown
      clear ht
      have e2 : RW.bytesV s.data.toList ++ [.int .u8 128] = RW.bytesV (RW.padM s.data.toList 0) := by simp [RW.padM, RW.bytesV]
      have e2H := hide e2
      clear e2
      go_wp2_with (at_builtin; refine wpList_append_own _ rfl _ _ 104 rfl B 5 i0 (.int .u8 0) 1 1 Tryz.underlying104 hi hz0 hz1 hz2 rfl (by decide) _ _ _ rfl (hown.alloc _) ⟨wr.heap.size, 0, none⟩ 1 1 [.int .u8 128] rfl rfl ?c1 ?c2 ?c3 ?c4 ?c5 ?_)
      case c1 => exact cell_one_new _ _ _
      case c2 => intro u hu; simp at hu; subst hu; rfl
      case c3 => unfold maxLen; omega
      case c4 => omega
      case c5 => simp; omega
      intro v' w3 hown' hgrow _
      rw [e2H.out] at hown'
      obtain ⟨hB3, hs3⟩ := below_app hBw hBs hown hgrow
      clear hgrow hown hBw hBs e2H
      go_wp2
      go_loopw [3] (fun v wr => ∃ c : Nat, c ≤ RW.padZ s.size ∧ wr.ownsRow B 5 1 v (s.size + 1 + c) (RW.bytesV (RW.padM s.data.toList c)) ∧ Below B w wr ∧ B ≤ wr.heap.size)
        (fun v wr => match v with | .slice _ l _ => s.size + 65 - l | _ => 0)
      case atStart => exact ⟨0, Nat.zero_le _, hown', hB3, hs3⟩
      case round =>
        clear hown' hB3 hs3
        obtain ⟨c, hc, hown, hBw, hBs⟩ := hrel
        obtain ⟨ao, cap, rfl⟩ := owns_form hown
        by_cases hlt : c < RW.padZ s.size
        · have hd : (((s.size : Int) + 1 + c) % 64 != 56) = true := by
            unfold RW.padZ at hlt; simp only [bne_iff_ne, ne_eq]; omega
          have hcb : c < 64 := by unfold RW.padZ at hlt; omega
          have e3 : RW.bytesV (RW.padM s.data.toList c) ++ [.int .u8 0] = RW.bytesV (RW.padM s.data.toList (c + 1)) := by rw [RW.padM_succ]; simp [RW.bytesV]
          have e3H := hide e3
          clear e3
          go_wp2_with (at_builtin; refine wpList_append_own _ rfl _ _ 104 rfl B 5 i0 (.int .u8 0) 1 1 Tryz.underlying104 hi hz0 hz1 hz2 rfl (by decide) _ _ _ rfl (hown.alloc _) ⟨wr.heap.size, 0, none⟩ 1 1 [.int .u8 0] rfl rfl ?c1 ?c2 ?c3 ?c4 ?c5 ?_)
          case c1 => exact cell_one_new _ _ _
          case c2 => intro u hu; simp at hu; subst hu; rfl
          case c3 => unfold maxLen; omega
          case c4 => omega
          case c5 => simp; omega
          intro v' w3 hown' hgrow _
          rw [e3H.out] at hown'
          obtain ⟨hB3, hs3⟩ := below_app hBw hBs hown hgrow
          clear hgrow hown hBw hBs e3H
          obtain ⟨ao', cap', rfl⟩ := owns_form hown'
          go_wp2
          go_roundw
          case rel => exact ⟨c + 1, by omega, by rw [show s.size + 1 + (c + 1) = s.size + 1 + c + 1 by omega]; exact hown', hB3, hs3⟩
          case measure => simp; omega
        · have hcz : c = RW.padZ s.size := by omega
          have hd : (((s.size : Int) + 1 + c) % 64 != 56) = false := by
            rw [hcz]; unfold RW.padZ; simp only [bne_eq_false_iff_eq]; omega
          go_wp2
          subst hcz
          generalize hz : RW.padZ s.size = z at hown hd
          have hzb : z < 64 := by rw [← hz]; unfold RW.padZ; omega
          have hzH := hide hz
          clear hz hd hlt hc
          go_loopw [3, 5] (fun v iv wr => ∃ c : Nat, c ≤ 8 ∧ iv = .int .i64 (7 - (c : Int)) ∧ wr.ownsRow B 5 1 v (s.size + 1 + z + c) (RW.bytesV (RW.padM s.data.toList z ++ RW.padT s.size c)) ∧ Below B w wr ∧ B ≤ wr.heap.size)
            (fun v iv wr => (intOf iv + 1).toNat)
          case atStart => exact ⟨0, Nat.zero_le _, rfl, by simpa [RW.padT] using hown, hBw, hBs⟩
          case round =>
            clear hown hBw hBs
            obtain ⟨c, hc, rfl, hown, hBw, hBs⟩ := hrel
            by_cases hlt : c < 8
            · have hge : (0 : Int) ≤ 7 - (c : Int) := by omega
              have e3 : RW.bytesV (RW.padM s.data.toList z ++ RW.padT s.size c) ++ [.int .u8 (8 * (s.size : Int) / 2 ^ (8 * (7 - c)) % 256)] = RW.bytesV (RW.padM s.data.toList z ++ RW.padT s.size (c + 1)) := by
                rw [show RW.padT s.size (c + 1) = RW.padT s.size c ++ [RW.padB s.size (7 - c)] from rfl, RW.padB_int]; simp [RW.bytesV]
              have e3H := hide e3
              clear e3
              go_wp2_with (at_builtin; refine wpList_append_own _ rfl _ _ 104 rfl B 5 i0 (.int .u8 0) 1 1 Tryz.underlying104 hi hz0 hz1 hz2 rfl (by decide) _ _ _ rfl (hown.alloc _) ⟨wr.heap.size, 0, none⟩ 1 1 [.int .u8 (8 * (s.size : Int) / 2 ^ (8 * (7 - c)) % 256)] rfl rfl ?c1 ?c2 ?c3 ?c4 ?c5 ?_)
              case c1 => exact cell_one_new _ _ _
              case c2 => intro u hu; simp at hu; subst hu; rfl
              case c3 => unfold maxLen; omega
              case c4 => omega
              case c5 => simp; omega
              intro v' w3 hown' hgrow _
              rw [e3H.out] at hown'
              obtain ⟨hB3, hs3⟩ := below_app hBw hBs hown hgrow
              clear hgrow hown hBw hBs e3H
              go_wp2
              go_roundw
              case rel => exact ⟨c + 1, by omega, by go_num, by rw [show s.size + 1 + z + (c + 1) = s.size + 1 + z + c + 1 by omega]; exact hown', hB3, hs3⟩
              case measure => simp [intOf]; omega
            · have hge : ¬ (0 : Int) ≤ 7 - (c : Int) := by omega
              have hc8 : c = 8 := by omega
              have hpl : RW.padM s.data.toList z ++ RW.padT s.size c = RW.padL s.data.toList := by
                rw [hc8, ← hzH.out]; unfold RW.padL; rw [Array.length_toList]; rfl
              have hlen : s.size + 1 + z + c = (RW.padL s.data.toList).length := by rw [← hpl, List.length_append, RW.padM_len, RW.padT_len, Array.length_toList]; rfl
              rw [hpl, hlen] at hown
              clear hpl hlen hc8
              go_wp2
              go_ret
              exact ⟨_, rfl, by rw [← hBH.out]; exact hown, by rw [← hBH.out]; exact hBw⟩
namespace RW
def k0 : List Int := [1116352408, 1899447441, 3049323471, 3921009573, 961987163, 1508970993, 2453635748, 2870763221, 3624381080, 310598401, 607225278, 1426881987, 1925078388, 2162078206, 2614888103, 3248222580, 3835390401, 4022224774, 264347078, 604807628, 770255983, 1249150122, 1555081692, 1996064986, 2554220882, 2821834349, 2952996808, 3210313671, 3336571891, 3584528711, 113926993, 338241895, 666307205, 773529912, 1294757372, 1396182291, 1695183700, 1986661051, 2177026350, 2456956037, 2730485921, 2820302411, 3259730800, 3345764771, 3516065817, 3600352804, 4094571909, 275423344, 430227734, 506948616, 659060556, 883997877, 958139571, 1322822218, 1537002063, 1747873779, 1955562222, 2024104815, 2227730452, 2361852424, 2428436474, 2756734187, 3204031479, 3329325298]
def k0F (i : Nat) : Int := k0.getD i 0
def k0C : Array Value := (k0.map fun z => Value.int .u32 z).toArray
end RW
set_option maxRecDepth 100000 in
set_option maxHeartbeats 1000000 in
theorem constants_any (w : World) : Calls Tryz.prog 117 #[] w fun e w' => e = .returned (.slice (some ⟨w.heap.size, 0, none⟩) 64 64) ∧ w' = w.alloc (.cells RW.k0C 119) := by
  go_enter Tryz.func117, Tryz.ntmps117
  go_wp2
  go_ret
  exact ⟨rfl, rfl⟩
theorem RW.k0_len : RW.k0.length = 64 := by decide +kernel
theorem RW.k0C_ok : RW.WsOk RW.k0C RW.k0F := by
  refine ⟨by simp [k0C, k0_len], fun i hi => ?_⟩
  have h : i < k0.length := by rw [k0_len]; exact hi
  simp [k0C, k0F, List.getD, List.getElem?_eq_getElem h]
end Go.Proofs.YtnlphbfjeekooaaGreatDoor
