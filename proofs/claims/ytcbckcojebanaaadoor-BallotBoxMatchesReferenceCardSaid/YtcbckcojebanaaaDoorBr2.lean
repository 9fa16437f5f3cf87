/-
  Package royaltyref25: Value: what it returns; only new memory is written.
-/
import Derived.Test.YtcbckcojebanaaaDoorAps
import Derived.Test.YtcbckcojebanaaaDoorMZ3
import Derived.Test.YtcbckcojebanaaaDoorBr1
namespace Go.Proofs.YtcbckcojebanaaaDoor
open Go.RowKit
theorem rvalue_bad {v : Value} {l : List ByteArray} {w : World} (h : StrsV w v l) (hl : l.length ≤ 140737488355328) (ha : RW.asc (RW.bl l) = false) :
    Calls Tryd.prog 27 #[v] w fun e w' => e = .returned (.tuple #[.string ⟨#[]⟩, .int .i64 250]) ∧ Below w.heap.size w w' := by
  have hA := rids_v h hl
  rw [ha] at hA
  have hAH := hide hA
  clear hA ha h
  go_enter Tryd.func27, Tryd.ntmps27
  go_wp2_with (go_at_call 52; refine hAH.out.mono ?_; rintro e w' ⟨rfl, d, rfl⟩)
  go_ret2
  exact ⟨rfl, ⟨rfl, rfl, rfl, Nat.le_refl _, fun _ _ => rfl⟩⟩
theorem own_string_B {w : World} {base : Nat} {e : TypeId} {g n cap : Nat} {l : List UInt8} (h : ownsB w base e (.slice (some ⟨g, 0, none⟩) n cap) n (RW.bytesV l)) {P : Program} (src dst : TypeId)
    (hs : P.underlying src = some (.slice e)) (he : P.underlying e = some (.int .u8)) (hd : P.underlying dst = some .string) :
    (convert src dst (.slice (some ⟨g, 0, none⟩) n cap)).run P w = .ok (.string ⟨l.toArray⟩) w := by
  have hn : l.length = n := by have := h.1; simpa [RW.bytesV] using this
  have := run_convert_bytes_back (P := P) w src dst e ⟨g, 0, none⟩ cap l hs he hd (fun j hj => by
    have hadd : (⟨g, 0, none⟩ : Addr).add j = ⟨g, j, none⟩ := by unfold Addr.add; split <;> simp_all
    rw [hadd]; exact h.cell rfl j _ (RW.bytesV_get l j hj))
  rw [hn] at this; exact this
set_option maxRecDepth 100000 in
set_option maxHeartbeats 4000000 in
theorem rvalue_good {v : Value} {l : List ByteArray} {w : World} (h : StrsV w v l) (hl : l.length ≤ 140737488355328) (ha : RW.asc (RW.bl l) = true) :
    Calls Tryd.prog 27 #[v] w fun e w' => e = .returned (.tuple #[.string ⟨(RW.valL (RW.bl l)).toArray⟩, .int .i64 0]) ∧ Below w.heap.size w w' := by
  obtain ⟨l1, l2, l3⟩ := RW.asc_lims ha
  rw [RW.bl_len] at l1
  obtain ⟨i0, hi, hz0, hz1, hz2⟩ := info_parts info5
  have hA := rids_v h hl
  rw [ha] at hA
  have hP := fun W => rputint l.length (by omega) (by omega) W
  obtain ⟨p, hp⟩ : ∃ t : ByteArray, t = ⟨(RW.putI l.length).toArray⟩ := ⟨_, rfl⟩
  have hpl : p.data.toList = RW.putI l.length := by rw [hp]
  have hps : p.size ≤ 10 := by rw [hp]; show (RW.putI l.length).toArray.size ≤ 10; rw [List.size_toArray]; exact RW.putI_len _
  rw [← hp] at hP
  have hr : ∀ k, l.length ≤ k → RW.valL (RW.bl l) = p.data.toList ++ ((RW.bl l).take k).flatten := fun k hk => by
    unfold RW.valL; rw [RW.bl_len, List.take_of_length_le (by rw [RW.bl_len]; exact hk), hpl]
  have hfl : ∀ k, (p.data.toList ++ ((RW.bl l).take k).flatten).length ≤ 128010 := fun k => by
    have h1 := RW.flat_len 32 ((RW.bl l).take k) (fun s hs => Nat.le_of_eq (l3 s (List.mem_of_mem_take hs)))
    have h2 : ((RW.bl l).take k).length ≤ 4000 := by rw [List.length_take, RW.bl_len]; omega
    have h3 : p.data.toList.length = p.size := rfl
    rw [List.length_append, h3]
    omega
  have hst : ∀ k, (hk : k < l.length) → (p.data.toList ++ ((RW.bl l).take k).flatten) ++ (l.getD k ⟨#[]⟩).data.toList = p.data.toList ++ ((RW.bl l).take (k + 1)).flatten ∧ (l.getD k ⟨#[]⟩).size = 32 := fun k hk => by
    have hk2 : k < (RW.bl l).length := by rw [RW.bl_len]; exact hk
    have e : (RW.bl l)[k] = (l.getD k ⟨#[]⟩).data.toList := by
      rw [List.getD, List.getElem?_eq_getElem hk]; simp [RW.bl]
    refine ⟨by rw [List.take_succ_eq_append_getElem hk2, List.flatten_append, List.append_assoc, e]; simp, ?_⟩
    have := l3 _ (List.getElem_mem hk2)
    rw [e] at this
    exact this
  have hvl : ∃ a cap, v = .slice a l.length cap := by obtain ⟨a, cap, rfl, _⟩ := h; exact ⟨a, cap, rfl⟩
  obtain ⟨a, cap, rfl⟩ := hvl
  have hcc : ∀ k, k < l.length → ∃ b o, a = some ⟨b, o, none⟩ ∧ ∀ W, Below w.heap.size w W → W.cell? ⟨b, o + k, none⟩ = some (.string (l.getD k ⟨#[]⟩)) := fun k hk => by
    obtain ⟨a', cap', hv, _, h1 | ⟨b, o, ha', hb, hc⟩⟩ := h
    · rw [h1] at hk; exact absurd hk (Nat.not_lt_zero _)
    · injection hv with e1 e2 e3
      exact ⟨b, o, e1.trans ha', fun W hB => (World.cell?_of_block (a := ⟨b, o + k, none⟩) (hB.block _ hb)).trans (hc k hk)⟩
  obtain ⟨n, hn⟩ : ∃ n, n = l.length := ⟨_, rfl⟩
  rw [← hn] at hA hP hr hst hcc l1 ⊢
  have hAH := hide hA
  have hPH := hide hP
  have hrH := hide hr
  have hflH := hide hfl
  have hstH := hide hst
  have hccH := hide hcc
  have hB := hide (Below.refl w.heap.size w)
  clear hA ha h hP hr hfl hst hcc hp hpl hn hl l2 l3
  go_enter Tryd.func27, Tryd.ntmps27
  go_upto_region 5 with (first
    | (go_at_call 52; refine hAH.out.mono ?_; rintro e w' ⟨rfl, d, rfl⟩)
    | (go_at_call 45; refine (hPH.out _).mono ?_; rintro e w2 ⟨rfl, hB2⟩))
  have hB3 : Below w.heap.size w w2 := (show Below w.heap.size w (w.drewN d) from ⟨rfl, rfl, rfl, Nat.le_refl _, fun _ _ => rfl⟩).trans hB2
  clear hB2
  obtain ⟨cap0, w1, hcv, hob, hB1⟩ : ∃ cap0 w1, (convert 9 60 (.string p)).run Tryd.prog w2 = .ok (.slice (some ⟨w2.heap.size, 0, none⟩) p.size cap0) w1 ∧
      ownsB w1 w.heap.size 5 (.slice (some ⟨w2.heap.size, 0, none⟩) p.size cap0) p.size (RW.bytesV p.data.toList) ∧ Below w.heap.size w w1 := by
    have ho := ownsB_bytes w2 p 5 (by unfold maxLen; omega)
    refine ⟨_, _, run_bytes_of_string (P := Tryd.prog) w2 9 60 5 p Tryd.underlying9 Tryd.underlying60 Tryd.underlying5, ?_, ?_⟩
    · obtain ⟨h1, g, c, cur, fz, h2, h3, h4⟩ := ho
      exact ⟨h1, g, c, cur, fz, h2, Nat.le_trans hB3.size h3, h4⟩
    · exact hB3.drew.alloc hB3.size _
  go_wp2
  go_loopw [7, 8] (fun v i wr => ∃ k : Nat, k ≤ n ∧ i = .int .i64 k ∧ ownsB wr w.heap.size 5 v (p.data.toList ++ ((RW.bl l).take k).flatten).length (RW.bytesV (p.data.toList ++ ((RW.bl l).take k).flatten)) ∧ Below w.heap.size w wr) (fun _ i _ => n - (intOf i).toNat)
  case atStart => exact ⟨0, Nat.zero_le _, rfl, by simpa using hob, hB1⟩
  case round =>
    clear hob hB1 hB3 hcv
    obtain ⟨k, hk, rfl, ho, hB2⟩ := hrel
    by_cases hlt : k < n
    · obtain ⟨b, o, rfl, hc⟩ := hccH.out k hlt
      have hck := hc wr hB2
      clear hc
      obtain ⟨hs1, hs2⟩ := hstH.out k hlt
      have hf := hflH.out k
      obtain ⟨s, hsd⟩ : ∃ s, s = l.getD k ⟨#[]⟩ := ⟨_, rfl⟩
      rw [← hsd] at hck hs1 hs2
      clear hsd
      obtain ⟨q, hq⟩ : ∃ q, q = p.data.toList ++ ((RW.bl l).take k).flatten := ⟨_, rfl⟩
      rw [← hq] at ho hs1 hf
      clear hq
      have hs1H := hide hs1
      have hs2H := hide hs2
      have hb1 : q.length + s.size ≤ maxLen := by unfold maxLen; omega
      have hb2 : q.length + s.size ≤ 140737488355328 := by omega
      have hbs := hB2.size
      clear hs1 hs2
      obtain ⟨g, cap2, rfl, _⟩ := ho.form
      go_wp2_with (at_builtin; refine wpList_append_Bs rfl _ _ 60 9 rfl w.heap.size 5 i0 (.int .u8 0) Tryd.underlying60 Tryd.underlying9 hi hz0 hz1 hz2 rfl _ _ _ rfl ho s rfl hb1 hb2 hbs ?_; intro v' w' ho' hg')
      go_roundw
      case rel =>
        refine ⟨k + 1, by omega, by go_num, ?_, hB2.grown hg' hbs (fun k e => (ho.lt k e).1)⟩
        rw [← hs1H.out, List.length_append]
        have e : RW.bytesV (q ++ s.data.toList) = RW.bytesV q ++ Go.byteCells s := by simp [RW.bytesV, Go.byteCells]
        rw [e]
        exact ho'
      case measure => (simp [intOf] <;> omega)
    · obtain rfl : k = n := by omega
      have hr0 := hrH.out k (Nat.le_refl _)
      obtain ⟨q, hq⟩ : ∃ q, q = p.data.toList ++ ((RW.bl l).take k).flatten := ⟨_, rfl⟩
      rw [← hq] at ho hr0
      clear hq
      have hrr := hide hr0
      clear hr0
      obtain ⟨m, hm⟩ : ∃ m, m = q.length := ⟨_, rfl⟩
      rw [← hm] at ho
      obtain ⟨g, cap2, rfl, _⟩ := ho.form
      clear hm
      have hcs := own_string_B ho (P := Tryd.prog) 60 9 Tryd.underlying60 Tryd.underlying5 Tryd.underlying9
      have hoH := hide ho
      clear ho
      go_wp2
      go_ret2
      exact ⟨by rw [hrr.out] <;> rfl, hB2⟩
theorem rvalue_any {v : Value} {l : List ByteArray} {w : World} (h : StrsV w v l) (hl : l.length ≤ 140737488355328) :
    Calls Tryd.prog 27 #[v] w fun e w' => e = .returned (valRes l) ∧ Below w.heap.size w w' := by
  unfold valRes
  cases ha : RW.asc (RW.bl l)
  · exact rvalue_bad h hl ha
  · exact rvalue_good h hl ha
end Go.Proofs.YtcbckcojebanaaaDoor
