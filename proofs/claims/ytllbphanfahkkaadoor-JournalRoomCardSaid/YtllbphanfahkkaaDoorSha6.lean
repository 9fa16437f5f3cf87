/-
  digest.Sum: the padding's bytes, slices.Chunk's maker, and the sum of a string; only new memory is written.
-/
import Derived.Maps.OwnIn
import Derived.RangeFuncCalls
import Derived.Laws.IdiomStrings
import Derived.Test.YtllbphanfahkkaaDoorSha4
import Derived.Test.YtllbphanfahkkaaDoorSha5
import Derived.Test.YtllbphanfahkkaaDoorRow
import Derived.Test.YtllbphanfahkkaaDoorWire
namespace Go.Proofs.YtllbphanfahkkaaDoor
open Go.RowKit Go.Shelf
theorem stopHere {p : Prop} (h : Hid p) : p := h.out
section
variable {P : Program} {w w' : World} {base : Nat} {e : TypeId} {v : Value} {n : Nat} {xs : List Value} {F : Fence} {nF : Nat}
theorem wpListIn_append_B {ops : Array Oper} {rest : List Oper} {o : Oper} {a : Act} {Q : Exit → Act → World → Prop} (hgd : o.guard = none) (s x : Operand) (t : TypeId)
    (ho : o.op = .call { callee := .builtin .append, args := #[s, x], argTypes := #[t, t] })
    (base : Nat) (e : TypeId) (i : TypeInfo) (z : Value) (bytes : Nat) (ht : P.underlying t = some (.slice e)) (hi : P.info? e = some i) (hz : i.zero = some z) (h1 : i.size = 1) (hby : i.bytes = bytes) (hzs : z.cells.size = 1)
    (v : Value) (n : Nat) (xs : List Value) (hs : a.eval s = v) (h : ownsB w base e v n xs)
    (ad : Addr) (c : Nat) (u : Value) (hx : a.eval x = .slice (some ad) 1 c) (hu : w.cell? ad = some u) (hone : u.oneCell' = true) (hn : n + 1 ≤ maxLen) (hbytes : (n + 1) * bytes ≤ 140737488355328) (hbase : base ≤ w.heap.size)
    (k : ∀ v' w', ownsB w' base e v' (n + 1) (xs ++ [u]) → w.grownBy w' v.ownBlock → wpListIn F nF P ops Q rest (a.put o.dst v') w') : wpListIn F nF P ops Q (o :: rest) a w := by
  refine wpListIn_plain hgd fun K hK => ?_
  obtain ⟨v', w', hr, h2, h3⟩ := run_append_B (P := P) t o.type i z bytes ht hi hz h1 hby hzs h ad c u hu hone hn hbytes hbase
  unfold Oper.wpIn
  refine ⟨by simp [Oper.about, ho, resolve, Target.leads, Sem.run_pure], ?_⟩
  rw [Oper.semAt_plain F _ _ (by rw [ho]; intro c hc'; cases hc')]
  simp [execOp, ho, resolve, invoke, builtin, hs, hx, hr, Result.andThen]
  exact hK _ _ (k v' w' h2 h3)
end
theorem chunk_in (F : Fence) (n : Nat) (h7 : F.fn 78) (hro : F.round = none) (o : Option Addr) (l c : Nat) (w : World) :
    CallsIn F n Tryd.prog 78 #[.slice o l c, .int .i64 64] w fun e w' => e = .returned (.func (.func 84) #[] #[.pointer (some ⟨w.heap.size, 0, none⟩), .pointer (some ⟨w.heap.size + 1, 0, none⟩)]) ∧
      (w.alloc (.cells #[.slice o l c] 38)).alloc (.cells #[.int .i64 64] 3) = w' := by
  refine callsIn_of_wp Tryd.func78 rfl h7 ?_ hro
  simp only [Tryd.ntmps78, List.size_toArray, List.length_cons, List.length_nil, Nat.reduceAdd, Nat.reduceSub, Array.replicate_succ, Array.replicate_zero, List.push_toArray, List.append_toArray, List.nil_append, List.cons_append]
  gi_wp2
  go_ret
  exact ⟨rfl, rfl⟩
namespace RW
def padZ (n : Nat) : Nat := (119 - n % 64) % 64
def padB (n k : Nat) : UInt8 := UInt8.ofNat (8 * n / 2 ^ (8 * k) % 256)
/-- the bytes before the length's -/
def padM (l : List UInt8) (c : Nat) : List UInt8 := l ++ [128] ++ List.replicate c 0
/-- the length's bytes, from the highest on; c of them -/
def padT (n : Nat) : Nat → List UInt8
  | 0 => []
  | c + 1 => padT n c ++ [padB n (7 - c)]
def padL (l : List UInt8) : List UInt8 := padM l (padZ l.length) ++ padT l.length 8
def sh0 : Nat → Int := fun i => match i with
  | 0 => 1779033703 | 1 => 3144134277 | 2 => 1013904242 | 3 => 2773480762 | 4 => 1359893119 | 5 => 2600822924 | 6 => 528734635 | _ => 1541459225
def blkf (l : List UInt8) (c i : Nat) : Int := ((l.getD (64 * c + i) 0).toNat : Int)
def shRun (K : Nat → Int) (l : List UInt8) : Nat → Nat → Int
  | 0 => sh0
  | c + 1 => hnew (shRun K l c) K (wf (blkf l c))
def sha (K : Nat → Int) (l : List UInt8) : List UInt8 := dig (shRun K (padL l) ((padL l).length / 64))
theorem padB_int (n k : Nat) : 8 * (n : Int) / 2 ^ (8 * k) % 256 = ((padB n k).toNat : Int) := by
  unfold padB
  rw [UInt8.toNat_ofNat', Nat.mod_eq_of_lt (Nat.mod_lt _ (by decide))]
  simp
theorem padT_len (n c : Nat) : (padT n c).length = c := by
  induction c with
  | zero => rfl
  | succ c ih => simp [padT, ih]
theorem padM_len (l : List UInt8) (c : Nat) : (padM l c).length = l.length + 1 + c := by simp [padM]; omega
theorem padL_len (l : List UInt8) : (padL l).length = l.length + 1 + padZ l.length + 8 := by simp [padL, padT_len, padM_len]
theorem padL_dvd (l : List UInt8) : (padL l).length = 64 * ((padL l).length / 64) := by
  have := padL_len l
  unfold padZ at this
  omega
theorem padM_succ (l : List UInt8) (c : Nat) : padM l (c + 1) = padM l c ++ [0] := by
  simp [padM, List.replicate_succ']
theorem blkf_range (l : List UInt8) (c i : Nat) : 0 ≤ blkf l c i ∧ blkf l c i ≤ 255 := by
  unfold blkf
  have := UInt8.toNat_lt (l.getD (64 * c + i) 0)
  omega
theorem hnew_range (H K W : Nat → Int) (i : Nat) : 0 ≤ hnew H K W i ∧ hnew H K W i < 4294967296 := by
  unfold hnew
  omega
theorem shRun_range (K : Nat → Int) (l : List UInt8) (c i : Nat) (hi : i < 8) : 0 ≤ shRun K l c i ∧ shRun K l c i < 4294967296 := by
  cases c with
  | zero =>
    show 0 ≤ sh0 i ∧ sh0 i < 4294967296
    revert i; decide
  | succ c => exact hnew_range _ _ _ _
end RW
attribute [local go_sem] Oper.semAt_some
set_option maxRecDepth 100000 in
set_option maxHeartbeats 4000000 in
theorem sum_in (F : Fence) (hF : Hid (F = Fence.wide)) (n : Nat) (h40 : F.fn 71) (h76 : F.fn 78) (hro : F.round = none) (hn : 3 ≤ n) (s : ByteArray) (hs : s.size ≤ 1099511627776)
    (K : Nat → Int) (ks : Array Value) (hks : RW.WsOk ks K) (w : World) (hK : KLaid w ks) :
    CallsIn F n Tryd.prog 71 #[.string s] w fun e w' => e = .returned (.string ⟨(RW.sha K s.data.toList).toArray⟩) ∧ Below w.heap.size w w' := by
  have h1 : 1 ≤ n := by omega
  obtain ⟨i0, hi, hz0, hz1, hz2⟩ := info_parts info5
  refine callsIn_of_wp_marks Tryd.func71 rfl h40 ?_ hro
  simp only [Tryd.ntmps71, List.size_toArray, List.length_cons, List.length_nil, Nat.reduceAdd, Nat.reduceSub, Array.replicate_succ, Array.replicate_zero, List.push_toArray, List.append_toArray, List.nil_append, List.cons_append]
  obtain ⟨w0, hw0⟩ : ∃ w0, w0 = w.alloc (.cells (RW.vrow RW.sh0) 139) := ⟨_, rfl⟩
  have hr0 : w0.heap[w.heap.size]? = some (.cells (RW.vrow RW.sh0) 139 (0, 0)) := hw0 ▸ heap_alloc_new w _
  have hB0 : Below w.heap.size w w0 := hw0 ▸ (Below.refl _ _).alloc (Nat.le_refl _) _
  have hs0 : w0.heap.size = w.heap.size + 1 := hw0 ▸ World.size_alloc _ _
  obtain ⟨cap0, w1, hcv, hob, hr1, hB1⟩ : ∃ cap0 w1, (convert 9 38 (.string s)).run Tryd.prog w0 = .ok (.slice (some ⟨w.heap.size + 1, 0, none⟩) s.size cap0) w1 ∧
      ownsB w1 (w.heap.size + 1) 5 (.slice (some ⟨w.heap.size + 1, 0, none⟩) s.size cap0) s.size (RW.bytesV s.data.toList) ∧ w1.heap[w.heap.size]? = some (.cells (RW.vrow RW.sh0) 139 (0, 0)) ∧ Below w.heap.size w w1 := by
    rw [← hs0]
    refine ⟨_, _, run_bytes_of_string (P := Tryd.prog) w0 9 38 5 s Tryd.underlying9 Tryd.underlying38 Tryd.underlying5, ownsB_bytes w0 s 5 (by unfold maxLen; omega), ?_, ?_⟩
    · show (w0.heap.push _)[w.heap.size]? = _
      rw [Array.getElem?_push_lt (by omega)]; rw [Array.getElem?_eq_getElem (by omega)] at hr0; exact hr0
    · exact hB0.drew.alloc (by show w.heap.size ≤ w0.heap.size; omega) _
  have hb1 : s.size + 1 ≤ maxLen := by unfold maxLen; omega
  have hb2 : (s.size + 1) * 1 ≤ 140737488355328 := by omega
  have hb3 : w.heap.size + 1 ≤ w1.heap.size := Nat.le_of_lt (hob.lt _ rfl).2
  simp only [RW.vrow, RW.sh0] at hw0
  have hw1 := hw0.symm
  clear hw0
  gi_wp2_with (gi_at_builtin; refine wpListIn_append_B rfl _ _ 38 rfl (w.heap.size + 1) 5 i0 (.int .u8 0) 1 Tryd.underlying38 hi hz0 hz1 hz2 rfl (.slice (some ⟨w.heap.size + 1, 0, none⟩) s.size cap0) _ _ rfl (hob.alloc _) ⟨w1.heap.size, 0, none⟩ 1 (.int .u8 128) rfl (by simp) rfl hb1 hb2 (by simp; omega) ?_; intro v2 w2 ho2 hg2)
  have hB2 : Below w.heap.size w w2 := (hB1.alloc (by omega) (.cells #[.int .u8 128] 5)).grown hg2 (by simp; omega) (fun k e => by simp [Value.ownBlock] at e; omega)
  have hr2 : w2.heap[w.heap.size]? = some (.cells (RW.vrow RW.sh0) 139 (0, 0)) := by
    rw [hg2.block _ (by simp; omega) (by simp [Value.ownBlock])]
    show (w1.heap.push _)[w.heap.size]? = _
    rw [Array.getElem?_push_lt (by omega)]; rw [Array.getElem?_eq_getElem (by omega)] at hr1; exact hr1
  have e2 : RW.bytesV s.data.toList ++ [.int .u8 128] = RW.bytesV (RW.padM s.data.toList 0) := by simp [RW.padM, RW.bytesV]
  rw [e2] at ho2
  clear e2 hg2 hob hr1 hB1 hb1 hb2 hb3 hr0 hB0 hcv
  gi_loopw [4] (fun v wr => ∃ c : Nat, c ≤ RW.padZ s.size ∧ ownsB wr (w.heap.size + 1) 5 v (s.size + 1 + c) (RW.bytesV (RW.padM s.data.toList c)) ∧ wr.heap[w.heap.size]? = some (.cells (RW.vrow RW.sh0) 139 (0, 0)) ∧ Below w.heap.size w wr)
    (fun v wr => match v with | .slice _ l _ => s.size + 65 - l | _ => 0)
  case atStart => exact ⟨0, Nat.zero_le _, ho2, hr2, hB2⟩
  case round =>
    obtain ⟨c, hc, ho, hr, hB⟩ := hrel
    obtain ⟨g, cap, rfl, hg1, hg2, hcap⟩ := ho.form
    by_cases hlt : c < RW.padZ s.size
    · have hd : (((s.size : Int) + 1 + c) % 64 != 56) = true := by
        unfold RW.padZ at hlt; simp only [bne_iff_ne, ne_eq]; omega
      have hcb : c < 64 := by unfold RW.padZ at hlt; omega
      have hb1 : s.size + 1 + c + 1 ≤ maxLen := by unfold maxLen; omega
      have hb2 : (s.size + 1 + c + 1) * 1 ≤ 140737488355328 := by omega
      have hb3 : w.heap.size + 1 ≤ wr.heap.size := by have := hg2; omega
      gi_wp2_with (gi_at_builtin; refine wpListIn_append_B rfl _ _ 38 rfl (w.heap.size + 1) 5 i0 (.int .u8 0) 1 Tryd.underlying38 hi hz0 hz1 hz2 rfl (.slice (some ⟨g, 0, none⟩) (s.size + 1 + c) cap) _ _ rfl (ho.alloc _) ⟨wr.heap.size, 0, none⟩ 1 (.int .u8 0) rfl (by simp) rfl hb1 hb2 (by simp; omega) ?_; intro v3 w3 ho3 hg3)
      have hB3 : Below w.heap.size w w3 := (hB.alloc (by omega) (.cells #[.int .u8 0] 5)).grown hg3 (by simp; omega) (fun k e => by simp [Value.ownBlock] at e; omega)
      have hr3 : w3.heap[w.heap.size]? = some (.cells (RW.vrow RW.sh0) 139 (0, 0)) := by
        rw [hg3.block _ (by simp; omega) (by simp [Value.ownBlock]; omega)]
        show (wr.heap.push _)[w.heap.size]? = _
        rw [Array.getElem?_push_lt (by omega)]; rw [Array.getElem?_eq_getElem (by omega)] at hr; exact hr
      have e3 : RW.bytesV (RW.padM s.data.toList c) ++ [.int .u8 0] = RW.bytesV (RW.padM s.data.toList (c + 1)) := by rw [RW.padM_succ]; simp [RW.bytesV]
      rw [e3] at ho3
      obtain ⟨g', cap', rfl, hg1', hg2', hcap'⟩ := ho3.form
      go_roundw
      case rel => exact ⟨c + 1, by omega, by rw [show s.size + 1 + (c + 1) = s.size + 1 + c + 1 by omega]; exact ho3, hr3, hB3⟩
      case measure => simp; omega
    · have hcz : c = RW.padZ s.size := by omega
      have hd : (((s.size : Int) + 1 + c) % 64 != 56) = false := by
        rw [hcz]; unfold RW.padZ; simp only [bne_eq_false_iff_eq]; omega
      gi_wp2
      subst hcz
      generalize hz : RW.padZ s.size = z at ho
      have hzb : z < 64 := by rw [← hz]; unfold RW.padZ; omega
      gi_loopw [4, 5] (fun v iv wr => ∃ c : Nat, c ≤ 8 ∧ iv = .int .i64 (7 - (c : Int)) ∧ ownsB wr (w.heap.size + 1) 5 v (s.size + 1 + z + c) (RW.bytesV (RW.padM s.data.toList z ++ RW.padT s.size c)) ∧ wr.heap[w.heap.size]? = some (.cells (RW.vrow RW.sh0) 139 (0, 0)) ∧ Below w.heap.size w wr)
        (fun v iv wr => (intOf iv + 1).toNat)
      case atStart => exact ⟨0, Nat.zero_le _, rfl, by simpa [RW.padT] using ho, hr, hB⟩
      case round =>
        clear ho hr hB hd hg1 hg2 hcap
        obtain ⟨c, hc, rfl, ho, hr, hB⟩ := hrel
        obtain ⟨g, cap, rfl, hg1, hg2, hcap⟩ := ho.form
        by_cases hlt : c < 8
        · have hge : (0 : Int) ≤ 7 - (c : Int) := by omega
          have hb1 : s.size + 1 + z + c + 1 ≤ maxLen := by unfold maxLen; omega
          have hb2 : (s.size + 1 + z + c + 1) * 1 ≤ 140737488355328 := by omega
          have hb3 : w.heap.size + 1 ≤ wr.heap.size := by have := hg2; omega
          gi_wp2_with (gi_at_builtin; refine wpListIn_append_B rfl _ _ 38 rfl (w.heap.size + 1) 5 i0 (.int .u8 0) 1 Tryd.underlying38 hi hz0 hz1 hz2 rfl (.slice (some ⟨g, 0, none⟩) (s.size + 1 + z + c) cap) _ _ rfl (ho.alloc _) ⟨wr.heap.size, 0, none⟩ 1 (.int .u8 (8 * (s.size : Int) / 2 ^ (8 * (7 - c)) % 256)) rfl (by simp) rfl hb1 hb2 (by simp; omega) ?_; intro v3 w3 ho3 hg3)
          have hB3 : Below w.heap.size w w3 := (hB.alloc (by omega) (.cells #[.int .u8 (8 * (s.size : Int) / 2 ^ (8 * (7 - c)) % 256)] 5)).grown hg3 (by simp; omega) (fun k e => by simp [Value.ownBlock] at e; omega)
          have hr3 : w3.heap[w.heap.size]? = some (.cells (RW.vrow RW.sh0) 139 (0, 0)) := by
            rw [hg3.block _ (by simp; omega) (by simp [Value.ownBlock]; omega)]
            show (wr.heap.push _)[w.heap.size]? = _
            rw [Array.getElem?_push_lt (by omega)]; rw [Array.getElem?_eq_getElem (by omega)] at hr; exact hr
          have e3 : RW.bytesV (RW.padM s.data.toList z ++ RW.padT s.size c) ++ [.int .u8 (8 * (s.size : Int) / 2 ^ (8 * (7 - c)) % 256)] = RW.bytesV (RW.padM s.data.toList z ++ RW.padT s.size (c + 1)) := by
            rw [show RW.padT s.size (c + 1) = RW.padT s.size c ++ [RW.padB s.size (7 - c)] from rfl, RW.padB_int]; simp [RW.bytesV]
          rw [e3] at ho3
          obtain ⟨g', cap', rfl, hg1', hg2', hcap'⟩ := ho3.form
          go_roundw
          case rel => exact ⟨c + 1, by omega, by go_num, by rw [show s.size + 1 + z + (c + 1) = s.size + 1 + z + c + 1 by omega]; exact ho3, hr3, hB3⟩
          case measure => simp [intOf]; omega
        · have hge : ¬ (0 : Int) ≤ 7 - (c : Int) := by omega
          have hc8 : c = 8 := by omega
          have hpl : RW.padM s.data.toList z ++ RW.padT s.size c = RW.padL s.data.toList := by
            rw [hc8, ← hz]; unfold RW.padL; rw [Array.length_toList]; rfl
          have hlen : s.size + 1 + z + c = (RW.padL s.data.toList).length := by rw [← hpl, List.length_append, RW.padM_len, RW.padT_len, Array.length_toList]; rfl
          rw [hpl, hlen] at ho
          rw [hlen]
          clear hpl
          generalize hPL : RW.padL s.data.toList = PL at ho hlen ⊢
          have hdv : PL.length = 64 * (PL.length / 64) := hPL ▸ RW.padL_dvd _
          generalize hm : PL.length / 64 = m at hdv
          rw [hdv] at ho ⊢
          gi_wp2_with (gi_at_call 78; refine (chunk_in F (n - 1) h76 hro _ _ _ _).mono ?_; rintro e w' ⟨rfl, rfl⟩)
          have hcp := ho.cell rfl
          have hbs := hB.size
          have hb0 : w.heap.size < wr.heap.size := (Array.getElem?_eq_some_iff.1 hr).1
          have hcap2 : cap ≤ 9223372036854775807 := by have := hcap.2; unfold maxLen at this; omega
          obtain ⟨w4, hw4⟩ : ∃ w4, w4 = (wr.alloc (.cells #[.slice (some ⟨g, 0, none⟩) (64 * m) cap] 38)).alloc (.cells #[.int .i64 64] 3) := ⟨_, rfl⟩
          have hs4 : w4.heap.size = wr.heap.size + 2 := by rw [hw4]; simp
          have hB4 : Below w.heap.size w w4 := by rw [hw4]; exact (hB.alloc (by omega) _).alloc (by simp; omega) _
          have hw4o : ∀ k, k < wr.heap.size → w4.heap[k]? = wr.heap[k]? := fun k hk => by
            rw [hw4, Below.heap_alloc _ _ _ (by simp; omega), Below.heap_alloc _ _ _ hk]
          have hw4a : w4.cell? ⟨wr.heap.size, 0, none⟩ = some (.slice (some ⟨g, 0, none⟩) (64 * m) cap) := by rw [hw4]; simp
          have hw4b : w4.cell? ⟨wr.heap.size + 1, 0, none⟩ = some (.int .i64 64) := by rw [hw4]; simp
          rw [← hw4]
          clear hw4
          obtain rfl := hF.out
          refine wpIn_rf rfl h1 (gf := 84) (lb := #[.pointer (some ⟨wr.heap.size, 0, none⟩), .pointer (some ⟨wr.heap.size + 1, 0, none⟩)]) rfl trivial (enters_of Tryd.func84 (by kernel_rfl) rfl) ?_
          intro fn hfn W1 hW1 hL1 hK1
          have hs1 : W1.heap.size = wr.heap.size + 4 := by rw [hW1]; simp; omega
          have hB1 : Below w.heap.size w W1 := by rw [hW1]; exact (hB4.alloc (by omega) _).alloc (by simp; omega) _
          have hW1o : ∀ k, k < w4.heap.size → W1.heap[k]? = w4.heap[k]? := fun k hk => by
            rw [hW1, Below.heap_alloc _ _ _ (by simp; omega), Below.heap_alloc _ _ _ hk]
          clear hW1
          generalize hrec : ({ state := .ready, pending := none, fn, tmps := _, params := _, assign := _, body := _, defers := w4.heap.size } : Loop) = rec at hL1 ⊢
          refine (chunk1 Fence.wide (n - 1) trivial rfl (by omega) (w4.heap.size + 1) wr.heap.size (wr.heap.size + 1) g m cap
            (fun c W => W.heap[w.heap.size]? = some (.cells (RW.vrow (RW.shRun K PL c)) 139 (0, 0)) ∧ W.heap[w4.heap.size + 1]? = some (.loop rec) ∧ W.heap[w4.heap.size]? = some (.deferred (some [])) ∧ Below w.heap.size w W ∧ W.heap[g]? = wr.heap[g]? ∧ wr.heap.size + 4 ≤ W.heap.size)
            ?_ ?_ (by have := hcap.1; omega) hcap2 W1 ((World.cell?_of_block (w := w4) (hW1o _ (by show wr.heap.size < _; omega))).trans hw4a) ((World.cell?_of_block (w := w4) (hW1o _ (by show wr.heap.size + 1 < _; omega))).trans hw4b) ⟨?_, hL1, hK1, hB1, ?_, by omega⟩).mono ?_
          · rintro c W hcm ⟨hh, hl, hk, hBW, hgW, hsW⟩
            have e1 := congrArg Loop.assign hrec
            have e2 := congrArg Loop.body hrec
            have e3 := congrArg Loop.params hrec
            have e4 := congrArg Loop.tmps hrec
            have e5 := congrArg Loop.fn hrec
            have e6 := congrArg Loop.state hrec
            have e7 := congrArg Loop.pending hrec
            dsimp only at e1 e2 e3 e4 e5 e6 e7
            have eH := hide (And.intro e1 (And.intro e2 (And.intro e3 (And.intro e4 (And.intro e6 e7)))))
            refine yieldAt_body hl e6.symm (by rw [← e3]; rfl) (by rw [← e5]; exact hfn) ?_
            rw [← e1, ← e2, ← e3, ← e4]
            clear e1 e2 e3 e4 e5 e6 e7 hrec
            have hs4' := hide hs4
            have hlH := hide hl
            have hgL := hide (show g < wr.heap.size from hg2)
            have hgb := hide hg1
            clear hs4 hl hg2 hg1 hcap
            gi_wp2
            refine ⟨hlH.out, ?_⟩
            have hs4 := hs4'.out
            have hgl := hgL.out
            have hl := hlH.out
            intro W2 hl2 hg2
            generalize hbusy : ({ state := LoopState.busy, pending := _, fn := _, tmps := _, params := _, assign := _, body := _, defers := _ } : Loop) = busy at hl2 ⊢
            have hB2 : Below w.heap.size w W2 := hBW.grown hg2 hBW.size (fun k e => by cases e; omega)
            have hh2 := (hg2.block w.heap.size (by omega) (by simp; omega)).trans hh
            have hk2 := (hg2.block w4.heap.size (by omega) (by simp)).trans hk
            have hgg2 := (hg2.block g (by omega) (by simp; omega)).trans hgW
            have hs2 := hg2.size
            have hb4 : ∀ k, k < wr.heap.size + 2 → W2.heap[k]? = W.heap[k]? := fun k hk => hg2.block k (by omega) (by simp; omega)
            have hK2 : KLaid W2 ks := by
              obtain ⟨t, fr, hk⟩ := hK
              exact ⟨t, fr, (hB2.block _ (Array.getElem?_eq_some_iff.1 hk).1).trans hk⟩
            have hcc : ∀ i, i < 64 → W2.cell? ⟨g, 64 * c + i, none⟩ = some (.int .u8 (RW.blkf PL c i)) := fun i hi => by
              rw [World.cell?_of_block (w := wr) (show W2.heap[g]? = wr.heap[g]? from hgg2)]
              refine hcp (64 * c + i) _ ?_
              have hl : 64 * c + i < PL.length := by omega
              simp [RW.bytesV, RW.blkf, List.getD, List.getElem?_eq_getElem hl]
            have hadd := hide (add_any (RW.shRun K PL c) K (RW.blkf PL c) w.heap.size g (64 * c) 64 ks (fun i _ => RW.blkf_range PL c i) W2 (by omega) hcc hK2 hks hh2)
            have hrdy2 : Hid (({ busy with state := .ready, pending := none } : Loop) = rec) := by
              obtain ⟨e1, e2, e3, e4, e6, e7⟩ := eH.out
              show _ = _
              rw [← hbusy]; cases rec; simp_all
            clear hbusy eH hcc hK2 hh2 hgg2 hs4 hgl
            gi_wp2
            refine ⟨trivial, (fun h => by cases h), CallsIn.mono (CallsIn.inRound _ (callsIn_wide.2 hadd.out)) ?_⟩
            rintro e w3 ⟨rfl, hr3, hg3⟩
            have hs3 := hg3.size
            have hgl := hgL.out
            have hs4 := hs4'.out
            have hl3 := (hg3.block (w4.heap.size + 1) (by omega) (by simp; omega)).trans hl2
            have hk3 := (hg3.block w4.heap.size (by omega) (by simp; omega)).trans hk2
            have hB3 : Below w.heap.size w w3 := hB2.grown hg3 hB2.size (fun k e => by cases e; omega)
            have hne : g ≠ w.heap.size := by have := hgb.out; omega
            have hgg3 := (hg3.block g (by omega) (by simp; omega)).trans (hb4 g (by omega))
            have hx3 := (hg3.block wr.heap.size (by omega) (by simp; omega)).trans (hb4 wr.heap.size (by omega))
            have hy3 := (hg3.block (wr.heap.size + 1) (by omega) (by simp; omega)).trans (hb4 (wr.heap.size + 1) (by omega))
            clear hs4
            gi_wp2
            refine ⟨hl3, ?_⟩
            rw [hrdy2.out]
            have hsp := (grownBy_putObj' w3 (w4.heap.size + 1) (.loop rec))
            have hs4 := hs4'.out
            refine ⟨rfl, ⟨?_, World.putObj_heap_same (by omega), (World.putObj_heap_other (by omega)).trans hk3, hB3.grown hsp hB3.size (fun k e => by cases e; omega), ?_, ?_⟩, ?_, ?_⟩
            · exact (World.putObj_heap_other (by omega)).trans hr3
            · exact (World.putObj_heap_other (by omega)).trans (hgg3.trans hgW)
            · have := hsp.size; omega
            · exact World.cell?_of_block ((World.putObj_heap_other (by show wr.heap.size ≠ _; omega)).trans hx3)
            · exact World.cell?_of_block ((World.putObj_heap_other (by show wr.heap.size + 1 ≠ _; omega)).trans hy3)
          · rintro c W ⟨hh, hl, hk, hBW, hgW, hsW⟩
            exact ⟨hh, hl, hk, hBW.drew, hgW, hsW⟩
          · rw [hW1o _ (by omega), hw4o _ hb0]; exact hr
          · rw [hW1o _ (by omega), hw4o _ (by omega)]
          · rintro e W2 ⟨⟨u, rfl⟩, hh, hl, hk, hBW, hgW, hsW⟩
            have e6 := congrArg Loop.state hrec
            have e7 := congrArg Loop.pending hrec
            dsimp only at e6 e7
            refine ⟨⟨u, rfl⟩, rec, hl, by rw [← e6]; decide, .inl ⟨e7.symm, ?_⟩⟩
            clear e6 e7 hrec
            intro W3 oo hW3
            have hg3 := grownBy_putObj' W2 (w4.heap.size + 1) oo
            rw [← hW3] at hg3
            have hh3 := (hg3.block w.heap.size (by omega) (by simp; omega)).trans hh
            have hk3 := (hg3.block w4.heap.size (by omega) (by simp)).trans hk
            have hB3 : Below w.heap.size w W3 := hBW.grown hg3 hBW.size (fun k e => by cases e; omega)
            clear hW3 hg3 hh hk hl hBW hL1 hK1
            have hld := hide (digest_any (RW.shRun K PL m) (fun i hi => RW.shRun_range K PL m i hi) W3)
            generalize hst : RW.shRun K PL m = st at hh3 hld
            have hi96 : (Tryd.prog.info? 139).map (·.size) = some 8 := by kernel_rfl
            have hce : ∀ i (hi : i < 8), W3.cell? ⟨w.heap.size, i, none⟩ = some (.int .u32 (st i)) := fun i hi => by
              have := RW.vrow_get st i hi
              simpa [World.cell?, hh3] using this
            have c0 := hce 0 (by decide)
            have c1 := hce 1 (by decide)
            have c2 := hce 2 (by decide)
            have c3 := hce 3 (by decide)
            have c4 := hce 4 (by decide)
            have c5 := hce 5 (by decide)
            have c6 := hce 6 (by decide)
            have c7 := hce 7 (by decide)
            clear hce hh3
            gi_wp2
            refine ⟨trivial, CallsIn.mono (callsIn_wide.2 hld.out) ?_⟩
            rintro e w5 ⟨rfl, hB5⟩
            have hk5 := (hB5.block _ (Array.getElem?_eq_some_iff.1 hk3).1).trans hk3
            have hst' := hide hst
            clear hst hld
            gi_wp2
            rw [hs4] at hk5
            refine ⟨by simp, .inl ⟨_, _, rfl, run_takeDeferred hk5, ?_⟩⟩
            refine ⟨_, results_tmp rfl _ _ _, ?_, (hB3.trans (hB5.mono (by have := hB3.size; omega))).grown (grownBy_putObj' _ _ _) (by have h1 := hB3.size; have h2 := hB5.size; omega) (fun k e => by cases e; omega)⟩
            show Ending.returned (.string ⟨(RW.dig st).toArray⟩) = _
            unfold RW.sha
            rw [hPL, hm, hst'.out]
end Go.Proofs.YtllbphanfahkkaaDoor
