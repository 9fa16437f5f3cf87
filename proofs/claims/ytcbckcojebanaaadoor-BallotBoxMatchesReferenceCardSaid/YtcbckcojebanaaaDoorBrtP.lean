/-
  Ballot: messages that are encoded, cut, lengthened and decoded; values of lists of IDs; messages and lists in memory together: no condition beyond each theorem's own premises.
-/
import Derived.Test.YtcbckcojebanaaaDoorFew
import Derived.Test.YtcbckcojebanaaaDoorIds2
import Derived.Test.YtcbckcojebanaaaDoorBal12
namespace Go.Proofs.YtcbckcojebanaaaDoor
open Go.RowKit RG
namespace RW
theorem flat32 : ∀ (L M : List (List UInt8)), L.length = M.length → (∀ s ∈ L, s.length = 32) → (∀ s ∈ M, s.length = 32) → L.flatten = M.flatten → L = M
  | [], [], _, _, _, _ => rfl
  | [], _ :: _, h, _, _, _ => by simp at h
  | _ :: _, [], h, _, _, _ => by simp at h
  | s :: L, t :: M, h, h1, h2, e => by
    rw [List.flatten_cons, List.flatten_cons] at e
    have hs := h1 s List.mem_cons_self
    have ht := h2 t List.mem_cons_self
    obtain ⟨e1, e2⟩ := List.append_inj e (by rw [hs, ht])
    rw [e1, flat32 L M (by simpa using h) (fun x hx => h1 x (List.mem_cons_of_mem _ hx)) (fun x hx => h2 x (List.mem_cons_of_mem _ hx)) e2]
theorem bl_inj {L M : List ByteArray} (h : bl L = bl M) : L = M := by
  unfold bl at h
  have h2 := congrArg (List.map fun l : List UInt8 => (⟨l.toArray⟩ : ByteArray)) h
  rw [List.map_map, List.map_map] at h2
  have e : (fun l : List UInt8 => (⟨l.toArray⟩ : ByteArray)) ∘ (fun s : ByteArray => s.data.toList) = id := by
    funext s
    apply ByteArray.ext
    show s.data.toList.toArray = s.data
    simp
  have e' : ∀ l : List ByteArray, l.map ((fun l : List UInt8 => (⟨l.toArray⟩ : ByteArray)) ∘ (fun s : ByteArray => s.data.toList)) = l := fun l => by rw [e, List.map_id]
  rwa [e', e'] at h2
theorem valL_inj {L M : List ByteArray} (hL : Asc L) (hM : Asc M) (lL : L.length ≤ 20) (lM : M.length ≤ 20) (h : valL (bl L) = valL (bl M)) : L = M := by
  have dl : ∀ (N : List ByteArray), N.length ≤ 20 → ∃ k, decI (valL (bl N)) = some ((N.length : Int), k) ∧ k = (putI (N.length : Int)).length := fun N hN => by
    unfold valL
    have e : (bl N).length = N.length := List.length_map ..
    rw [e]
    exact ⟨_, decI_putI _ (by omega) (by omega) _, rfl⟩
  obtain ⟨k, h1, _⟩ := dl L lL
  obtain ⟨k', h2, _⟩ := dl M lM
  rw [h, h2] at h1
  injection h1 with h1
  injection h1 with h1 _
  have hlen : L.length = M.length := by omega
  have e1 : (bl L).length = L.length := List.length_map ..
  have e2 : (bl M).length = M.length := List.length_map ..
  unfold valL at h
  rw [e1, e2, hlen] at h
  have h3 := List.append_cancel_left h
  have m32 : ∀ (N : List ByteArray), Asc N → ∀ s ∈ bl N, s.length = 32 := fun N hN s hs => by
    obtain ⟨t, ht, rfl⟩ := List.mem_map.1 hs
    exact hN.1 t ht
  exact bl_inj (flat32 _ _ (by rw [e1, e2, hlen]) (m32 L hL) (m32 M hM) h3)
theorem arr_toList (d : ByteArray) : (⟨d.data.toList.toArray⟩ : ByteArray) = d := by
  apply ByteArray.ext
  show d.data.toList.toArray = d.data
  simp
theorem bl_arr (l : List ByteArray) : (bl l).map (fun x => (⟨x.toArray⟩ : ByteArray)) = l := by
  unfold bl
  rw [List.map_map]
  conv => rhs; rw [← List.map_id l]
  exact List.map_congr_left fun s _ => arr_toList s
/-- the encoding of a message -/
def encA (y : Min) : ByteArray := ⟨(encM y.n y.d.data.toList (bl y.l)).toArray⟩
theorem encA_list (y : Min) : (encA y).data.toList = encM y.n y.d.data.toList (bl y.l) := by unfold encA; simp
theorem encA_size {K : Nat → Int} {y : Min} (h : msgB K y.n y.d.data.toList (bl y.l) = true) : 1 ≤ (encA y).size ∧ (encA y).size ≤ 20000000 := by
  have e : (encA y).size = (encM y.n y.d.data.toList (bl y.l)).length := by rw [← encA_list, Array.length_toList]; rfl
  obtain ⟨h1, h2⟩ := msgB_short K _ _ _ h
  obtain ⟨_, h3⟩ := msgB_lims K _ _ _ h
  have g1 := encN_len y.n 6
  have g2 := putS_len y.d
  have g3 := flatput_len (bl y.l) h2
  have g4 := putI_len ((bl y.l).length : Int)
  have h1' : y.d.size ≤ 32 := h1
  rw [e]
  unfold encM
  simp only [List.length_append]
  have g5 : 1 ≤ (putS y.d.data.toList).length := by
    unfold putS
    rw [List.length_append]
    have : 1 ≤ (putI (y.d.data.toList.length : Int)).length := by rw [putI_grp, List.length_map]; obtain ⟨k, hk⟩ := grp_pos 9 (zz (y.d.data.toList.length : Int)); have hk' : (grp 10 (zz (y.d.data.toList.length : Int))).length = k + 1 := hk; omega
    omega
  omega
end RW
/-- the encoding of a valid message is decoded as the message -/
theorem dec_back {K : Nat → Int} {ks : Array Value} (hks : RW.WsOk ks K) {y : RW.Min} (hm : RW.msgB K y.n y.d.data.toList (RW.bl y.l) = true) {w : World} (hK : KLaid w ks) :
    Calls Tryd.prog 23 #[.string (RW.encA y)] w fun e w' => (∃ g v, e = .returned (.tuple #[.agg (RW.mcells g y.d v), .int .i64 0]) ∧ (∀ i, i < 6 → y.n i = g i) ∧ StrsV w' v y.l) ∧ Below w.heap.size w w' := by
  obtain ⟨h1, h2⟩ := RW.msgB_short K _ _ _ hm
  obtain ⟨g, hg, hgi⟩ := RW.decM_enc K y.n y.d.data.toList (RW.bl y.l) hm (by omega) (fun s hs => Nat.le_trans (h2 s hs) (by decide))
  have hs := (RW.encA_size hm).2
  refine (decode_any (RW.encA y) (by omega) w K ks hks hK).mono ?_
  rintro e w' ⟨hO, hB⟩
  unfold DecOut at hO
  rw [RW.encA_list, hg] at hO
  obtain ⟨v, rfl, hv⟩ := hO
  rw [RW.bl_arr] at hv
  exact ⟨⟨g, v, by rw [RW.arr_toList], fun i hi => (hgi i hi).symm, hv⟩, hB⟩
theorem dec_wire {K : Nat → Int} {ks : Array Value} (hks : RW.WsOk ks K) {p : ByteArray} (hp : p.size ≤ 9223372036854775807) (hd : RW.decM K p.data.toList = .wire) {w : World} (hK : KLaid w ks) :
    Calls Tryd.prog 23 #[.string p] w fun e w' => e = .returned (.tuple #[.agg RW.noM, .int .i64 10]) ∧ Below w.heap.size w w' := by
  refine (decode_any p hp w K ks hks hK).mono ?_
  rintro e w' ⟨hO, hB⟩
  unfold DecOut at hO
  rw [hd] at hO
  exact ⟨hO, hB⟩
/-- a part of it, from the first byte on -/
theorem dec_pre {K : Nat → Int} {ks : Array Value} (hks : RW.WsOk ks K) {y : RW.Min} (hm : RW.msgB K y.n y.d.data.toList (RW.bl y.l) = true) {k : Nat} (hk : k < (RW.encA y).size) {w : World} (hK : KLaid w ks) :
    Calls Tryd.prog 23 #[.string ((RW.encA y).extract 0 k)] w fun e w' => e = .returned (.tuple #[.agg RW.noM, .int .i64 10]) ∧ Below w.heap.size w w' := by
  obtain ⟨h1, h2⟩ := RW.msgB_short K _ _ _ hm
  have hs := (RW.encA_size hm).2
  have e1 : ((RW.encA y).extract 0 k).data.toList = (RW.encM y.n y.d.data.toList (RW.bl y.l)).take k := by
    rw [RW.extract_eq _ 0 k (by omega), RW.encA_list]
    simp
  have hl : (RW.encM y.n y.d.data.toList (RW.bl y.l)).length = (RW.encA y).size := by rw [← RW.encA_list, Array.length_toList]; rfl
  refine dec_wire hks (by rw [ByteArray.size_extract]; omega) ?_ hK
  rw [e1]
  exact RW.decM_prefix K y.n y.d.data.toList (RW.bl y.l) hm (by omega) (fun s hs => Nat.le_trans (h2 s hs) (by decide)) _ (List.drop k _) (List.take_append_drop k _) (fun e => by rw [List.drop_eq_nil_iff] at e; omega)
/-- with further bytes behind it -/
theorem dec_more {K : Nat → Int} {ks : Array Value} (hks : RW.WsOk ks K) {y : RW.Min} (hm : RW.msgB K y.n y.d.data.toList (RW.bl y.l) = true) {x : ByteArray} (hx : 0 < x.size) (hx2 : x.size ≤ 20) {w : World} (hK : KLaid w ks) :
    Calls Tryd.prog 23 #[.string (RW.encA y ++ x)] w fun e w' => e = .returned (.tuple #[.agg RW.noM, .int .i64 10]) ∧ Below w.heap.size w w' := by
  obtain ⟨h1, h2⟩ := RW.msgB_short K _ _ _ hm
  have hs := (RW.encA_size hm).2
  refine dec_wire hks (by rw [ByteArray.size_append]; omega) ?_ hK
  rw [show (RW.encA y ++ x).data.toList = (RW.encA y).data.toList ++ x.data.toList by rw [ByteArray.data_append, Array.toList_append], RW.encA_list]
  exact RW.decM_more K y.n y.d.data.toList (RW.bl y.l) hm (by omega) (fun s hs => Nat.le_trans (h2 s hs) (by decide)) _ (fun e => by have h' : x.data.toList.length = x.size := by { rw [Array.length_toList]; rfl }; rw [e, List.length_nil] at h'; omega)
/-- variables that hold messages, and values that are lists of strings -/
structure MS (l : List (Nat × Array Value)) (ss : List (Value × List ByteArray)) (w W : World) : Prop where
  rows : MRows l w W
  strs : ∀ p ∈ ss, StrsV W p.1 p.2
section
variable {l l' : List (Nat × Array Value)} {ss ss' : List (Value × List ByteArray)} {w W W' : World}
theorem MS.next (h : MS l ss w W) (hB : Below W.heap.size W W') : MS l ss w W' := ⟨h.rows.next hB, fun p hp => (h.strs p hp).next hB⟩
theorem MS.new (h : MS l ss w W) (cs : Array Value) : MS ((W.heap.size, cs) :: l) ss w (W.alloc (.cells cs 24)) :=
  ⟨h.rows.new cs, fun p hp => (h.strs p hp).next ((Below.refl _ _).alloc (Nat.le_refl _) _)⟩
theorem MS.sub (h : MS l ss w W) (hl : ∀ x ∈ l', x ∈ l) (hs : ∀ p ∈ ss', p ∈ ss) : MS l' ss' w W := ⟨h.rows.sub hl, fun p hp => h.strs p (hs p hp)⟩
theorem MS.add (h : MS l ss w W) {v : Value} {m : List ByteArray} (hv : StrsV W v m) : MS l ((v, m) :: ss) w W := ⟨h.rows, fun p hp => by
  rcases List.mem_cons.1 hp with rfl | hp
  · exact hv
  · exact h.strs p hp⟩
end
end Go.Proofs.YtcbckcojebanaaaDoor
