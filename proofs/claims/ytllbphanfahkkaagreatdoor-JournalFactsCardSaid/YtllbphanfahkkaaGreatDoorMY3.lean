/-
  Journals, plain: how records are stored, what a content holds, what Open and Append do to a disk: no program in sight.
-/
import Derived.Test.YtllbphanfahkkaaGreatDoorMY2
import Derived.Test.YtllbphanfahkkaaGreatDoorMA
import Derived.Test.YtllbphanfahkkaaGreatDoorMY0
import Derived.Test.YtllbphanfahkkaaGreatDoorMB
import Derived.Test.YtllbphanfahkkaaGreatDoorOps
import Derived.Maps.AppendAt
import Derived.WalkKit
import Derived.LaidEql
import Derived.Stop.Asserts
import Derived.RowKitTokens
import Derived.Test.YtllbphanfahkkaaGreatDoorProg
namespace Go.Proofs.YtllbphanfahkkaaGreatDoor.RW
open Go Go.RowKit
section
variable (H : List UInt8 → List UInt8)
/-- the head of a chain with a further record -/
def chn (h : List UInt8) (r : ByteArray) : List UInt8 := H (2 :: (h ++ r.data.toList))
/-- how a record is stored behind a head -/
def sto (h : List UInt8) (r : ByteArray) : List UInt8 := 1 :: (putS r.data.toList ++ chn H h r)
def z32 : List UInt8 := List.replicate 32 0
def hds : List UInt8 → List ByteArray → List UInt8
  | h, [] => h
  | h, r :: rs => hds (chn H h r) rs
def stos : List UInt8 → List ByteArray → List UInt8
  | _, [] => []
  | h, r :: rs => sto H h r ++ stos (chn H h r) rs
theorem hds_app : ∀ (rs qs : List ByteArray) (h : List UInt8), hds H h (rs ++ qs) = hds H (hds H h rs) qs
  | [], _, _ => rfl
  | r :: rs, qs, h => hds_app rs qs _
theorem stos_app : ∀ (rs qs : List ByteArray) (h : List UInt8), stos H h (rs ++ qs) = stos H h rs ++ stos H (hds H h rs) qs
  | [], _, _ => rfl
  | r :: rs, qs, h => by
    show sto H h r ++ stos H (chn H h r) (rs ++ qs) = _
    rw [stos_app rs qs, ← List.append_assoc]
    rfl
theorem hds_snoc (h : List UInt8) (rs : List ByteArray) (r : ByteArray) : hds H h (rs ++ [r]) = chn H (hds H h rs) r := by rw [hds_app]; rfl
theorem stos_snoc (h : List UInt8) (rs : List ByteArray) (r : ByteArray) : stos H h (rs ++ [r]) = stos H h rs ++ sto H (hds H h rs) r := by
  rw [stos_app]
  simp [stos]
theorem sto_len (hH : ∀ l, (H l).length = 32) (h : List UInt8) (r : ByteArray) : (sto H h r).length = 33 + (putS r.data.toList).length := by
  unfold sto chn
  rw [List.length_cons, List.length_append, hH]
  omega
theorem stos_head (h : List UInt8) (r : ByteArray) (rs : List ByteArray) : ∃ t, stos H h (r :: rs) = 1 :: t := ⟨_, rfl⟩
theorem stos_nil (h : List UInt8) (rs : List ByteArray) : stos H h rs = [] ↔ rs = [] := by
  cases rs with
  | nil => simp [stos]
  | cons r rs =>
    obtain ⟨t, ht⟩ := stos_head H h r rs
    rw [ht]
    simp
/-- the records of a content behind a head, and how many bytes they take -/
def ldS : Nat → List UInt8 → List UInt8 → Option (List ByteArray × Nat)
  | 0, _, _ => some ([], 0)
  | f + 1, h, l => match l with
    | [] => some ([], 0)
    | b :: t => if b = 0 then some ([], 0) else if b = 1 then (match decS t with
        | none => none
        | some (r, c) => if (t.drop c).take 32 = chn H h ⟨r.toArray⟩ then (ldS f (chn H h ⟨r.toArray⟩) (t.drop (c + 32))).map fun p => (⟨r.toArray⟩ :: p.1, 33 + c + p.2) else none) else none
theorem ldS_fuel : ∀ (f g : Nat) (h l : List UInt8), l.length < f → l.length < g → ldS H f h l = ldS H g h l
  | 0, _, _, _, h1, _ => absurd h1 (Nat.not_lt_zero _)
  | _ + 1, 0, _, _, _, h2 => absurd h2 (Nat.not_lt_zero _)
  | f + 1, g + 1, h, l, h1, h2 => by
    cases l with
    | nil => rfl
    | cons b t =>
      unfold ldS
      rw [List.length_cons] at h1 h2
      have hk : ∀ c, (t.drop (c + 32)).length ≤ t.length := fun c => by rw [List.length_drop]; omega
      cases hd : decS t with
      | none => simp only [hd]
      | some p =>
        obtain ⟨r, c⟩ := p
        have := hk c
        simp only [hd, ldS_fuel f g (chn H h ⟨r.toArray⟩) (t.drop (c + 32)) (by omega) (by omega)]
def ldL (h l : List UInt8) : Option (List ByteArray × Nat) := ldS H (l.length + 1) h l
theorem ldL_nil (h : List UInt8) : ldL H h [] = some ([], 0) := rfl
theorem ldL_zero (h t : List UInt8) : ldL H h (0 :: t) = some ([], 0) := by
  unfold ldL ldS
  simp
theorem ldL_bad (h t : List UInt8) {b : UInt8} (h0 : b ≠ 0) (h1 : b ≠ 1) : ldL H h (b :: t) = none := by
  unfold ldL ldS
  simp [h0, h1]
theorem ldL_none (h t : List UInt8) (hd : decS t = none) : ldL H h (1 :: t) = none := by
  unfold ldL ldS
  simp [hd]
theorem ldL_head (h t r : List UInt8) (c : Nat) (hd : decS t = some (r, c)) (hn : (t.drop c).take 32 ≠ chn H h ⟨r.toArray⟩) : ldL H h (1 :: t) = none := by
  unfold ldL ldS
  simp [hd, hn]
theorem ldL_step (h t r : List UInt8) (c : Nat) (hd : decS t = some (r, c)) (hn : (t.drop c).take 32 = chn H h ⟨r.toArray⟩) :
    ldL H h (1 :: t) = (ldL H (chn H h ⟨r.toArray⟩) (t.drop (c + 32))).map fun p => (⟨r.toArray⟩ :: p.1, 33 + c + p.2) := by
  have e : ldL H h (1 :: t) = (ldS H (t.length + 1) (chn H h ⟨r.toArray⟩) (t.drop (c + 32))).map fun p => (⟨r.toArray⟩ :: p.1, 33 + c + p.2) := by
    unfold ldL
    rw [List.length_cons]
    conv => lhs; unfold ldS
    simp [hd, hn]
  rw [e]
  unfold ldL
  rw [ldS_fuel H (t.length + 1) ((t.drop (c + 32)).length + 1) _ _ (by rw [List.length_drop]; omega) (by omega)]
theorem strOf_size (l : List UInt8) : (strOf l).size = l.length := by show l.toArray.size = _; simp
theorem strOf_list (l : List UInt8) : (strOf l).data.toList = l := by simp [strOf]
theorem arr_list (r : List UInt8) : (⟨r.toArray⟩ : ByteArray).data.toList = r := by simp
/-- what is read is what is stored -/
theorem ldL_sound (hH : ∀ l, (H l).length = 32) : ∀ (f : Nat) (h l : List UInt8) (rs : List ByteArray) (n : Nat), l.length < f → ldL H h l = some (rs, n) →
    l.take n = stos H h rs ∧ n ≤ l.length ∧ (stos H h rs).length = n ∧ (l.drop n = [] ∨ ∃ t, l.drop n = 0 :: t) ∧ ∀ r ∈ rs, r.size ≤ 65536
  | 0, _, _, _, _, h1, _ => absurd h1 (Nat.not_lt_zero _)
  | f + 1, h, l, rs, n, h1, he => by
    cases l with
    | nil =>
      rw [ldL_nil] at he
      cases he
      exact ⟨rfl, Nat.le_refl _, rfl, .inl rfl, fun r hr => by cases hr⟩
    | cons b t =>
      by_cases h0 : b = 0
      · subst h0
        rw [ldL_zero] at he
        cases he
        exact ⟨rfl, Nat.zero_le _, rfl, .inr ⟨t, rfl⟩, fun r hr => by cases hr⟩
      · by_cases hb : b = 1
        · subst hb
          rcases hd : decS t with _ | ⟨r, c⟩
          · rw [ldL_none H h t hd] at he; cases he
          · by_cases hn : (t.drop c).take 32 = chn H h ⟨r.toArray⟩
            · rw [ldL_step H h t r c hd hn] at he
              rcases hr : ldL H (chn H h ⟨r.toArray⟩) (t.drop (c + 32)) with _ | ⟨rs', n'⟩
              · rw [hr] at he; cases he
              · rw [hr] at he
                simp only [Option.map_some, Option.some.injEq, Prod.mk.injEq] at he
                obtain ⟨rfl, rfl⟩ := he
                rw [List.length_cons] at h1
                obtain ⟨e1, e2, e3, e4, e5⟩ := ldL_sound hH f _ _ rs' n' (by rw [List.length_drop]; omega) hr
                obtain ⟨g1, g2⟩ := decS_take t r c hd
                have hl32 : (chn H h ⟨r.toArray⟩).length = 32 := hH _
                have hc32 : c + 32 ≤ t.length := by
                  have := congrArg List.length hn
                  rw [hl32, List.length_take, List.length_drop] at this
                  omega
                have hcc : (putS r).length = c := by
                  rw [← g1, List.length_take]
                  omega
                have hst : stos H h (⟨r.toArray⟩ :: rs') = 1 :: (putS r ++ chn H h ⟨r.toArray⟩ ++ stos H (chn H h ⟨r.toArray⟩) rs') := by
                  show sto H h ⟨r.toArray⟩ ++ stos H (chn H h ⟨r.toArray⟩) rs' = _
                  unfold sto
                  rw [arr_list]
                  rfl
                refine ⟨?_, ?_, ?_, ?_, ?_⟩
                · rw [hst, ← e1, ← g1, ← hn]
                  rw [show 33 + c + n' = (c + 32 + n') + 1 by omega, List.take_succ_cons]
                  congr 1
                  rw [List.take_add, List.take_add]
                · rw [List.length_cons]
                  rw [List.length_drop] at e2
                  omega
                · rw [hst, List.length_cons, List.length_append, List.length_append, hcc, hl32, e3]
                  omega
                · rw [show 33 + c + n' = (c + 32 + n') + 1 by omega, List.drop_succ_cons, ← List.drop_drop]
                  exact e4
                · intro q hq
                  rcases List.mem_cons.1 hq with rfl | hq
                  · show r.toArray.size ≤ 65536
                    simpa using g2
                  · exact e5 q hq
            · rw [ldL_head H h t r c hd hn] at he; cases he
        · rw [ldL_bad H h t h0 hb] at he; cases he
theorem ldL_sound' (hH : ∀ l, (H l).length = 32) {h l : List UInt8} {rs : List ByteArray} {n : Nat} (he : ldL H h l = some (rs, n)) :
    l.take n = stos H h rs ∧ n ≤ l.length ∧ (stos H h rs).length = n ∧ (l.drop n = [] ∨ ∃ t, l.drop n = 0 :: t) ∧ ∀ r ∈ rs, r.size ≤ 65536 := ldL_sound H hH (l.length + 1) h l rs n (by omega) he
/-- what is stored is read -/
theorem ldL_complete (hH : ∀ l, (H l).length = 32) : ∀ (rs : List ByteArray) (h rest : List UInt8), (∀ r ∈ rs, r.size ≤ 65536) → (rest = [] ∨ ∃ t, rest = 0 :: t) → ldL H h (stos H h rs ++ rest) = some (rs, (stos H h rs).length)
  | [], h, rest, _, hr => by
    rcases hr with rfl | ⟨t, rfl⟩
    · exact ldL_nil H h
    · exact ldL_zero H h t
  | r :: rs, h, rest, hs, hr => by
    have hl : r.data.toList.length = r.size := by rw [Array.length_toList]; rfl
    have e1 : stos H h (r :: rs) ++ rest = 1 :: (putS r.data.toList ++ (chn H h r ++ (stos H (chn H h r) rs ++ rest))) := by
      show sto H h r ++ stos H (chn H h r) rs ++ rest = _
      unfold sto
      simp [List.append_assoc]
    have hd := decS_putS r.data.toList (chn H h r ++ (stos H (chn H h r) rs ++ rest)) (by rw [hl]; exact hs r (by simp))
    have hr' : (⟨r.data.toList.toArray⟩ : ByteArray) = r := by simp
    have hl32 : (chn H h r).length = 32 := hH _
    rw [e1, ldL_step H h _ _ _ hd (by rw [List.drop_left, hr', ← hl32, List.take_left]), hr']
    have hdd : (putS r.data.toList ++ (chn H h r ++ (stos H (chn H h r) rs ++ rest))).drop ((putS r.data.toList).length + 32) = stos H (chn H h r) rs ++ rest := by
      rw [← List.drop_drop, List.drop_left, ← hl32, List.drop_left]
    rw [hdd, ldL_complete hH rs _ rest (fun q hq => hs q (by simp [hq])) hr]
    simp only [Option.map_some, Option.some.injEq, Prod.mk.injEq, true_and]
    show _ = (sto H h r ++ stos H (chn H h r) rs).length
    rw [List.length_append, sto_len H hH]
/-- what Open does: the error, the records, the disk -/
def jopen (n : Nat) (S : Dk) : Int × Option (List ByteArray) × Dk :=
  if S.off then (221, none, S) else match ldL H z32 S.vis with
    | none => (232, none, S)
    | some (rs, k) => if (S.vis.drop k).all (fun b => decide (b = 0)) = true then (0, some rs, S) else
      if (S.write n (k : Int) (strOf (List.replicate (n - k) 0))).1 ≠ 0 then ((S.write n (k : Int) (strOf (List.replicate (n - k) 0))).1, none, (S.write n (k : Int) (strOf (List.replicate (n - k) 0))).2) else
      if (S.write n (k : Int) (strOf (List.replicate (n - k) 0))).2.sync.1 ≠ 0 then ((S.write n (k : Int) (strOf (List.replicate (n - k) 0))).2.sync.1, none, (S.write n (k : Int) (strOf (List.replicate (n - k) 0))).2.sync.2) else
      (0, some rs, (S.write n (k : Int) (strOf (List.replicate (n - k) 0))).2.sync.2)
/-- two calls that write a string and make it durable -/
def wrsy (n : Nat) (S : Dk) (o : Nat) (s : List UInt8) : Int × Dk :=
  if (S.write n (o : Int) (strOf s)).1 ≠ 0 then S.write n (o : Int) (strOf s) else (S.write n (o : Int) (strOf s)).2.sync
/-- what Append does: the error, the records, whether the journal is broken, the disk -/
def japp (n : Nat) (S : Dk) (rs : List ByteArray) (br : Bool) (l : List ByteArray) : Int × List ByteArray × Bool × Dk :=
  if br = true ∨ l.any (fun r => decide (65536 < r.size)) = true then (230, rs, br, S) else
  if n - (stos H z32 rs).length < (stos H (hds H z32 rs) l).length then (231, rs, br, S) else
  if l = [] then (0, rs, br, S) else
  if (wrsy n S ((stos H z32 rs).length + 1) ((stos H (hds H z32 rs) l).drop 1)).1 ≠ 0 then ((wrsy n S ((stos H z32 rs).length + 1) ((stos H (hds H z32 rs) l).drop 1)).1, rs, true, (wrsy n S ((stos H z32 rs).length + 1) ((stos H (hds H z32 rs) l).drop 1)).2) else
  if (wrsy n (wrsy n S ((stos H z32 rs).length + 1) ((stos H (hds H z32 rs) l).drop 1)).2 (stos H z32 rs).length ((stos H (hds H z32 rs) l).take 1)).1 ≠ 0 then
    ((wrsy n (wrsy n S ((stos H z32 rs).length + 1) ((stos H (hds H z32 rs) l).drop 1)).2 (stos H z32 rs).length ((stos H (hds H z32 rs) l).take 1)).1, rs, true, (wrsy n (wrsy n S ((stos H z32 rs).length + 1) ((stos H (hds H z32 rs) l).drop 1)).2 (stos H z32 rs).length ((stos H (hds H z32 rs) l).take 1)).2) else
  (0, rs ++ l, br, (wrsy n (wrsy n S ((stos H z32 rs).length + 1) ((stos H (hds H z32 rs) l).drop 1)).2 (stos H z32 rs).length ((stos H (hds H z32 rs) l).take 1)).2)
end
end Go.Proofs.YtllbphanfahkkaaGreatDoor.RW

/-
  Package digest: Chain, by marked and its closure: what it returns; only new memory is written.
-/
namespace Go.Proofs.YtllbphanfahkkaaGreatDoor
open Go.RowKit RG
namespace RW
theorem sha_len (K : Nat → Int) (l : List UInt8) : (sha K l).length = 32 := by simp [sha, dig]
theorem jklaid {B : Nat} {w w' : World} {ks : Array Value} (h : KLaid w ks) (hB : Below B w w') (hb : w.heap.size ≤ B) : KLaid w' ks := by
  obtain ⟨t, fr, h⟩ := h
  exact ⟨t, fr, (hB.block _ (Nat.lt_of_lt_of_le (Array.getElem?_eq_some_iff.1 h).1 hb)).trans h⟩
end RW
theorem jsum_any (s : ByteArray) (hs : s.size ≤ 1099511627776) (K : Nat → Int) (ks : Array Value) (hks : RW.WsOk ks K) (w : World) (hK : KLaid w ks) :
    Calls Tryz.prog 149 #[.string s] w fun e w' => e = .returned (.string ⟨(RW.sha K s.data.toList).toArray⟩) ∧ Below w.heap.size w w' :=
  callsIn_wide.1 (sum_in Fence.wide (show Fence.wide = Fence.wide from rfl) 3 trivial trivial rfl (by omega) s hs K ks hks w hK)
theorem alloc_at1 (w : World) (A : Obj) : (w.alloc A).heap[w.heap.size]? = some A := heap_alloc_new w A
theorem alloc_size (w : World) (A : Obj) : (w.alloc A).heap.size = w.heap.size + 1 := by simp
theorem alloc_bel {B : Nat} {w W : World} (h : Below B w W) (hB : B ≤ w.heap.size) (A : Obj) : Below B w (W.alloc A) := h.alloc (Nat.le_trans hB h.size) A
theorem alloc_old (W : World) (o : Obj) {k : Nat} {x : Obj} (h : W.heap[k]? = some x) : (W.alloc o).heap[k]? = some x := (Below.heap_alloc W o k (Array.getElem?_eq_some_iff.1 h).1).trans h
/-- a value that is a list of strings -/
abbrev StrR (W : World) (v : Value) (l : List ByteArray) : Prop := RowV 1 (fun s => [Value.string s]) W v l
section
variable {ev : Operand → Value} {o : Oper} {x y : Operand} {w : World}
theorem op_adds {a b : ByteArray} (ho : o.op = .binOp .add 9 x y 9) (hx : ev x = .string a) (hy : ev y = .string b) (h : a.size + b.size ≤ 9223372036854775807) : (execOp ev o).run Tryz.prog w = .ok (.value (.string (a ++ b))) w := by
  have h2 : ¬ (9223372036854775807 < a.size + b.size) := by omega
  unfold execOp
  rw [ho]
  simp only [hx, hy]
  go_simp
end
theorem str_ld {W : World} {g i : Nat} {s : ByteArray} (h : W.cell? ⟨g, i, none⟩ = some (.string s)) : (ldRow 9 (.pointer (some ⟨g, i, none⟩))).run Tryz.prog W = .ok (.string s) W := by
  unfold ldRow
  go_simp
theorem cf_join : ∀ args w, (callFunc 155 args).run Tryz.prog w = .ok (.enter 155 args) w := fun args w => by go_simp
theorem cf_sum : ∀ args w, (callFunc 149 args).run Tryz.prog w = .ok (.enter 149 args) w := fun args w => by go_simp
theorem join_two (a b : ByteArray) : Lib.join ([a, b].map (·.data.toList)) (⟨#[]⟩ : ByteArray).data.toList = a.data.toList ++ b.data.toList := by
  simp [Lib.join, List.intercalate]
theorem app_data (a b : ByteArray) : (a ++ b).data.toList = a.data.toList ++ b.data.toList := by simp [ByteArray.data_append]
theorem size_list (a : ByteArray) : a.data.toList.length = a.size := by rw [Array.length_toList]; rfl
set_option maxRecDepth 10000 in
set_option maxHeartbeats 2000000 in
theorem marked1_any (m a b : ByteArray) (p g : Nat) (hm : m.size ≤ 10) (hs : a.size + b.size ≤ 1000000000) (K : Nat → Int) (ks : Array Value) (hks : RW.WsOk ks K) (w : World) (hK : KLaid w ks) (hp : w.heap[p]? = some (.cells #[.string m] 9 (0, 0))) (hg : w.heap[g]? = some (.cells #[.string a, .string b] 9 (0, 0))) :
    Calls Tryz.prog 154 #[.slice (some ⟨g, 0, none⟩) 2 2, .pointer (some ⟨p, 0, none⟩)] w fun e w' => e = .returned (.string ⟨(RW.sha K (m.data.toList ++ (a.data.toList ++ b.data.toList))).toArray⟩) ∧ Below w.heap.size w w' := by
  obtain ⟨J, hJ⟩ : ∃ J : ByteArray, J = ⟨(a.data.toList ++ b.data.toList).toArray⟩ := ⟨_, rfl⟩
  have hJl : J.data.toList = a.data.toList ++ b.data.toList := by rw [hJ]
  have hJs : J.size ≤ 1000000000 := by
    rw [← size_list, hJl, List.length_append, size_list, size_list]
    exact hs
  have hK0 := hide (fun W (hW : Below w.heap.size w W) => RW.jklaid hK hW (Nat.le_refl _))
  have hc := hide (fun W (hW : Below w.heap.size w W) => (show W.cell? ⟨p, 0, none⟩ = some (.string m) from cellAt ((hW.block _ (Array.getElem?_eq_some_iff.1 hp).1).trans hp) 0))
  have hj := hide (fun W (hW : Below w.heap.size w W) => (show Calls Tryz.prog 155 #[.slice (some ⟨g, 0, none⟩) 2 2, .string ⟨#[]⟩] W fun e w' => e = .returned (.string J) ∧ Below W.heap.size W w' from by
    have hg' := (hW.block _ (Array.getElem?_eq_some_iff.1 hg).1).trans hg
    have := SH.strings_Join g 0 2 [a, b] ⟨#[]⟩ W (fun j x hx => by
      rw [Nat.zero_add]
      rcases j with _ | _ | j
      · cases hx; exact cellAt hg' 0
      · cases hx; exact cellAt hg' 1
      · simp at hx) (Array.getElem?_eq_some_iff.1 hg').1 (by show 2 ≤ 140737488355328; decide) (Nat.le_refl 2) (by rw [join_two, ← hJl, size_list]; omega)
    rw [join_two, ← hJ] at this
    exact this))
  have hSm := hide (fun W (hW : Below w.heap.size w W) => jsum_any (m ++ J) (by rw [ByteArray.size_append]; omega) K ks hks W (hK0.out W hW))
  have hl : (m ++ J).data.toList = m.data.toList ++ (a.data.toList ++ b.data.toList) := by rw [app_data, hJl]
  rw [hl] at hSm
  have hb := hide (show m.size + J.size ≤ 9223372036854775807 by omega)
  obtain ⟨R, hR⟩ : ∃ R : ByteArray, R = ⟨(RW.sha K (m.data.toList ++ (a.data.toList ++ b.data.toList))).toArray⟩ := ⟨_, rfl⟩
  rw [← hR] at hSm ⊢
  clear hJ hJl hl hR hK hp hg hJs
  go_enter Tryz.func154, Tryz.ntmps154
  go_upto_region 1 with fail
  refine wp_region_k (fun _ W => Below w.heap.size w W) (fun _ => True) [2, 4] (.op 0 (.op 1 (.op 2 (.op 3 (.op 4 (.op 5 .nil)))))) (by kernel_rfl) (by kernel_rfl) (by rfl) (by kernel_rfl) (Below.refl w.heap.size w).drew trivial ?_
  refine k_val (.string m) (by apply opN; repeat' (first | apply OpAt.z | apply OpAt.s)) (by rfl) (by rfl) (fun _ W hS => op_ld rfl rfl (str_ld (hc.out W hS))) ?_
  simp only [Act.put, List.setIfInBounds_toArray, List.set_cons_zero, List.set_cons_succ]
  refine k_val (.slice (some ⟨g, 0, none⟩) 2 2) (by apply opN; repeat' (first | apply OpAt.z | apply OpAt.s)) (by rfl) (by rfl) (fun _ W hS => op_mv rfl rfl) ?_
  simp only [Act.put, List.setIfInBounds_toArray, List.set_cons_zero, List.set_cons_succ]
  refine k_step (fun K' u => u = .string J ∧ K' = fun _ => True) (by apply opN; repeat' (first | apply OpAt.z | apply OpAt.s)) (by rfl) (by rfl) (by rfl) (fun W hCW hK' => ?_) ?_
  · refine op_x2 rfl rfl rfl rfl cf_join ?_
    refine (hj.out W hCW).mono ?_
    rintro e W' ⟨rfl, h5⟩
    exact ⟨_, rfl, hCW.trans (h5.mono hCW.size), _, trivial, rfl, rfl⟩
  rintro _ _ ⟨rfl, rfl⟩
  simp only [Act.put, List.setIfInBounds_toArray, List.set_cons_zero, List.set_cons_succ]
  refine k_val (.string (m ++ J)) (by apply opN; repeat' (first | apply OpAt.z | apply OpAt.s)) (by rfl) (by rfl) (fun _ W hS => op_adds rfl rfl rfl hb.out) ?_
  simp only [Act.put, List.setIfInBounds_toArray, List.set_cons_zero, List.set_cons_succ]
  refine k_step (fun K' u => u = .string R ∧ K' = fun _ => True) (by apply opN; repeat' (first | apply OpAt.z | apply OpAt.s)) (by rfl) (by rfl) (by rfl) (fun W hCW hK' => ?_) ?_
  · refine op_x1 rfl rfl rfl cf_sum ?_
    refine (hSm.out W hCW).mono ?_
    rintro e W' ⟨rfl, h5⟩
    exact ⟨_, rfl, hCW.trans (h5.mono hCW.size), _, trivial, rfl, rfl⟩
  rintro _ _ ⟨rfl, rfl⟩
  simp only [Act.put, List.setIfInBounds_toArray, List.set_cons_zero, List.set_cons_succ]
  refine k_val (.string R) (by apply opN; repeat' (first | apply OpAt.z | apply OpAt.s)) (by rfl) (by rfl) (fun _ W hS => op_asg rfl rfl) ?_
  simp only [Act.put, List.setIfInBounds_toArray, List.set_cons_zero, List.set_cons_succ]
  refine k_nil ?_
  intro W hCW _
  have hE := hide hCW
  clear hCW
  go_wp2
  go_ret
  exact ⟨rfl, hE.out⟩
theorem marked_any (m : ByteArray) (w : World) : Calls Tryz.prog 135 #[.string m] w fun e w' => e = .returned (.func (.func 154) #[] #[.pointer (some ⟨w.heap.size, 0, none⟩)]) ∧ w.alloc (.cells #[.string m] 9) = w' := by
  go_enter Tryz.func135, Tryz.ntmps135
  go_wp2
  go_ret
  exact ⟨rfl, rfl⟩
set_option maxRecDepth 10000 in
set_option maxHeartbeats 2000000 in
theorem chain_any (h r : ByteArray) (hs : h.size + r.size ≤ 1000000000) (K : Nat → Int) (ks : Array Value) (hks : RW.WsOk ks K) (w : World) (hK : KLaid w ks) :
    Calls Tryz.prog 89 #[.string h, .string r] w fun e w' => e = .returned (.string ⟨(RW.chn (RW.sha K) h.data.toList r).toArray⟩) ∧ Below w.heap.size w w' := by
  obtain ⟨p, hp⟩ : ∃ p, p = w.heap.size := ⟨_, rfl⟩
  have hB2 := hide (alloc_bel (alloc_bel (Below.refl w.heap.size w) (Nat.le_refl _) (.cells #[.string ⟨#[2]⟩] 9)) (Nat.le_refl _) (.cells #[.string h, .string r] 9))
  have hp2 := hide (alloc_old (w.alloc (.cells #[.string ⟨#[2]⟩] 9)) (.cells #[.string h, .string r] 9) (alloc_at1 w (.cells #[.string ⟨#[2]⟩] 9)))
  have hg2 := hide (alloc_at1 (w.alloc (.cells #[.string ⟨#[2]⟩] 9)) (.cells #[.string h, .string r] 9))
  have hC := hide (marked1_any ⟨#[2]⟩ h r w.heap.size (w.alloc (.cells #[.string ⟨#[2]⟩] 9)).heap.size (by decide) hs K ks hks _ (RW.jklaid hK hB2.out (Nat.le_refl _)) hp2.out hg2.out)
  rw [alloc_size, ← hp] at hC
  have hM := hide (marked_any ⟨#[2]⟩ w)
  rw [← hp] at hM
  have hR : RW.sha K ((⟨#[2]⟩ : ByteArray).data.toList ++ (h.data.toList ++ r.data.toList)) = RW.chn (RW.sha K) h.data.toList r := rfl
  rw [hR] at hC
  obtain ⟨R, hR'⟩ : ∃ R : ByteArray, R = ⟨(RW.chn (RW.sha K) h.data.toList r).toArray⟩ := ⟨_, rfl⟩
  rw [← hR'] at hC ⊢
  have hpH := hide hp
  clear hR hR' hp
  go_enter Tryz.func89, Tryz.ntmps89
  go_wp2_with (first
    | (go_at_call 135; refine hM.out.mono ?_; rintro e w1 ⟨rfl, rfl⟩)
    | (go_at_call 154; rw [← hpH.out]; refine hC.out.mono ?_; rintro e w3 ⟨rfl, hB3⟩; have hB3H := hide (hB2.out.trans (hB3.mono hB2.out.size)); clear hB3))
  go_ret
  exact ⟨rfl, hB3H.out⟩
end Go.Proofs.YtllbphanfahkkaaGreatDoor

/-
  Package journal: tape.add: what it returns, what it writes.
-/
namespace Go.Proofs.YtllbphanfahkkaaGreatDoor
open Go.RowKit RG
/-- a tape's cells, and what lies behind them -/
def tpc (rv : Value) (h : ByteArray) (n : Nat) (rest : List Value) : Array Value := (rv :: .string h :: .int .i64 (n : Int) :: rest).toArray
theorem tpc0 (rv : Value) (h : ByteArray) (n : Nat) (rest : List Value) : (tpc rv h n rest)[0]? = some rv := by simp [tpc]
theorem tpc1 (rv : Value) (h : ByteArray) (n : Nat) (rest : List Value) : (tpc rv h n rest)[1]? = some (.string h) := by simp [tpc]
theorem tpc2 (rv : Value) (h : ByteArray) (n : Nat) (rest : List Value) : (tpc rv h n rest)[2]? = some (.int .i64 (n : Int)) := by simp [tpc]
theorem tpc_set0 (rv u : Value) (h : ByteArray) (n : Nat) (rest : List Value) : (tpc rv h n rest).setIfInBounds 0 u = tpc u h n rest := by simp [tpc]
theorem tpc_set1 (rv : Value) (h h' : ByteArray) (n : Nat) (rest : List Value) : (tpc rv h n rest).setIfInBounds 1 (.string h') = tpc rv h' n rest := by simp [tpc]
theorem tpc_set2 (rv : Value) (h : ByteArray) (n n' : Nat) (rest : List Value) : (tpc rv h n rest).setIfInBounds 2 (.int .i64 (n' : Int)) = tpc rv h n' rest := by simp [tpc]
theorem str_info : (Tryz.prog.info? 9).map (fun i => (i.zero, i.size, i.bytes)) = some (some (.string ⟨#[]⟩), 1, 16) := by kernel_rfl
/-- a row of strings of the call's own -/
abbrev StrsOwn (W : World) (B : Nat) (v : Value) (l : List ByteArray) : Prop := W.ownsRow B 9 1 v l.length (l.map Value.string)
theorem own_blk {W : World} {B : Nat} {e : TypeId} {k n : Nat} {v : Value} {xs : List Value} (h : W.ownsRow B e k v n xs) {g : Nat} (hg : v.ownBlock = some g) : B ≤ g ∧ g < W.heap.size ∧ ∃ c fr, W.heap[g]? = some (.cells c e fr) := by
  rcases h.2 with ⟨rfl, _⟩ | ⟨g', cap, cur, rfl, h2, h3, _⟩
  · cases hg
  · cases hg
    exact ⟨h2, (Array.getElem?_eq_some_iff.1 h3).1, cur, _, h3⟩
theorem own_shape {W : World} {B : Nat} {e : TypeId} {k n : Nat} {v : Value} {xs : List Value} (h : W.ownsRow B e k v n xs) : ∃ a c, v = .slice a n c := by
  rcases h.2 with ⟨rfl, h0⟩ | ⟨g, cap, cur, rfl, _⟩
  · exact ⟨none, 0, by rw [h0]⟩
  · exact ⟨_, _, rfl⟩
theorem run_app_str {W : World} {B : Nat} {v : Value} {l : List ByteArray} (r : ByteArray) (hown : StrsOwn W B v l) (hB : B ≤ W.heap.size) (hl : l.length ≤ 5000000) :
    ∃ v' W', (Builtin.append_ #[22, 22] 22 #[v, .slice (some ⟨W.heap.size, 0, none⟩) 1 1]).run Tryz.prog (W.alloc (.cells #[.string r] 9)) = .ok v' W' ∧ StrsOwn W' B v' (l ++ [r]) ∧ ChgS (fun j => v.ownBlock = some j) W W' ∧ (v'.ownBlock = v.ownBlock ∨ ∃ g, v'.ownBlock = some g ∧ W.heap.size ≤ g) := by
  obtain ⟨i0, hi, hz0, hz1, hz2⟩ := info_parts str_info
  have hA := alloc_bel (Below.refl W.heap.size W) (Nat.le_refl _) (.cells #[.string r] 9)
  have hg := alloc_at1 W (.cells #[.string r] 9)
  have h1 : StrsOwn (W.alloc (.cells #[.string r] 9)) B v l := own_keep hown fun g hg' => hA.block _ (own_blk hown hg').2.1
  obtain ⟨v', W', hr, ho, hgr, _, hb⟩ := run_append_own_at (P := Tryz.prog) (w := W.alloc (.cells #[.string r] 9)) B 22 22 9 i0 (.string ⟨#[]⟩) 1 16 Tryz.underlying22 hi hz0 hz1 hz2 (by rfl) (by decide) v l.length (l.map Value.string) h1 ⟨W.heap.size, 0, none⟩ 1 1 [.string r] rfl (fun j q hj => by
    have e := cellAt hg j
    rw [show (⟨W.heap.size, 0, none⟩ : Addr).add j = ⟨W.heap.size, j, none⟩ by rw [Addr.add_mid, Nat.zero_add], e]
    simpa using hj) (fun u hu => by simp at hu; subst hu; rfl) (by unfold maxLen; omega) (by omega) (Nat.le_trans hB hA.size)
  refine ⟨v', W', hr, by rw [StrsOwn, List.length_append, List.map_append]; exact ho, ⟨hgr.os, hgr.tape, hgr.output, Nat.le_trans hA.size hgr.size, fun k hk hn => (hgr.block k (Nat.lt_of_lt_of_le hk hA.size) fun e => hn e.symm).trans (hA.block k hk)⟩, hb.imp id fun h => ⟨_, h, by rw [alloc_size]; omega⟩⟩
/-- a tape in a block, and what has turned since the world w -/
structure TA (W w : World) (B tb : Nat) (rv0 rv : Value) (hd : ByteArray) (n : Nat) (rest : List Value) (T : TypeId) (rs : List ByteArray) : Prop where
  b : W.heap[tb]? = some (.cells (tpc rv hd n rest) T (0, 0))
  own : StrsOwn W B rv rs
  ch : ChgS (fun j => j = tb ∨ rv0.ownBlock = some j) w W
  ob : rv.ownBlock = rv0.ownBlock ∨ ∃ g, rv.ownBlock = some g ∧ w.heap.size ≤ g
section
variable {W W' w : World} {B tb : Nat} {rv0 rv u : Value} {hd hd' : ByteArray} {n n' : Nat} {rest : List Value} {T : TypeId} {rs rs' : List ByteArray}
theorem TA.ne (h : TA W w B tb rv0 rv hd n rest T rs) (hT : T ≠ 9) {g : Nat} (hg : rv.ownBlock = some g) : g ≠ tb := by
  obtain ⟨_, _, c, fr, hc⟩ := own_blk h.own hg
  exact blocks_ne hc h.b (Ne.symm hT)
theorem TA.next (h : TA W w B tb rv0 rv hd n rest T rs) (hB : Below W.heap.size W W') : TA W' w B tb rv0 rv hd n rest T rs :=
  ⟨(hB.block _ (Array.getElem?_eq_some_iff.1 h.b).1).trans h.b, own_keep h.own fun g hg => hB.block _ (own_blk h.own hg).2.1, h.ch.trans ⟨hB.os, hB.tape, hB.output, hB.size, fun k hk _ => hB.block k hk⟩, h.ob⟩
theorem TA.set1 (h : TA W w B tb rv0 rv hd n rest T rs) (hT : T ≠ 9) (hd' : ByteArray) : TA (W.setCell ⟨tb, 1, none⟩ (.string hd')) w B tb rv0 rv hd' n rest T rs :=
  ⟨by rw [← tpc_set1 rv hd]; exact heap_setCell_same _ _ _ _ _ _ h.b, own_keep h.own fun g hg => Below.heap_setCell _ _ _ _ (h.ne hT hg), h.ch.set (.inl rfl) _, h.ob⟩
theorem TA.set2 (h : TA W w B tb rv0 rv hd n rest T rs) (hT : T ≠ 9) (n' : Nat) : TA (W.setCell ⟨tb, 2, none⟩ (.int .i64 (n' : Int))) w B tb rv0 rv hd n' rest T rs :=
  ⟨by rw [← tpc_set2 rv hd n]; exact heap_setCell_same _ _ _ _ _ _ h.b, own_keep h.own fun g hg => Below.heap_setCell _ _ _ _ (h.ne hT hg), h.ch.set (.inl rfl) _, h.ob⟩
/-- the records appended -/
theorem TA.app (h : TA W w B tb rv0 rv hd n rest T rs) (hT : T ≠ 9) (ho : StrsOwn W' B u rs') (hc : ChgS (fun j => rv.ownBlock = some j) W W') (hu : u.ownBlock = rv.ownBlock ∨ ∃ g, u.ownBlock = some g ∧ W.heap.size ≤ g) :
    W'.heap[tb]? = some (.cells (tpc rv hd n rest) T (0, 0)) ∧ TA (W'.setCell ⟨tb, 0, none⟩ u) w B tb rv0 u hd n rest T rs' := by
  have htb := (Array.getElem?_eq_some_iff.1 h.b).1
  have hb' : W'.heap[tb]? = some (.cells (tpc rv hd n rest) T (0, 0)) := (hc.block tb htb fun e => h.ne hT e rfl).trans h.b
  refine ⟨hb', by rw [← tpc_set0 rv u]; exact heap_setCell_same _ _ _ _ _ _ hb', own_keep ho fun g hg => Below.heap_setCell _ _ _ _ ?_, ChgS.set ⟨hc.os.trans h.ch.os, hc.tape.trans h.ch.tape, hc.output.trans h.ch.output, Nat.le_trans h.ch.size hc.size, fun k hk hn => ?_⟩ (.inl rfl) _, ?_⟩
  · obtain ⟨_, _, c, fr, hcc⟩ := own_blk ho hg
    exact blocks_ne hcc hb' (Ne.symm hT)
  · refine (hc.block k (Nat.lt_of_lt_of_le hk h.ch.size) fun e => ?_).trans (h.ch.block k hk hn)
    rcases h.ob with e2 | ⟨g, e2, e3⟩
    · exact hn (.inr (e2 ▸ e))
    · rw [e] at e2
      cases e2
      omega
  · rcases hu with e | ⟨g, e, e3⟩
    · rw [e]
      exact h.ob
    · exact .inr ⟨g, e, Nat.le_trans h.ch.size e3⟩
end
theorem ChgS.belowJ {Q : Nat → Prop} {W W' : World} {B : Nat} (h : ChgS Q W W') (hQ : ∀ k, Q k → B ≤ k) (hB : B ≤ W.heap.size) : Below B W W' :=
  ⟨h.os, h.tape, h.output, h.size, fun k hk => h.block k (by omega) fun hq => absurd (hQ k hq) (by omega)⟩
theorem cell_of {W : World} {tb : Nat} {cs : Array Value} {T : TypeId} {i : Nat} {v : Value} (h : W.heap[tb]? = some (.cells cs T (0, 0))) (hi : cs[i]? = some v) : W.cell? ⟨tb, i, none⟩ = some v := (cellAt h i).trans hi
theorem unfrozen {W : World} {tb i : Nat} {cs : Array Value} {T : TypeId} (h : W.heap[tb]? = some (.cells cs T (0, 0))) : W.frozen? ⟨tb, i, none⟩ = false := by simp [World.frozen?, h]
section
variable {ev : Operand → Value} {o : Oper} {x y : Operand} {w : World}
theorem op_b1 (ho : o.op = .buildSlice 39 1 #[(0, x)]) (hx : ev x = .int .u8 1) : (execOp ev o).run Tryz.prog w = .ok (.value (.slice (some ⟨w.heap.size, 0, none⟩) 1 1)) (w.alloc (.cells #[.int .u8 1] 5)) := by
  unfold execOp
  rw [ho]
  go_simp
theorem op_cv {g : Nat} {l : List UInt8} {n c : Nat} (ho : o.op = .convert 39 9 x) (hx : ev x = .slice (some ⟨g, 0, none⟩) n c) (hg : w.heap[g]? = some (.cells (RW.byl l).toArray 5 (0, 0))) (hn : n = l.length) : (execOp ev o).run Tryz.prog w = .ok (.value (.string (RW.strOf l))) w := by
  have h1 := run_conv w g l hg 0 n c (by omega)
  rw [List.drop_zero, hn, List.take_length] at h1
  unfold execOp
  rw [ho]
  simp only [hx, hn, Sem.run_bind, Sem.run_pure, h1, Result.andThen_ok]
end
theorem fa_tp1 {b : Nat} (W : World) : (Instr.fieldAt 83 (.pointer (some ⟨b, 0, none⟩)) 1).run Tryz.prog W = .ok (.pointer (some ⟨b, 1, none⟩)) W := by
  go_simp
set_option maxRecDepth 10000 in
set_option maxHeartbeats 4000000 in
theorem tadd_any (tb B : Nat) (rv : Value) (hd r : ByteArray) (n : Nat) (rest : List Value) (T : TypeId) (hT : T ≠ 9) (rs : List ByteArray) (hrs : rs.length ≤ 5000000) (hr : r.size ≤ 65536) (hh : hd.size = 32) (hn : n ≤ 100000000) (K : Nat → Int) (ks : Array Value) (hks : RW.WsOk ks K) (w : World) (hK : KLaid w ks) (hB : B ≤ w.heap.size) (hb : w.heap[tb]? = some (.cells (tpc rv hd n rest) T (0, 0))) (hown : StrsOwn w B rv rs) :
    Calls Tryz.prog 43 #[.pointer (some ⟨tb, 0, none⟩), .string r] w fun e w' => e = .returned (.string ⟨(RW.sto (RW.sha K) hd.data.toList r).toArray⟩) ∧ ∃ rv', TA w' w B tb rv rv' ⟨(RW.chn (RW.sha K) hd.data.toList r).toArray⟩ (n + (RW.sto (RW.sha K) hd.data.toList r).length) rest T (rs ++ [r]) := by
  obtain ⟨N, hN⟩ : ∃ N : ByteArray, N = ⟨(RW.chn (RW.sha K) hd.data.toList r).toArray⟩ := ⟨_, rfl⟩
  have hNl : N.data.toList = RW.chn (RW.sha K) hd.data.toList r := by rw [hN]
  have hNs : N.size = 32 := by rw [← size_list, hNl]; exact RW.sha_len _ _
  obtain ⟨P, hP⟩ : ∃ P : ByteArray, P = ⟨(RW.putS r.data.toList).toArray⟩ := ⟨_, rfl⟩
  have hPl : P.data.toList = RW.putS r.data.toList := by rw [hP]
  have hPs : P.size ≤ 65600 := by
    rw [← size_list, hPl]
    have h1 := RW.putI_len (r.data.toList.length : Int)
    have h2 := size_list r
    unfold RW.putS
    rw [List.length_append]
    omega
  obtain ⟨O, hO⟩ : ∃ O : ByteArray, O = RW.strOf [1] ++ P ++ N := ⟨_, rfl⟩
  have hOl : O.data.toList = RW.sto (RW.sha K) hd.data.toList r := by
    rw [hO, app_data, app_data, hPl, hNl]
    rfl
  have hOe : (⟨(RW.sto (RW.sha K) hd.data.toList r).toArray⟩ : ByteArray) = O := by
    rw [← hOl]
  have hOs : O.size ≤ 70000 := by
    rw [hO, ByteArray.size_append, ByteArray.size_append, hNs, show (RW.strOf [1]).size = 1 from rfl]
    omega
  have hC := hide (chain_any hd r (by omega) K ks hks w hK)
  rw [← hN] at hC ⊢
  rw [hOe, ← hOl, size_list]
  have hOsH := hide hOs
  have hPu := hide (fun W => putstr r hr W)
  rw [← hP] at hPu
  have hOH := hide hO
  have ha1 := hide (show (RW.strOf [1]).size + P.size ≤ 9223372036854775807 by rw [show (RW.strOf [1]).size = 1 from rfl]; omega)
  have ha2 := hide (show (RW.strOf [1] ++ P).size + N.size ≤ 9223372036854775807 by rw [ByteArray.size_append, show (RW.strOf [1]).size = 1 from rfl]; omega)
  have hTH := hide hT
  have hT0 := hide (show TA w w B tb rv rv hd n rest T rs from ⟨hb, hown, ChgS.refl _ _, .inl rfl⟩)
  have hBH := hide hB
  have hrsH := hide hrs
  have c1 : w.cell? ⟨tb, 1, none⟩ = some (.string hd) := cell_of hb (tpc1 _ _ _ _)
  clear hN hNl hNs hP hPl hPs hO hOl hOe hT hB hrs hK hb hown hOs
  go_enter Tryz.func43, Tryz.ntmps43
  go_upto_region 2 with (go_at_call 89; refine hC.out.mono ?_; rintro e w1 ⟨rfl, hB1⟩; have hT1 := hide (hT0.out.next hB1); have d1 : w1.cell? ⟨tb, 1, none⟩ = some (.string hd) := cell_of hT1.out.b (tpc1 _ _ _ _); have f1 : w1.frozen? ⟨tb, 1, none⟩ = false := unfrozen hT1.out.b; clear hB1)
  refine gen_w (fun W => TA W w B tb rv rv N n rest T rs) (hT1.out.set1 hTH.out N) ?_
  clear hT1 hT0 hC c1 d1 f1
  intro w2 hT2
  have hT2H := hide hT2
  obtain ⟨ra, rc, rfl⟩ := own_shape hT2.own
  obtain ⟨v', W', hrun, ho', hc', hu'⟩ := run_app_str r hT2.own (Nat.le_trans hBH.out hT2.ch.size) hrsH.out
  obtain ⟨hb3, hT3'⟩ := hT2.app hTH.out ho' hc' hu'
  have hT3 := hide hT3'
  obtain ⟨va, vc, ev'⟩ := own_shape ho'
  rw [show (rs ++ [r]).length = rs.length + 1 by simp] at ev'
  subst ev'
  have c0 : w2.cell? ⟨tb, 0, none⟩ = some (.slice ra rs.length rc) := cell_of hT2.b (tpc0 _ _ _ _)
  have d0 : W'.cell? ⟨tb, 0, none⟩ = some (.slice ra rs.length rc) := cell_of hb3 (tpc0 _ _ _ _)
  have f0 : W'.frozen? ⟨tb, 0, none⟩ = false := unfrozen hb3
  clear hT2 ho' hc' hu' hb3 hT3'
  go_upto_region 3 with (at_builtin; refine wpList_app_run rfl (.tmp 21) (.tmp 23) rfl rfl rfl hrun ?_)
  refine gen_w (fun W => TA W w B tb (.slice ra rs.length rc) (.slice va (rs.length + 1) vc) N n rest T (rs ++ [r])) hT3.out ?_
  clear hT3 hT2H hrun c0 d0 f0
  intro w3 hT3
  have hT3H := hide hT3
  clear hT3
  go_upto_region 4 with (go_at_call 77; refine (hPu.out _).mono ?_; rintro e w4 ⟨rfl, hB4⟩; have hT4 := hide (hT3H.out.next hB4); clear hB4)
  clear hT3H hPu
  have hTx := hide (fun W (hW : Below w4.heap.size w4 W) => hT4.out.next hW)
  refine wp_region_k (fun _ W => Below w4.heap.size w4 W) (fun _ => True) [0, 1] (.op 2 (.op 4 (.op 5 (.op 6 (.op 7 (.op 0 (.op 1 (.op 3 (.op 8 (.op 9 .nil)))))))))) (by kernel_rfl) (by kernel_rfl) (by rfl) (by kernel_rfl) (Below.refl w4.heap.size w4).drew trivial ?_
  refine k_val (.string P) (by apply opN; repeat' (first | apply OpAt.z | apply OpAt.s)) (by rfl) (by rfl) (fun _ W hS => op_mv rfl rfl) ?_
  simp only [Act.put, List.setIfInBounds_toArray, List.set_cons_zero, List.set_cons_succ]
  refine k_val (.pointer (some ⟨tb, 0, none⟩)) (by apply opN; repeat' (first | apply OpAt.z | apply OpAt.s)) (by rfl) (by rfl) (fun _ W hS => op_mv rfl rfl) ?_
  simp only [Act.put, List.setIfInBounds_toArray, List.set_cons_zero, List.set_cons_succ]
  refine k_val (.pointer (some ⟨tb, 0, none⟩)) (by apply opN; repeat' (first | apply OpAt.z | apply OpAt.s)) (by rfl) (by rfl) (fun _ W hS => op_nc rfl rfl) ?_
  simp only [Act.put, List.setIfInBounds_toArray, List.set_cons_zero, List.set_cons_succ]
  refine k_val (.pointer (some ⟨tb, 1, none⟩)) (by apply opN; repeat' (first | apply OpAt.z | apply OpAt.s)) (by rfl) (by rfl) (fun _ W hS => op_fa rfl rfl (fa_tp1 W)) ?_
  simp only [Act.put, List.setIfInBounds_toArray, List.set_cons_zero, List.set_cons_succ]
  refine k_val (.string N) (by apply opN; repeat' (first | apply OpAt.z | apply OpAt.s)) (by rfl) (by rfl) (fun _ W hS => op_ld rfl rfl (str_ld (cell_of (hTx.out W hS).b (tpc1 _ _ _ _)))) ?_
  simp only [Act.put, List.setIfInBounds_toArray, List.set_cons_zero, List.set_cons_succ]
  refine k_step (fun K' u => ∃ g, u = .slice (some ⟨g, 0, none⟩) 1 1 ∧ K' = fun W => W.heap[g]? = some (.cells (RW.byl [1]).toArray 5 (0, 0))) (by apply opN; repeat' (first | apply OpAt.z | apply OpAt.s)) (by rfl) (by rfl) (by rfl) (fun W hCW hK => ?_) ?_
  · exact xup_val (op_b1 rfl rfl) ⟨alloc_bel hCW (Nat.le_refl _) _, _, alloc_at1 W _, W.heap.size, rfl, rfl⟩
  rintro _ _ ⟨g, rfl, rfl⟩
  simp only [Act.put, List.setIfInBounds_toArray, List.set_cons_zero, List.set_cons_succ]
  refine k_step (fun K' u => u = .string (RW.strOf [1]) ∧ K' = fun _ => True) (by apply opN; repeat' (first | apply OpAt.z | apply OpAt.s)) (by rfl) (by rfl) (by rfl) (fun W hCW hK => ?_) ?_
  · exact xup_val (op_cv rfl rfl hK rfl) ⟨hCW, _, trivial, rfl, rfl⟩
  rintro _ _ ⟨rfl, rfl⟩
  simp only [Act.put, List.setIfInBounds_toArray, List.set_cons_zero, List.set_cons_succ]
  refine k_val (.string (RW.strOf [1] ++ P)) (by apply opN; repeat' (first | apply OpAt.z | apply OpAt.s)) (by rfl) (by rfl) (fun _ W hS => op_adds rfl rfl rfl ha1.out) ?_
  simp only [Act.put, List.setIfInBounds_toArray, List.set_cons_zero, List.set_cons_succ]
  refine k_val (.string O) (by apply opN; repeat' (first | apply OpAt.z | apply OpAt.s)) (by rfl) (by rfl) (fun _ W hS => (op_adds rfl rfl rfl ha2.out).trans (by rw [hOH.out])) ?_
  simp only [Act.put, List.setIfInBounds_toArray, List.set_cons_zero, List.set_cons_succ]
  refine k_val (.string O) (by apply opN; repeat' (first | apply OpAt.z | apply OpAt.s)) (by rfl) (by rfl) (fun _ W hS => op_asg rfl rfl) ?_
  simp only [Act.put, List.setIfInBounds_toArray, List.set_cons_zero, List.set_cons_succ]
  refine k_nil ?_
  intro W hCW _
  have hT5 := hide (hTx.out W hCW)
  have c2 : W.cell? ⟨tb, 2, none⟩ = some (.int .i64 (n : Int)) := cell_of hT5.out.b (tpc2 _ _ _ _)
  have f2 : W.frozen? ⟨tb, 2, none⟩ = false := unfrozen hT5.out.b
  have hT6 := hide (hT5.out.set2 hTH.out (n + O.size))
  have hOs2 : O.size ≤ 70000 := hOsH.out
  have ecast : (n : Int) + (O.size : Int) = ((n + O.size : Nat) : Int) := by omega
  rw [← ecast] at hT6
  clear hCW hTx hT4 hT5 ecast
  go_wp2
  go_ret
  exact ⟨rfl, _, hT6.out⟩
end Go.Proofs.YtllbphanfahkkaaGreatDoor

/-
  errors.Is at one and the same error of errors.New's make: true; the world as it was. (Turned from the guide's worked text on errors.Is.)
-/
namespace Go.Proofs.YtllbphanfahkkaaGreatDoor
open Go.RowKit Go.Extern.Stop Go.Stop Go.Extern Go
theorem ER.isTypeOf (v : Value) (w : World) : (Extern.ReflectliteType.typeOf #[.iface 282 v]).run Tryz.prog w = .ok (.iface 208 (.agg #[.pointer (some ⟨6, 282, none⟩)])) w := by kernel_rfl
def ER.entry : Array Value → Sem Value := Extern.ReflectliteType.method fun t => do Go.Extern.Rtype.noPackHeld "Comparable" t; pure (.bool (← typeInfo t).comparable)
theorem ER.isComparable (w : World) : (ER.entry #[.agg #[.pointer (some ⟨6, 282, none⟩)]]).run Tryz.prog w = .ok (.bool true) w := by kernel_rfl
theorem ER.isMethodComparable (v : Value) (w : World) : (Go.method 415 208 v "Comparable").run Tryz.prog w = .ok (235, v) w := by kernel_rfl
theorem ER.isComp : (Tryz.prog.info? 282).map (·.comparable) = some true := by kernel_rfl
theorem ER.isSize : (Tryz.prog.info? 304).map (·.size) = some 1 := by kernel_rfl
set_option maxRecDepth 100000 in
set_option maxHeartbeats 1000000 in
theorem is_same (a : Addr) (w : World) :
    Calls Tryz.prog 79 #[.iface 282 (.pointer (some a)), .iface 282 (.pointer (some a))] w fun e w' => e = .returned (.bool true) ∧ w' = w := by
  obtain ⟨i, hi, hcmp⟩ := Option.map_eq_some_iff.1 ER.isComp
  obtain ⟨j, hj, hjs⟩ := Option.map_eq_some_iff.1 ER.isSize
  have h8 := @run_callFunc_extern Tryz.prog 129 _ Extern.ReflectliteType.typeOf Tryz.func129 (by kernel_rfl) (by kernel_rfl) (by kernel_rfl) (by kernel_rfl)
  have h32 := @run_callFunc_extern Tryz.prog 235 _ ER.entry Tryz.func235 (by kernel_rfl) (by kernel_rfl) (by kernel_rfl) (by kernel_rfl)
  have tT := ER.isTypeOf
  have cT := ER.isComparable
  have mR := ER.isMethodComparable
  have heq := run_eql_iface_ptr_same (P := Tryz.prog) w a Tryz.underlying91 Tryz.underlying282 hi hcmp hj
  go_enter Tryz.func79, Tryz.ntmps79
  go_wp2
  refine wp_loop_rounds 1 ?_
  rw [rounds_succ]
  go_wp2
  go_ret
  exact ⟨rfl, rfl⟩
end Go.Proofs.YtllbphanfahkkaaGreatDoor
