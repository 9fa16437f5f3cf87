/-
  Families of keys: strings, whole numbers, and values that are compared by '==': no condition beyond each theorem's own premises.
-/
import Derived.Test.YtbmlfejlmedmgaaKmap
namespace Go.Proofs.Ytbmlfejlmedmgaa.KM
open Go Go.RowKit
theorem find_now {κ : Type} [DecidableEq κ] {kv : κ → Value} {d : TypeDesc} (hs : ∀ a b, Instr.sameNow d (kv a) (kv b) = some (decide (a = b))) (k : κ) : ∀ (es : List MapEntry) (l : List (κ × Value)) (i : Nat), es.map (fun e => (e.key, e.val)) = l.map (fun x => (kv x.1, x.2)) → Instr.findNow d (kv k) es i = some (look k l i)
  | [], [], _, _ => rfl
  | [], x :: l, _, h => by simp at h
  | e :: es, [], _, h => by simp at h
  | e :: es, x :: l, i, h => by
    rw [List.map_cons, List.map_cons, List.cons.injEq] at h
    obtain ⟨h1, h2⟩ := h
    simp at h1
    rw [Instr.findNow, h1.1, hs, look]
    by_cases hk : k = x.1
    · rw [if_pos hk, decide_eq_true hk]; simp only [h1.2]
    · rw [if_neg hk, decide_eq_false hk]; exact find_now hs k es l (i + 1) h2
theorem now_key {κ : Type} [DecidableEq κ] {P : Program} {kt : TypeId} {kv : κ → Value} {d : TypeDesc} (hu : P.underlying kt = some d) (hs : ∀ a b, Instr.sameNow d (kv a) (kv b) = some (decide (a = b)))
    (hc : ∀ (e : Bool) (k : κ) (w : World), (Instr.checkKey e 10000 kt (kv k)).run P w = .ok () w) (hst : ∀ k, Instr.sameBits 10000 (kv k) (kv k) = true) : Key P kt kv :=
  ⟨hc, fun k es l w h => by simp [Instr.findKey, run_underlying hu, find_now hs k es l 0 h], hst⟩
theorem int_key {P : Program} {kt : TypeId} {ik : IntKind} (hk : P.underlying kt = some (.int ik)) : Key P kt (fun x : Int => .int ik x) :=
  now_key hk (fun a b => by
      by_cases h : a = b
      · simp [Instr.sameNow, h]
      · simp [Instr.sameNow, h])
    (fun e k w => by
      show (Instr.checkKey e (9999 + 1) kt (.int ik k)).run P w = .ok () w
      unfold Instr.checkKey
      simp [run_underlying hk]) (fun k => by simp [Instr.sameBits])
theorem bytes_beq_dec (a b : ByteArray) : (a == b) = decide (a = b) := by
  by_cases h : a = b
  · rw [decide_eq_true h]; exact (MapKept.bytes_beq a b).2 h
  · rw [decide_eq_false h]
    cases e : (a == b) with
    | false => rfl
    | true => exact absurd ((MapKept.bytes_beq a b).1 e) h
theorem str_key {P : Program} {kt : TypeId} (hk : P.underlying kt = some .string) : Key P kt (fun x : ByteArray => .string x) :=
  now_key hk (fun a b => by simp only [Instr.sameNow, bytes_beq_dec])
    (fun e k w => by
      show (Instr.checkKey e (9999 + 1) kt (.string k)).run P w = .ok () w
      unfold Instr.checkKey
      simp [run_underlying hk]) (fun k => by simp [Instr.sameBits, bytes_beq_dec])
theorem find_ask {κ : Type} [DecidableEq κ] {P : Program} {kt : TypeId} {kv : κ → Value} (he : ∀ a b w, (Op.equal kt (kv a) (kv b)).run P w = .ok (decide (a = b)) w) (k : κ) (w : World) :
    ∀ (es : List MapEntry) (l : List (κ × Value)) (i : Nat), es.map (fun e => (e.key, e.val)) = l.map (fun x => (kv x.1, x.2)) → (Instr.findAsking kt (kv k) es i).run P w = .ok (look k l i) w
  | [], [], _, _ => rfl
  | [], x :: l, _, h => by simp at h
  | e :: es, [], _, h => by simp at h
  | e :: es, x :: l, i, h => by
    rw [List.map_cons, List.map_cons, List.cons.injEq] at h
    obtain ⟨h1, h2⟩ := h
    simp at h1
    rw [Instr.findAsking, look]
    simp only [Sem.run_bind, h1.1, he, Result.andThen_ok]
    by_cases hk : k = x.1
    · rw [decide_eq_true hk, if_pos rfl, if_pos hk, h1.2]; rfl
    · rw [decide_eq_false hk, if_neg Bool.false_ne_true, if_neg hk]; exact find_ask he k w es l (i + 1) h2
theorem ask_key {κ : Type} [DecidableEq κ] {P : Program} {kt : TypeId} {kv : κ → Value} {d : TypeDesc} (hu : P.underlying kt = some d) (hs : ∀ a v, Instr.sameNow d (kv a) v = none) (he : ∀ a b w, (Op.equal kt (kv a) (kv b)).run P w = .ok (decide (a = b)) w)
    (hc : ∀ (e : Bool) (k : κ) (w : World), (Instr.checkKey e 10000 kt (kv k)).run P w = .ok () w) (hst : ∀ k, Instr.sameBits 10000 (kv k) (kv k) = true) : Key P kt kv :=
  ⟨hc, fun k es l w h => by
    cases es with
    | nil =>
      cases l with
      | nil => simp [Instr.findKey, run_underlying hu, Instr.findNow, look]
      | cons x l => simp at h
    | cons e es =>
      have h1 : Instr.findNow d (kv k) (e :: es) 0 = none := by rw [Instr.findNow, hs]
      simp only [Instr.findKey, Sem.run_bind, run_underlying hu, Result.andThen_ok, h1]
      exact find_ask he k w (e :: es) l 0 h, hst⟩
end Go.Proofs.Ytbmlfejlmedmgaa.KM
