/-
  strings.Join, strings.Trim, slices.Clone, slices.ContainsFunc, laid from the library's own contracts.
-/
import Derived.Shelf.Strings.OnBuilder
import Derived.Shelf.Strings.Trim
import Derived.Ground.Names2Prog
import Derived.Shelf.Slices.Clone
import Derived.Ground.SlgnProg
import Derived.Ground.SlgfProg
import Derived.Shelf.SlicesE.IndexFunc
import Derived.Test.YtllbphanfahkkaaGreatDoorProg
import Derived.Deep.Quiet
import Derived.Tactics
namespace Go.Proofs.YtllbphanfahkkaaGreatDoor
open Go.Shelf Go.RowKit
def SH.lays156_ren : Go.Shelf.Ren := ⟨fun | 156 => 155 | 165 => 177 | 166 => 42 | 169 => 44 | 240 => 88 | 241 => 194 | 276 => 134 | 277 => 200 | n => n, fun | 31 => 22 | 9 => 9 | 3 => 3 | 4 => 4 | 0 => 0 | 20 => 20 | 72 => 89 | 76 => 92 | 70 => 87 | 37 => 39 | 75 => 91 | 127 => 163 | 164 => 193 | 5 => 5 | 80 => 94 | n => n, fun | n => n⟩
theorem SH.lays156 : Go.Proofs.Lays.n156 Tryz.prog SH.lays156_ren := {
  mixed := by kernel_rfl
  f156 := Tryz.func155.trans (congrArg some (by kernel_rfl))
  f165 := Tryz.func177.trans (congrArg some (by kernel_rfl))
  f166 := Tryz.func42.trans (congrArg some (by kernel_rfl))
  f169 := Tryz.func44.trans (congrArg some (by kernel_rfl))
  f240 := Tryz.func88.trans (congrArg some (by kernel_rfl))
  f241 := Tryz.func194.trans (congrArg some (by kernel_rfl))
  f276 := Tryz.func134.trans (congrArg some (by kernel_rfl))
  f277 := Tryz.func200.trans (congrArg some (by kernel_rfl))
  t0 := Tryz.underlying0
  a0 := Tryz.isAgg0
  z0 := Tryz.sizeOf0
  v0 := Tryz.zeroValue0
  t3 := Tryz.underlying3
  a3 := Tryz.isAgg3
  z3 := Tryz.sizeOf3
  v3 := Tryz.zeroValue3
  t4 := Tryz.underlying4
  a4 := Tryz.isAgg4
  z4 := Tryz.sizeOf4
  v4 := Tryz.zeroValue4
  t9 := Tryz.underlying9
  a9 := Tryz.isAgg9
  z9 := Tryz.sizeOf9
  v9 := Tryz.zeroValue9
  t20 := Tryz.underlying20
  a20 := Tryz.isAgg20
  z20 := Tryz.sizeOf20
  v20 := Tryz.zeroValue20
  t31 := Tryz.underlying22
  a31 := Tryz.isAgg22
  z31 := Tryz.sizeOf22
  v31 := Tryz.zeroValue22
  t37 := Tryz.underlying39
  a37 := Tryz.isAgg39
  z37 := Tryz.sizeOf39
  v37 := Tryz.zeroValue39
  t70 := Tryz.underlying87
  a70 := Tryz.isAgg87
  z70 := Tryz.sizeOf87
  v70 := Tryz.zeroValue87
  t72 := Tryz.underlying89
  a72 := Tryz.isAgg89
  z72 := Tryz.sizeOf89
  v72 := Tryz.zeroValue89
  t75 := Tryz.underlying91
  a75 := Tryz.isAgg91
  z75 := Tryz.sizeOf91
  v75 := Tryz.zeroValue91
  t76 := Tryz.underlying92
  a76 := Tryz.isAgg92
  z76 := Tryz.sizeOf92
  v76 := Tryz.zeroValue92
  t127 := Tryz.underlying163
  a127 := Tryz.isAgg163
  z127 := Tryz.sizeOf163
  v127 := Tryz.zeroValue163
  t164 := Tryz.underlying193
  a164 := Tryz.isAgg193
  z164 := Tryz.sizeOf193
  v164 := Tryz.zeroValue193 }
theorem SH.Builder_Extra_156 : Go.Proofs.Builder.Extra Tryz.prog SH.lays156_ren := {
  sizeBuilder := by kernel_rfl
  liesBuilder := by kernel_rfl
  t5 := Tryz.underlying5
  a5 := Tryz.isAgg5
  z5 := Tryz.sizeOf5
  v5 := Tryz.zeroValue5
  infoByte := by kernel_rfl
  cellsByte := by kernel_rfl
  sizeByte := by kernel_rfl
  neB5 := by decide }
open Go.RowKit in
theorem SH.strings_Join_none (a : Option Addr) (c : Nat) (sep : ByteArray) (w : World) :
    Calls Tryz.prog 155 #[.slice a 0 c, .string sep] w fun e w' => e = .returned (.string ⟨#[]⟩) ∧ w' = w := Go.Proofs.Any.strings_Join_none SH.lays156 SH.Builder_Extra_156 a c sep w
open Go.RowKit in
theorem SH.strings_Join (bk o c : Nat) (xs : List ByteArray) (sep : ByteArray) (w : World) (hcells : ∀ (j : Nat) x, xs[j]? = some x → w.cell? ⟨bk, o + j, none⟩ = some (.string x)) (hbk : bk < w.heap.size) (hN : xs.length ≤ 140737488355328) (hcap : xs.length ≤ c) (hlen : (Lib.join (xs.map (·.data.toList)) sep.data.toList).length ≤ 140737488355328) :
    Calls Tryz.prog 155 #[.slice (some ⟨bk, o, none⟩) xs.length c, .string sep] w fun e w' => e = .returned (.string ⟨(Lib.join (xs.map (·.data.toList)) sep.data.toList).toArray⟩) ∧ Below w.heap.size w w' := Go.Proofs.Any.strings_Join SH.lays156 SH.Builder_Extra_156 bk o c xs sep w hcells hbk hN hcap hlen
def SH.lays160_ren : Go.Shelf.Ren := ⟨fun | 160 => 60 | 232 => 97 | 231 => 96 | 227 => 98 | 234 => 100 | 233 => 99 | 236 => 102 | 235 => 101 | 228 => 138 | 271 => 141 | 151 => 140 | 197 => 139 | 120 => 158 | 152 => 157 | 260 => 156 | 137 => 178 | 119 => 179 | 224 => 180 | 225 => 181 | 217 => 195 | 266 => 201 | n => n, fun | 9 => 9 | 4 => 4 | 3 => 3 | 5 => 5 | 117 => 170 | 116 => 169 | 0 => 0 | 124 => 173 | 21 => 21 | 105 => 199 | 46 => 123 | 119 => 248 | 139 => 251 | 138 => 250 | n => n, fun | 3 => 2 | 4 => 3 | n => n⟩
theorem SH.lays160 : Go.Proofs.Lays.n160 Tryz.prog SH.lays160_ren := {
  mixed := by kernel_rfl
  f119 := Tryz.func179.trans (congrArg some (by kernel_rfl))
  f120 := Tryz.func158.trans (congrArg some (by kernel_rfl))
  f137 := Tryz.func178.trans (congrArg some (by kernel_rfl))
  f151 := Tryz.func140.trans (congrArg some (by kernel_rfl))
  f152 := Tryz.func157.trans (congrArg some (by kernel_rfl))
  f160 := Tryz.func60.trans (congrArg some (by kernel_rfl))
  f197 := Tryz.func139.trans (congrArg some (by kernel_rfl))
  f217 := Tryz.func195.trans (congrArg some (by kernel_rfl))
  f224 := Tryz.func180.trans (congrArg some (by kernel_rfl))
  f225 := Tryz.func181.trans (congrArg some (by kernel_rfl))
  f227 := Tryz.func98.trans (congrArg some (by kernel_rfl))
  f228 := Tryz.func138.trans (congrArg some (by kernel_rfl))
  f231 := Tryz.func96.trans (congrArg some (by kernel_rfl))
  f232 := Tryz.func97.trans (congrArg some (by kernel_rfl))
  f233 := Tryz.func99.trans (congrArg some (by kernel_rfl))
  f234 := Tryz.func100.trans (congrArg some (by kernel_rfl))
  f235 := Tryz.func101.trans (congrArg some (by kernel_rfl))
  f236 := Tryz.func102.trans (congrArg some (by kernel_rfl))
  f260 := Tryz.func156.trans (congrArg some (by kernel_rfl))
  f266 := Tryz.func201.trans (congrArg some (by kernel_rfl))
  f271 := Tryz.func141.trans (congrArg some (by kernel_rfl))
  t0 := Tryz.underlying0
  a0 := Tryz.isAgg0
  z0 := Tryz.sizeOf0
  v0 := Tryz.zeroValue0
  t3 := Tryz.underlying3
  a3 := Tryz.isAgg3
  z3 := Tryz.sizeOf3
  v3 := Tryz.zeroValue3
  t4 := Tryz.underlying4
  a4 := Tryz.isAgg4
  z4 := Tryz.sizeOf4
  v4 := Tryz.zeroValue4
  t5 := Tryz.underlying5
  a5 := Tryz.isAgg5
  z5 := Tryz.sizeOf5
  v5 := Tryz.zeroValue5
  t9 := Tryz.underlying9
  a9 := Tryz.isAgg9
  z9 := Tryz.sizeOf9
  v9 := Tryz.zeroValue9
  t21 := Tryz.underlying21
  a21 := Tryz.isAgg21
  z21 := Tryz.sizeOf21
  v21 := Tryz.zeroValue21
  t46 := Tryz.underlying123
  a46 := Tryz.isAgg123
  z46 := Tryz.sizeOf123
  v46 := Tryz.zeroValue123
  t105 := Tryz.underlying199
  a105 := Tryz.isAgg199
  z105 := Tryz.sizeOf199
  v105 := Tryz.zeroValue199
  t116 := Tryz.underlying169
  a116 := Tryz.isAgg169
  z116 := Tryz.sizeOf169
  t117 := Tryz.underlying170
  a117 := Tryz.isAgg170
  z117 := Tryz.sizeOf170
  v117 := Tryz.zeroValue170
  t119 := Tryz.underlying248
  a119 := Tryz.isAgg248
  z119 := Tryz.sizeOf248
  t124 := Tryz.underlying173
  a124 := Tryz.isAgg173
  z124 := Tryz.sizeOf173
  v124 := Tryz.zeroValue173
  t138 := Tryz.underlying250
  a138 := Tryz.isAgg250
  z138 := Tryz.sizeOf250
  v138 := Tryz.zeroValue250
  t139 := Tryz.underlying251
  a139 := Tryz.isAgg251
  z139 := Tryz.sizeOf251
  v139 := Tryz.zeroValue251
  g3 := by kernel_rfl
  g4 := by kernel_rfl }
open Go.RowKit in
theorem SH.strings_Trim_one (s : ByteArray) (c : UInt8) (hc : c.toNat < 128) (w : World) (hs : s.size ≤ 9223372036854775807) :
    Calls Tryz.prog 60 #[.string s, .string ⟨#[c]⟩] w fun e w' => e = .returned (.string ⟨(Lib.trimB s.data.toList c).toArray⟩) ∧ (w' = w ∨ w' = w.drew) := Go.Proofs.Any.strings_Trim_one SH.lays160 s c hc w hs
def SH.laysNm216_ren : Go.Shelf.Ren := ⟨fun | 16 => 41 | n => n, fun | 24 => 22 | 9 => 9 | 4 => 4 | n => n, fun | n => n⟩
theorem SH.laysNm216 : Go.Proofs.Lays2.n16 Tryz.prog SH.laysNm216_ren := {
  mixed := by kernel_rfl
  f16 := Tryz.func41.trans (congrArg some (by kernel_rfl))
  t4 := Tryz.underlying4
  a4 := Tryz.isAgg4
  z4 := Tryz.sizeOf4
  v4 := Tryz.zeroValue4
  t9 := Tryz.underlying9
  a9 := Tryz.isAgg9
  z9 := Tryz.sizeOf9
  v9 := Tryz.zeroValue9
  t24 := Tryz.underlying22
  a24 := Tryz.isAgg22
  z24 := Tryz.sizeOf22
  v24 := Tryz.zeroValue22
  i9 := by kernel_rfl }
open Go.RowKit Go.Lib in
theorem SH.slices_Clone_string (b off n c : Nat) (zs : List ByteArray) (w : World) (hz : n ≤ zs.length) (hbig : n * 16 ≤ 140737488355328) (hc : ∀ j, j < zs.length → w.cell? ⟨b, off + j, none⟩ = some (.string (zs.getD j ByteArray.empty))) :
    Calls Tryz.prog 41 #[.slice (some ⟨b, off, none⟩) n c] w fun e w' => ∃ v', e = .returned v' ∧ w'.ownsRow w.heap.size 9 1 v' n ((zs.take n).map (Value.string)) ∧ v' ≠ .slice none 0 0 ∧ Below w.heap.size w w' := Go.Proofs.Any.slices_Clone_string SH.laysNm216 b off n c zs w hz hbig hc
open Go.RowKit Go.Lib in
theorem SH.slices_Clone_string_nil (n c : Nat) (w : World) :
    Calls Tryz.prog 41 #[.slice none n c] w fun e w' => e = .returned (.slice none 0 0) ∧ w' = w := Go.Proofs.Any.slices_Clone_string_nil SH.laysNm216 n c w
open Go.RowKit Go.Lib in
theorem SH.slices_Clone_string_zero (a : Addr) (c : Nat) (w : World) :
    Calls Tryz.prog 41 #[.slice (some a) 0 c] w fun e w' => ∃ v', e = .returned v' ∧ w'.ownsRow w.heap.size 9 1 v' 0 [] ∧ v' ≠ .slice none 0 0 ∧ Below w.heap.size w w' := Go.Proofs.Any.slices_Clone_string_zero SH.laysNm216 a c w
def SH.laysSlH8_f29_ren : Go.Shelf.Ren := ⟨fun | 8 => 40 | 6 => 87 | n => n, fun | 22 => 22 | 23 => 9 | 25 => 81 | 4 => 4 | 3 => 3 | 0 => 0 | n => n, fun | n => n⟩
theorem SH.laysSlH8_f29 : Go.Proofs.SlLaysH.n8 Tryz.prog SH.laysSlH8_f29_ren := {
  mixed := by kernel_rfl
  f6 := ⟨Tryz.f87.name, by decide, Tryz.func87.trans (congrArg some (by kernel_rfl))⟩
  f8 := ⟨Tryz.f40.name, by decide, Tryz.func40.trans (congrArg some (by kernel_rfl))⟩
  t0 := Tryz.underlying0
  a0 := Tryz.isAgg0
  z0 := Tryz.sizeOf0
  v0 := Tryz.zeroValue0
  t3 := Tryz.underlying3
  a3 := Tryz.isAgg3
  z3 := Tryz.sizeOf3
  v3 := Tryz.zeroValue3
  t4 := Tryz.underlying4
  a4 := Tryz.isAgg4
  z4 := Tryz.sizeOf4
  v4 := Tryz.zeroValue4
  t22 := Tryz.underlying22
  a22 := Tryz.isAgg22
  z22 := Tryz.sizeOf22
  v22 := Tryz.zeroValue22
  a23 := Tryz.isAgg9
  z23 := Tryz.sizeOf9
  t25 := Tryz.underlying81
  a25 := Tryz.isAgg81
  z25 := Tryz.sizeOf81
  v25 := Tryz.zeroValue81 }
open Go.RowKit Go.Lib in
theorem SH.slices_ContainsFunc {α : Type} [Inhabited α] (enc : α → Value) (p : α → Bool) (g : Nat) (lb : Array Value) (eg : ∀ args w, (callFunc g args).run Tryz.prog w = .ok (.enter g args) w) (b off n c : Nat) (zs : List α) (w : World) (hp : PredAt Tryz.prog g lb enc p w) (hz : n ≤ zs.length) (hbig : n ≤ 9223372036854775807) (hc : ∀ j, j < zs.length → w.cell? ⟨b, off + j, none⟩ = some (enc zs[j]!)) :
    Calls Tryz.prog 40 #[.slice (some ⟨b, off, none⟩) n c, .func (.func g) #[] lb] w fun e w' => e = .returned (.bool ((zs.take n).any p)) ∧ ∃ q, w' = w.drewN q := Go.Proofs.AnyE.slices_ContainsFunc SH.laysSlH8_f29 enc p g lb eg b off n c zs w hp hz hbig hc
open Go.RowKit Go.Lib in
theorem SH.slices_ContainsFunc_empty {α : Type} [Inhabited α] (a : Option Addr) (c : Nat) (fv : Value) (w : World) :
    Calls Tryz.prog 40 #[.slice a 0 c, fv] w fun e w' => e = .returned (.bool false) ∧ w' = w := Go.Proofs.AnyE.slices_ContainsFunc_empty SH.laysSlH8_f29 a c fv w
end Go.Proofs.YtllbphanfahkkaaGreatDoor

/-
  Regions that draw their order, walked once in the order of the text, where some operations (a chain that the region's edges force) change the memory: no condition beyond each theorem's own premises.
-/
namespace Go.Proofs.YtllbphanfahkkaaGreatDoor.RG
open Go
variable {P : Program} {ops : Array Oper}
/-- what an operation that has run must leave: the value v, and a world of D -/
def CUp (P : Program) (D : World → Prop) (v : Value) : Result Next → Prop
  | .ok (.value u) w' => u = v ∧ D w'
  | .ok .skip w' => undef = v ∧ D w'
  | .ok (.enter f args) w' => Calls P f args w' fun e w'' => e = .returned v ∧ D w''
  | _ => False
theorem CUp_value {D : World → Prop} {v u : Value} {w : World} : CUp P D v (.ok (.value u) w) = (u = v ∧ D w) := rfl
theorem CUp_skip {D : World → Prop} {v : Value} {w : World} : CUp P D v (.ok .skip w) = (undef = v ∧ D w) := rfl
theorem CUp_enter {D : World → Prop} {v : Value} {w : World} {f : FuncId} {args : Array Value} : CUp P D v (.ok (.enter f args) w) = Calls P f args w (fun e w'' => e = .returned v ∧ D w'') := rfl
abbrev rdy (ops : Array Oper) (l : Array Bool) (i : Nat) : Prop := i ∈ Region.ready .any ops l
/-- wherever it may come up, operation i yields v, and the class goes on -/
def OpC (P : Program) (ops : Array Oper) (C : Array Bool → World → Prop) (i : Nat) (o : Oper) (a : Act) (v : Value) : Prop :=
  ∀ l w, rdy ops l i → C l w → CUp P (C (l.setIfInBounds i true)) v ((execOp a.eval o).run P w)
def SkC (ops : Array Oper) (C : Array Bool → World → Prop) (i : Nat) : Prop := ∀ l w, rdy ops l i → C l w → C (l.setIfInBounds i true) w
def YC (P : Program) (ops : Array Oper) (C : Array Bool → World → Prop) (i : Nat) (o : Oper) (v : Value) (a : Act) : Prop :=
  (Region.wanted o (yielded ops a.tmps) = true ∧ OpC P ops C i o a v) ∨ (Region.wanted o (yielded ops a.tmps) = false ∧ v = undef ∧ SkC ops C i)
/-- one operation -/
def cOp (P : Program) (ops : Array Oper) (C : Array Bool → World → Prop) (i : Nat) (K : Act → Prop) (a : Act) : Prop :=
  ∃ o v, ops[i]? = some o ∧ YC P ops C i o v a ∧ K (a.put o.dst v)
theorem cOp_mono {C : Array Bool → World → Prop} {i : Nat} {a : Act} {K K' : Act → Prop} (h : ∀ a, K a → K' a) (hh : cOp P ops C i K a) : cOp P ops C i K' a := by
  obtain ⟨o, v, h1, h2, h3⟩ := hh
  exact ⟨o, v, h1, h2, h _ h3⟩
def wpAnyC (P : Program) (ops : Array Oper) (C : Array Bool → World → Prop) (Q : Act → Prop) : Nat → Array Bool → Act → Prop
  | 0, l, a => Region.ready .any ops l = [] ∧ Q a
  | n + 1, l, a => (Region.ready .any ops l = [] → Q a) ∧ ∀ i ∈ Region.ready .any ops l, cOp P ops C i (wpAnyC P ops C Q n (l.setIfInBounds i true)) a
theorem wpAny_of_C {C : Array Bool → World → Prop} {Q : Act → Prop} {Q' : Exit → Act → World → Prop} (hQ : ∀ a l w, Region.ready .any ops l = [] → C l w → Q a → Q' .normal a w) :
    ∀ (n : Nat) (l : Array Bool) (a : Act) (w : World), C l w → wpAnyC P ops C Q n l a → wpAny P .any ops Q' n l a w
  | 0, _, _, _, hw, h => ⟨h.1, hQ _ _ _ h.1 hw h.2⟩
  | n + 1, l, a, w, hw, h => by
    refine ⟨fun h0 => hQ _ _ _ h0 hw (h.1 h0), fun i hi => ?_⟩
    obtain ⟨o, v, ho, hy, hk⟩ := h.2 i hi
    unfold wpOp
    simp only [ho]
    rcases hy with ⟨h1, h2⟩ | ⟨h1, rfl, h2⟩
    · rw [if_pos h1]
      refine .inl ?_
      have h3 := h2 l w hi hw
      unfold Oper.wp
      generalize (execOp a.eval o).run P w = r at *
      cases r with
      | ok n' w' =>
        cases n' <;> simp only [CUp] at h3 <;> simp only [Oper.upon]
        case value u => obtain ⟨rfl, h4⟩ := h3; exact wpAny_of_C hQ n _ _ _ h4 hk
        case skip => obtain ⟨h5, h4⟩ := h3; rw [h5]; exact wpAny_of_C hQ n _ _ _ h4 hk
        case enter f args => exact Calls.mono h3 fun e w'' ⟨he, h4⟩ => by subst he; exact wpAny_of_C hQ n _ _ _ h4 hk
      | halt x w' => simp only [CUp] at h3
    · rw [if_neg (by rw [h1]; simp)]
      exact wpAny_of_C hQ n _ _ _ (h2 l w hi hw) hk
theorem YC.of_same {C : Array Bool → World → Prop} {i : Nat} {o : Oper} {v : Value} {a a' : Act} (hy : YC P ops C i o v a) (he : execOp a'.eval o = execOp a.eval o)
    (hw : Region.wanted o (yielded ops a'.tmps) = Region.wanted o (yielded ops a.tmps)) : YC P ops C i o v a' := by
  unfold YC OpC at *
  rw [he, hw]
  exact hy
theorem cOp_put {C : Array Bool → World → Prop} {i j : Nat} {oi oj : Oper} {v : Value} (hj : ops[j]? = some oj) (hap : oi.apart ops oj = true)
    (hsi : ∀ cs b, oi.op ≠ .select cs b) (hsj : ∀ cs b, oj.op ≠ .select cs b) {K : Act → Prop} {a : Act}
    (hy : YC P ops C i oi v a) (h : cOp P ops C j K (a.put oi.dst v)) : cOp P ops C j (fun a' => YC P ops C i oi v a' ∧ K (a'.put oi.dst v)) a := by
  obtain ⟨h1, h2, h3⟩ := Oper.apart_spec hap
  obtain ⟨o, u, ho, hyj, hk⟩ := h
  obtain rfl : o = oj := Option.some.inj (ho.symm.trans hj)
  refine ⟨o, u, ho, hyj.of_same (execOp_put o hsj a oi.dst v h1).symm (wanted_put o a oi.dst v h1).symm, ?_, ?_⟩
  · exact hy.of_same (execOp_put oi hsi a o.dst u h3) (wanted_put oi a o.dst u h3)
  · rw [← Act.put_comm a v u h2]; exact hk
theorem wpAnyC_first {C : Array Bool → World → Prop} {Q : Act → Prop} {i : Nat} {oi : Oper} {v : Value} (hi : ops[i]? = some oi) (hsel : ∀ (j : Nat) (o : Oper) cs b, ops[j]? = some o → o.op ≠ .select cs b) :
    ∀ (n : Nat) (l : Array Bool) (a : Act),
      (∀ j oj, ops[j]? = some oj → j ≠ i → l.getD j true = false → (∀ e ∈ oj.after, Region.binds .any e = true → e.on ≠ i) → oi.apart ops oj = true) →
      i ∈ Region.ready .any ops l → YC P ops C i oi v a →
      wpAnyC P ops C Q n (l.setIfInBounds i true) (a.put oi.dst v) → wpAnyC P ops C Q (n + 1) l a := by
  intro n
  induction n with
  | zero =>
    intro l a _ hr hy H
    refine ⟨fun h => (by rw [h] at hr; cases hr), fun j hj => ?_⟩
    by_cases hji : j = i
    · subst hji; exact ⟨oi, v, hi, hy, H⟩
    · have := ready_mono hj hji
      rw [H.1] at this
      cases this
  | succ n ih =>
    intro l a hfree hr hy H
    refine ⟨fun h => (by rw [h] at hr; cases hr), fun j hj => ?_⟩
    by_cases hji : j = i
    · subst hji; exact ⟨oi, v, hi, hy, H⟩
    · have h1 := H.2 j (ready_mono hj hji)
      obtain ⟨hjun, oj, hoj, hall⟩ := mem_ready.1 hj
      have hnot : ∀ e ∈ oj.after, Region.binds .any e = true → e.on ≠ i := fun e he hb heq => by
        have h1 := hall e he hb
        have h0 := (mem_ready.1 hr).1
        rw [heq] at h1
        rcases Nat.lt_or_ge i l.size with h' | h'
        · simp [h'] at h0 h1; rw [h0] at h1; cases h1
        · simp [Array.getElem?_eq_none h'] at h1
      have h2 := cOp_put hoj (hfree j oj hoj hji hjun hnot) (fun cs b => hsel i oi cs b hi) (fun cs b => hsel j oj cs b hoj) hy h1
      have hfree' : ∀ k ok, ops[k]? = some ok → k ≠ i → (l.setIfInBounds j true).getD k true = false →
          (∀ e ∈ ok.after, Region.binds .any e = true → e.on ≠ i) → oi.apart ops ok = true := fun k ok hk hki hun hno => by
        refine hfree k ok hk hki ?_ hno
        by_cases hjk : j = k
        · subst hjk; exact hjun
        · rw [getD_set_ne true hjk] at hun; exact hun
      refine cOp_mono (fun a' h3 => ih (l.setIfInBounds j true) a' hfree' (ready_mono hr (Ne.symm hji)) h3.1 ?_) h2
      rw [Array.setIfInBounds_comm _ _ hji]
      exact h3.2
/-- the walk in the order of the text, from operation i on -/
def wpC (P : Program) (ops : Array Oper) (C : Array Bool → World → Prop) (Q : Act → Prop) : Nat → List Oper → Act → Prop
  | _, [], a => Q a
  | i, o :: rest, a => ∃ v, YC P ops C i o v a ∧ wpC P ops C Q (i + 1) rest (a.put o.dst v)
theorem wpAnyC_lex {C : Array Bool → World → Prop} {Q : Act → Prop} (hs : Region.noSelect ops = true) : ∀ (l : List Oper) (k : Nat) (listed : Array Bool) (a : Act), (∀ j, l[j]? = ops[k + j]?) →
    Region.lexFrom .any ops l.length k listed = true → wpC P ops C Q k l a → wpAnyC P ops C Q l.length listed a
  | [], _, _, _, _, hB, h => ⟨by simpa [Region.lexFrom] using hB, h⟩
  | o :: l, k, listed, a, hl, hB, h => by
    have h0 : ops[k]? = some o := by simpa using (hl 0).symm
    simp only [List.length_cons, Region.lexFrom, Bool.and_eq_true] at hB
    obtain ⟨⟨hr, hf⟩, hB'⟩ := hB
    obtain ⟨v, hy, hK⟩ := h
    exact wpAnyC_first h0 (Region.noSelect_spec hs) l.length listed a (Region.free_spec h0 hf) (by simpa using hr) hy
      (wpAnyC_lex hs l (k + 1) _ _ (fun j => by have := hl (j + 1); simpa [Nat.add_assoc, Nat.add_comm 1 j] using this) hB' hK)
/-! the stages -/
/-- whatever is listed, what it waits for is listed -/
def Shut (ops : Array Oper) (l : Array Bool) : Prop := l.size = ops.size ∧ ∀ i o, ops[i]? = some o → l.getD i false = true → ∀ e ∈ o.after, Region.binds .any e = true → l.getD e.on false = true
theorem getD_false_of {l : Array Bool} {i : Nat} (hlt : i < l.size) (h : l.getD i true = false) : l.getD i false = false := by simp [hlt] at h ⊢; exact h
theorem Shut.set {l : Array Bool} {i : Nat} (h : Shut ops l) (hr : rdy ops l i) : Shut ops (l.setIfInBounds i true) := by
  refine ⟨by simp [h.1], fun k o ho hk e he hb => ?_⟩
  obtain ⟨h0, oi, hoi, hall⟩ := mem_ready.1 hr
  by_cases hki : i = k
  · subst hki
    obtain rfl : o = oi := Option.some.inj (ho.symm.trans hoi)
    exact getD_set_true (hall e he hb)
  · rw [getD_set_ne false hki] at hk
    exact getD_set_true (h.2 k o ho hk e he hb)
/-- the ancestors of a set, below k -/
def anc (ops : Array Oper) : Nat → List Nat → List Nat
  | 0, S => S
  | k + 1, S => if S.any (fun m => ((ops[m]?).map (fun o => o.after.any fun e => Region.binds .any e && e.on == k)).getD false) then anc ops k (k :: S) else anc ops k S
theorem anc_listed {l : Array Bool} (h : Shut ops l) : ∀ (n : Nat) (S : List Nat), (∀ m ∈ S, l.getD m false = true) → ∀ m ∈ anc ops n S, l.getD m false = true
  | 0, S, hS => hS
  | k + 1, S, hS => by
    unfold anc
    split
    · rename_i hc
      refine anc_listed h k (k :: S) fun m hm => ?_
      rcases List.mem_cons.1 hm with rfl | hm
      · obtain ⟨m', hm', he⟩ := List.any_eq_true.1 hc
        cases ho : ops[m']? with
        | none => simp [ho] at he
        | some o =>
          simp only [ho, Option.map_some, Option.getD_some] at he
          obtain ⟨e, hem, hb⟩ := Array.any_eq_true'.1 he
          simp only [Bool.and_eq_true, beq_iff_eq] at hb
          rw [← hb.2]
          exact h.2 m' o ho (hS m' hm') e hem hb.1
      · exact hS m hm
    · exact anc_listed h k S hS
/-- does i wait for k by an edge of its own? -/
def dirB (ops : Array Oper) (k i : Nat) : Bool := ((ops[i]?).map (fun o => o.after.any fun e => Region.binds .any e && e.on == k)).getD false
/-- is k an ancestor of i? -/
def isAnc (ops : Array Oper) (k i : Nat) : Bool := dirB ops k i || (anc ops i [i]).contains k
theorem isAnc_listed {l : Array Bool} (h : Shut ops l) {k i : Nat} (ha : isAnc ops k i = true) (hi : l.getD i false = true) : l.getD k false = true := by
  rcases Bool.or_eq_true _ _ |>.mp ha with ha | ha
  · unfold dirB at ha
    cases ho : ops[i]? with
    | none => simp [ho] at ha
    | some o =>
      simp only [ho, Option.map_some, Option.getD_some] at ha
      obtain ⟨e, hem, hb⟩ := Array.any_eq_true'.1 ha
      simp only [Bool.and_eq_true, beq_iff_eq] at hb
      rw [← hb.2]
      exact h.2 i o ho hi e hem hb.1
  · exact anc_listed h i [i] (by simpa using hi) k (by simpa using ha)
theorem isAnc_ready {l : Array Bool} (h : Shut ops l) {k i : Nat} (ha : isAnc ops k i = true) (hki : k ≠ i) (hr : rdy ops l i) : l.getD k false = true := by
  have h1 := isAnc_listed (h.set hr) ha (by
    have := h.1
    obtain ⟨_, o, ho, _⟩ := mem_ready.1 hr
    have hlt := (Array.getElem?_eq_some_iff.1 ho).1
    simp [show i < l.size by omega])
  rwa [getD_set_ne false (Ne.symm hki)] at h1
/-- the class: so many of the chain have come up, and the world is of that stage -/
def CS (ops : Array Oper) (S : Nat → World → Prop) (ks : List Nat) (l : Array Bool) (w : World) : Prop :=
  Shut ops l ∧ ∃ j, j ≤ ks.length ∧ S j w ∧ ∀ (s k : Nat), ks[s]? = some k → (l.getD k false = true ↔ s < j)
/-- each of the chain waits for the one before -/
def chainB (ops : Array Oper) : List Nat → Bool
  | a :: b :: rest => isAnc ops a b && a != b && chainB ops (b :: rest)
  | _ => true
theorem chainB_get : ∀ (ks : List Nat), chainB ops ks = true → ∀ (s a b : Nat), ks[s]? = some a → ks[s + 1]? = some b → isAnc ops a b = true ∧ a ≠ b
  | [], _, s, a, b, h1, _ => by simp at h1
  | [x], _, s, a, b, _, h2 => by simp at h2
  | x :: y :: rest, h, s, a, b, h1, h2 => by
    simp only [chainB, Bool.and_eq_true, bne_iff_ne] at h
    cases s with
    | zero => simp at h1 h2; subst h1 h2; exact h.1
    | succ s => exact chainB_get (y :: rest) h.2 s a b (by simpa using h1) (by simpa using h2)
theorem listed_not_ready {l : Array Bool} {i : Nat} (hr : rdy ops l i) (hs : l.size = ops.size) : l.getD i false = false := by
  obtain ⟨h0, o, ho, _⟩ := mem_ready.1 hr
  exact getD_false_of (by rw [hs]; exact (Array.getElem?_eq_some_iff.1 ho).1) h0
variable {S : Nat → World → Prop} {ks : List Nat}
theorem CS.keep {l : Array Bool} {i j : Nat} {w : World} (hsh : Shut ops l) (hr : rdy ops l i) (hi : i ∉ ks) (hj : j ≤ ks.length) (hS : S j w) (hl : ∀ (s k : Nat), ks[s]? = some k → (l.getD k false = true ↔ s < j)) : CS ops S ks (l.setIfInBounds i true) w :=
  ⟨hsh.set hr, j, hj, hS, fun s k hk => by rw [getD_set_ne false (fun e => hi (by subst e; exact List.mem_of_getElem? hk))]; exact hl s k hk⟩
theorem CS.next {l : Array Bool} {i s : Nat} {w : World} (hsh : Shut ops l) (hr : rdy ops l i) (hi : ks[s]? = some i) (hnd : ks.Nodup) (hS : S (s + 1) w) (hl : ∀ (s' k : Nat), ks[s']? = some k → (l.getD k false = true ↔ s' < s)) : CS ops S ks (l.setIfInBounds i true) w := by
  refine ⟨hsh.set hr, s + 1, (List.getElem?_eq_some_iff.1 hi).1, hS, fun s' k hk => ?_⟩
  have hlt : i < l.size := by
    obtain ⟨_, o, ho, _⟩ := mem_ready.1 hr
    rw [hsh.1]; exact (Array.getElem?_eq_some_iff.1 ho).1
  by_cases hik : i = k
  · subst hik
    have : s = s' := (List.getElem?_inj (List.getElem?_eq_some_iff.1 hi).1 hnd).1 (hi.trans hk.symm)
    subst this
    simp [hlt]
  · rw [getD_set_ne false hik, hl s' k hk]
    have : s' ≠ s := fun e => hik (by subst e; exact Option.some.inj (hi.symm.trans hk))
    omega
/-- what the stage is when operation i comes up -/
def loOf (ops : Array Oper) (ks : List Nat) (i : Nat) : Nat := (ks.filter fun k => isAnc ops k i && k != i).length
theorem stage_bounds {l : Array Bool} {i j : Nat} (hsh : Shut ops l) (hr : rdy ops l i) (hl : ∀ (s k : Nat), ks[s]? = some k → (l.getD k false = true ↔ s < j)) :
    (∀ s k, ks[s]? = some k → isAnc ops k i = true → k ≠ i → s < j) ∧ (∀ s k, ks[s]? = some k → isAnc ops i k = true → j ≤ s) :=
  ⟨fun s k hk ha hne => (hl s k hk).1 (isAnc_ready hsh ha hne hr), fun s k hk ha => by
    rcases Nat.lt_or_ge s j with h | h
    · have h1 := isAnc_listed hsh ha ((hl s k hk).2 h)
      rw [listed_not_ready hr hsh.1] at h1
      cases h1
    · exact h⟩
/-- what an operation under the guard p leaves -/
def gd (p : Bool) (v : Value) : Value := if p = true then v else undef
theorem gd_pos {p : Bool} {v : Value} (h : p = true) : gd p v = v := if_pos h
section
variable {Q : Act → Prop} {i : Nat} {o : Oper} {rest : List Oper} {a : Act}
theorem st_skip (hw : Region.wanted o (yielded ops a.tmps) = false) (hi : ks.contains i = false) (h : wpC P ops (CS ops S ks) Q (i + 1) rest (a.put o.dst undef)) : wpC P ops (CS ops S ks) Q i (o :: rest) a :=
  ⟨undef, .inr ⟨hw, rfl, fun _ _ hr ⟨hsh, _, hj, hS, hl⟩ => CS.keep hsh hr (by simpa using hi) hj hS hl⟩, h⟩
theorem st_val (v : Value) (hw : Region.wanted o (yielded ops a.tmps) = true) (hi : ks.contains i = false) (hv : ∀ w, (execOp a.eval o).run P w = .ok (.value v) w) (h : wpC P ops (CS ops S ks) Q (i + 1) rest (a.put o.dst v)) : wpC P ops (CS ops S ks) Q i (o :: rest) a :=
  ⟨v, .inl ⟨hw, fun _ w hr ⟨hsh, _, hj, hS, hl⟩ => by rw [hv w]; exact ⟨rfl, CS.keep hsh hr (by simpa using hi) hj hS hl⟩⟩, h⟩
theorem CUp.mono {D D' : World → Prop} {v : Value} {r : Result Next} (h : ∀ w, D w → D' w) (hh : CUp P D v r) : CUp P D' v r := by
  cases r with
  | ok n w' =>
    cases n <;> simp only [CUp] at hh ⊢
    case value u => exact ⟨hh.1, h _ hh.2⟩
    case skip => exact ⟨hh.1, h _ hh.2⟩
    case enter f args => exact Calls.mono hh fun e w'' ⟨he, h4⟩ => ⟨he, h _ h4⟩
  | halt x w' => simp only [CUp] at hh
/-- an operation that keeps the stage, whatever the stage is -/
theorem st_op (v : Value) (hw : Region.wanted o (yielded ops a.tmps) = true) (hi : ks.contains i = false) (hv : ∀ j w, j ≤ ks.length → S j w → CUp P (S j) v ((execOp a.eval o).run P w)) (h : wpC P ops (CS ops S ks) Q (i + 1) rest (a.put o.dst v)) : wpC P ops (CS ops S ks) Q i (o :: rest) a :=
  ⟨v, .inl ⟨hw, fun _ w hr ⟨hsh, j, hj, hS, hl⟩ => (hv j w hj hS).mono fun w' hS' => CS.keep hsh hr (by simpa using hi) hj hS' hl⟩, h⟩
/-- an operation under a guard whose value is a letter -/
theorem st_if (p : Bool) (v : Value) (hw : Region.wanted o (yielded ops a.tmps) = p) (hi : ks.contains i = false) (hv : p = true → ∀ j w, j ≤ ks.length → S j w → CUp P (S j) v ((execOp a.eval o).run P w))
    (h : wpC P ops (CS ops S ks) Q (i + 1) rest (a.put o.dst (gd p v))) : wpC P ops (CS ops S ks) Q i (o :: rest) a := by
  cases p with
  | false => exact st_skip hw hi h
  | true => exact st_op v hw hi (hv rfl) h
/-- the same, the stage bounded: lo of the chain are ahead of it, from hi on they are behind it -/
theorem st_op_in (lo hi : Nat) (v : Value) (hw : Region.wanted o (yielded ops a.tmps) = true) (hin : ks.contains i = false)
    (hlo : (lo = 0 ∨ ((ks[lo - 1]?).map fun k => isAnc ops k i).getD false = true)) (hhi : (ks.length ≤ hi ∨ ((ks[hi]?).map fun k => isAnc ops i k).getD false = true))
    (hv : ∀ j w, lo ≤ j → j ≤ hi → S j w → CUp P (S j) v ((execOp a.eval o).run P w)) (h : wpC P ops (CS ops S ks) Q (i + 1) rest (a.put o.dst v)) : wpC P ops (CS ops S ks) Q i (o :: rest) a := by
  refine ⟨v, .inl ⟨hw, fun l w hr ⟨hsh, j, hj, hS, hl⟩ => (hv j w ?_ ?_ hS).mono fun w' hS' => CS.keep hsh hr (by simpa using hin) hj hS' hl⟩, h⟩
  · rcases hlo with h0 | h0
    · omega
    · cases hk : ks[lo - 1]? with
      | none => simp [hk] at h0
      | some k =>
        simp only [hk, Option.map_some, Option.getD_some] at h0
        have := (stage_bounds hsh hr hl).1 (lo - 1) k hk h0 (fun e => by subst e; have := List.mem_of_getElem? hk; simp [this] at hin)
        omega
  · rcases hhi with h0 | h0
    · omega
    · cases hk : ks[hi]? with
      | none => simp [hk] at h0
      | some k =>
        simp only [hk, Option.map_some, Option.getD_some] at h0
        exact (stage_bounds hsh hr hl).2 hi k hk h0
/-- the chain's next -/
theorem st_step (s : Nat) (v : Value) (hw : Region.wanted o (yielded ops a.tmps) = true) (hi : ks[s]? = some i) (hc : chainB ops ks = true ∧ ks.Nodup) (hv : ∀ w, S s w → CUp P (S (s + 1)) v ((execOp a.eval o).run P w)) (h : wpC P ops (CS ops S ks) Q (i + 1) rest (a.put o.dst v)) : wpC P ops (CS ops S ks) Q i (o :: rest) a := by
  refine ⟨v, .inl ⟨hw, fun l w hr ⟨hsh, j, hj, hS, hl⟩ => ?_⟩, h⟩
  have hnl := listed_not_ready hr hsh.1
  have h1 : j ≤ s := by
    rcases Nat.lt_or_ge s j with h' | h'
    · rw [(hl s i hi).2 h'] at hnl; cases hnl
    · exact h'
  have h2 : s ≤ j := by
    cases s with
    | zero => omega
    | succ s =>
      have hlt := (List.getElem?_eq_some_iff.1 hi).1
      obtain ⟨h3, h4⟩ := chainB_get ks hc.1 s _ i (List.getElem?_eq_getElem (by omega)) hi
      exact (hl s _ (List.getElem?_eq_getElem (by omega))).1 (isAnc_ready hsh h3 h4 hr)
  obtain rfl : j = s := by omega
  exact (hv w hS).mono fun w' hS' => CS.next hsh hr hi hc.2 hS' hl
theorem st_nil (h : Q a) : wpC P ops (CS ops S ks) Q i [] a := h
end
theorem rep_false (n m : Nat) : (Array.replicate n false).getD m false = false := by
  rw [Array.getD_eq_getD_getElem?, Array.getElem?_replicate]
  split <;> rfl
theorem all_listed (hB : Region.lexB .any ops = true) {l : Array Bool} (hs : l.size = ops.size) (hr : Region.ready .any ops l = []) : ∀ k, k < ops.size → l.getD k false = true := by
  have hlex : ∀ (n k : Nat) (x : Array Bool), Region.lexFrom .any ops n k x = true → (∀ m, k ≤ m → x.getD m false = false) → ∀ m, k ≤ m → m < k + n → ∀ o, ops[m]? = some o → ∀ e ∈ o.after, Region.binds .any e = true → e.on < m := by
    intro n
    induction n with
    | zero => intro k x _ _ m h1 h2; omega
    | succ n ih =>
      intro k x h hx m h1 h2 o ho e he hb
      simp only [Region.lexFrom, Bool.and_eq_true] at h
      obtain ⟨⟨hr, _⟩, h'⟩ := h
      by_cases hm : m = k
      · subst hm
        obtain ⟨_, o', ho', hall⟩ := mem_ready.1 (by simpa using hr)
        obtain rfl : o = o' := Option.some.inj (ho.symm.trans ho')
        have := hall e he hb
        rcases Nat.lt_or_ge e.on m with h3 | h3
        · exact h3
        · rw [hx _ h3] at this; cases this
      · exact ih (k + 1) _ h' (fun m' hm' => by rw [getD_set_ne false (by omega)]; exact hx m' (by omega)) m (by omega) (by omega) o ho e he hb
  have hB' := hB
  simp only [Region.lexB, Bool.and_eq_true] at hB'
  intro k
  induction k using Nat.strongRecOn with
  | ind k ih =>
    intro hk
    cases hc : l.getD k false with
    | true => rfl
    | false =>
      have : rdy ops l k := by
        rw [rdy, mem_ready]
        refine ⟨by simp [show k < l.size by omega] at hc ⊢; exact hc, ops[k], Array.getElem?_eq_getElem hk, fun e he hb => ?_⟩
        have hlt := hlex ops.size 0 _ hB'.2 (fun m _ => rep_false _ m) k (by omega) (by omega) _ (Array.getElem?_eq_getElem hk) e he hb
        exact ih e.on hlt (by omega)
      rw [rdy, hr] at this
      cases this
/-- a region that draws its order, walked once in the order of the text, by stages -/
theorem wp_region_staged {id : Nat} {Q : Exit → Act → World → Prop} {a : Act} {w : World} {L : List Oper} (S : Nat → World → Prop) (ks : List Nat) (hm : P.follows .mixedOrders = true) (hB : Region.lexB .any L.toArray = true)
    (hks : ks.all (fun k => decide (k < L.length)) = true) (hS : S 0 w.drew)
    (h : wpC P L.toArray (CS L.toArray S ks) (fun a' => ∀ w', S ks.length w' → Q .normal a' w') 0 L a) : (Code.region id L.toArray true).wp P Q a w := by
  have hB' := hB
  simp only [Region.lexB, Bool.and_eq_true] at hB'
  refine wp_region_any hm (wpAny_of_C (C := CS L.toArray S ks) (Q := fun a' => ∀ w', S ks.length w' → Q .normal a' w') ?_ _ _ _ _ ?_ ?_)
  · intro a l w' hr ⟨hsh, j, hj, hS', hl⟩ hq
    refine hq w' ?_
    suffices j = ks.length by rw [← this]; exact hS'
    rcases Nat.lt_or_ge j ks.length with hlt | hge
    · exfalso
      have h1 := hl j _ (List.getElem?_eq_getElem hlt)
      have h2 := List.all_eq_true.1 hks ks[j] (List.getElem_mem hlt)
      have h3 := all_listed hB hsh.1 hr ks[j] (by simpa using h2)
      have := h1.1 h3
      omega
    · omega
  · refine ⟨⟨by simp, fun i o ho hi => by rw [rep_false] at hi; cases hi⟩, 0, by omega, hS, fun s k hk => by rw [rep_false]; simp⟩
  · have := wpAnyC_lex (P := P) (C := CS L.toArray S ks) (Q := fun a' => ∀ w', S ks.length w' → Q .normal a' w') hB'.1 L 0 (Array.replicate L.length false) a (by simp) (by simpa using hB'.2) h
    simpa using this
/-! regions whose order is fixed: one step an operation; an operation under a guard whose value is a letter does not part the walk -/
section
variable {Q : Exit → Act → World → Prop} {o : Oper} {rest : List Oper} {a : Act} {w : World}
theorem ln_reg {id : Nat} {l : List Oper} (h : wpList P l.toArray Q l a w) : (Code.region id l.toArray false).wp P Q a w := wp_region_lit h
theorem ln_val (v : Value) (hw : Region.wanted o (yielded ops a.tmps) = true) (hv : (execOp a.eval o).run P w = .ok (.value v) w) (h : wpList P ops Q rest (a.put o.dst v) w) : wpList P ops Q (o :: rest) a w := by
  unfold wpList
  rw [if_pos hw]
  refine .inl ?_
  unfold Oper.wp
  rw [hv]
  exact h
theorem ln_skip (hw : Region.wanted o (yielded ops a.tmps) = false) (h : wpList P ops Q rest (a.put o.dst undef) w) : wpList P ops Q (o :: rest) a w := by
  unfold wpList
  rw [if_neg (by rw [hw]; simp)]
  exact h
theorem ln_if (p : Bool) (v : Value) (hw : Region.wanted o (yielded ops a.tmps) = p) (hv : p = true → (execOp a.eval o).run P w = .ok (.value v) w) (h : wpList P ops Q rest (a.put o.dst (gd p v)) w) : wpList P ops Q (o :: rest) a w := by
  cases p with
  | false => exact ln_skip hw h
  | true => exact ln_val v hw (hv rfl) h
/-- a store, or whatever changes the world -/
theorem ln_step (v : Value) (w' : World) (hw : Region.wanted o (yielded ops a.tmps) = true) (hv : CUp P (fun x => x = w') v ((execOp a.eval o).run P w)) (h : wpList P ops Q rest (a.put o.dst v) w') : wpList P ops Q (o :: rest) a w := by
  unfold wpList
  rw [if_pos hw]
  refine .inl ?_
  unfold Oper.wp
  generalize (execOp a.eval o).run P w = r at hv
  cases r with
  | ok n w2 =>
    cases n <;> simp only [CUp] at hv <;> simp only [Oper.upon]
    case value u => obtain ⟨rfl, rfl⟩ := hv; exact h
    case skip => obtain ⟨h1, rfl⟩ := hv; rw [h1]; exact h
    case enter f args => exact Calls.mono hv fun e w'' ⟨he, h4⟩ => by subst he h4; exact h
  | halt x w2 => simp only [CUp] at hv
/-- a call by its contract; R says what becomes of the world -/
theorem ln_call (v : Value) (R : World → Prop) (hw : Region.wanted o (yielded ops a.tmps) = true) (hv : CUp P R v ((execOp a.eval o).run P w)) (h : ∀ w', R w' → wpList P ops Q rest (a.put o.dst v) w') : wpList P ops Q (o :: rest) a w := by
  unfold wpList
  rw [if_pos hw]
  refine .inl ?_
  unfold Oper.wp
  generalize (execOp a.eval o).run P w = r at hv
  cases r with
  | ok n w2 =>
    cases n <;> simp only [CUp] at hv <;> simp only [Oper.upon]
    case value u => obtain ⟨rfl, h4⟩ := hv; exact h _ h4
    case skip => obtain ⟨h1, h4⟩ := hv; rw [h1]; exact h _ h4
    case enter f args => exact Calls.mono hv fun e w'' ⟨he, h4⟩ => by subst he; exact h _ h4
  | halt x w2 => simp only [CUp] at hv
/-- a call under a guard whose value is a letter -/
theorem ln_ifc (p : Bool) (v : Value) (R : World → Prop) (hR : R w) (hw : Region.wanted o (yielded ops a.tmps) = p) (hv : p = true → CUp P R v ((execOp a.eval o).run P w)) (h : ∀ w', R w' → wpList P ops Q rest (a.put o.dst (gd p v)) w') : wpList P ops Q (o :: rest) a w := by
  cases p with
  | false => exact ln_skip hw (h _ hR)
  | true => exact ln_call v R hw (hv rfl) h
theorem ln_nil (h : Q .normal a w) : wpList P ops Q [] a w := h
end
end Go.Proofs.YtllbphanfahkkaaGreatDoor.RG
