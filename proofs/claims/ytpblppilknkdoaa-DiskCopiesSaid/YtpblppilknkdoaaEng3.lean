/- The engine, third part: arithmetic, tests, slices that are made and appended to, calls, and regions that draw their order. -/
import Derived.Test.YtpblppilknkdoaaEng2
import Derived.Maps.AppendAt
import Derived.ChangeKeysEq
import Derived.Laws.OwnMore
import Derived.IntWalk
namespace Go.Eng
open Go

section runs
variable {P : Program} {σ : Env} {w : World} {ty : TypeId}
namespace R

theorem binI {op : BinOp} {t u : TypeId} {x y : Operand} {k : IntKind} {a b : Int} {v : Value} (hx : ev σ x = .int k a) (hy : ev σ y = .int k b)
    (h : (binOp op t (.int k a) (.int k b)).run P w = .ok v w) : Run P σ w (.binOp op t x y u) ty v w := fun _ _ _ _ => by
  have hg : (eqGuard op t x y (.int k a) (.int k b)).run P w = .ok () w := by cases op <;> simp [eqGuard]
  simp [execOp, hx, hy, hg, h]

theorem add {t u : TypeId} {x y : Operand} {a b : Int} (hx : ev σ x = .int .i64 a) (hy : ev σ y = .int .i64 b) (h : -9223372036854775808 ≤ a + b ∧ a + b ≤ 9223372036854775807) :
    Run P σ w (.binOp .add t x y u) ty (.int .i64 (a + b)) w := binI hx hy (by simp [binOp, Op.intArith, IntWalk.i64_in _ h])
theorem sub {t u : TypeId} {x y : Operand} {a b : Int} (hx : ev σ x = .int .i64 a) (hy : ev σ y = .int .i64 b) (h : -9223372036854775808 ≤ a - b ∧ a - b ≤ 9223372036854775807) :
    Run P σ w (.binOp .sub t x y u) ty (.int .i64 (a - b)) w := binI hx hy (by simp [binOp, Op.intArith, IntWalk.i64_in _ h])
theorem rem {t u : TypeId} {x y : Operand} {k : IntKind} {a b : Int} (hx : ev σ x = .int k a) (hy : ev σ y = .int k b) (hb : b ≠ 0) :
    Run P σ w (.binOp .rem t x y u) ty (.int k (a.tmod b)) w := binI hx hy (by simp [binOp, Op.intDiv, hb])
theorem xor {t u : TypeId} {x y : Operand} {k : IntKind} {a b : Int} (hx : ev σ x = .int k a) (hy : ev σ y = .int k b) :
    Run P σ w (.binOp .xor t x y u) ty (.int k (k.wrap ((BitVec.ofInt k.bits a ^^^ BitVec.ofInt k.bits b).toNat : Int))) w := binI hx hy (by simp [binOp, Op.intBits])
theorem convert {s t : TypeId} {x : Operand} {k k' : IntKind} {a : Int} {ds : TypeDesc} (hs : P.underlying s = some ds) (ht : P.underlying t = some (.int k')) (hx : ev σ x = .int k a) :
    Run P σ w (.convert s t x) ty (.int k' (k'.wrap a)) w := fun _ _ _ _ => by
  simp [execOp, hx, Go.convert, run_underlying hs, run_underlying ht, Conv.intToInt]

section tests
variable {t u : TypeId} {x y : Operand} {k : IntKind} {a b : Int}
theorem lss (hx : ev σ x = .int k a) (hy : ev σ y = .int k b) : Run P σ w (.binOp .lss t x y u) ty (.bool (decide (a < b))) w := binI hx hy (by simp [binOp, Op.intCmp])
theorem leq (hx : ev σ x = .int k a) (hy : ev σ y = .int k b) : Run P σ w (.binOp .leq t x y u) ty (.bool (decide (a ≤ b))) w := binI hx hy (by simp [binOp, Op.intCmp])
theorem gtr (hx : ev σ x = .int k a) (hy : ev σ y = .int k b) : Run P σ w (.binOp .gtr t x y u) ty (.bool (decide (b < a))) w := binI hx hy (by simp [binOp, Op.intCmp])
theorem geq (hx : ev σ x = .int k a) (hy : ev σ y = .int k b) : Run P σ w (.binOp .geq t x y u) ty (.bool (decide (b ≤ a))) w := binI hx hy (by simp [binOp, Op.intCmp])
theorem eql (hx : ev σ x = .int k a) (hy : ev σ y = .int k b) : Run P σ w (.binOp .eql t x y u) ty (.bool (decide (a = b))) w := binI hx hy (by simp [binOp, Op.intCmp]; rfl)
theorem neq (hx : ev σ x = .int k a) (hy : ev σ y = .int k b) : Run P σ w (.binOp .neq t x y u) ty (.bool (!decide (a = b))) w := binI hx hy (by simp [binOp, Op.intCmp]; rfl)
theorem lssT (hx : ev σ x = .int k a) (hy : ev σ y = .int k b) (h : a < b) : Run P σ w (.binOp .lss t x y u) ty (.bool true) w := by have := lss (P := P) (w := w) (ty := ty) (t := t) (u := u) hx hy; rwa [decide_eq_true h] at this
theorem lssF (hx : ev σ x = .int k a) (hy : ev σ y = .int k b) (h : b ≤ a) : Run P σ w (.binOp .lss t x y u) ty (.bool false) w := by have := lss (P := P) (w := w) (ty := ty) (t := t) (u := u) hx hy; rwa [decide_eq_false (by omega)] at this
theorem leqT (hx : ev σ x = .int k a) (hy : ev σ y = .int k b) (h : a ≤ b) : Run P σ w (.binOp .leq t x y u) ty (.bool true) w := by have := leq (P := P) (w := w) (ty := ty) (t := t) (u := u) hx hy; rwa [decide_eq_true h] at this
theorem leqF (hx : ev σ x = .int k a) (hy : ev σ y = .int k b) (h : b < a) : Run P σ w (.binOp .leq t x y u) ty (.bool false) w := by have := leq (P := P) (w := w) (ty := ty) (t := t) (u := u) hx hy; rwa [decide_eq_false (by omega)] at this
theorem gtrT (hx : ev σ x = .int k a) (hy : ev σ y = .int k b) (h : b < a) : Run P σ w (.binOp .gtr t x y u) ty (.bool true) w := by have := gtr (P := P) (w := w) (ty := ty) (t := t) (u := u) hx hy; rwa [decide_eq_true h] at this
theorem gtrF (hx : ev σ x = .int k a) (hy : ev σ y = .int k b) (h : a ≤ b) : Run P σ w (.binOp .gtr t x y u) ty (.bool false) w := by have := gtr (P := P) (w := w) (ty := ty) (t := t) (u := u) hx hy; rwa [decide_eq_false (by omega)] at this
theorem geqT (hx : ev σ x = .int k a) (hy : ev σ y = .int k b) (h : b ≤ a) : Run P σ w (.binOp .geq t x y u) ty (.bool true) w := by have := geq (P := P) (w := w) (ty := ty) (t := t) (u := u) hx hy; rwa [decide_eq_true h] at this
theorem geqF (hx : ev σ x = .int k a) (hy : ev σ y = .int k b) (h : a < b) : Run P σ w (.binOp .geq t x y u) ty (.bool false) w := by have := geq (P := P) (w := w) (ty := ty) (t := t) (u := u) hx hy; rwa [decide_eq_false (by omega)] at this
theorem eqlT (hx : ev σ x = .int k a) (hy : ev σ y = .int k b) (h : a = b) : Run P σ w (.binOp .eql t x y u) ty (.bool true) w := by have := eql (P := P) (w := w) (ty := ty) (t := t) (u := u) hx hy; rwa [decide_eq_true h] at this
theorem eqlF (hx : ev σ x = .int k a) (hy : ev σ y = .int k b) (h : a ≠ b) : Run P σ w (.binOp .eql t x y u) ty (.bool false) w := by have := eql (P := P) (w := w) (ty := ty) (t := t) (u := u) hx hy; rwa [decide_eq_false h] at this
theorem neqT (hx : ev σ x = .int k a) (hy : ev σ y = .int k b) (h : a ≠ b) : Run P σ w (.binOp .neq t x y u) ty (.bool true) w := by have := neq (P := P) (w := w) (ty := ty) (t := t) (u := u) hx hy; rwa [decide_eq_false h] at this
theorem neqF (hx : ev σ x = .int k a) (hy : ev σ y = .int k b) (h : a = b) : Run P σ w (.binOp .neq t x y u) ty (.bool false) w := by have := neq (P := P) (w := w) (ty := ty) (t := t) (u := u) hx hy; rwa [decide_eq_true h] at this
end tests

section others
variable {t u e : TypeId} {x y : Operand}
theorem neqB {a b : Bool} (hu : P.underlying t = some .bool) (hx : ev σ x = .bool a) (hy : ev σ y = .bool b) : Run P σ w (.binOp .neq t x y u) ty (.bool (!(a == b))) w := fun _ _ _ _ => by
  have hg : (eqGuard .neq t x y (.bool a) (.bool b)).run P w = .ok () w := by simp [eqGuard]
  simp [execOp, hx, hy, hg, binOp, Op.equal, Op.maxDepth, run_equalIn_bool' w _ t a b hu]

theorem equalIn_ptr (d : Nat) {p : Option Addr} (hu : P.underlying t = some (.pointer e)) : (Op.equalIn (d + 1) t (.pointer p) (.pointer none)).run P w = .ok p.isNone w := by
  cases p <;> simp [Op.equalIn, run_underlying hu]
theorem equalIn_slc (d : Nat) {p : Option Addr} {n c n' c' : Nat} (hu : P.underlying t = some (.slice e)) : (Op.equalIn (d + 1) t (.slice p n c) (.slice none n' c')).run P w = .ok p.isNone w := by
  cases p <;> simp [Op.equalIn, run_underlying hu]
theorem eqlP {p : Option Addr} (hu : P.underlying t = some (.pointer e)) (hx : ev σ x = .pointer p) (hy : ev σ y = .pointer none) : Run P σ w (.binOp .eql t x y u) ty (.bool p.isNone) w := fun _ _ _ _ => by
  have hg : (eqGuard .eql t x y (.pointer p) (.pointer none)).run P w = .ok () w := by simp [eqGuard]
  have hb : binOp .eql t (.pointer p) (.pointer none) = (do pure (.bool (← Op.equalIn (9999 + 1) t (.pointer p) (.pointer none)))) := by cases p <;> rfl
  simp only [execOp, hx, hy, Sem.run_bind, hg, Result.andThen_ok, hb, equalIn_ptr 9999 hu, Sem.run_pure]
theorem neqP {p : Option Addr} (hu : P.underlying t = some (.pointer e)) (hx : ev σ x = .pointer p) (hy : ev σ y = .pointer none) : Run P σ w (.binOp .neq t x y u) ty (.bool p.isSome) w := fun _ _ _ _ => by
  have hg : (eqGuard .neq t x y (.pointer p) (.pointer none)).run P w = .ok () w := by simp [eqGuard]
  have hb : binOp .neq t (.pointer p) (.pointer none) = (do pure (.bool (!(← Op.equalIn (9999 + 1) t (.pointer p) (.pointer none))))) := by cases p <;> rfl
  have hs : (!p.isNone) = p.isSome := by cases p <;> rfl
  simp only [execOp, hx, hy, Sem.run_bind, hg, Result.andThen_ok, hb, equalIn_ptr 9999 hu, Sem.run_pure, hs]
theorem eqlS {p q : Option Addr} {n c n' c' : Nat} (hu : P.underlying t = some (.slice e)) (hx : ev σ x = .slice p n c) (hy : ev σ y = .slice q n' c') (hq : q = none) : Run P σ w (.binOp .eql t x y u) ty (.bool p.isNone) w := fun _ _ _ _ => by
  subst hq
  have hg : (eqGuard .eql t x y (.slice p n c) (.slice none n' c')).run P w = .ok () w := by simp [eqGuard]
  have hb : binOp .eql t (.slice p n c) (.slice none n' c') = (do pure (.bool (← Op.equalIn (9999 + 1) t (.slice p n c) (.slice none n' c')))) := by cases p <;> rfl
  simp only [execOp, hx, hy, Sem.run_bind, hg, Result.andThen_ok, hb, equalIn_slc 9999 hu, Sem.run_pure]

/-- Arrays of bytes are compared number by number. -/
theorem equal_arr (d : Nat) {N : Nat} {k : IntKind} {A B : List Int} (hu : P.underlying t = some (.array N e)) (he : P.underlying e = some (.int k)) (hs : (P.info? e).map (·.size) = some 1)
    (hA : A.length = N) (hB : B.length = N) :
    (Op.equalIn (d + 2) t (.agg (A.map (Value.int k)).toArray) (.agg (B.map (Value.int k)).toArray)).run P w = .ok (decide (A = B)) w := by
  obtain ⟨i, hi, hsz⟩ := Option.map_eq_some_iff.1 hs
  have hc : P.cellsOf e = 1 := by simp [Program.cellsOf, hi, hsz]
  have hagg : ∀ w : World, (isAgg e).run P w = .ok false w := fun w => by simp [isAgg, run_underlying he]
  have key : ∀ m j, j + m = N →
      (Op.eqItems (d + 1) e 1 (A.map (Value.int k)).toArray (B.map (Value.int k)).toArray (List.range' j m)).run P w = .ok (decide (A.drop j = B.drop j)) w := by
    intro m
    induction m with
    | zero =>
      intro j hj
      have e1 : A.drop j = [] := List.drop_of_length_le (by omega)
      have e2 : B.drop j = [] := List.drop_of_length_le (by omega)
      simp [Op.eqItems, e1, e2]
    | succ m ih =>
      intro j hj
      have hja : j < A.length := by omega
      have hjb : j < B.length := by omega
      have p1 : (part e (A.map (Value.int k)).toArray j).run P w = .ok (.int k A[j]) w := by simp [part, hagg, hja]
      have p2 : (part e (B.map (Value.int k)).toArray j).run P w = .ok (.int k B[j]) w := by simp [part, hagg, hjb]
      have p3 := run_equalIn_int (P := P) w d e k k A[j] B[j] he
      rw [List.range'_succ]
      simp only [Op.eqItems, Nat.mul_one, Sem.run_bind, p1, p2, p3, Result.andThen_ok]
      have e1 := List.drop_eq_getElem_cons hja
      have e2 := List.drop_eq_getElem_cons hjb
      by_cases h : A[j] = B[j]
      · have hiff : A.drop j = B.drop j ↔ A.drop (j + 1) = B.drop (j + 1) := by
          rw [e1, e2, h]; exact ⟨fun x => (List.cons.inj x).2, fun x => by rw [x]⟩
        simp only [h, beq_self_eq_true, Bool.not_true, Bool.false_eq_true, if_false, ih (j + 1) (by omega)]
        rw [decide_eq_decide.2 hiff]
      · have hb : (A[j] == B[j]) = false := by simp [h]
        have hne : ¬ A.drop j = B.drop j := by rw [e1, e2]; exact fun x => h (List.cons.inj x).1
        simp [hb, hne]
  rw [run_equalIn_array w (d + 1) _ _ hu hi, hc, List.range_eq_range']
  have := key N 0 (by omega)
  simpa using this

theorem eqlA {N : Nat} {k : IntKind} {A B : List Int} (hu : P.underlying t = some (.array N e)) (he : P.underlying e = some (.int k)) (hs : (P.info? e).map (·.size) = some 1) (hgd : P.eqGuardType P.depth t = false)
    (hx : ev σ x = .agg (A.map (Value.int k)).toArray) (hy : ev σ y = .agg (B.map (Value.int k)).toArray) (hA : A.length = N) (hB : B.length = N) : Run P σ w (.binOp .eql t x y u) ty (.bool (decide (A = B))) w := fun _ _ _ _ => by
  have hg := run_eqGuard_agg (P := P) w .eql t x y (A.map (Value.int k)).toArray (B.map (Value.int k)).toArray hgd
  have h := equal_arr (P := P) (w := w) (t := t) 9998 hu he hs hA hB
  simp only [execOp, hx, hy, Sem.run_bind, hg, Result.andThen_ok, run_eql_struct, h, Sem.run_pure]
theorem neqA {N : Nat} {k : IntKind} {A B : List Int} (hu : P.underlying t = some (.array N e)) (he : P.underlying e = some (.int k)) (hs : (P.info? e).map (·.size) = some 1) (hgd : P.eqGuardType P.depth t = false)
    (hx : ev σ x = .agg (A.map (Value.int k)).toArray) (hy : ev σ y = .agg (B.map (Value.int k)).toArray) (hA : A.length = N) (hB : B.length = N) : Run P σ w (.binOp .neq t x y u) ty (.bool (!decide (A = B))) w := fun _ _ _ _ => by
  have hg := run_eqGuard_agg (P := P) w .neq t x y (A.map (Value.int k)).toArray (B.map (Value.int k)).toArray hgd
  have h := equal_arr (P := P) (w := w) (t := t) 9998 hu he hs hA hB
  simp only [execOp, hx, hy, Sem.run_bind, hg, Result.andThen_ok, run_neq_struct, h, Sem.run_pure]

/-- x[:h] -/
theorem sliceH {a : Option Addr} {len cap : Nat} {k : IntKind} {h : Int} {n : Nat} (hT : SliceT P t e n) (hx : ev σ x = .slice a len cap) (hy : ev σ y = .int k h) (h0 : 0 ≤ h) (h1 : h ≤ cap) :
    Run P σ w (.slice t x none (some y) none) ty (.slice a h.toNat cap) w := fun _ _ _ _ => by
  obtain ⟨hu, hs⟩ := hT
  have ha : (Option.map (fun b : Addr => b.add 0) a) = a := by cases a <;> simp [Addr.add]
  simp [execOp, hx, hy, Instr.sliceAt, run_underlying hu, Instr.slice, Instr.sliceBounds, run_sliceBound _ k h _ _ h0 h1, run_sizeOf' hs, ha]

/-- make([]T, n) -/
theorem make {k k' : IntKind} {n c : Int} {l m : Nat} {i : TypeInfo} {z : Value} (hu : P.underlying t = some (.slice e)) (hi : P.info? e = some i) (hz : i.zero = some z) (hx : ev σ x = .int k n) (hy : ev σ y = .int k' c) (hn : n = (l : Int)) (hm : c = (m : Int)) (hlm : l ≤ m)
    (hb : i.bytes * m ≤ 281474976710656) (h63 : m ≤ 9223372036854775807) :
    Run P σ w (.makeSlice t x y) ty (.slice (some ⟨w.heap.size, 0, none⟩) l m) (w.alloc (blk (madeCells z.cells (m * i.size)).toList e)) := fun _ _ _ _ => by
  subst hn
  subst hm
  have hb' : (i.bytes : Int) * (m : Int) ≤ 281474976710656 := by
    have h : ((i.bytes * m : Nat) : Int) ≤ 281474976710656 := by omega
    rwa [Int.natCast_mul] at h
  have hr := run_make (P := P) w t e i z hu hi hz k k' l m (by omega) (by omega) hb' (by omega)
  simp only [Int.toNat_natCast] at hr
  simp [execOp, hx, hy, hr]
end others

section building
variable {t e : TypeId} {v : Value}
theorem build0 (h : (Instr.build t #[]).run P w = .ok v w) : Run P σ w (.build t #[]) ty v w := fun _ _ _ _ => by simp [execOp, h]
theorem build1 {x : Operand} {i : Nat} (h : (Instr.build t #[(i, ev σ x)]).run P w = .ok v w) : Run P σ w (.build t #[(i, x)]) ty v w := fun _ _ _ _ => by simp [execOp, h]
theorem build2 {x y : Operand} {i j : Nat} (h : (Instr.build t #[(i, ev σ x), (j, ev σ y)]).run P w = .ok v w) : Run P σ w (.build t #[(i, x), (j, y)]) ty v w := fun _ _ _ _ => by simp [execOp, h]
theorem build3 {x y z : Operand} {i j k : Nat} (h : (Instr.build t #[(i, ev σ x), (j, ev σ y), (k, ev σ z)]).run P w = .ok v w) : Run P σ w (.build t #[(i, x), (j, y), (k, z)]) ty v w := fun _ _ _ _ => by simp [execOp, h]
theorem slice0 {n : Nat} (hT : SliceT P t e n) : Run P σ w (.buildSlice t 0 #[]) ty (.slice (some ⟨w.heap.size, 0, none⟩) 0 0) (w.alloc (blk [] e)) := fun _ _ _ _ => by
  obtain ⟨hu, hs⟩ := hT
  have he : (Array.range 0).map (fun _ => (default : Value)) = #[] := by simp
  simp [execOp, Instr.buildSlice, run_underlying hu, run_sizeOf' hs, Instr.fill, newRow, newObj, Sem.run, he]
end building
end R

/-! ### Calls -/
def HasBody (P : Program) (f : FuncId) : Prop := (P.funcs[f]?).any (fun fn => !(fn.name == "runtime.NumGoroutine") && fn.body.isSome) = true
theorem run_callFunc {f : FuncId} (h : HasBody P f) (args : Array Value) (w : World) : (callFunc f args).run P w = .ok (.enter f args) w := by
  unfold HasBody at h
  cases hf : P.funcs[f]? with
  | none => simp [hf] at h
  | some fn =>
    simp [hf] at h
    have hb : fn.body ≠ none := by
      intro e
      rw [e] at h
      simp at h
    simp [callFunc, hf, h.1, hb]

namespace E
variable {ats : Array TypeId} {f : FuncId}
theorem call0 (hf : HasBody P f) : Enters P σ w (.call { callee := .value (.func f), args := #[], argTypes := ats }) ty f #[] := fun _ _ _ _ => by
  simp [execOp, resolve, ev, Deferred.ofValue, invoke, run_callFunc hf]
theorem call1 {x : Operand} (hf : HasBody P f) : Enters P σ w (.call { callee := .value (.func f), args := #[x], argTypes := ats }) ty f #[ev σ x] := fun _ _ _ _ => by
  simp [execOp, resolve, ev, Deferred.ofValue, invoke, run_callFunc hf]
theorem call2 {x y : Operand} (hf : HasBody P f) : Enters P σ w (.call { callee := .value (.func f), args := #[x, y], argTypes := ats }) ty f #[ev σ x, ev σ y] := fun _ _ _ _ => by
  simp [execOp, resolve, ev, Deferred.ofValue, invoke, run_callFunc hf]
theorem call3 {x y z : Operand} (hf : HasBody P f) : Enters P σ w (.call { callee := .value (.func f), args := #[x, y, z], argTypes := ats }) ty f #[ev σ x, ev σ y, ev σ z] := fun _ _ _ _ => by
  simp [execOp, resolve, ev, Deferred.ofValue, invoke, run_callFunc hf]
/-- A function value: what it captured comes behind the arguments. -/
theorem fun0 {g : Operand} {caps : Array Value} (hf : HasBody P f) (hg : ev σ g = .func (.func f) #[] caps) : Enters P σ w (.call { callee := .value g, args := #[], argTypes := ats }) ty f caps := fun _ _ _ _ => by
  simp [execOp, resolve, hg, Deferred.ofValue, invoke, run_callFunc hf]
theorem fun1 {g x : Operand} {caps : Array Value} (hf : HasBody P f) (hg : ev σ g = .func (.func f) #[] caps) : Enters P σ w (.call { callee := .value g, args := #[x], argTypes := ats }) ty f (#[ev σ x] ++ caps) := fun _ _ _ _ => by
  simp [execOp, resolve, hg, Deferred.ofValue, invoke, run_callFunc hf]
end E
end runs

/-! ### Kept: all blocks but some are as they were -/
structure Kept (S : Nat → Prop) (w w' : World) : Prop where
  os : w'.os = w.os
  tape : w'.tape = w.tape
  output : w'.output = w.output
  size : w.heap.size ≤ w'.heap.size
  block : ∀ k, k < w.heap.size → ¬ S k → w'.heap[k]? = w.heap[k]?

section kept
variable {S S' : Nat → Prop} {w w1 w2 : World}
theorem Kept.refl (S : Nat → Prop) (w : World) : Kept S w w := ⟨rfl, rfl, rfl, Nat.le_refl _, fun _ _ _ => rfl⟩
theorem Kept.trans (h : Kept S w w1) (h' : Kept S' w1 w2) (hs : ∀ k, k < w.heap.size → S' k → S k) : Kept S w w2 :=
  ⟨h'.os.trans h.os, h'.tape.trans h.tape, h'.output.trans h.output, Nat.le_trans h.size h'.size,
    fun k hk hn => (h'.block k (Nat.lt_of_lt_of_le hk h.size) (fun x => hn (hs k hk x))).trans (h.block k hk hn)⟩
theorem Kept.mono (h : Kept S w w1) (hs : ∀ k, k < w.heap.size → S k → S' k) : Kept S' w w1 :=
  ⟨h.os, h.tape, h.output, h.size, fun k hk hn => h.block k hk fun x => hn (hs k hk x)⟩
theorem Kept.alloc (h : Kept S w w1) (o : Obj) : Kept S w (w1.alloc o) :=
  h.trans (S' := fun _ => False) ⟨rfl, rfl, rfl, by simp, fun k hk _ => heap_alloc_old w1 o hk⟩ (fun _ _ x => x.elim)
theorem Kept.drew (h : Kept S w w1) : Kept S w w1.drew := ⟨h.os, h.tape, h.output, h.size, h.block⟩
theorem Kept.setO (h : Kept S w w1) {b : Nat} (o : Obj) (hb : b < w.heap.size → S b) : Kept S w (setO w1 b o) :=
  h.trans (S' := fun k => k = b) ⟨rfl, rfl, rfl, by simp, fun k _ hn => at_setO_ne w1 b k o hn⟩ (fun k hk e => by subst e; exact hb hk)
theorem Kept.grown (h : Kept S w w1) {row : Option Nat} (hg : w1.grownBy w2 row) (hr : ∀ k, row = some k → k < w.heap.size → S k) : Kept S w w2 :=
  h.trans (S' := fun k => row = some k) ⟨hg.os, hg.tape, hg.output, hg.size, fun k hk hn => hg.block k hk fun e => hn e.symm⟩ (fun k hk e => hr k e hk)
theorem Kept.below (h : Kept S w w1) {B : Nat} (hB : B ≤ w.heap.size) (hs : ∀ k, k < B → ¬ S k) : RowKit.Below B w w1 :=
  ⟨h.os, h.tape, h.output, h.size, fun k hk => h.block k (Nat.lt_of_lt_of_le hk hB) (hs k hk)⟩
end kept
end Go.Eng
