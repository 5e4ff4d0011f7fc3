/- The engine, second part: how a function begins and ends; what each kind of operation does; regions that draw their order. -/
import Derived.Test.YtpblppilknkdoaaEng
import Derived.Deep.MidRow
namespace Go.Eng
open Go

/-! ### Blocks -/
/-- A block of cells, none frozen. -/
abbrev blk (l : List Value) (e : TypeId) : Obj := .cells l.toArray e (0, 0)

/-- A block written anew. -/
def setO (w : World) (b : Nat) (o : Obj) : World := { w with heap := w.heap.setIfInBounds b o }

section worlds
variable (w : World) (b b' : Nat) (o : Obj)
@[simp] theorem size_setO : (setO w b o).heap.size = w.heap.size := by simp [setO]
theorem at_setO_same (h : b < w.heap.size) : (setO w b o).heap[b]? = some o := by simp [setO, h]
theorem at_setO_ne (h : b' ≠ b) : (setO w b o).heap[b']? = w.heap[b']? := by
  simp only [setO]; exact Array.getElem?_setIfInBounds_ne (fun e => h e.symm)
theorem at_alloc_new : (w.alloc o).heap[w.heap.size]? = some o := heap_alloc_new w o
theorem at_alloc_lt (h : b < w.heap.size) : (w.alloc o).heap[b]? = w.heap[b]? := by
  exact heap_alloc_old w o h
theorem at_lt {x : Obj} (h : w.heap[b]? = some x) : b < w.heap.size := (Array.getElem?_eq_some_iff.1 h).1
end worlds

theorem cell_at {w : World} {b : Nat} {l : List Value} {e : TypeId} (h : w.heap[b]? = some (blk l e)) (o : Nat) : w.cell? ⟨b, o, none⟩ = l[o]? := by
  simp [World.cell?, h]
theorem free_at {w : World} {b : Nat} {l : List Value} {e : TypeId} (h : w.heap[b]? = some (blk l e)) (o : Nat) : w.frozen? ⟨b, o, none⟩ = false := by
  simp [World.frozen?, h]

theorem setCell_eq {w : World} {b : Nat} {l : List Value} {e : TypeId} (h : w.heap[b]? = some (blk l e)) (o : Nat) (v : Value) :
    w.setCell ⟨b, o, none⟩ v = setO w b (blk (l.set o v) e) := by
  have hb := at_lt w b h
  simp only [World.setCell, setO]
  congr 1
  apply Array.ext_getElem?
  intro i
  rw [Array.getElem?_modify]
  by_cases e' : i = b
  · subst e'; rw [if_pos rfl, h]; simp [hb]
  · have : ¬ b = i := fun x => e' x.symm
    rw [if_neg this, Array.getElem?_setIfInBounds_ne this]

/-- Cells written over others. -/
def splice (l : List Value) (o : Nat) : List Value → List Value
  | [] => l
  | v :: r => splice (l.set o v) (o + 1) r

@[simp] theorem length_splice (l : List Value) (o : Nat) (vs : List Value) : (splice l o vs).length = l.length := by
  induction vs generalizing l o with
  | nil => rfl
  | cons v r ih => simp [splice, ih]

theorem setO_setO (w : World) (b : Nat) (x y : Obj) : setO (setO w b x) b y = setO w b y := by
  simp [setO]

theorem setCells_eq {e : TypeId} {b : Nat} : ∀ (vs : List Value) (w : World) (l : List Value) (o : Nat), w.heap[b]? = some (blk l e) →
    w.setCells b o vs = setO w b (blk (splice l o vs) e)
  | [], w, l, o, h => by
    have hb := at_lt w b h
    simp only [World.setCells, splice, setO]
    have : w.heap.setIfInBounds b (blk l e) = w.heap := by
      apply Array.ext_getElem?
      intro i
      by_cases e' : i = b
      · subst e'; rw [h]; simp [hb]
      · rw [Array.getElem?_setIfInBounds_ne (fun x => e' x.symm)]
    rw [this]
  | v :: r, w, l, o, h => by
    rw [World.setCells, setCell_eq h, setCells_eq r _ (l.set o v) (o + 1) (at_setO_same w b _ (at_lt w b h)), setO_setO]
    rfl

/-! ### Begin and end -/
def RetOk (P : Program) (fn : Func) (R : Value → World → Prop) (σ : Env) (w : World) : Prop :=
  ∃ v, (∀ tmps : Array Value, (∀ t, tmps.getD t undef = σ t) → (results fn tmps).run P w = .ok v w) ∧ R v w

def retP (P : Program) (fn : Func) (R : Value → World → Prop) : Post
  | .normal, σ, w => RetOk P fn R σ w
  | .ret, σ, w => RetOk P fn R σ w
  | _, _, _ => False

section ends
variable {P : Program} {fn : Func} {R : Value → World → Prop} {σ : Env} {w : World}

theorem Ret.intro {f : FuncId} {c : Code} (args : List Value) (hf : P.funcs[f]? = some fn) (hb : fn.body = some c) (hn : Nat.ble args.length fn.ntmps = true)
    (h : C P fn.ntmps [] c (retP P fn R) (initEnv args) w) : Ret P f args.toArray w R := by
  refine calls_of_wp hf hb (wp_mono (h _ (Fr.init args fn.ntmps (by simpa [Nat.ble_eq] using hn))) ?_)
  rintro e a w' ⟨σ', hfr, hq⟩
  cases e with
  | normal => obtain ⟨v, hv, hR⟩ := hq; exact ⟨hfr.defers, v, hv _ hfr.get, v, rfl, hR⟩
  | ret => obtain ⟨v, hv, hR⟩ := hq; exact ⟨hfr.defers, v, hv _ hfr.get, v, rfl, hR⟩
  | exit => exact hq.elim
  | goto => exact hq.elim
  | panic => exact hq.elim
  | outgrown => exact hq.elim

theorem RetOk.r0 (h : fn.results = #[]) (hR : R (.tuple #[]) w) : RetOk P fn R σ w :=
  ⟨_, fun tmps _ => by simp [results, h], hR⟩
theorem RetOk.t {t : Tmp} (h : fn.results = #[.tmp t]) (hR : R (σ t) w) : RetOk P fn R σ w :=
  ⟨_, fun tmps ht => by rw [results_tmp h, ht], hR⟩
theorem RetOk.tt {t u : Tmp} (h : fn.results = #[.tmp t, .tmp u]) (hR : R (.tuple #[σ t, σ u]) w) : RetOk P fn R σ w :=
  ⟨_, fun tmps ht => by rw [results_tmp2 h, ht, ht], hR⟩
theorem RetOk.c {a : Tmp} {ty : TypeId} {ad : Addr} {v : Value} (h : fn.results = #[.cell a ty]) (ha : σ a = .pointer (some ad)) (hl : (loadVar ty ad).run P w = .ok v w)
    (hR : R v w) : RetOk P fn R σ w :=
  ⟨_, fun tmps ht => by
    have h1 := ht a
    simp only [Array.getD_eq_getD_getElem?] at h1
    simp [results, h, h1, ha, asAddr, hl], hR⟩
theorem RetOk.ct {a t : Tmp} {ty : TypeId} {ad : Addr} {v : Value} (h : fn.results = #[.cell a ty, .tmp t]) (ha : σ a = .pointer (some ad)) (hl : (loadVar ty ad).run P w = .ok v w)
    (hR : R (.tuple #[v, σ t]) w) : RetOk P fn R σ w :=
  ⟨_, fun tmps ht => by
    have h1 := ht a
    have h2 := ht t
    simp only [Array.getD_eq_getD_getElem?] at h1 h2
    simp [results, h, h1, h2, ha, asAddr, hl], hR⟩
theorem RetOk.cc {a b : Tmp} {ty tz : TypeId} {ad bd : Addr} {v u : Value} (h : fn.results = #[.cell a ty, .cell b tz]) (ha : σ a = .pointer (some ad)) (hl : (loadVar ty ad).run P w = .ok v w)
    (hb : σ b = .pointer (some bd)) (hm : (loadVar tz bd).run P w = .ok u w) (hR : R (.tuple #[v, u]) w) : RetOk P fn R σ w :=
  ⟨_, fun tmps ht => by
    have h1 := ht a
    have h2 := ht b
    simp only [Array.getD_eq_getD_getElem?] at h1 h2
    simp [results, h, h1, h2, ha, hb, asAddr, hl, hm], hR⟩
theorem RetOk.cct {a b t : Tmp} {ty tz : TypeId} {ad bd : Addr} {v u : Value} (h : fn.results = #[.cell a ty, .cell b tz, .tmp t]) (ha : σ a = .pointer (some ad)) (hl : (loadVar ty ad).run P w = .ok v w)
    (hb : σ b = .pointer (some bd)) (hm : (loadVar tz bd).run P w = .ok u w) (hR : R (.tuple #[v, u, σ t]) w) : RetOk P fn R σ w :=
  ⟨_, fun tmps ht => by
    have h1 := ht a
    have h2 := ht b
    have h3 := ht t
    simp only [Array.getD_eq_getD_getElem?] at h1 h2 h3
    simp [results, h, h1, h2, h3, ha, hb, asAddr, hl, hm], hR⟩
end ends

/-! ### The types' facts -/
/-- A type of one cell. -/
def Cell1 (P : Program) (t : TypeId) : Prop := (∃ d, P.underlying t = some d ∧ d.isRow = false) ∧ (P.info? t).map (·.size) = some 1
/-- A row or a struct of n cells. -/
def RowT (P : Program) (t : TypeId) (n : Nat) : Prop := (∃ d, P.underlying t = some d ∧ d.isRow = true) ∧ (P.info? t).map (·.size) = some n
/-- A slice type, its element's number of cells. -/
def SliceT (P : Program) (t e : TypeId) (n : Nat) : Prop := P.underlying t = some (.slice e) ∧ (P.info? e).map (·.size) = some n
/-- A field's place. -/
def FieldT (P : Program) (s : TypeId) (k off : Nat) : Prop := ∃ fields f m, P.underlying s = some (.struct fields) ∧ fields[k]? = some f ∧ f.offset = off ∧ (P.info? f.type).map (·.size) = some (m + 1)
/-- A type's zero value's cells. -/
def ZeroT (P : Program) (t : TypeId) (zs : List Value) : Prop := ∃ i z, P.info? t = some i ∧ i.zero = some z ∧ z.cells = zs.toArray

section runs
variable {P : Program} {σ : Env} {w : World} {ty : TypeId}

theorem run_sizeOf' {t : TypeId} {n : Nat} (h : (P.info? t).map (·.size) = some n) : (sizeOf t).run P w = .ok n w := by
  obtain ⟨i, hi, hn⟩ := Option.map_eq_some_iff.1 h
  simp [sizeOf, typeInfo, hi, hn]

theorem loadVar1 {t : TypeId} {b o : Nat} {l : List Value} {e : TypeId} {v : Value} (ht : Cell1 P t) (hb : w.heap[b]? = some (blk l e)) (hv : l[o]? = some v) :
    (loadVar t ⟨b, o, none⟩).run P w = .ok v w := by
  obtain ⟨⟨d, hu, hd⟩, hs⟩ := ht
  have hagg : (isAgg t).run P w = .ok false w := by
    unfold isAgg
    rw [Sem.run_bind, run_underlying hu w]
    cases d <;> simp_all
  have hc : w.cell? ⟨b, o, none⟩ = some v := by rw [cell_at hb, hv]
  simp [loadVar, Sem.run_bind, hagg, load, Sem.run, hc]

theorem loadVarA {t : TypeId} {b o n : Nat} {l : List Value} {e : TypeId} {cs : List Value} (ht : RowT P t n) (hb : w.heap[b]? = some (blk l e)) (hv : (l.drop o).take n = cs) (hl : cs.length = n) :
    (loadVar t ⟨b, o, none⟩).run P w = .ok (.agg cs.toArray) w := by
  obtain ⟨⟨d, hu, hd⟩, hs⟩ := ht
  refine run_loadVar_mid w b o t cs d ?_ hu hd (by rw [hl]; exact hs)
  intro j v hj
  rw [cell_at hb]
  subst hv
  rw [List.getElem?_take] at hj
  split at hj
  · rw [List.getElem?_drop] at hj; exact hj
  · cases hj

namespace R
theorem move {x : Operand} : Run P σ w (.move x) ty (ev σ x) w := fun _ _ _ _ => rfl
theorem assign {x : Operand} : Run P σ w (.assign x) ty (ev σ x) w := fun _ _ _ _ => rfl
theorem pickT {c a b : Operand} (h : ev σ c = .bool true) : Run P σ w (.pick c a b) ty (ev σ a) w := fun _ _ _ _ => by simp [execOp, h, asBool]
theorem pickF {c a b : Operand} (h : ev σ c = .bool false) : Run P σ w (.pick c a b) ty (ev σ b) w := fun _ _ _ _ => by simp [execOp, h, asBool]
theorem nilCheck {x : Operand} {a : Addr} (h : ev σ x = .pointer (some a)) : Run P σ w (.nilCheck x) ty (.pointer (some a)) w := fun _ _ _ _ => by simp [execOp, h]
theorem extract {x : Operand} {k : Nat} {vs : Array Value} {v : Value} (h : ev σ x = .tuple vs) (hv : vs[k]? = some v) : Run P σ w (.extract x k) ty v w :=
  fun _ _ _ _ => by simp [execOp, h, Instr.extract, hv]
theorem not {x : Operand} {b : Bool} (h : ev σ x = .bool b) : Run P σ w (.unOp .not ty x) ty (.bool (!b)) w := fun _ _ _ _ => by simp [execOp, h, Op.unary]
theorem makeFunc1 {f : Fn} {x : Operand} : Run P σ w (.makeFunc f #[] #[x]) ty (.func f #[] #[ev σ x]) w := fun _ _ _ _ => by simp [execOp, Instr.makeFunc]
theorem makeFunc3 {f : Fn} {x y z : Operand} : Run P σ w (.makeFunc f #[] #[x, y, z]) ty (.func f #[] #[ev σ x, ev σ y, ev σ z]) w := fun _ _ _ _ => by simp [execOp, Instr.makeFunc]

theorem fieldAddr {s : TypeId} {x : Operand} {k off b o : Nat} (hF : FieldT P s k off) (hx : ev σ x = .pointer (some ⟨b, o, none⟩)) :
    Run P σ w (.fieldAddr s x k) ty (.pointer (some ⟨b, o + off, none⟩)) w := fun _ _ _ _ => by
  obtain ⟨fields, f, m, hu, hf, ho, hs⟩ := hF
  simp [execOp, hx, Instr.fieldAt, run_underlying hu, hf, Instr.sureAddr, fieldPlace, run_sizeOf' hs, Addr.add_mid, ho]

theorem indexAddr {t e : TypeId} {x i : Operand} {n b o len cap : Nat} {k : IntKind} {j : Int} (hT : SliceT P t e n) (hx : ev σ x = .slice (some ⟨b, o, none⟩) len cap) (hi : ev σ i = .int k j)
    (h0 : 0 ≤ j) (h1 : j < len) : Run P σ w (.indexAddr t x i) ty (.pointer (some ⟨b, o + j.toNat * n, none⟩)) w := fun _ _ _ _ => by
  obtain ⟨hu, hs⟩ := hT
  simp [execOp, hx, hi, Instr.indexAt, asIntOf, run_underlying hu, h0, h1, run_sizeOf' hs, Addr.add_mid]

theorem indexArr {t e : TypeId} {x i : Operand} {N n b o : Nat} {k : IntKind} {j : Int} (hu : P.underlying t = some (.array N e)) (hs : (P.info? e).map (·.size) = some n) (hx : ev σ x = .pointer (some ⟨b, o, none⟩)) (hi : ev σ i = .int k j)
    (h0 : 0 ≤ j) (h1 : j < N) : Run P σ w (.indexAddr t x i) ty (.pointer (some ⟨b, o + j.toNat * n, none⟩)) w := fun _ _ _ _ => by
  simp [execOp, hx, hi, Instr.indexAt, asIntOf, run_underlying hu, h0, h1, run_sizeOf' hs, Addr.add_mid, Instr.sureAddr]

theorem load1 {t e : TypeId} {x : Operand} {b o : Nat} {l : List Value} {v : Value} (ht : Cell1 P t) (hx : ev σ x = .pointer (some ⟨b, o, none⟩)) (hb : w.heap[b]? = some (blk l e)) (hv : l[o]? = some v) :
    Run P σ w (.load t x) ty v w := fun _ _ _ _ => by
  simp [execOp, hx, Instr.loadAt, Instr.sureAddr, loadVar1 ht hb hv]
theorem loadA {t e : TypeId} {x : Operand} {b o n : Nat} {l cs : List Value} (ht : RowT P t n) (hx : ev σ x = .pointer (some ⟨b, o, none⟩)) (hb : w.heap[b]? = some (blk l e)) (hv : (l.drop o).take n = cs) (hl : cs.length = n) :
    Run P σ w (.load t x) ty (.agg cs.toArray) w := fun _ _ _ _ => by
  simp [execOp, hx, Instr.loadAt, Instr.sureAddr, loadVarA ht hb hv hl]

theorem store1 {t e : TypeId} {x y : Operand} {b o : Nat} {l : List Value} {v : Value} (ht : Cell1 P t) (hx : ev σ x = .pointer (some ⟨b, o, none⟩)) (hy : ev σ y = v) (h1 : v.oneCell' = true)
    (hb : w.heap[b]? = some (blk l e)) (ho : Nat.blt o l.length = true) : Does P σ w (.store t x y) ty (setO w b (blk (l.set o v) e)) := fun _ _ _ _ => by
  obtain ⟨_, hs⟩ := ht
  have hlt : o < l.length := by simpa [Nat.blt_eq] using ho
  have hc : w.cell? ⟨b, o, none⟩ = some (l[o]) := by rw [cell_at hb]; simp [hlt]
  have hf := free_at hb o
  have hst : (Go.store ⟨b, o, none⟩ v).run P w = .ok () (w.setCell ⟨b, o, none⟩ v) := by
    cases v <;> simp_all [Go.store, Sem.run, Value.oneCell']
  have hcs : v.cells = #[v] := by cases v <;> simp_all [Value.cells, Value.oneCell']
  simp [execOp, hx, hy, Instr.storeAt, Instr.sureAddr, storeVar, run_sizeOf' hs, hcs, storeCells, Addr.add_mid, hst, setCell_eq hb]

theorem storeA {t e : TypeId} {x y : Operand} {b o n : Nat} {l cs : List Value} (ht : RowT P t n) (hx : ev σ x = .pointer (some ⟨b, o, none⟩)) (hy : ev σ y = .agg cs.toArray) (hl : cs.length = n) (h1 : ∀ v ∈ cs, v.oneCell' = true)
    (hb : w.heap[b]? = some (blk l e)) (ho : o + n ≤ l.length) : Does P σ w (.store t x y) ty (setO w b (blk (splice l o cs) e)) := fun _ _ _ _ => by
  obtain ⟨_, hs⟩ := ht
  have hthere : w.there b o cs.toArray.size := fun j hj => by
    have hj' : j < n := by simpa [hl] using hj
    refine ⟨?_, free_at hb _⟩
    rw [cell_at hb]
    have : o + j < l.length := by omega
    simp [this]
  have h := run_storeAt_mid (P := P) w b o t cs.toArray hthere (by simpa [hl] using hs) (all_oneCell_toArray h1)
  simp only [setCells_eq _ w l o hb] at h
  simp [execOp, hx, hy, h]

theorem alloc {t : TypeId} {zs : List Value} (hz : ZeroT P t zs) : Run P σ w (.alloc t) ty (.pointer (some ⟨w.heap.size, 0, none⟩)) (w.alloc (blk zs t)) := fun _ _ _ _ => by
  obtain ⟨i, z, hi, hzz, hc⟩ := hz
  simp [execOp, Instr.alloc, zeroValue, typeInfo, hi, hzz, newVar, newRow, newObj, Sem.run, hc]
theorem box1 {t : TypeId} {x : Operand} {v : Value} (hx : ev σ x = v) (h1 : v.oneCell' = true) : Run P σ w (.box t x) ty (.pointer (some ⟨w.heap.size, 0, none⟩)) (w.alloc (blk [v] t)) := fun _ _ _ _ => by
  have hcs : v.cells = #[v] := by cases v <;> simp_all [Value.cells, Value.oneCell']
  simp [execOp, Instr.box, newVar, newRow, newObj, Sem.run, hx, hcs]
theorem boxA {t : TypeId} {x : Operand} {cs : List Value} (hx : ev σ x = .agg cs.toArray) : Run P σ w (.box t x) ty (.pointer (some ⟨w.heap.size, 0, none⟩)) (w.alloc (blk cs t)) := fun _ _ _ _ => by
  simp [execOp, Instr.box, newVar, newRow, newObj, Sem.run, hx, Value.cells]

theorem len {t e : TypeId} {x : Operand} {a : Option Addr} {n c : Nat} (hu : P.underlying t = some (.slice e)) (hx : ev σ x = .slice a n c) :
    Run P σ w (.call { callee := .builtin .len, args := #[x], argTypes := #[t] }) ty (.int .i64 n) w := fun _ _ _ _ => by
  simp [execOp, resolve, invoke, builtin, Builtin.len_, hx, run_underlying hu, goInt]
theorem min2 {t u : TypeId} {x y : Operand} {k k' : IntKind} {a b : Int} (hx : ev σ x = .int k a) (hy : ev σ y = .int k' b) :
    Run P σ w (.call { callee := .builtin .min, args := #[x, y], argTypes := #[t, u] }) ty (.int k (if b < a then b else a)) w := fun _ _ _ _ => by
  simp [execOp, resolve, invoke, builtin, Builtin.min_, Builtin.min2, hx, hy]
theorem max2 {t u : TypeId} {x y : Operand} {k k' : IntKind} {a b : Int} (hx : ev σ x = .int k a) (hy : ev σ y = .int k' b) :
    Run P σ w (.call { callee := .builtin .max, args := #[x, y], argTypes := #[t, u] }) ty (.int k (if a < b then b else a)) w := fun _ _ _ _ => by
  simp [execOp, resolve, invoke, builtin, Builtin.max_, Builtin.max2, hx, hy]
end R
end runs
end Go.Eng
