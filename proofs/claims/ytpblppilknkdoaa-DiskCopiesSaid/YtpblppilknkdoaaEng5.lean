/- The engine, fifth part: the laws in the forms that printed proofs use: the value is given, the new world gets a name. -/
import Derived.Test.YtpblppilknkdoaaEng4
namespace Go.Eng
open Go

section
variable {P : Program} {σ : Env} {w : World} {ty : TypeId}
namespace R
theorem moveV {x : Operand} {v : Value} (h : ev σ x = v) : Run P σ w (.move x) ty v w := by subst h; exact R.move
theorem assignV {x : Operand} {v : Value} (h : ev σ x = v) : Run P σ w (.assign x) ty v w := by subst h; exact R.assign
theorem pickTV {c a b : Operand} {v : Value} (h : ev σ c = .bool true) (hv : ev σ a = v) : Run P σ w (.pick c a b) ty v w := by subst hv; exact R.pickT h
theorem pickFV {c a b : Operand} {v : Value} (h : ev σ c = .bool false) (hv : ev σ b = v) : Run P σ w (.pick c a b) ty v w := by subst hv; exact R.pickF h
theorem notV {t : TypeId} {x : Operand} {b : Bool} {v : Value} (h : ev σ x = .bool b) (hv : v = .bool (!b)) : Run P σ w (.unOp .not t x) ty v w := fun _ _ _ _ => by
  subst hv; simp [execOp, h, Op.unary]
theorem fieldAddrV {s : TypeId} {x : Operand} {k off b o o2 : Nat} (hF : FieldT P s k off) (hx : ev σ x = .pointer (some ⟨b, o, none⟩)) (ho : o2 = o + off) :
    Run P σ w (.fieldAddr s x k) ty (.pointer (some ⟨b, o2, none⟩)) w := by subst ho; exact R.fieldAddr hF hx
theorem indexAddrV {t e : TypeId} {x i : Operand} {n b o len cap o2 : Nat} {k : IntKind} {j : Int} {m : Nat} (hT : SliceT P t e n) (hx : ev σ x = .slice (some ⟨b, o, none⟩) len cap) (hi : ev σ i = .int k j) (hj : j = (m : Int)) (hm : m < len) (ho : o2 = o + m * n) :
    Run P σ w (.indexAddr t x i) ty (.pointer (some ⟨b, o2, none⟩)) w := by
  subst hj; subst ho
  have := R.indexAddr (P := P) (σ := σ) (w := w) (ty := ty) hT hx hi (by omega) (by omega)
  simpa using this
theorem indexArrV {t e : TypeId} {x i : Operand} {N n b o o2 : Nat} {k : IntKind} {j : Int} {m : Nat} (hu : P.underlying t = some (.array N e)) (hs : (P.info? e).map (·.size) = some n) (hx : ev σ x = .pointer (some ⟨b, o, none⟩)) (hi : ev σ i = .int k j) (hj : j = (m : Int)) (hm : m < N) (ho : o2 = o + m * n) :
    Run P σ w (.indexAddr t x i) ty (.pointer (some ⟨b, o2, none⟩)) w := by
  subst hj; subst ho
  have := R.indexArr (P := P) (σ := σ) (w := w) (ty := ty) hu hs hx hi (by omega) (by omega)
  simpa using this
theorem makeFunc1V {f : Fn} {x : Operand} {v : Value} (hv : .func f #[] #[ev σ x] = v) : Run P σ w (.makeFunc f #[] #[x]) ty v w := by subst hv; exact R.makeFunc1
theorem makeFunc3V {f : Fn} {x y z : Operand} {v : Value} (hv : .func f #[] #[ev σ x, ev σ y, ev σ z] = v) : Run P σ w (.makeFunc f #[] #[x, y, z]) ty v w := by subst hv; exact R.makeFunc3
theorem lenV {t e : TypeId} {x : Operand} {a : Option Addr} {n c : Nat} {v : Value} (hu : P.underlying t = some (.slice e)) (hx : ev σ x = .slice a n c) (hv : v = .int .i64 n) :
    Run P σ w (.call { callee := .builtin .len, args := #[x], argTypes := #[t] }) ty v w := by subst hv; exact R.len hu hx
end R

variable {n : Nat} {ds : List Deferred} {Q : Post} {ops : Array Oper} {op : Op} {pos : String} {after : Array Edge} {rest : List Oper} {d : Nat}
theorem L.stepE {v : Value} {w' : World} (hr : Run P σ w op ty v w') (hd : Nat.blt d n = true) (k : ∀ w2, w' = w2 → L P n ds ops Q rest (upd σ d v) w2) :
    L P n ds ops Q (⟨some d, op, ty, pos, after, none⟩ :: rest) σ w := L.step hr hd (k _ rfl)
theorem L.doesE {w' : World} (hr : Does P σ w op ty w') (k : ∀ w2, w' = w2 → L P n ds ops Q rest σ w2) :
    L P n ds ops Q (⟨none, op, ty, pos, after, none⟩ :: rest) σ w := L.does hr (k _ rfl)
end

theorem thenP.mk {k : Env → World → Prop} {Q : Post} {σ : Env} {w : World} (h : k σ w) : thenP k Q .normal σ w := h

section
variable {w w2 w0 : World} {o : Obj} {S : Nat → Prop}
theorem Al.new (e : w.alloc o = w2) : w2.heap[w.heap.size]? = some o := by subst e; exact at_alloc_new w o
theorem Al.old (e : w.alloc o = w2) {b : Nat} {x : Obj} (h : w.heap[b]? = some x) : w2.heap[b]? = some x := by subst e; rw [at_alloc_lt w b o (at_lt w b h)]; exact h
theorem Al.size (e : w.alloc o = w2) : w2.heap.size = w.heap.size + 1 := by subst e; simp
theorem Al.kept (e : w.alloc o = w2) (h : Kept S w0 w) : Kept S w0 w2 := by subst e; exact h.alloc o
theorem Al.row (e : w.alloc o = w2) {el : TypeId} {sz n : Nat} {v : Value} {xs : List Value} {F : Nat → Prop} (h : Row w el sz v n xs F) : Row w2 el sz v n xs F := by
  subst e; exact h.kept (S := fun _ => False) ((Kept.refl _ w).alloc o) (fun _ _ x => x)
theorem So.hit {b : Nat} (e : setO w b o = w2) {x : Obj} (h : w.heap[b]? = some x) : w2.heap[b]? = some o := by subst e; exact at_setO_same w b o (at_lt w b h)
theorem So.old {b b' : Nat} (e : setO w b o = w2) (hne : b' ≠ b) {x : Obj} (h : w.heap[b']? = some x) : w2.heap[b']? = some x := by subst e; rw [at_setO_ne w b b' o hne]; exact h
theorem So.size {b : Nat} (e : setO w b o = w2) : w2.heap.size = w.heap.size := by subst e; simp
theorem So.kept {b : Nat} (e : setO w b o = w2) (h : Kept S w0 w) (hb : b < w0.heap.size → S b) : Kept S w0 w2 := by subst e; exact h.setO o hb
theorem So.row {b : Nat} (e : setO w b o = w2) {el : TypeId} {sz n : Nat} {v : Value} {xs : List Value} {F : Nat → Prop} (h : Row w el sz v n xs F) (hb : ¬ F b) : Row w2 el sz v n xs F := by
  subst e; exact h.kept (S := fun k => k = b) ((Kept.refl _ w).setO o (fun _ => rfl)) (fun k hk e => hb (e ▸ hk))
/-- A row stays a row when a block of another element type is written. -/
theorem So.rowE {b : Nat} (e : setO w b o = w2) {el : TypeId} {sz n : Nat} {v : Value} {xs : List Value} {F : Nat → Prop} (h : Row w el sz v n xs F) {l : List Value} {t : TypeId} (hb : w.heap[b]? = some (blk l t)) (ht : el ≠ t) : Row w2 el sz v n xs F := by
  subst e
  refine ⟨⟨h.1.1, ?_⟩, h.2⟩
  rcases h.1.2 with hn | ⟨g, cap, cur, hv, hb', hg, rest⟩
  · exact .inl hn
  · refine .inr ⟨g, cap, cur, hv, hb', ?_, rest⟩
    have hne : g ≠ b := by
      intro e
      subst e
      rw [hb] at hg
      simp only [Option.some.injEq, Obj.cells.injEq] at hg
      exact ht hg.2.1.symm
    rw [at_setO_ne w b g o hne]
    exact hg
/-- Two blocks of different element types are two. -/
theorem apartE {b b' : Nat} {l l' : List Value} {t t' : TypeId} (h : w.heap[b]? = some (blk l t)) (h' : w.heap[b']? = some (blk l' t')) (ht : t ≠ t') : b ≠ b' := by
  intro e
  subst e
  rw [h] at h'
  simp only [Option.some.injEq, Obj.cells.injEq] at h'
  exact ht h'.2.1
/-- A block that lies there is not one that was made since. -/
theorem apartN {b : Nat} {x : Obj} (h : w.heap[b]? = some x) {m : Nat} (hm : w.heap.size ≤ m) : b ≠ m := by
  have := at_lt w b h
  omega
theorem Kept.old {w' : World} (hk : Kept S w w') {b : Nat} {x : Obj} (h : w.heap[b]? = some x) (hb : ¬ S b) : w'.heap[b]? = some x := by
  rw [hk.block b (at_lt w b h) hb]; exact h
end

section ends
variable {P : Program} {fn : Func} {R : Value → World → Prop} {σ : Env} {w : World}
theorem RetOk.tV {t : Tmp} {v : Value} (h : fn.results = #[.tmp t]) (ht : σ t = v) (hR : R v w) : RetOk P fn R σ w := RetOk.t h (by rw [ht]; exact hR)
theorem RetOk.ttV {t u : Tmp} {v v' : Value} (h : fn.results = #[.tmp t, .tmp u]) (ht : σ t = v) (hu : σ u = v') (hR : R (.tuple #[v, v']) w) : RetOk P fn R σ w := RetOk.tt h (by rw [ht, hu]; exact hR)
theorem RetOk.ctV {a t : Tmp} {ty : TypeId} {ad : Addr} {v u : Value} (h : fn.results = #[.cell a ty, .tmp t]) (ha : σ a = .pointer (some ad)) (hl : (loadVar ty ad).run P w = .ok v w)
    (ht : σ t = u) (hR : R (.tuple #[v, u]) w) : RetOk P fn R σ w := RetOk.ct h ha hl (by rw [ht]; exact hR)
theorem RetOk.cctV {a b t : Tmp} {ty tz : TypeId} {ad bd : Addr} {v u x : Value} (h : fn.results = #[.cell a ty, .cell b tz, .tmp t]) (ha : σ a = .pointer (some ad)) (hl : (loadVar ty ad).run P w = .ok v w)
    (hb : σ b = .pointer (some bd)) (hm : (loadVar tz bd).run P w = .ok u w) (ht : σ t = x) (hR : R (.tuple #[v, u, x]) w) : RetOk P fn R σ w := RetOk.cct h ha hl hb hm (by rw [ht]; exact hR)
end ends

theorem HasBody.mk {P : Program} {f : FuncId} {fn : Func} (h : P.funcs[f]? = some fn) (h1 : (fn.name == "runtime.NumGoroutine") = false) (h2 : fn.body.isSome = true) : HasBody P f := by
  unfold HasBody
  simp [h, h1, h2]
end Go.Eng
namespace Go.Eng
section
variable {P : Program} {σ : Env} {w : World} {ty : TypeId} {n : Nat} {ds : List Deferred} {Q : Post} {ops : Array Oper} {op : Op} {pos : String} {after : Array Edge} {gd : Option (Nat × Bool)} {d i : Nat} {K : Env → World → Prop}
theorem C.drawE {id : Nat} {l : List Oper} (S : World → Prop) (need : Nat → Bool) (hm : P.follows .mixedOrders = true) (h : ∀ w2, w.drew = w2 → AH P n ds l.toArray Q S need l.length (Array.replicate l.length false) σ w2) :
    C P n ds (.region id l.toArray true) Q σ w := C.draw S need hm (h _ rfl)
theorem AO.stepE {v : Value} {w' : World} (hi : ops[i]? = some ⟨some d, op, ty, pos, after, gd⟩) (hg : Wants ops n σ gd) (hr : Run P σ w op ty v w') (hd : Nat.blt d n = true) (k : ∀ w2, w' = w2 → K (upd σ d v) w2) : AO P n ds ops Q i K σ w := AO.step hi hg hr hd (k _ rfl)
theorem AO.doesE {w' : World} (hi : ops[i]? = some ⟨none, op, ty, pos, after, gd⟩) (hg : Wants ops n σ gd) (hr : Does P σ w op ty w') (k : ∀ w2, w' = w2 → K σ w2) : AO P n ds ops Q i K σ w := AO.does hi hg hr (k _ rfl)
/-- A store over a whole block. -/
theorem R.storeAll {t e : TypeId} {x y : Operand} {b m : Nat} {l cs : List Value} (ht : RowT P t m) (hx : ev σ x = .pointer (some ⟨b, 0, none⟩)) (hy : ev σ y = .agg cs.toArray) (hl : cs.length = m) (h1 : ∀ v ∈ cs, v.oneCell' = true)
    (hb : w.heap[b]? = some (blk l e)) (hl' : l.length = m) : Does P σ w (.store t x y) ty (setO w b (blk cs e)) := by
  have h := R.storeA (P := P) (σ := σ) (w := w) (ty := ty) ht hx hy hl h1 hb (by omega)
  have e1 : splice l 0 cs = cs := by simpa using splice_all cs l [] (by omega)
  rwa [e1] at h
end
section
variable {w w2 w0 : World} {S : Nat → Prop}
theorem Dr.old (e : w.drew = w2) {b : Nat} {x : Obj} (h : w.heap[b]? = some x) : w2.heap[b]? = some x := by subst e; exact h
theorem Dr.size (e : w.drew = w2) : w2.heap.size = w.heap.size := by subst e; rfl
theorem Dr.kept (e : w.drew = w2) (h : Kept S w0 w) : Kept S w0 w2 := by subst e; exact h.drew
theorem Dr.row (e : w.drew = w2) {el : TypeId} {sz n : Nat} {v : Value} {xs : List Value} {F : Nat → Prop} (h : Row w el sz v n xs F) : Row w2 el sz v n xs F := by subst e; exact h
end
end Go.Eng
namespace Go.Eng
section
variable {w : World} {e : TypeId} {sz n n' c : Nat} {a : Option Addr} {xs : List Value} {F : Nat → Prop}
theorem Row.blockA (h : Row w e sz (.slice a n' c) n xs F) (hn : 0 < n) : ∃ g l, a = some ⟨g, 0, none⟩ ∧ F g ∧ w.heap[g]? = some (blk l e) ∧ n ≤ c ∧ c ≤ maxLen ∧ l.length = c * sz ∧ l.take (n * sz) = xs := by
  rcases h.1.2 with ⟨_, rfl⟩ | ⟨g, cap, cur, hv, _, hg, hnc, hm, hs, ht⟩
  · omega
  · simp only [Value.slice.injEq] at hv
    obtain ⟨rfl, rfl, rfl⟩ := hv
    exact ⟨g, cur.toList, rfl, h.2 g rfl, by simpa using hg, hnc, hm, by simpa using hs, ht⟩
end
end Go.Eng
namespace Go.Eng
section
variable {w w2 : World} {o : Obj}
/-- A row stays a row when a block is written that was made later. -/
theorem So.rowLt {b : Nat} (e : setO w b o = w2) {el : TypeId} {sz n : Nat} {v : Value} {xs : List Value} {F : Nat → Prop} (h : Row w el sz v n xs F) {N : Nat} (hlt : ∀ g, v.ownBlock = some g → g < N) (hb : N ≤ b) : Row w2 el sz v n xs F := by
  subst e
  refine ⟨⟨h.1.1, ?_⟩, h.2⟩
  rcases h.1.2 with hn | ⟨g, cap, cur, hv, hb', hg, rest⟩
  · exact .inl hn
  · refine .inr ⟨g, cap, cur, hv, hb', ?_, rest⟩
    have := hlt g (by rw [hv]; rfl)
    rw [at_setO_ne w b g o (by omega)]
    exact hg
end
end Go.Eng
namespace Go.Eng
/-- The block of a slice value. -/
def own (v : Value) : Nat → Prop := fun k => v.ownBlock = some k
section
variable {w w' w2 : World} {e : TypeId} {sz n : Nat} {v : Value} {xs : List Value} {F S : Nat → Prop}
theorem Row.own (h : Row w e sz v n xs F) : Row w e sz v n xs (own v) := ⟨h.1, fun _ hg => hg⟩
theorem Row.blockAt (h : Row w e sz v n xs F) {g : Nat} (hg : v.ownBlock = some g) : ∃ l, w.heap[g]? = some (blk l e) := by
  rcases h.1.2 with ⟨rfl, _⟩ | ⟨g', cap, cur, rfl, _, hgg, _⟩
  · simp [Value.ownBlock] at hg
  · simp [Value.ownBlock] at hg; subst hg; exact ⟨cur.toList, by simpa using hgg⟩
/-- A block of another element type is not the row's. -/
theorem Row.apart (h : Row w e sz v n xs F) {b : Nat} {l : List Value} {t : TypeId} (hb : w.heap[b]? = some (blk l t)) (ht : e ≠ t) : ¬ Eng.own v b := fun hg => by
  obtain ⟨l', hl⟩ := h.blockAt hg
  exact apartE hl hb ht rfl
theorem Row.apartR (h : Row w e sz v n xs F) {e' : TypeId} {sz' n' : Nat} {v' : Value} {xs' : List Value} {F' : Nat → Prop} (h' : Row w e' sz' v' n' xs' F') (ht : e ≠ e') : ∀ g, v'.ownBlock = some g → ¬ Eng.own v g := fun g hg => by
  obtain ⟨l', hl⟩ := h'.blockAt hg
  exact h.apart hl ht
theorem Row.keptOwn (h : Row w e sz v n xs F) (hk : Kept S w w') (hd : ∀ g, v.ownBlock = some g → ¬ S g) : Row w' e sz v n xs F :=
  ⟨(h.own.kept hk fun k hk => hd k hk).1, h.2⟩
theorem Kept.sub (hk : Kept S w w') (hs : ∀ k, S k → F k) : Kept F w w' := hk.mono fun k _ h => hs k h
end
end Go.Eng
namespace Go.Eng
theorem news_at {w : World} {b : Nat} {l : List Value} {e : TypeId} (h : w.heap[b]? = some (blk l e)) : ∀ j u, l[j]? = some u → w.cell? ⟨b, 0 + j, none⟩ = some u := fun j u hu => by
  rw [cell_at h, Nat.zero_add]; exact hu
theorem grow_mono {F G : Nat → Prop} {w w1 w2 w' : World} (hF : ∀ k, F k → G k) (h1 : w.heap.size ≤ w1.heap.size) (h2 : w2.heap.size ≤ w'.heap.size) : ∀ k, grow F w1 w2 k → grow G w w' k := fun k h => by
  rcases h with h | ⟨h3, h4⟩
  · exact .inl (hF k h)
  · exact .inr ⟨by omega, by omega⟩
end Go.Eng
namespace Go.Eng
section
variable {P : Program} {σ : Env} {w : World} {ty : TypeId}
theorem loadVarC {t : TypeId} {b o : Nat} {v : Value} (ht : Cell1 P t) (hc : w.cell? ⟨b, o, none⟩ = some v) : (loadVar t ⟨b, o, none⟩).run P w = .ok v w := by
  obtain ⟨⟨d, hu, hd⟩, hs⟩ := ht
  have hagg : (isAgg t).run P w = .ok false w := by
    unfold isAgg
    rw [Sem.run_bind, run_underlying hu w]
    cases d <;> simp_all
  simp [loadVar, Sem.run_bind, hagg, load, Sem.run, hc]
/-- A cell read, by what the cell holds. -/
theorem R.loadC {t : TypeId} {x : Operand} {b o : Nat} {v : Value} (ht : Cell1 P t) (hx : ev σ x = .pointer (some ⟨b, o, none⟩)) (hc : w.cell? ⟨b, o, none⟩ = some v) : Run P σ w (.load t x) ty v w := fun _ _ _ _ => by
  simp [execOp, hx, Instr.loadAt, Instr.sureAddr, loadVarC ht hc]
theorem Kept.cell {w' : World} {S : Nat → Prop} (hk : Kept S w w') {a : Addr} {v : Value} (h : w.cell? a = some v) (hb : ¬ S a.block) : w'.cell? a = some v := by
  rw [World.cell?_of_block (w := w) (hk.block a.block (World.block_lt_of_cell? w a h) hb)]; exact h
end
end Go.Eng
