/- The engine, part 7: make, where the element's cells are all alike; slices cloned. -/
import Derived.Test.YtpblppilknkdoaaEng6
namespace Go.Eng
open Go
section
variable {P : Program} {σ : Env} {w : World} {ty : TypeId}
theorem madeCells_same {zs : List Value} {u : Value} {sz : Nat} (hz : zs = List.replicate sz u) (hsz : 0 < sz) (n : Nat) : (madeCells zs.toArray n).toList = List.replicate n u := by
  subst hz
  apply List.ext_getElem
  · simp [madeCells]
  · intro i h1 h2
    have : i % sz < sz := Nat.mod_lt _ hsz
    simp [madeCells, this]
theorem R.makeU {t e : TypeId} {sz bytes : Nat} {u : Value} {x y : Operand} {k k' : IntKind} {n c : Int} {l m : Nat} (hT : ElemT P t e sz bytes) (hz : ZeroT P e (List.replicate sz u)) (hx : ev σ x = .int k n) (hy : ev σ y = .int k' c) (hn : n = (l : Int)) (hm : c = (m : Int)) (hlm : l ≤ m)
    (hb : bytes * m ≤ 281474976710656) (h63 : m ≤ 9223372036854775807) : Run P σ w (.makeSlice t x y) ty (.slice (some ⟨w.heap.size, 0, none⟩) l m) (w.alloc (blk (List.replicate (m * sz) u) e)) := by
  obtain ⟨i, z, hi, hzz, hs, hbb, hc⟩ := hT.info
  obtain ⟨i', z', hi', hz', hc'⟩ := hz
  rw [hi] at hi'; cases hi'
  rw [hzz] at hz'; cases hz'
  have h := R.make (ty := ty) (w := w) hT.under hi hzz hx hy hn hm hlm (by rw [hbb]; exact hb) h63
  rw [hc', hs, madeCells_same rfl hT.pos] at h
  exact h
end
theorem oneCell_flat {α : Type} {f : α → List Value} (h : ∀ x, ∀ v ∈ f x, v.oneCell' = true) (xs : List α) : ∀ v ∈ xs.flatMap f, v.oneCell' = true := fun v hv => by
  obtain ⟨x, _, hx⟩ := List.mem_flatMap.1 hv
  exact h x v hx
theorem grow_none {w w' : World} {b : Nat} (h : w.heap.size ≤ b) (h' : b < w'.heap.size) : grow (fun _ => False) w w' b := .inr ⟨h, h'⟩
end Go.Eng
namespace Go.Eng
open Go
/-- A row all of whose block is new lies in what has grown. -/
theorem Row.inGrow {w w' : World} {e : TypeId} {sz n : Nat} {v : Value} {xs : List Value} (h : Row w' e sz v n xs (fun k => w.heap.size < k)) : Row w' e sz v n xs (grow (fun _ => False) w w') :=
  ⟨h.1, fun g hg => .inr ⟨Nat.le_of_lt (h.2 g hg), h.lt g hg⟩⟩
end Go.Eng
namespace Go.Eng
open Go
theorem Ret.weaken {P : Program} {f : FuncId} {args : Array Value} {w : World} {R R' : Value → World → Prop} (h : Ret P f args w R) (hr : ∀ v w', R v w' → R' v w') : Ret P f args w R' :=
  Calls.mono h fun _ _ ⟨v, he, hR⟩ => ⟨v, he, hr _ _ hR⟩
end Go.Eng
namespace Go.Eng
open Go
section
variable {P : Program} {σ : Env} {w : World} {ty t e u : TypeId} {x y : Operand}
theorem R.eqlAV {N : Nat} {k : IntKind} {A B : List Int} {b : Bool} (hu : P.underlying t = some (.array N e)) (he : P.underlying e = some (.int k)) (hs : (P.info? e).map (·.size) = some 1) (hgd : P.eqGuardType P.depth t = false)
    (hx : ev σ x = .agg (A.map (Value.int k)).toArray) (hy : ev σ y = .agg (B.map (Value.int k)).toArray) (hA : A.length = N) (hB : B.length = N) (hb : decide (A = B) = b) : Run P σ w (.binOp .eql t x y u) ty (.bool b) w := by
  subst hb; exact R.eqlA hu he hs hgd hx hy hA hB
theorem R.neqAV {N : Nat} {k : IntKind} {A B : List Int} {b : Bool} (hu : P.underlying t = some (.array N e)) (he : P.underlying e = some (.int k)) (hs : (P.info? e).map (·.size) = some 1) (hgd : P.eqGuardType P.depth t = false)
    (hx : ev σ x = .agg (A.map (Value.int k)).toArray) (hy : ev σ y = .agg (B.map (Value.int k)).toArray) (hA : A.length = N) (hB : B.length = N) (hb : decide (A = B) = !b) : Run P σ w (.binOp .neq t x y u) ty (.bool b) w := by
  have : b = !decide (A = B) := by rw [hb]; simp
  subst this; exact R.neqA hu he hs hgd hx hy hA hB
end
end Go.Eng
namespace Go.Eng
open Go
section
variable {P : Program} {σ : Env} {w : World} {ty : TypeId}
/-- append(s, x...), x empty, wherever it lies. -/
theorem R.append0 {t e : TypeId} {sz bytes : Nat} {x y : Operand} {v : Value} {m c : Nat} {a : Option Addr} {xs : List Value} {F : Nat → Prop} (hT : ElemT P t e sz bytes) (hx : ev σ x = v) (hrow : Row w e sz v m xs F) (hy : ev σ y = .slice a 0 c)
    (h63 : m ≤ maxLen) (hby : m * bytes ≤ 140737488355328) :
    ∃ v' w', Run P σ w (.call { callee := .builtin .append, args := #[x, y], argTypes := #[t, t] }) ty v' w' ∧ (Row w' e sz v' m xs (grow F w w') ∧ Kept F w w') := by
  obtain ⟨i, z, hi, hz, hs, hb, hzc⟩ := hT.info
  cases a with
  | none =>
    have hr : (Builtin.append_ #[t, t] ty #[v, .slice none 0 c]).run P w = .ok v w := by
      rcases hrow.1.2 with ⟨rfl, rfl⟩ | ⟨g, cap, cur, rfl, _, _, hnc, _⟩
      · simp [Builtin.append_, run_underlying hT.under, sizeOf, typeInfo, hi, Builtin.lenOf, Builtin.firstCells]
      · simp [Builtin.append_, run_underlying hT.under, sizeOf, typeInfo, hi, Builtin.lenOf, Builtin.firstCells, hnc, storeCells]
    exact ⟨v, w, fun _ _ _ _ => by simp [execOp, resolve, invoke, builtin, hx, hy, hr], hrow.mono (fun _ h => .inl h), Kept.refl F w⟩
  | some a =>
    obtain ⟨v', w', hr, h2, h3, h4, h5⟩ := run_append_own_at (P := P) w 0 t ty e i z sz bytes hT.under hi hz hs hb hzc hT.pos v m xs hrow.1 a 0 c [] (by simp)
      (fun j u hu => by simp at hu) (by simp) (by simpa using h63) (by simpa using hby) (Nat.zero_le _)
    simp only [List.append_nil, Nat.add_zero] at h2
    refine ⟨v', w', fun _ _ _ _ => ?_, ⟨h2, ?_⟩, (Kept.refl F w).grown h3 (fun g hg _ => hrow.2 g hg)⟩
    · simp [execOp, resolve, invoke, builtin, hx, hy, hr]
    · intro g hg
      rcases h5 with h5 | h5
      · exact .inl (hrow.2 g (by rw [← h5]; exact hg))
      · right
        have : g = w.heap.size := by rw [h5] at hg; exact (Option.some.inj hg).symm
        subst this
        exact ⟨Nat.le_refl _, (h2.lt _ hg).2⟩
end
end Go.Eng
