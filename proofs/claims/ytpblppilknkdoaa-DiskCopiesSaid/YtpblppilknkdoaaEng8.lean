/- The engine, part 8: an aggregate read, by what its cells hold. -/
import Derived.Test.YtpblppilknkdoaaEng7
import Derived.Test.YtpblppilknkdoaaFlat
namespace Go.Eng
open Go
section
variable {P : Program} {σ : Env} {w : World} {ty : TypeId}
theorem loadVarCA {t : TypeId} {b o n : Nat} {cs : List Value} (ht : RowT P t n) (hc : ∀ j v, cs[j]? = some v → w.cell? ⟨b, o + j, none⟩ = some v) (hl : cs.length = n) : (loadVar t ⟨b, o, none⟩).run P w = .ok (.agg cs.toArray) w := by
  obtain ⟨⟨d, hu, hd⟩, hs⟩ := ht
  exact run_loadVar_mid w b o t cs d hc hu hd (by rw [hl]; exact hs)
theorem R.loadCA {t : TypeId} {x : Operand} {b o n : Nat} {cs : List Value} (ht : RowT P t n) (hx : ev σ x = .pointer (some ⟨b, o, none⟩)) (hc : ∀ j v, cs[j]? = some v → w.cell? ⟨b, o + j, none⟩ = some v) (hl : cs.length = n) :
    Run P σ w (.load t x) ty (.agg cs.toArray) w := fun _ _ _ _ => by
  simp [execOp, hx, Instr.loadAt, Instr.sureAddr, loadVarCA ht hc hl]
end
end Go.Eng
namespace Go.Eng
open Go
section
variable {P : Program} {σ : Env} {w : World} {ty : TypeId}
theorem R.min2V {t u : TypeId} {x y : Operand} {k k' : IntKind} {a b : Int} {v : Value} (hx : ev σ x = .int k a) (hy : ev σ y = .int k' b) (hv : .int k (if b < a then b else a) = v) :
    Run P σ w (.call { callee := .builtin .min, args := #[x, y], argTypes := #[t, u] }) ty v w := by subst hv; exact R.min2 hx hy
theorem R.max2V {t u : TypeId} {x y : Operand} {k k' : IntKind} {a b : Int} {v : Value} (hx : ev σ x = .int k a) (hy : ev σ y = .int k' b) (hv : .int k (if a < b then b else a) = v) :
    Run P σ w (.call { callee := .builtin .max, args := #[x, y], argTypes := #[t, u] }) ty v w := by subst hv; exact R.max2 hx hy
end
end Go.Eng
namespace Go.Eng
theorem part_set_all {α : Type} {f : α → List Value} {sz : Nat} {xs : List α} (h : ∀ x ∈ xs, (f x).length = sz) {k : Nat} (hk : k < xs.length) (b : α) (hb : (f b).length = sz) :
    splice (xs.flatMap f) (k * sz) (f b) = (xs.set k b).flatMap f := by
  have e := part_set h (l := xs.flatMap f) (List.take_of_length_le (Nat.le_of_eq (flat_length h))) hk b hb
  rwa [List.take_of_length_le (by rw [length_splice, flat_length h]; exact Nat.le_refl _)] at e
end Go.Eng
namespace Go.Eng
open Go
theorem R.remV {P : Program} {σ : Env} {w : World} {ty t u : TypeId} {x y : Operand} {k : IntKind} {a b : Int} {v : Value} (hx : ev σ x = .int k a) (hy : ev σ y = .int k b) (hb : b ≠ 0) (hv : .int k (a.tmod b) = v) :
    Run P σ w (.binOp .rem t x y u) ty v w := by subst hv; exact R.rem hx hy hb
end Go.Eng
