/- Plain law of DiskFails: a disk that fails once is, but for that, as one that does not. -/
import Derived.Test.YtpblppilknkdoaaLaw
namespace Go.Proofs.Ytpblppilknkdoaa
open Go Go.Eng Go.Proofs
/-- An op that DiskFails leaves out. -/
def skipF (o : POp) : Prop := 2 < kindOf o.k ∨ (kindOf o.k < 2 ∧ (o.a < 0 ∨ 6 ≤ o.a))
instance (o : POp) : Decidable (skipF o) := inferInstanceAs (Decidable (_ ∨ _))
theorem PD.fails_self {D : PD} {f : Int} (h : D.fails = f) : ({ D with fails := f } : PD) = D := by cases D; subst h; rfl
section
variable {D : PD} {i : Int}
theorem ready_one (h : D.Plain) (hi : 0 ≤ i ∧ i < D.safe.length) : ({ D with fails := 1 } : PD).ready i = (D, 8) := by
  unfold PD.ready
  dsimp only
  rw [if_neg (by rw [h.dead]; decide), if_neg (by omega), if_pos rfl, PD.fails_self h.fails]
theorem ready_more (h : D.Plain) (hi : 0 ≤ i ∧ i < D.safe.length) {f : Int} (hf : 1 < f) : ({ D with fails := f } : PD).ready i = ({ D with fails := f - 1 }, 0) := by
  unfold PD.ready
  dsimp only
  rw [if_neg (by rw [h.dead]; decide), if_neg (by omega), if_neg (by omega), if_pos hf]
theorem look_fails (D : PD) (f : Int) (i : Int) : ({ D with fails := f } : PD).look i = D.look i := by rw [look_eq, look_eq]
/-- The op that fails. -/
theorem does_one (h : D.Plain) (hs : D.safe.length = 6) {o : POp} (hk : ¬ skipF o) : ({ D with fails := 1 } : PD).does o = (D, z64, 8) := by
  have hr := kindOf_range o.k
  unfold skipF at hk
  unfold PD.does
  by_cases h0 : kindOf o.k = 0
  · rw [if_pos h0]
    unfold PD.read
    rw [ready_one h (by omega)]
    rfl
  · rw [if_neg h0]
    by_cases h1 : kindOf o.k = 1
    · rw [if_pos h1]
      have e : ({ D with fails := 1 } : PD).write o.a (fblock o.f) = (D, 8) := by
        unfold PD.write
        rw [ready_one h (by omega)]
        rfl
      rw [e]
    · rw [if_neg h1, if_pos (by omega)]
      have e : ({ D with fails := 1 } : PD).sync = (D, 8) := by
        unfold PD.sync
        rw [ready_one h (by omega)]
        rfl
      rw [e]
/-- An op ahead of it. -/
theorem does_more (h : D.Plain) (hs : D.safe.length = 6) {o : POp} (hk : ¬ skipF o) {f : Int} (hf : 1 < f) : ({ D with fails := f } : PD).does o = ({ (D.does o).1 with fails := f - 1 }, (D.does o).2) := by
  have hr := kindOf_range o.k
  have hst : ¬ ({ D with fails := f - 1 } : PD).stops := fun hs => h.stops hs
  unfold skipF at hk
  unfold PD.does
  by_cases h0 : kindOf o.k = 0
  · rw [if_pos h0, if_pos h0, h.read, if_pos (by omega)]
    unfold PD.read
    rw [ready_more h (by omega) hf]
    simp only [ne_eq, not_true_eq_false, if_false, look_fails]
  · rw [if_neg h0, if_neg h0]
    by_cases h1 : kindOf o.k = 1
    · rw [if_pos h1, if_pos h1]
      have e : ({ D with fails := f } : PD).write o.a (fblock o.f) = ({ D with ops := D.ops + 1, pend := D.pend ++ [(o.a.toNat, fblock o.f)], fails := f - 1 }, 0) := by
        unfold PD.write
        rw [ready_more h (by omega) hf]
        simp only [ne_eq, not_true_eq_false, if_false]
        rw [if_neg hst]
        simp [PD.pre, h.armed]
      rw [e, h.write, if_pos (by omega)]
    · rw [if_neg h1, if_neg h1, if_pos (by omega), if_pos (by omega)]
      have e : ({ D with fails := f } : PD).sync = ({ D with ops := D.ops + 1, safe := settleN D.safe D.pend (fun _ => true) D.pend.length, pend := [], fails := f - 1 }, 0) := by
        unfold PD.sync
        rw [ready_more h (by omega) hf]
        simp only [ne_eq, not_true_eq_false, if_false]
        rw [if_neg hst]
        simp [PD.pre, PD.settle, h.armed]
      rw [e, h.sync (by omega)]
end
/-- The disk that does not fail, and how many ops were asked. -/
def failsN (m : List OpV) (n : Int) : Nat → PD × Int
  | 0 => (PD.new 6, 0)
  | k + 1 => match m[k]? with
    | some x => if skipF x.o then failsN m n k else if (failsN m n k).2 = n then ((failsN m n k).1, (failsN m n k).2 + 1) else (((failsN m n k).1.does x.o).1, (failsN m n k).2 + 1)
    | none => failsN m n k
/-- The disk that fails. -/
def PD.failing (D : PD) (n q : Int) : PD := { D with fails := if q ≤ n then n + 1 - q else 0 }
theorem failsN_succ {m : List OpV} {n : Int} {k : Nat} {x : OpV} (h : m[k]? = some x) : failsN m n (k + 1) = if skipF x.o then failsN m n k else if (failsN m n k).2 = n then ((failsN m n k).1, (failsN m n k).2 + 1) else (((failsN m n k).1.does x.o).1, (failsN m n k).2 + 1) := by simp [failsN, h]
structure FailsOk (s : PD × Int) (k : Nat) : Prop where
  plain : s.1.Plain
  safe : s.1.safe.length = 6
  few : PD.Few (PD.new 6) s.1 k
  count : 0 ≤ s.2 ∧ s.2 ≤ k
theorem failsN_ok (m : List OpV) (n : Int) : ∀ k, k ≤ m.length → FailsOk (failsN m n k) k
  | 0, _ => ⟨PD.Plain.new 6, by simp [failsN, PD.new], PD.Few.zero _, by simp [failsN]⟩
  | k + 1, hk => by
    have ih := failsN_ok m n k (by omega)
    have hx : m[k]? = some m[k] := List.getElem?_eq_getElem (by omega)
    rw [failsN_succ hx]
    have hc := ih.count
    split
    · exact ⟨ih.plain, ih.safe, ih.few.skip, by omega⟩
    · rename_i hsk
      split
      · exact ⟨ih.plain, ih.safe, ih.few.skip, by simp only; omega⟩
      · have hk3 : kindOf (m[k]).o.k < 3 := by unfold skipF at hsk; omega
        obtain ⟨g1, g2, _⟩ := ih.plain.doesW (by rw [ih.safe]; decide) hk3
        exact ⟨g1, g2.trans ih.safe, ih.few.step PD.step_does, by simp only; omega⟩
/-- What an op does to the disk that fails. -/
theorem failing_does {D : PD} (h : D.Plain) (hs : D.safe.length = 6) {o : POp} (hk : ¬ skipF o) (n q : Int) :
    (q = n → (D.failing n q).does o = (D.failing n (q + 1), z64, 8)) ∧ (q ≠ n → (D.failing n q).does o = ((D.does o).1.failing n (q + 1), (D.does o).2)) := by
  have hk3 : kindOf o.k < 3 := by unfold skipF at hk; omega
  obtain ⟨g1, _, _⟩ := h.doesW (by rw [hs]; decide) hk3
  refine ⟨fun e => ?_, fun e => ?_⟩
  · subst e
    unfold PD.failing
    rw [if_pos (Int.le_refl _), if_neg (by omega), show q + 1 - q = 1 by omega, does_one h hs hk, PD.fails_self h.fails]
  · unfold PD.failing
    by_cases hq : q ≤ n
    · rw [if_pos hq, if_pos (by omega), does_more h hs hk (by omega), show n + 1 - q - 1 = n + 1 - (q + 1) by omega]
    · rw [if_neg hq, if_neg (by omega), PD.fails_self h.fails, PD.fails_self g1.fails]
theorem failing_start {n : Int} (hn : 0 ≤ n ∧ n < 4611686018427387904) : (PD.new 6).fail n = ((PD.new 6).failing n 0, 0) := by
  unfold PD.fail PD.failing
  rw [if_neg (by simp [PD.new]), if_pos hn, if_pos hn.1]
  simp
theorem failing_end {D : PD} (h : D.Plain) {n q : Int} : (n < q → D.failing n q = D) ∧ ((D.failing n q).fail (-1)) = (D, 0) := by
  refine ⟨fun hq => ?_, ?_⟩
  · unfold PD.failing; rw [if_neg (by omega), PD.fails_self h.fails]
  · unfold PD.fail PD.failing
    dsimp only
    rw [if_neg (by rw [h.dead]; decide), if_neg (by omega)]
    have := PD.fails_self h.fails
    simp only [this]
end Go.Proofs.Ytpblppilknkdoaa
