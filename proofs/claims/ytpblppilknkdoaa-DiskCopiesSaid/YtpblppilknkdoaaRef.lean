/- The reference's disk: a value, its rows in memory; what its functions compute. -/
import Derived.Test.YtpblppilknkdoaaD15
namespace Go.Proofs.Ytpblppilknkdoaa
open Go Go.Eng Go.Proofs
structure RD where
  safe : List Blk
  pend : List (Nat × Blk)
  dead : Bool
  left : Int
  fails : Int
  ops : Int
abbrev rcells (sv pv : Value) (R : RD) : List Value := [sv, pv, .bool R.dead, .int .i64 R.left, .int .i64 R.fails, .int .i64 R.ops]
structure RD.Ok (R : RD) : Prop where
  blocks : ∀ b ∈ R.safe, b.length = 64
  pends : ∀ p ∈ R.pend, p.1 < R.safe.length ∧ p.2.length = 64
  left : -1 ≤ R.left ∧ R.left ≤ 9223372036854775807
  fails : -1 ≤ R.fails ∧ R.fails ≤ 9223372036854775807
/-- The value v is the disk R; its rows lie in G. -/
structure RefAt (w : World) (v : Value) (R : RD) (G : Nat → Prop) : Prop where
  ok : R.Ok
  rows : ∃ sv pv, v = .agg (rcells sv pv R).toArray ∧ Row w 27 64 sv R.safe.length (R.safe.flatMap bcells) G ∧ Row w 75 65 pv R.pend.length (R.pend.flatMap wcells) G
theorem RefAt.kept {w w' : World} {v : Value} {R : RD} {G S : Nat → Prop} (h : RefAt w v R G) (hk : Kept S w w') (hd : ∀ k, G k → ¬ S k) : RefAt w' v R G := by
  obtain ⟨h1, sv, pv, h2, h3, h4⟩ := h
  exact ⟨h1, sv, pv, h2, h3.kept hk hd, h4.kept hk hd⟩
theorem RefAt.mono {w : World} {v : Value} {R : RD} {G G' : Nat → Prop} (h : RefAt w v R G) (hG : ∀ k, G k → G' k) : RefAt w v R G' := by
  obtain ⟨h1, sv, pv, h2, h3, h4⟩ := h
  exact ⟨h1, sv, pv, h2, h3.mono hG, h4.mono hG⟩
def RD.asked (R : RD) (i : Int) : RD × Int :=
  if R.dead = true then (R, 9)
  else if i < 0 ∨ (R.safe.length : Int) ≤ i then (R, 2)
  else if R.fails = 0 then ({ R with fails := -1 }, 8)
  else if 0 < R.fails then ({ R with fails := R.fails - 1 }, 0)
  else (R, 0)
def RD.done (R : RD) : RD × Bool :=
  if R.left = 0 then ({ R with dead := true }, false)
  else ({ R with left := if 0 < R.left then R.left - 1 else R.left, ops := R.ops + 1 }, true)
def max1 (n : Int) : Int := if n < -1 then -1 else n
def RD.arm (R : RD) (n : Int) : RD × Int := if R.dead = true then (R, 9) else ({ R with left := max1 n }, 0)
def RD.fail (R : RD) (n : Int) : RD × Int := if R.dead = true then (R, 9) else ({ R with fails := max1 n }, 0)
/-- What a sector holds behind the first k pending writes. -/
def holdsN (safe : List Blk) (pend : List (Nat × Blk)) (i : Nat) : Nat → Blk
  | 0 => safe.getD i []
  | k + 1 => match pend[k]? with
    | some p => if p.1 = i then p.2 else holdsN safe pend i k
    | none => holdsN safe pend i k
theorem holdsN_succ {safe : List Blk} {pend : List (Nat × Blk)} {i k : Nat} {p : Nat × Blk} (h : pend[k]? = some p) : holdsN safe pend i (k + 1) = if p.1 = i then p.2 else holdsN safe pend i k := by simp [holdsN, h]
theorem length_holdsN {safe : List Blk} {pend : List (Nat × Blk)} {i : Nat} (hs : ∀ b ∈ safe, b.length = 64) (hp : ∀ p ∈ pend, p.2.length = 64) (hi : i < safe.length) : ∀ k, (holdsN safe pend i k).length = 64
  | 0 => by
    simp only [holdsN]
    rw [List.getD_eq_getElem?_getD, List.getElem?_eq_getElem hi]
    exact hs _ (List.getElem_mem _)
  | k + 1 => by
    simp only [holdsN]
    split
    · rename_i p hpk
      split
      · exact hp _ (List.mem_of_getElem? hpk)
      · exact length_holdsN hs hp hi k
    · exact length_holdsN hs hp hi k
def RD.holds (R : RD) (i : Int) : Blk := holdsN R.safe R.pend i.toNat R.pend.length
def RD.read (R : RD) (i : Int) : RD × Blk × Int :=
  if (R.asked i).2 ≠ 0 then ((R.asked i).1, z64, (R.asked i).2)
  else ({ (R.asked i).1 with ops := (R.asked i).1.ops + 1 }, ({ (R.asked i).1 with ops := (R.asked i).1.ops + 1 } : RD).holds i, 0)
def RD.live (R : RD) (f : Nat → Bool) : RD := { R with safe := settleN R.safe R.pend f R.pend.length, pend := [] }
def RD.write (R : RD) (i : Int) (b : Blk) : RD × Int :=
  if (R.asked i).2 ≠ 0 then R.asked i
  else if (R.asked i).1.done.2 = false then ((R.asked i).1.done.1, 9)
  else ({ (R.asked i).1.done.1 with pend := (R.asked i).1.done.1.pend ++ [(i.toNat, b)] }, 0)
def RD.sync (R : RD) : RD × Int :=
  if (R.asked 0).2 ≠ 0 then R.asked 0
  else if (R.asked 0).1.done.2 = false then ((R.asked 0).1.done.1, 9)
  else ((R.asked 0).1.done.1.live fun _ => true, 0)
def RD.crash (R : RD) (f : Nat → Bool) : RD := { R.live f with dead := false, left := -1, fails := -1 }
section
variable {R : RD} {i : Int}
@[simp] theorem RD.asked_safe : (R.asked i).1.safe = R.safe := by unfold RD.asked; (repeat' split) <;> rfl
@[simp] theorem RD.asked_pend : (R.asked i).1.pend = R.pend := by unfold RD.asked; (repeat' split) <;> rfl
@[simp] theorem RD.done_safe : R.done.1.safe = R.safe := by unfold RD.done; split <;> rfl
@[simp] theorem RD.done_pend : R.done.1.pend = R.pend := by unfold RD.done; split <;> rfl
theorem max1_range {n : Int} (h : n ≤ 9223372036854775807) : -1 ≤ max1 n ∧ max1 n ≤ 9223372036854775807 := by unfold max1; split <;> omega
theorem RD.asked_range (h : (R.asked i).2 = 0) : 0 ≤ i ∧ i < R.safe.length := by
  unfold RD.asked at h
  by_cases h1 : R.dead = true
  · rw [if_pos h1] at h; simp at h
  · rw [if_neg h1] at h
    by_cases h2 : i < 0 ∨ (R.safe.length : Int) ≤ i
    · rw [if_pos h2] at h; simp at h
    · omega
theorem RD.Ok.asked (h : R.Ok) (i : Int) : (R.asked i).1.Ok := by
  refine ⟨by simpa using h.blocks, by simpa using h.pends, ?_, ?_⟩
  · have := h.left
    unfold RD.asked
    (repeat' split) <;> exact this
  · have := h.fails
    unfold RD.asked
    (repeat' split) <;> first | exact this | (simp only; omega)
theorem RD.Ok.done (h : R.Ok) : R.done.1.Ok := by
  refine ⟨by simpa using h.blocks, by simpa using h.pends, ?_, ?_⟩
  · have := h.left
    unfold RD.done
    split
    · exact this
    · simp only; split <;> omega
  · have := h.fails
    unfold RD.done
    split <;> exact this
theorem RD.Ok.ops (h : R.Ok) (n : Int) : ({ R with ops := n } : RD).Ok := ⟨h.blocks, h.pends, h.left, h.fails⟩
theorem RD.Ok.arm (h : R.Ok) {n : Int} (hn : n ≤ 9223372036854775807) : (R.arm n).1.Ok := by
  unfold RD.arm
  split
  · exact h
  · exact ⟨h.blocks, h.pends, max1_range hn, h.fails⟩
theorem RD.Ok.fail (h : R.Ok) {n : Int} (hn : n ≤ 9223372036854775807) : (R.fail n).1.Ok := by
  unfold RD.fail
  split
  · exact h
  · exact ⟨h.blocks, h.pends, h.left, max1_range hn⟩
theorem RD.Ok.live (h : R.Ok) (f : Nat → Bool) : (R.live f).Ok :=
  ⟨all_settleN h.blocks h.pends _, by intro p hp; simp [RD.live] at hp, h.left, h.fails⟩
theorem RD.Ok.crash (h : R.Ok) (f : Nat → Bool) : (R.crash f).Ok :=
  ⟨(h.live f).blocks, (h.live f).pends, by simp [RD.crash], by simp [RD.crash]⟩
theorem RD.Ok.push (h : R.Ok) {k : Nat} {b : Blk} (hk : k < R.safe.length) (hb : b.length = 64) : ({ R with pend := R.pend ++ [(k, b)] } : RD).Ok := by
  refine ⟨h.blocks, ?_, h.left, h.fails⟩
  intro p hp
  rcases List.mem_append.1 hp with hp | hp
  · exact h.pends p hp
  · obtain rfl := List.mem_singleton.1 hp
    exact ⟨hk, hb⟩
end
end Go.Proofs.Ytpblppilknkdoaa
