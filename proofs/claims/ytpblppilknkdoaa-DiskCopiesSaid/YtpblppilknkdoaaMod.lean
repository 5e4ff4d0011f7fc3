/- What a disk is, for both texts: lists of blocks, pending writes, counters; and how it lies in memory. -/
import Derived.Test.YtpblppilknkdoaaTy
import Derived.Test.YtpblppilknkdoaaFlat
namespace Go.Proofs.Ytpblppilknkdoaa
open Go Go.Eng Go.Proofs

/-- A block: 64 numbers. -/
abbrev Blk := List Int
def bcells (b : Blk) : List Value := b.map (Value.int .u8)
def bval (b : Blk) : Value := .agg (bcells b).toArray
def z64 : Blk := List.replicate 64 0
/-- A pending write's cells. -/
def wcells (p : Nat × Blk) : List Value := .int .i64 (p.1 : Int) :: bcells p.2

theorem length_bcells (b : Blk) : (bcells b).length = b.length := by simp [bcells]
theorem one_bcells (b : Blk) : ∀ v ∈ bcells b, v.oneCell' = true := by
  intro v hv
  obtain ⟨_, _, rfl⟩ := List.mem_map.1 hv
  rfl
theorem length_wcells (p : Nat × Blk) : (wcells p).length = p.2.length + 1 := by simp [wcells, bcells]
theorem one_wcells (p : Nat × Blk) : ∀ v ∈ wcells p, v.oneCell' = true := by
  intro v hv
  rcases List.mem_cons.1 hv with rfl | hv
  · rfl
  · exact one_bcells _ v hv
theorem bcells_z64 : bcells z64 = List.replicate 64 (.int .u8 0) := by simp [bcells, z64]

/-- The program's disk. -/
structure PD where
  safe : List Blk
  pend : List (Nat × Blk)
  dead : Bool
  armed : Bool
  left : Int
  fails : Int
  ops : Int

def PD.cells (D : PD) (sv pv : Value) : List Value := [sv, pv, .bool D.dead, .bool D.armed, .int .i64 D.left, .int .i64 D.fails, .int .i64 D.ops]

/-- The program's disk's numbers are sound. -/
structure PD.Ok (D : PD) : Prop where
  blocks : ∀ b ∈ D.safe, b.length = 64
  pends : ∀ p ∈ D.pend, p.1 < D.safe.length ∧ p.2.length = 64
  left : -9223372036854775808 ≤ D.left ∧ D.left ≤ 9223372036854775807
  armed : D.armed = true → 0 ≤ D.left
  fails : 0 ≤ D.fails ∧ D.fails ≤ 4611686018427387904
  ops : 0 ≤ D.ops

/-- Is the sector there, has the disk power, and does the operation not fail? -/
def PD.ready (D : PD) (i : Int) : PD × Int :=
  if D.dead = true then (D, 9)
  else if i < 0 ∨ (D.safe.length : Int) ≤ i then (D, 2)
  else if D.fails = 1 then ({ D with fails := 0 }, 8)
  else if 1 < D.fails then ({ D with fails := D.fails - 1 }, 0)
  else (D, 0)
/-- The disk lies at block r; all its blocks are of the footprint F. -/
structure DiskAt (w : World) (r : Nat) (D : PD) (F : Nat → Prop) : Prop where
  foot : F r
  ok : D.Ok
  rows : ∃ sv pv, w.heap[r]? = some (blk (D.cells sv pv) 69) ∧ Row w 27 64 sv D.safe.length (D.safe.flatMap bcells) F ∧ Row w 80 65 pv D.pend.length (D.pend.flatMap wcells) F

theorem setO_self {w : World} {b : Nat} {x : Obj} (h : w.heap[b]? = some x) : setO w b x = w := by
  have hb := at_lt w b h
  simp only [setO]
  have : w.heap.setIfInBounds b x = w.heap := by
    apply Array.ext_getElem?
    intro i
    by_cases e' : i = b
    · subst e'; rw [h]; simp [hb]
    · rw [Array.getElem?_setIfInBounds_ne (fun x => e' x.symm)]
  rw [this]
end Go.Proofs.Ytpblppilknkdoaa
namespace Go.Proofs.Ytpblppilknkdoaa
open Go Go.Eng Go.Proofs
theorem wcells65 {p : Nat × Blk} (h : p.2.length = 64) : (wcells p).length = 65 := by rw [length_wcells, h]
theorem bcells64 {b : Blk} (h : b.length = 64) : (bcells b).length = 64 := by rw [length_bcells, h]
theorem wcells_tail {p : Nat × Blk} (h : p.2.length = 64) : ((wcells p).drop 1).take 64 = bcells p.2 := by
  simp only [wcells, List.drop_succ_cons, List.drop_zero]
  exact List.take_of_length_le (Nat.le_of_eq (bcells64 h))

/-- The sectors behind the first k pending writes, of which those live that f says. -/
def settleN (safe : List Blk) (pend : List (Nat × Blk)) (f : Nat → Bool) : Nat → List Blk
  | 0 => safe
  | k + 1 => match pend[k]? with
    | some p => if f k = true then (settleN safe pend f k).set p.1 p.2 else settleN safe pend f k
    | none => settleN safe pend f k
section
variable {safe : List Blk} {pend : List (Nat × Blk)} {f : Nat → Bool} {k : Nat} {p : Nat × Blk}
theorem settleN_yes (hp : pend[k]? = some p) (hf : f k = true) : settleN safe pend f (k + 1) = (settleN safe pend f k).set p.1 p.2 := by simp [settleN, hp, hf]
theorem settleN_no (hf : f k = false) : settleN safe pend f (k + 1) = settleN safe pend f k := by
  cases hp : pend[k]? <;> simp [settleN, hp, hf]
theorem length_settleN (k : Nat) : (settleN safe pend f k).length = safe.length := by
  induction k with
  | zero => rfl
  | succ k ih => 
    simp only [settleN]
    split
    · split
      · rw [List.length_set, ih]
      · exact ih
    · exact ih
theorem all_settleN (hs : ∀ b ∈ safe, b.length = 64) (hp : ∀ p ∈ pend, p.1 < safe.length ∧ p.2.length = 64) : ∀ k, ∀ b ∈ settleN safe pend f k, b.length = 64
  | 0, b, hb => hs b hb
  | k + 1, b, hb => by
    simp only [settleN] at hb
    split at hb
    · rename_i p hpk
      split at hb
      · rcases List.mem_or_eq_of_mem_set hb with hb | rfl
        · exact all_settleN hs hp k b hb
        · exact (hp p (List.mem_of_getElem? hpk)).2
      · exact all_settleN hs hp k b hb
    · exact all_settleN hs hp k b hb
end
def PD.settle (D : PD) (f : Nat → Bool) : PD := { D with safe := settleN D.safe D.pend f D.pend.length, pend := [] }
theorem PD.Ok.settle {D : PD} (h : D.Ok) (f : Nat → Bool) : (D.settle f).Ok :=
  ⟨all_settleN h.blocks h.pends _, by intro p hp; simp [PD.settle] at hp, h.left, h.armed, h.fails, h.ops⟩
/-- The bookkeeping of a write or a sync: none if the power goes with it. -/
def PD.pre (D : PD) : PD := { D with left := if D.armed = true then D.left - 1 else D.left, ops := D.ops + 1 }
end Go.Proofs.Ytpblppilknkdoaa
namespace Go.Proofs.Ytpblppilknkdoaa
open Go Go.Eng Go.Proofs
section
variable {D : PD} {i : Int}
@[simp] theorem PD.ready_safe : (D.ready i).1.safe = D.safe := by unfold PD.ready; (repeat' split) <;> rfl
@[simp] theorem PD.ready_pend : (D.ready i).1.pend = D.pend := by unfold PD.ready; (repeat' split) <;> rfl
@[simp] theorem PD.ready_dead : (D.ready i).1.dead = D.dead := by unfold PD.ready; (repeat' split) <;> rfl
@[simp] theorem PD.ready_armed : (D.ready i).1.armed = D.armed := by unfold PD.ready; (repeat' split) <;> rfl
@[simp] theorem PD.ready_left : (D.ready i).1.left = D.left := by unfold PD.ready; (repeat' split) <;> rfl
@[simp] theorem PD.ready_ops : (D.ready i).1.ops = D.ops := by unfold PD.ready; (repeat' split) <;> rfl
theorem PD.ready_range (h : (D.ready i).2 = 0) : D.dead = false ∧ 0 ≤ i ∧ i < D.safe.length := by
  unfold PD.ready at h
  by_cases h1 : D.dead = true
  · rw [if_pos h1] at h; simp at h
  · rw [if_neg h1] at h
    by_cases h2 : i < 0 ∨ (D.safe.length : Int) ≤ i
    · rw [if_pos h2] at h; simp at h
    · exact ⟨by simpa using h1, by omega, by omega⟩
theorem PD.Ok.ready (h : D.Ok) (i : Int) : (D.ready i).1.Ok := by
  refine ⟨by simpa using h.blocks, by simpa using h.pends, by simpa using h.left, by simpa using h.armed, ?_, by simpa using h.ops⟩
  have := h.fails
  unfold PD.ready
  split
  · exact this
  · split
    · exact this
    · split
      · simp
      · split
        · simp only; omega
        · exact this
end
/-- The power goes with this write or sync. -/
def PD.stops (D : PD) : Prop := D.armed = true ∧ D.left = 0
instance (D : PD) : Decidable D.stops := by unfold PD.stops; infer_instance
def PD.die (D : PD) : PD := { D with dead := true, armed := false }
def PD.write (D : PD) (i : Int) (b : Blk) : PD × Int :=
  if (D.ready i).2 ≠ 0 then D.ready i
  else if (D.ready i).1.stops then ((D.ready i).1.die, 9)
  else ({ (D.ready i).1.pre with pend := D.pend ++ [(i.toNat, b)] }, 0)
def PD.sync (D : PD) : PD × Int :=
  if (D.ready 0).2 ≠ 0 then D.ready 0
  else if (D.ready 0).1.stops then ((D.ready 0).1.die, 9)
  else ((D.ready 0).1.pre.settle fun _ => true, 0)
def PD.crash (D : PD) (f : Nat → Bool) : PD := { D.settle f with dead := false, armed := false, fails := 0 }
def PD.arm (D : PD) (n : Int) : PD × Int := if D.dead = true then (D, 9) else ({ D with armed := decide (0 ≤ n), left := n }, 0)
def PD.fail (D : PD) (n : Int) : PD × Int := if D.dead = true then (D, 9) else ({ D with fails := if 0 ≤ n ∧ n < 4611686018427387904 then n + 1 else 0 }, 0)
section
variable {D : PD}
theorem PD.Ok.pre (h : D.Ok) (hs : ¬ D.stops) : D.pre.Ok := by
  refine ⟨h.blocks, h.pends, ?_, ?_, h.fails, ?_⟩
  · have := h.left; have ha := h.armed
    simp only [PD.pre]; split
    · have := ha ‹_›; omega
    · exact this
  · intro ha
    have h0 := h.armed ha
    simp only [PD.pre] at ha ⊢
    rw [if_pos ha]
    have : D.left ≠ 0 := fun e => hs ⟨ha, e⟩
    omega
  · have := h.ops; simp only [PD.pre]; omega
theorem PD.Ok.die (h : D.Ok) : D.die.Ok := ⟨h.blocks, h.pends, h.left, by simp [PD.die], h.fails, h.ops⟩
theorem PD.Ok.crash (h : D.Ok) (f : Nat → Bool) : (D.crash f).Ok := by
  have h' := h.settle f
  exact ⟨h'.blocks, h'.pends, h'.left, by simp [PD.crash], by simp [PD.crash], h'.ops⟩
theorem PD.Ok.push (h : D.Ok) {k : Nat} {b : Blk} (hk : k < D.safe.length) (hb : b.length = 64) : ({ D with pend := D.pend ++ [(k, b)] } : PD).Ok := by
  refine ⟨h.blocks, ?_, h.left, h.armed, h.fails, h.ops⟩
  intro p hp
  rcases List.mem_append.1 hp with hp | hp
  · exact h.pends p hp
  · obtain rfl := List.mem_singleton.1 hp
    exact ⟨hk, hb⟩
theorem PD.Ok.arm (h : D.Ok) {n : Int} (hn : -9223372036854775808 ≤ n ∧ n ≤ 9223372036854775807) : (D.arm n).1.Ok := by
  unfold PD.arm
  split
  · exact h
  · exact ⟨h.blocks, h.pends, hn, by simp, h.fails, h.ops⟩
theorem PD.Ok.fail (h : D.Ok) (n : Int) : (D.fail n).1.Ok := by
  unfold PD.fail
  split
  · exact h
  · refine ⟨h.blocks, h.pends, h.left, h.armed, ?_, h.ops⟩
    simp only; split <;> omega
end
theorem DiskAt.mono {w : World} {r : Nat} {D : PD} {F F' : Nat → Prop} (h : DiskAt w r D F) (hF : ∀ k, F k → F' k) : DiskAt w r D F' := by
  obtain ⟨h1, h2, sv, pv, h3, h4, h5⟩ := h
  exact ⟨hF _ h1, h2, sv, pv, h3, h4.mono hF, h5.mono hF⟩
theorem DiskAt.kept {w w' : World} {r : Nat} {D : PD} {F S : Nat → Prop} (h : DiskAt w r D F) (hk : Kept S w w') (hd : ∀ k, F k → ¬ S k) : DiskAt w' r D F := by
  obtain ⟨h1, h2, sv, pv, h3, h4, h5⟩ := h
  exact ⟨h1, h2, sv, pv, hk.old h3 (hd r h1), h4.kept hk hd, h5.kept hk hd⟩
theorem grow_sub {F : Nat → Prop} {w w' : World} : ∀ k, F k → grow F w w' k := fun _ h => .inl h
end Go.Proofs.Ytpblppilknkdoaa
namespace Go.Proofs.Ytpblppilknkdoaa
open Go Go.Eng Go.Proofs
section
variable {σ : Env} {w : World} {ty : TypeId} {x y : Operand} {k : Nat} {b : Blk}
theorem splice_w (hb : b.length = 64) : splice (splice (.int .i64 0 :: List.replicate 64 (.int .u8 0)) 0 [.int .i64 (k : Int)]) 1 (bcells b) = wcells (k, b) := by
  have h := splice_all (bcells b) (List.replicate 64 (.int .u8 0)) [.int .i64 (k : Int)] (by rw [length_bcells, hb]; rfl)
  exact h
theorem build80 (hx : ev σ x = .int .i64 (k : Int)) (hy : ev σ y = .agg (bcells b).toArray) (hb : b.length = 64) : Run Try.prog σ w (.build 80 #[(0, x), (1, y)]) ty (.agg (wcells (k, b)).toArray) w := by
  refine R.build2 ?_
  rw [hx, hy]
  have := run_build2 (P := Try.prog) (w := w) (i := 0) (j := 1) (v := .int .i64 (k : Int)) (v' := .agg (bcells b).toArray) p80 z80 rfl rfl rfl rfl (by simp [Value.cells, length_bcells, hb]) rfl
  rw [this]
  simp only [Value.cells]
  rw [splice_w hb]
theorem build75 (hx : ev σ x = .int .i64 (k : Int)) (hy : ev σ y = .agg (bcells b).toArray) (hb : b.length = 64) : Run Try.prog σ w (.build 75 #[(0, x), (1, y)]) ty (.agg (wcells (k, b)).toArray) w := by
  refine R.build2 ?_
  rw [hx, hy]
  have := run_build2 (P := Try.prog) (w := w) (i := 0) (j := 1) (v := .int .i64 (k : Int)) (v' := .agg (bcells b).toArray) p75 z75 rfl rfl rfl rfl (by simp [Value.cells, length_bcells, hb]) rfl
  rw [this]
  simp only [Value.cells]
  rw [splice_w hb]
theorem build27 : Run Try.prog σ w (.build 27 #[]) ty (.agg (bcells z64).toArray) w := by
  refine R.build0 ?_
  rw [run_arr0 Try.underlying27 n5 z27, bcells_z64]
end
end Go.Proofs.Ytpblppilknkdoaa
namespace Go.Proofs.Ytpblppilknkdoaa
open Go Go.Eng Go.Proofs
/-- A slice of bools, in a block that meets G. -/
def BoolsAt (w : World) (kv : Value) (ks : List Bool) (G : Nat → Prop) : Prop :=
  (ks = [] ∧ ∃ a c, kv = .slice a 0 c) ∨ ∃ b o c, kv = .slice (some ⟨b, o, none⟩) ks.length c ∧ G b ∧ ∀ k x, ks[k]? = some x → w.cell? ⟨b, o + k, none⟩ = some (.bool x)
theorem BoolsAt.kept {w w' : World} {kv : Value} {ks : List Bool} {G S : Nat → Prop} (h : BoolsAt w kv ks G) (hk : Kept S w w') (hd : ∀ k, G k → ¬ S k) : BoolsAt w' kv ks G := by
  rcases h with h | ⟨b, o, c, h1, h2, h3⟩
  · exact .inl h
  · exact .inr ⟨b, o, c, h1, h2, fun k x hx => hk.cell (h3 k x hx) (hd b h2)⟩
theorem BoolsAt.mono {w : World} {kv : Value} {ks : List Bool} {G G' : Nat → Prop} (h : BoolsAt w kv ks G) (hg : ∀ k, G k → G' k) : BoolsAt w kv ks G' := by
  rcases h with h | ⟨b, o, c, h1, h2, h3⟩
  · exact .inl h
  · exact .inr ⟨b, o, c, h1, hg b h2, h3⟩
theorem BoolsAt.shape {w : World} {kv : Value} {ks : List Bool} {G : Nat → Prop} (h : BoolsAt w kv ks G) : ∃ a c, kv = .slice a ks.length c := by
  rcases h with ⟨rfl, a, c, rfl⟩ | ⟨b, o, c, h1, _⟩
  · exact ⟨a, c, rfl⟩
  · exact ⟨_, c, h1⟩
theorem BoolsAt.blockA {w : World} {ks : List Bool} {G : Nat → Prop} {a : Option Addr} {n c : Nat} (h : BoolsAt w (.slice a n c) ks G) (hn : 0 < ks.length) : ∃ b o, a = some ⟨b, o, none⟩ ∧ G b ∧ ∀ k x, ks[k]? = some x → w.cell? ⟨b, o + k, none⟩ = some (.bool x) := by
  rcases h with ⟨rfl, _⟩ | ⟨b, o, c', h1, h2, h3⟩
  · simp at hn
  · simp only [Value.slice.injEq] at h1
    exact ⟨b, o, h1.1, h2, h3⟩
end Go.Proofs.Ytpblppilknkdoaa
