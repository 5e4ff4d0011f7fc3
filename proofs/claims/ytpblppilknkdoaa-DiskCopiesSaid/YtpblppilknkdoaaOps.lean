/- Ops in memory; what they make of a disk. -/
import Derived.Test.YtpblppilknkdoaaEng8
import Derived.Test.YtpblppilknkdoaaD13
namespace Go.Proofs.Ytpblppilknkdoaa
open Go Go.Eng Go.Proofs

/-- An op, as it lies, and the value of its slice of bools. -/
structure OpV where
  o : POp
  kv : Value
def OpV.cells (x : OpV) : List Value := [.int .i64 x.o.k, .int .i64 x.o.a, .int .u8 x.o.f, x.kv]
/-- An op is sound in a world: its bools lie below N; its numbers are what an int holds. -/
structure OpV.Ok (x : OpV) (w : World) (N : Nat) : Prop where
  bools : BoolsAt w x.kv x.o.ks (fun b => b < N)
  len : x.o.ks.length ≤ 140737488351232
  at_ : -9223372036854775808 ≤ x.o.a ∧ x.o.a ≤ 9223372036854775807
/-- A slice of ops, below N. -/
def OpsAt (w : World) (lv : Value) (l : List OpV) (N : Nat) : Prop :=
  (l = [] ∧ ∃ a c, lv = .slice a 0 c) ∨ ∃ b o c, lv = .slice (some ⟨b, o, none⟩) l.length c ∧ l.length ≤ c ∧ b < N ∧ ∀ k x, l[k]? = some x → (∀ j v, x.cells[j]? = some v → w.cell? ⟨b, o + k * 4 + j, none⟩ = some v) ∧ x.Ok w N
section
variable {w w' : World} {lv : Value} {l : List OpV} {N : Nat} {S : Nat → Prop}
theorem OpsAt.kept (h : OpsAt w lv l N) (hk : Kept S w w') (hd : ∀ k, k < N → ¬ S k) : OpsAt w' lv l N := by
  rcases h with h | ⟨b, o, c, h1, h2, h3, h4⟩
  · exact .inl h
  · refine .inr ⟨b, o, c, h1, h2, h3, fun k x hx => ⟨fun j v hj => hk.cell ((h4 k x hx).1 j v hj) (hd b h3), ?_⟩⟩
    obtain ⟨e1, e2, e3⟩ := (h4 k x hx).2
    exact ⟨e1.kept hk hd, e2, e3⟩
theorem OpsAt.shape (h : OpsAt w lv l N) : ∃ a c, lv = .slice a l.length c ∧ l.length ≤ c := by
  rcases h with ⟨rfl, a, c, rfl⟩ | ⟨b, o, c, h1, h2, _⟩
  · exact ⟨a, c, rfl, Nat.zero_le _⟩
  · exact ⟨_, c, h1, h2⟩
theorem OpV.Ok.one {x : OpV} (h : x.Ok w N) : x.kv.oneCell' = true := by
  obtain ⟨a, c, e⟩ := h.bools.shape
  rw [e]; rfl
theorem OpV.Ok.ones {x : OpV} (h : x.Ok w N) : ∀ v ∈ x.cells, v.oneCell' = true := by
  intro v hv
  simp only [OpV.cells, List.mem_cons, List.not_mem_nil, or_false] at hv
  rcases hv with rfl | rfl | rfl | rfl
  · rfl
  · rfl
  · rfl
  · exact h.one
theorem OpsAt.blockA {a : Option Addr} {n c : Nat} (h : OpsAt w (.slice a n c) l N) (hn : 0 < l.length) :
    ∃ b o, a = some ⟨b, o, none⟩ ∧ b < N ∧ ∀ k x, l[k]? = some x → (∀ j v, x.cells[j]? = some v → w.cell? ⟨b, o + k * 4 + j, none⟩ = some v) ∧ x.Ok w N := by
  rcases h with ⟨rfl, _⟩ | ⟨b, o, c', h1, _, h3, h4⟩
  · simp at hn
  · simp only [Value.slice.injEq] at h1
    exact ⟨b, o, h1.1, h3, h4⟩
theorem OpsAt.few {a : Option Addr} {n c : Nat} (h : OpsAt w (.slice a n c) l N) (m : Nat) (hm : m ≤ n) (hn : n = l.length) : OpsAt w (.slice a m c) (l.take m) N := by
  subst hn
  rcases h with ⟨rfl, a', c', h1⟩ | ⟨b, o, c', h1, h2, h3, h4⟩
  · left
    simp only [List.length_nil, Nat.le_zero_eq] at hm
    subst hm
    exact ⟨rfl, a, c, rfl⟩
  · simp only [Value.slice.injEq] at h1
    obtain ⟨rfl, _, rfl⟩ := h1
    rcases Nat.eq_zero_or_pos m with rfl | hp
    · exact .inl ⟨rfl, _, _, rfl⟩
    · refine .inr ⟨b, o, c, by rw [List.length_take, Nat.min_eq_left hm], by rw [List.length_take]; omega, h3, fun k x hx => h4 k x ?_⟩
      rw [List.getElem?_take] at hx
      split at hx
      · exact hx
      · cases hx
end
/-- What ops make of a disk. -/
def PD.run (D : PD) (l : List OpV) : PD := l.foldl (fun D x => (D.does x.o).1) D
/-- .. those of the kinds 0, 1, 2. -/
def PD.runW (D : PD) (l : List OpV) : PD := l.foldl (fun D x => if kindOf x.o.k < 3 then (D.does x.o).1 else D) D
theorem PD.runW_succ {D : PD} {l : List OpV} {k : Nat} {x : OpV} (h : l[k]? = some x) : D.runW (l.take (k + 1)) = if kindOf x.o.k < 3 then ((D.runW (l.take k)).does x.o).1 else D.runW (l.take k) := by
  simp [PD.runW, List.take_add_one, h]
theorem PD.run_succ {D : PD} {l : List OpV} {k : Nat} {x : OpV} (h : l[k]? = some x) : D.run (l.take (k + 1)) = ((D.run (l.take k)).does x.o).1 := by
  simp [PD.run, List.take_add_one, h]

/-! ### How much an op does -/
structure PD.Step (D D' : PD) : Prop where
  ops : D'.ops ≤ D.ops + 1
  pend : D'.pend.length ≤ D.pend.length + 1
  safe : D'.safe.length = D.safe.length
section
variable {D : PD} {i : Int}
theorem PD.step_same (D : PD) : PD.Step D D := ⟨by omega, by omega, rfl⟩
theorem PD.step_ready : PD.Step D (D.ready i).1 := ⟨by simp <;> omega, by simp, by simp⟩
theorem PD.step_read : PD.Step D (D.read i).1 := by
  unfold PD.read
  split
  · exact PD.step_ready
  · exact ⟨by simp <;> omega, by simp, by simp⟩
theorem PD.step_write {b : Blk} : PD.Step D (D.write i b).1 := by
  unfold PD.write
  split
  · exact PD.step_ready
  · split
    · exact ⟨by simp [PD.die] <;> omega, by simp [PD.die], by simp [PD.die]⟩
    · exact ⟨by simp [PD.pre] <;> omega, by simp [PD.pre], by simp [PD.pre]⟩
theorem PD.step_sync : PD.Step D D.sync.1 := by
  unfold PD.sync
  split
  · exact PD.step_ready
  · split
    · exact ⟨by simp [PD.die] <;> omega, by simp [PD.die], by simp [PD.die]⟩
    · exact ⟨by simp [PD.pre, PD.settle] <;> omega, by simp [PD.pre, PD.settle], by simp [PD.pre, PD.settle, length_settleN]⟩
theorem PD.step_arm : PD.Step D (D.arm i).1 := by unfold PD.arm; split <;> exact ⟨by simp <;> omega, by simp, rfl⟩
theorem PD.step_fail : PD.Step D (D.fail i).1 := by unfold PD.fail; split <;> exact ⟨by simp <;> omega, by simp, rfl⟩
theorem PD.step_crash {f : Nat → Bool} : PD.Step D (D.crash f) := ⟨by simp [PD.crash, PD.settle] <;> omega, by simp [PD.crash, PD.settle], by simp [PD.crash, PD.settle, length_settleN]⟩
theorem PD.step_does {o : POp} : PD.Step D (D.does o).1 := by
  unfold PD.does
  repeat' split
  · exact PD.step_read
  · exact PD.step_write
  · exact PD.step_sync
  · exact PD.step_arm
  · exact PD.step_fail
  · exact PD.step_crash
end
structure PD.Few (D D' : PD) (k : Nat) : Prop where
  ops : D'.ops ≤ D.ops + k
  pend : D'.pend.length ≤ D.pend.length + k
  safe : D'.safe.length = D.safe.length
theorem PD.Few.step {D D' D'' : PD} {k : Nat} (h : PD.Few D D' k) (h' : PD.Step D' D'') : PD.Few D D'' (k + 1) := ⟨by have := h.ops; have := h'.ops; omega, by have := h.pend; have := h'.pend; omega, by rw [h'.safe, h.safe]⟩
theorem PD.Few.skip {D D' : PD} {k : Nat} (h : PD.Few D D' k) : PD.Few D D' (k + 1) := ⟨by have := h.ops; omega, by have := h.pend; omega, h.safe⟩
theorem PD.Few.zero (D : PD) : PD.Few D D 0 := ⟨by omega, by omega, rfl⟩
theorem PD.runW_few {D : PD} {l : List OpV} : ∀ k, k ≤ l.length → PD.Few D (D.runW (l.take k)) k
  | 0, _ => PD.Few.zero D
  | k + 1, h => by
    have hk : l[k]? = some l[k] := List.getElem?_eq_getElem (by omega)
    have ih := PD.runW_few (D := D) (l := l) k (by omega)
    rw [PD.runW_succ hk]
    split
    · exact ih.step PD.step_does
    · exact ih.skip
theorem PD.run_few {D : PD} {l : List OpV} : ∀ k, k ≤ l.length → PD.Few D (D.run (l.take k)) k
  | 0, _ => PD.Few.zero D
  | k + 1, h => by
    have hk : l[k]? = some l[k] := List.getElem?_eq_getElem (by omega)
    have ih := PD.run_few (D := D) (l := l) k (by omega)
    rw [PD.run_succ hk]
    exact ih.step PD.step_does
/-- All sectors, read one by one. -/
def PD.held (D : PD) : Nat → PD × List Blk
  | 0 => (D, [])
  | k + 1 => (((D.held k).1.read k).1, (D.held k).2 ++ [((D.held k).1.read k).2.1])
theorem PD.held_few {D : PD} : ∀ k, PD.Few D (D.held k).1 k
  | 0 => PD.Few.zero D
  | k + 1 => (PD.held_few k).step PD.step_read
theorem PD.held_length {D : PD} : ∀ k, (D.held k).2.length = k
  | 0 => rfl
  | k + 1 => by simp [PD.held, PD.held_length k]
theorem read_pend {D : PD} {i : Int} : (D.read i).1.pend = D.pend := by unfold PD.read; split <;> simp
theorem held_pend {D : PD} : ∀ k, (D.held k).1.pend = D.pend
  | 0 => rfl
  | k + 1 => by simp only [PD.held]; rw [read_pend, held_pend k]
end Go.Proofs.Ytpblppilknkdoaa
