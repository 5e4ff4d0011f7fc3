/- Plain laws of a disk: what a sector holds. -/
import Derived.Test.YtpblppilknkdoaaOps
namespace Go.Proofs.Ytpblppilknkdoaa
open Go Go.Eng Go.Proofs

theorem kindOf_range (k : Int) : 0 ≤ kindOf k ∧ kindOf k < 6 := by
  have h : 0 ≤ IntKind.wrap .u64 k := by
    simp only [IntKind.wrap_u64]
    omega
  have h1 : 0 ≤ (IntKind.wrap .u64 k).tmod 6 := Int.tmod_nonneg _ h
  have h2 : (IntKind.wrap .u64 k).tmod 6 < 6 := Int.tmod_lt_of_pos _ (by decide)
  have e : kindOf k = (IntKind.wrap .u64 k).tmod 6 := by
    unfold kindOf
    rw [IntKind.wrap_i64]
    omega
  rw [e]; exact ⟨h1, h2⟩

theorem downTo_all (pend : List (Nat × Blk)) : (downTo pend pend.length).map (·.2) = pend.reverse := by
  apply List.ext_getElem
  · simp [downTo]
  · intro i h1 h2
    have hi : i < pend.length := by simpa [downTo] using h1
    have h3 : pend.length - 1 - i < pend.length := by omega
    simp [downTo, h3]
/-- The last write to a sector. -/
def lastWrite (pend : List (Nat × Blk)) (i : Int) : Option Blk := (pend.reverse.find? fun p => decide ((p.1 : Int) = i)).map (·.2)
theorem look_eq (D : PD) (i : Int) : D.look i = (lastWrite D.pend i).getD (D.safe.getD i.toNat []) := by
  unfold PD.look lastWrite
  rw [← downTo_all, List.find?_map]
  cases h : List.find? _ (downTo D.pend D.pend.length) with
  | none =>
    have h' : List.find? ((fun p : Nat × Blk => decide ((p.1 : Int) = i)) ∘ fun x : Nat × Nat × Blk => x.2) (downTo D.pend D.pend.length) = none := h
    rw [h']; rfl
  | some y =>
    have h' : List.find? ((fun p : Nat × Blk => decide ((p.1 : Int) = i)) ∘ fun x : Nat × Nat × Blk => x.2) (downTo D.pend D.pend.length) = some y := h
    rw [h']; rfl
theorem lastWrite_push (pend : List (Nat × Blk)) (p : Nat × Blk) (i : Int) : lastWrite (pend ++ [p]) i = if (p.1 : Int) = i then some p.2 else lastWrite pend i := by
  unfold lastWrite
  rw [List.reverse_append, List.reverse_singleton, List.singleton_append, List.find?_cons]
  by_cases h : (p.1 : Int) = i
  · simp [h]
  · simp [h]
theorem getD_set (l : List Blk) (k i : Nat) (b : Blk) (hk : k < l.length) : (l.set k b).getD i [] = if k = i then b else l.getD i [] := by
  simp only [List.getD_eq_getElem?_getD, List.getElem?_set]
  split
  · simp [*]
  · rfl
/-- The sectors behind all the writes of which f says that they live. -/
theorem settle_look {safe : List Blk} {pend : List (Nat × Blk)} (hp : ∀ p ∈ pend, p.1 < safe.length) (i : Nat) : ∀ k, k ≤ pend.length →
    (settleN safe pend (fun _ => true) k).getD i [] = (lastWrite (pend.take k) i).getD (safe.getD i [])
  | 0, _ => by simp [settleN, lastWrite]
  | k + 1, hk => by
    have h : pend[k]? = some pend[k] := List.getElem?_eq_getElem (by omega)
    rw [settleN_yes h rfl, List.take_add_one, h, Option.toList_some, lastWrite_push, getD_set _ _ _ _ (by rw [length_settleN]; exact hp _ (List.getElem_mem _)), settle_look hp i k (by omega)]
    by_cases e : (pend[k]).1 = i
    · rw [if_pos e, if_pos (by omega)]; rfl
    · rw [if_neg e, if_neg (by omega)]

/-- A disk that is alive, not armed, and does not fail. -/
structure PD.Plain (D : PD) : Prop where
  dead : D.dead = false
  armed : D.armed = false
  fails : D.fails = 0
  pends : ∀ p ∈ D.pend, p.1 < D.safe.length
theorem PD.Plain.new (n : Nat) : (PD.new n).Plain := ⟨rfl, rfl, rfl, by simp [PD.new]⟩
theorem PD.Plain.ready {D : PD} (h : D.Plain) (i : Int) : D.ready i = (D, if 0 ≤ i ∧ i < D.safe.length then 0 else 2) := by
  unfold PD.ready
  rw [if_neg (by rw [h.dead]; decide)]
  by_cases hr : 0 ≤ i ∧ i < D.safe.length
  · rw [if_neg (by omega), if_neg (by rw [h.fails]; decide), if_neg (by rw [h.fails]; decide), if_pos hr]
  · rw [if_pos (by omega), if_neg hr]
theorem PD.Plain.stops {D : PD} (h : D.Plain) : ¬ D.stops := fun hs => by rw [PD.stops, h.armed] at hs; exact absurd hs.1 (by decide)
theorem PD.Plain.read {D : PD} (h : D.Plain) (i : Int) : D.read i = if 0 ≤ i ∧ i < D.safe.length then ({ D with ops := D.ops + 1 }, D.look i, 0) else (D, z64, 2) := by
  unfold PD.read
  rw [h.ready]
  by_cases hr : 0 ≤ i ∧ i < D.safe.length
  · rw [if_pos hr, if_pos hr]; simp
  · rw [if_neg hr, if_neg hr]; simp
theorem PD.Plain.write {D : PD} (h : D.Plain) (i : Int) (b : Blk) : D.write i b = if 0 ≤ i ∧ i < D.safe.length then ({ D with ops := D.ops + 1, pend := D.pend ++ [(i.toNat, b)] }, 0) else (D, 2) := by
  unfold PD.write
  rw [h.ready]
  by_cases hr : 0 ≤ i ∧ i < D.safe.length
  · rw [if_pos hr, if_pos hr]
    simp only [ne_eq, not_true_eq_false, if_false]
    rw [if_neg h.stops]
    simp [PD.pre, h.armed]
  · rw [if_neg hr, if_neg hr]; simp
theorem PD.Plain.sync {D : PD} (h : D.Plain) (hn : 0 < D.safe.length) : D.sync = ({ D with ops := D.ops + 1, safe := settleN D.safe D.pend (fun _ => true) D.pend.length, pend := [] }, 0) := by
  unfold PD.sync
  have hr := h.ready 0
  rw [if_pos ⟨Int.le_refl _, by omega⟩] at hr
  rw [hr]
  simp only [ne_eq, not_true_eq_false, if_false]
  rw [if_neg h.stops]
  simp [PD.pre, PD.settle, h.armed]
theorem look_ops (D : PD) (n : Int) (i : Int) : ({ D with ops := n } : PD).look i = D.look i := by rw [look_eq, look_eq]
theorem look_push (D : PD) (n : Int) (k : Nat) (b : Blk) (i : Int) : ({ D with ops := n, pend := D.pend ++ [(k, b)] } : PD).look i = if (k : Int) = i then b else D.look i := by
  rw [look_eq, look_eq]
  simp only [lastWrite_push]
  split
  · rfl
  · rfl
theorem look_sync {D : PD} (hp : ∀ p ∈ D.pend, p.1 < D.safe.length) (n : Int) (i : Nat) : ({ D with ops := n, safe := settleN D.safe D.pend (fun _ => true) D.pend.length, pend := [] } : PD).look i = D.look i := by
  rw [look_eq, look_eq]
  have h := settle_look hp i D.pend.length (Nat.le_refl _)
  rw [List.take_length] at h
  simp only [Int.toNat_natCast]
  rw [← h]
  rfl
/-- One of the kinds 0, 1, 2. -/
theorem PD.Plain.doesW {D : PD} (h : D.Plain) (hn : 0 < D.safe.length) {o : POp} (hk : kindOf o.k < 3) : (D.does o).1.Plain ∧ (D.does o).1.safe.length = D.safe.length ∧
    ∀ i : Nat, (D.does o).1.look i = if kindOf o.k = 1 ∧ 0 ≤ o.a ∧ o.a < D.safe.length ∧ o.a = i then fblock o.f else D.look i := by
  have hr := kindOf_range o.k
  unfold PD.does
  by_cases h0 : kindOf o.k = 0
  · rw [if_pos h0, h.read]
    split
    · exact ⟨⟨h.dead, h.armed, h.fails, h.pends⟩, rfl, fun i => by rw [if_neg (by omega)]; exact look_ops D _ i⟩
    · exact ⟨h, rfl, fun i => by rw [if_neg (by omega)]⟩
  · rw [if_neg h0]
    by_cases h1 : kindOf o.k = 1
    · rw [if_pos h1]
      dsimp only
      rw [h.write]
      by_cases hr : 0 ≤ o.a ∧ o.a < D.safe.length
      · rw [if_pos hr]
        refine ⟨⟨h.dead, h.armed, h.fails, ?_⟩, rfl, fun i => ?_⟩
        · intro p hp
          rcases List.mem_append.1 hp with hp | hp
          · exact h.pends p hp
          · obtain rfl := List.mem_singleton.1 hp
            show o.a.toNat < D.safe.length
            omega
        · have e := look_push D (D.ops + 1) o.a.toNat (fblock o.f) i
          refine e.trans ?_
          by_cases hi : o.a = (i : Int)
          · rw [if_pos (by omega), if_pos ⟨h1, hr.1, hr.2, hi⟩]
          · rw [if_neg (by omega), if_neg (by omega)]
      · rw [if_neg hr]
        exact ⟨h, rfl, fun i => by rw [if_neg (by omega)]⟩
    · rw [if_neg h1, if_pos (by omega)]
      dsimp only
      rw [h.sync hn]
      refine ⟨⟨h.dead, h.armed, h.fails, by simp⟩, length_settleN _, fun i => ?_⟩
      rw [if_neg (by omega)]
      exact look_sync h.pends _ i
/-- What was written last, by the ops themselves. -/
def lastN (m : List OpV) : Nat → List Blk
  | 0 => List.replicate 6 z64
  | k + 1 => match m[k]? with
    | some x => if kindOf x.o.k = 1 ∧ 0 ≤ x.o.a ∧ x.o.a < 6 then (lastN m k).set x.o.a.toNat (fblock x.o.f) else lastN m k
    | none => lastN m k
theorem lastN_succ {m : List OpV} {k : Nat} {x : OpV} (h : m[k]? = some x) : lastN m (k + 1) = if kindOf x.o.k = 1 ∧ 0 ≤ x.o.a ∧ x.o.a < 6 then (lastN m k).set x.o.a.toNat (fblock x.o.f) else lastN m k := by simp [lastN, h]
theorem length_lastN (m : List OpV) : ∀ k, (lastN m k).length = 6
  | 0 => by simp [lastN]
  | k + 1 => by
    simp only [lastN]
    split
    · split
      · rw [List.length_set, length_lastN m k]
      · exact length_lastN m k
    · exact length_lastN m k
theorem all_lastN (m : List OpV) : ∀ k, ∀ b ∈ lastN m k, b.length = 64
  | 0, b, hb => by
    have := List.eq_of_mem_replicate hb
    subst this; rfl
  | k + 1, b, hb => by
    simp only [lastN] at hb
    split at hb
    · split at hb
      · rcases List.mem_or_eq_of_mem_set hb with hb | rfl
        · exact all_lastN m k b hb
        · exact length_fblock _
      · exact all_lastN m k b hb
    · exact all_lastN m k b hb
theorem worn_plain (m : List OpV) : ∀ k, k ≤ m.length → ((PD.new 6).runW (m.take k)).Plain ∧ ((PD.new 6).runW (m.take k)).safe.length = 6 ∧ ∀ i : Nat, i < 6 → ((PD.new 6).runW (m.take k)).look i = (lastN m k).getD i []
  | 0, _ => ⟨PD.Plain.new 6, by simp [PD.runW, PD.new], fun i hi => by
      rw [look_eq]
      simp [PD.runW, PD.new, lastN, lastWrite, hi]⟩
  | k + 1, hk => by
    obtain ⟨h1, h2, h3⟩ := worn_plain m k (by omega)
    have hx : m[k]? = some m[k] := List.getElem?_eq_getElem (by omega)
    rw [PD.runW_succ hx, lastN_succ hx]
    by_cases hk3 : kindOf (m[k]).o.k < 3
    · rw [if_pos hk3]
      obtain ⟨g1, g2, g3⟩ := h1.doesW (by rw [h2]; decide) hk3
      refine ⟨g1, g2.trans h2, fun i hi => ?_⟩
      rw [g3, h2]
      by_cases hc : kindOf (m[k]).o.k = 1 ∧ 0 ≤ (m[k]).o.a ∧ (m[k]).o.a < 6
      · rw [if_pos hc, getD_set _ _ _ _ (by rw [length_lastN]; omega)]
        by_cases hi' : (m[k]).o.a = (i : Int)
        · rw [if_pos ⟨hc.1, hc.2.1, hc.2.2, hi'⟩, if_pos (by omega)]
        · rw [if_neg (by omega), if_neg (by omega), h3 i hi]
      · rw [if_neg hc, if_neg (fun h => hc ⟨h.1, h.2.1, by omega⟩), h3 i hi]
    · rw [if_neg hk3, if_neg (by omega)]
      exact ⟨h1, h2, h3⟩
theorem held_plain {D : PD} (h : D.Plain) : ∀ k, k ≤ D.safe.length → (D.held k).1.Plain ∧ (D.held k).1.safe = D.safe ∧ (D.held k).1.pend = D.pend ∧ (D.held k).2 = (List.range k).map fun i : Nat => D.look (i : Int)
  | 0, _ => ⟨h, rfl, rfl, rfl⟩
  | k + 1, hk => by
    obtain ⟨h1, h2, h3, h4⟩ := held_plain h k (by omega)
    simp only [PD.held]
    rw [h1.read, h2, if_pos ⟨by omega, by omega⟩]
    refine ⟨⟨h1.dead, h1.armed, h1.fails, fun p hp => ?_⟩, rfl, h3, ?_⟩
    · show p.1 < D.safe.length
      rw [← h2]
      exact h1.pends p hp
    rw [h4, List.range_succ, List.map_append]
    congr 1
    show [_] = [_]
    congr 1
    show (D.held k).1.look (k : Int) = D.look (k : Int)
    rw [look_eq (D.held k).1, look_eq D, h2, h3]
/-- DiskLast's plain law. -/
theorem last_plain (m : List OpV) : (((PD.new 6).runW m).held 6).2 = lastN m m.length := by
  obtain ⟨h1, h2, h3⟩ := worn_plain m m.length (Nat.le_refl _)
  rw [List.take_length] at h1 h2 h3
  obtain ⟨_, _, _, h4⟩ := held_plain h1 6 (by rw [h2]; decide)
  rw [h4]
  apply List.ext_getElem
  · rw [List.length_map, List.length_range, length_lastN]
  · intro i hi1 hi2
    have hi : i < 6 := by simpa using hi1
    simp only [List.getElem_map, List.getElem_range]
    rw [h3 i hi, List.getD_eq_getElem?_getD, List.getElem?_eq_getElem hi2]
    rfl
end Go.Proofs.Ytpblppilknkdoaa
