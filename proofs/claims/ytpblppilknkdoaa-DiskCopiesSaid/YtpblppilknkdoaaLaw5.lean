/- Plain law of DiskDoes and DiskCopies: the program's disk and the reference's go together. -/
import Derived.Test.YtpblppilknkdoaaD25
import Derived.Test.YtpblppilknkdoaaLaw
namespace Go.Proofs.Ytpblppilknkdoaa
open Go Go.Eng Go.Proofs
/-- The two disks say the same, c operations behind a start. -/
structure Sim (c : Nat) (D : PD) (X : RD) : Prop where
  safe : D.safe = X.safe
  pend : D.pend = X.pend
  dead : D.dead = X.dead
  ops : D.ops = X.ops
  arm : D.dead = false → (D.armed = true ∧ D.left = X.left ∧ 0 ≤ X.left) ∨ (D.armed = false ∧ X.left = -1)
  fails : D.dead = false → (D.fails = 0 ∧ X.fails = -1) ∨ (0 ≤ X.fails ∧ D.fails = X.fails + 1) ∨ (D.fails = 0 ∧ 4611686018427387904 - (c : Int) ≤ X.fails)
section
variable {c : Nat} {D : PD} {X : RD} {i : Int}
theorem Sim.more (h : Sim c D X) : Sim (c + 1) D X := ⟨h.safe, h.pend, h.dead, h.ops, h.arm, fun hd => by
  rcases h.fails hd with e | e | ⟨e1, e2⟩
  · exact .inl e
  · exact .inr (.inl e)
  · exact .inr (.inr ⟨e1, by omega⟩)⟩
theorem sim_new (n : Nat) : Sim 0 (PD.new n) (RD.new n) := ⟨rfl, rfl, rfl, rfl, fun _ => .inr ⟨rfl, rfl⟩, fun _ => .inl ⟨rfl, rfl⟩⟩
theorem sim_ready (h : Sim c D X) (hc : c ≤ 1000000) (i : Int) : (D.ready i).2 = (X.asked i).2 ∧ Sim (c + 1) (D.ready i).1 (X.asked i).1 := by
  unfold PD.ready RD.asked
  have hl : D.safe.length = X.safe.length := by rw [h.safe]
  by_cases hd : D.dead = true
  · have hx : X.dead = true := by rw [← h.dead]; exact hd
    rw [if_pos hd, if_pos hx]
    exact ⟨rfl, h.more⟩
  · have hx : ¬ X.dead = true := by rw [← h.dead]; exact hd
    have hd' : D.dead = false := by simpa using hd
    rw [if_neg hd, if_neg hx]
    by_cases hr : i < 0 ∨ (D.safe.length : Int) ≤ i
    · rw [if_pos hr, if_pos (by rw [← hl]; exact hr)]
      exact ⟨rfl, h.more⟩
    · have hr' : ¬ (i < 0 ∨ (X.safe.length : Int) ≤ i) := by rw [← hl]; exact hr
      rw [if_neg hr, if_neg hr']
      rcases h.fails hd' with ⟨e1, e2⟩ | ⟨e1, e2⟩ | ⟨e1, e2⟩
      · rw [if_neg (show ¬ D.fails = 1 by omega), if_neg (show ¬ 1 < D.fails by omega), if_neg (show ¬ X.fails = 0 by omega), if_neg (show ¬ 0 < X.fails by omega)]
        exact ⟨rfl, h.more⟩
      · by_cases e0 : X.fails = 0
        · rw [if_pos (show D.fails = 1 by omega), if_pos e0]
          exact ⟨rfl, h.safe, h.pend, h.dead, h.ops, h.arm, fun _ => .inl ⟨rfl, rfl⟩⟩
        · rw [if_neg (show ¬ D.fails = 1 by omega), if_pos (show 1 < D.fails by omega), if_neg e0, if_pos (show 0 < X.fails by omega)]
          exact ⟨rfl, h.safe, h.pend, h.dead, h.ops, h.arm, fun _ => .inr (.inl ⟨by show 0 ≤ X.fails - 1; omega, by show D.fails - 1 = X.fails - 1 + 1; omega⟩)⟩
      · rw [if_neg (show ¬ D.fails = 1 by omega), if_neg (show ¬ 1 < D.fails by omega), if_neg (show ¬ X.fails = 0 by omega), if_pos (show 0 < X.fails by omega)]
        exact ⟨rfl, h.safe, h.pend, h.dead, h.ops, h.arm, fun _ => .inr (.inr ⟨e1, by show _ ≤ X.fails - 1; omega⟩)⟩
theorem sim_stops (h : Sim c D X) (hd : D.dead = false) : D.stops ↔ X.left = 0 := by
  unfold PD.stops
  rcases h.arm hd with ⟨e1, e2, e3⟩ | ⟨e1, e2⟩
  · rw [e1, e2]; simp
  · rw [e1]; simp; omega
theorem sim_die (h : Sim c D X) : Sim c D.die { X with dead := true } := ⟨h.safe, h.pend, rfl, h.ops, fun e => by simp [PD.die] at e, fun e => by simp [PD.die] at e⟩
theorem sim_pre (h : Sim c D X) (hd : D.dead = false) (hl : X.left ≠ 0) : Sim c D.pre { X with left := if 0 < X.left then X.left - 1 else X.left, ops := X.ops + 1 } := by
  refine ⟨h.safe, h.pend, h.dead, by show D.ops + 1 = X.ops + 1; rw [h.ops], fun _ => ?_, h.fails⟩
  rcases h.arm hd with ⟨e1, e2, e3⟩ | ⟨e1, e2⟩
  · left
    refine ⟨e1, ?_, ?_⟩
    · show (if D.armed = true then D.left - 1 else D.left) = if 0 < X.left then X.left - 1 else X.left
      rw [if_pos e1, if_pos (by omega)]; omega
    · show 0 ≤ if 0 < X.left then X.left - 1 else X.left
      rw [if_pos (by omega)]; omega
  · right
    refine ⟨e1, ?_⟩
    show (if 0 < X.left then X.left - 1 else X.left) = -1
    rw [if_neg (by omega)]; exact e2
theorem Sim.push (h : Sim c D X) (p : Nat × Blk) : Sim c { D with pend := D.pend ++ [p] } { X with pend := X.pend ++ [p] } := ⟨h.safe, by show D.pend ++ [p] = X.pend ++ [p]; rw [h.pend], h.dead, h.ops, h.arm, h.fails⟩
theorem Sim.settle (h : Sim c D X) (f : Nat → Bool) : Sim c (D.settle f) (X.live f) := ⟨by show settleN D.safe D.pend f D.pend.length = settleN X.safe X.pend f X.pend.length; rw [h.safe, h.pend], rfl, h.dead, h.ops, h.arm, h.fails⟩
theorem ready_alive (h : (D.ready i).2 = 0) : (D.ready i).1.dead = false := by rw [PD.ready_dead]; exact (PD.ready_range h).1
theorem sim_write (h : Sim c D X) (hc : c ≤ 1000000) (i : Int) (b : Blk) : (D.write i b).2 = (X.write i b).2 ∧ Sim (c + 1) (D.write i b).1 (X.write i b).1 := by
  obtain ⟨h1, h2⟩ := sim_ready h hc i
  unfold PD.write RD.write
  by_cases he : (D.ready i).2 = 0
  · have hdn : ¬ (D.ready i).2 ≠ 0 := by rw [he]; decide
    have hxn : ¬ (X.asked i).2 ≠ 0 := by rw [← h1, he]; decide
    rw [if_neg hdn, if_neg hxn]
    have hs := sim_stops h2 (ready_alive he)
    unfold RD.done
    by_cases hl : (X.asked i).1.left = 0
    · rw [if_pos (hs.2 hl), if_pos hl, if_pos rfl]
      exact ⟨rfl, sim_die h2⟩
    · rw [if_neg (fun e => hl (hs.1 e)), if_neg hl, if_neg (fun e => by cases e)]
      have h3 := (sim_pre h2 (ready_alive he) hl).push (i.toNat, b)
      refine ⟨rfl, ?_⟩
      have e : ({ (D.ready i).1.pre with pend := D.pend ++ [(i.toNat, b)] } : PD) = { (D.ready i).1.pre with pend := (D.ready i).1.pre.pend ++ [(i.toNat, b)] } := by
        have : (D.ready i).1.pre.pend = D.pend := PD.ready_pend
        rw [this]
      rw [e]
      exact h3
  · have hxp : (X.asked i).2 ≠ 0 := by rw [← h1]; exact he
    rw [if_pos he, if_pos hxp]
    exact ⟨h1, h2⟩
theorem sim_sync (h : Sim c D X) (hc : c ≤ 1000000) : D.sync.2 = X.sync.2 ∧ Sim (c + 1) D.sync.1 X.sync.1 := by
  obtain ⟨h1, h2⟩ := sim_ready h hc 0
  unfold PD.sync RD.sync
  by_cases he : (D.ready 0).2 = 0
  · have hdn : ¬ (D.ready 0).2 ≠ 0 := by rw [he]; decide
    have hxn : ¬ (X.asked 0).2 ≠ 0 := by rw [← h1, he]; decide
    rw [if_neg hdn, if_neg hxn]
    have hs := sim_stops h2 (ready_alive he)
    unfold RD.done
    by_cases hl : (X.asked 0).1.left = 0
    · rw [if_pos (hs.2 hl), if_pos hl, if_pos rfl]
      exact ⟨rfl, sim_die h2⟩
    · rw [if_neg (fun e => hl (hs.1 e)), if_neg hl, if_neg (fun e => by cases e)]
      exact ⟨rfl, (sim_pre h2 (ready_alive he) hl).settle _⟩
  · have hxp : (X.asked 0).2 ≠ 0 := by rw [← h1]; exact he
    rw [if_pos he, if_pos hxp]
    exact ⟨h1, h2⟩
theorem holds_last {safe : List Blk} {pend : List (Nat × Blk)} {i : Nat} : ∀ k, k ≤ pend.length → holdsN safe pend i k = (lastWrite (pend.take k) i).getD (safe.getD i [])
  | 0, _ => by simp [holdsN, lastWrite]
  | k + 1, hk => by
    have hp : pend[k]? = some pend[k] := List.getElem?_eq_getElem (by omega)
    have ht : pend.take (k + 1) = pend.take k ++ [pend[k]] := by simp
    rw [holdsN_succ hp, ht, lastWrite_push, holds_last k (by omega)]
    by_cases e : (pend[k]).1 = i
    · rw [if_pos e, if_pos (by omega)]; rfl
    · rw [if_neg e, if_neg (by omega)]
theorem holds_look (h1 : D.safe = X.safe) (h2 : D.pend = X.pend) (hi : 0 ≤ i) : X.holds i = D.look i := by
  obtain ⟨j, rfl⟩ := Int.eq_ofNat_of_zero_le hi
  rw [look_eq]
  unfold RD.holds
  rw [holds_last _ (Nat.le_refl _), List.take_length, h1, h2]
  simp
theorem sim_read (h : Sim c D X) (hc : c ≤ 1000000) (i : Int) : (D.read i).2 = (X.read i).2 ∧ Sim (c + 1) (D.read i).1 (X.read i).1 := by
  obtain ⟨h1, h2⟩ := sim_ready h hc i
  unfold PD.read RD.read
  by_cases he : (D.ready i).2 = 0
  · have hdn : ¬ (D.ready i).2 ≠ 0 := by rw [he]; decide
    have hxn : ¬ (X.asked i).2 ≠ 0 := by rw [← h1, he]; decide
    rw [if_neg hdn, if_neg hxn]
    refine ⟨?_, ⟨h2.safe, h2.pend, h2.dead, by show (D.ready i).1.ops + 1 = (X.asked i).1.ops + 1; rw [h2.ops], h2.arm, h2.fails⟩⟩
    have hl := holds_look (D := D) (X := { (X.asked i).1 with ops := (X.asked i).1.ops + 1 }) (i := i) (by show D.safe = (X.asked i).1.safe; rw [RD.asked_safe, h.safe]) (by show D.pend = (X.asked i).1.pend; rw [RD.asked_pend, h.pend]) (PD.ready_range he).2.1
    show (D.look i, (0 : Int)) = (_, 0)
    rw [hl]
  · have hxp : (X.asked i).2 ≠ 0 := by rw [← h1]; exact he
    rw [if_pos he, if_pos hxp]
    exact ⟨by show (z64, _) = (z64, _); rw [h1], h2⟩
theorem sim_arm (h : Sim c D X) (n : Int) : (D.arm n).2 = (X.arm n).2 ∧ Sim (c + 1) (D.arm n).1 (X.arm n).1 := by
  unfold PD.arm RD.arm
  by_cases hd : D.dead = true
  · rw [if_pos hd, if_pos (by rw [← h.dead]; exact hd)]
    exact ⟨rfl, h.more⟩
  · have hx : ¬ X.dead = true := by rw [← h.dead]; exact hd
    rw [if_neg hd, if_neg hx]
    refine ⟨rfl, h.safe, h.pend, h.dead, h.ops, fun _ => ?_, h.more.fails⟩
    show (decide (0 ≤ n) = true ∧ n = max1 n ∧ 0 ≤ max1 n) ∨ (decide (0 ≤ n) = false ∧ max1 n = -1)
    unfold max1
    by_cases hn : 0 ≤ n
    · rw [if_neg (by omega)]; simp [hn]
    · right
      refine ⟨by simpa using hn, ?_⟩
      split <;> omega
theorem sim_fail (h : Sim c D X) (n : Int) : (D.fail n).2 = (X.fail n).2 ∧ Sim (c + 1) (D.fail n).1 (X.fail n).1 := by
  unfold PD.fail RD.fail
  by_cases hd : D.dead = true
  · rw [if_pos hd, if_pos (by rw [← h.dead]; exact hd)]
    exact ⟨rfl, h.more⟩
  · have hx : ¬ X.dead = true := by rw [← h.dead]; exact hd
    rw [if_neg hd, if_neg hx]
    refine ⟨rfl, h.safe, h.pend, h.dead, h.ops, h.arm, fun _ => ?_⟩
    show ((if 0 ≤ n ∧ n < 4611686018427387904 then n + 1 else 0) = 0 ∧ max1 n = -1) ∨ (0 ≤ max1 n ∧ (if 0 ≤ n ∧ n < 4611686018427387904 then n + 1 else 0) = max1 n + 1) ∨ ((if 0 ≤ n ∧ n < 4611686018427387904 then n + 1 else 0) = 0 ∧ 4611686018427387904 - ((c + 1 : Nat) : Int) ≤ max1 n)
    unfold max1
    by_cases hn : 0 ≤ n
    · by_cases hb : n < 4611686018427387904
      · rw [if_pos ⟨hn, hb⟩, if_neg (by omega)]; omega
      · rw [if_neg (by omega), if_neg (by omega)]; omega
    · rw [if_neg (by omega)]
      left
      refine ⟨rfl, ?_⟩
      split <;> omega
theorem sim_crash (h : Sim c D X) (f : Nat → Bool) : Sim (c + 1) (D.crash f) (X.crash f) := by
  have h2 := h.settle f
  exact ⟨h2.safe, h2.pend, rfl, h2.ops, fun _ => .inr ⟨rfl, rfl⟩, fun _ => .inl ⟨rfl, rfl⟩⟩
theorem sim_does (h : Sim c D X) (hc : c ≤ 1000000) (o : POp) : (D.does o).2 = (X.want o).2 ∧ Sim (c + 1) (D.does o).1 (X.want o).1 := by
  unfold PD.does RD.want
  by_cases h0 : kindOf o.k = 0
  · rw [if_pos h0, if_pos h0]; exact sim_read h hc _
  · rw [if_neg h0, if_neg h0]
    by_cases h1 : kindOf o.k = 1
    · rw [if_pos h1, if_pos h1]
      have := sim_write h hc o.a (fblock o.f)
      exact ⟨by show (z64, _) = (z64, _); rw [this.1], this.2⟩
    · rw [if_neg h1, if_neg h1]
      by_cases h2 : kindOf o.k = 2
      · rw [if_pos h2, if_pos h2]
        have := sim_sync h hc
        exact ⟨by show (z64, _) = (z64, _); rw [this.1], this.2⟩
      · rw [if_neg h2, if_neg h2]
        by_cases h3 : kindOf o.k = 3
        · rw [if_pos h3, if_pos h3]
          have := sim_arm h o.a
          exact ⟨by show (z64, _) = (z64, _); rw [this.1], this.2⟩
        · rw [if_neg h3, if_neg h3]
          by_cases h5 : kindOf o.k = 5
          · rw [if_pos h5, if_pos h5]
            have := sim_fail h o.a
            exact ⟨by show (z64, _) = (z64, _); rw [this.1], this.2⟩
          · rw [if_neg h5, if_neg h5]
            exact ⟨rfl, sim_crash h _⟩
end
end Go.Proofs.Ytpblppilknkdoaa
