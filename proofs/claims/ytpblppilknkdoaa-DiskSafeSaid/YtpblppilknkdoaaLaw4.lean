/- Plain law of DiskSafe: what a crash leaves, sector by sector. -/
import Derived.Test.YtpblppilknkdoaaLaw3
namespace Go.Proofs.Ytpblppilknkdoaa
open Go Go.Eng Go.Proofs
theorem getD_setI {l : List Blk} {k i : Nat} {b : Blk} (hk : k < l.length) : (l.set k b).getD i [] = if k = i then b else l.getD i [] := getD_set l k i b hk
/-- What lives on: what was safe, or one of the pending writes. -/
theorem settle_some {safe : List Blk} {pend : List (Nat × Blk)} {f : Nat → Bool} (hp : ∀ p ∈ pend, p.1 < safe.length) (i : Nat) : ∀ k, k ≤ pend.length →
    (settleN safe pend f k).getD i [] = safe.getD i [] ∨ ∃ j p, j < k ∧ pend[j]? = some p ∧ p.1 = i ∧ (settleN safe pend f k).getD i [] = p.2
  | 0, _ => .inl rfl
  | k + 1, hk => by
    have h : pend[k]? = some pend[k] := List.getElem?_eq_getElem (by omega)
    have hlt := hp _ (List.mem_of_getElem? h)
    have ih := settle_some (f := f) hp i k (by omega)
    cases hf : f k with
    | false =>
      rw [settleN_no hf]
      rcases ih with ih | ⟨j, p, h1, h2⟩
      · exact .inl ih
      · exact .inr ⟨j, p, by omega, h2⟩
    | true =>
      rw [settleN_yes h hf, getD_set _ _ _ _ (by rw [length_settleN]; exact hlt)]
      by_cases e : (pend[k]).1 = i
      · rw [if_pos e]
        exact .inr ⟨k, pend[k], by omega, h, e, rfl⟩
      · rw [if_neg e]
        rcases ih with ih | ⟨j, p, h1, h2⟩
        · exact .inl ih
        · exact .inr ⟨j, p, by omega, h2⟩
/-- Only the j-th write lives. -/
def onlyN (j : Nat) : List Bool := List.replicate j false ++ [true]
theorem only_at (j : Nat) : (onlyN j).getD j false = true := by simp [onlyN, List.getD_eq_getElem?_getD]
theorem only_else {j k : Nat} (h : k ≠ j) : (onlyN j).getD k false = false := by
  simp only [onlyN, List.getD_eq_getElem?_getD, List.getElem?_append, List.length_replicate, List.getElem?_replicate]
  by_cases h1 : k < j
  · simp [h1]
  · rw [if_neg h1]
    have : k - j = (k - j - 1) + 1 := by omega
    rw [this]; rfl
theorem settle_only {safe : List Blk} {pend : List (Nat × Blk)} {j : Nat} {p : Nat × Blk} (hp : pend[j]? = some p) : ∀ k, settleN safe pend (fun k => (onlyN j).getD k false) k = if j < k then safe.set p.1 p.2 else safe
  | 0 => by simp [settleN]
  | k + 1 => by
    have ih := settle_only (safe := safe) hp k
    by_cases e : k = j
    · subst e
      rw [settleN_yes hp (only_at k), ih, if_neg (by omega), if_pos (by omega)]
    · rw [settleN_no (only_else e), ih]
      by_cases h : j < k
      · rw [if_pos h, if_pos (by omega)]
      · rw [if_neg h, if_neg (by omega)]
section
variable {D : PD} {f : Nat → Bool}
theorem crash_plain (f : Nat → Bool) : (D.crash f).Plain := ⟨rfl, rfl, rfl, by simp [PD.crash, PD.settle]⟩
theorem crash_safe : (D.crash f).safe.length = D.safe.length := length_settleN _
theorem crash_look (i : Nat) : (D.crash f).look i = (settleN D.safe D.pend f D.pend.length).getD i [] := by
  rw [look_eq]
  simp [PD.crash, PD.settle, lastWrite]
theorem held_look (h : D.Plain) (hs : D.safe.length = 6) : (D.held 6).2 = (List.range 6).map fun i : Nat => D.look (i : Int) := (held_plain h 6 (by rw [hs]; decide)).2.2.2
theorem held_crash (hs : D.safe.length = 6) (f : Nat → Bool) : ((D.crash f).held 6).2 = (List.range 6).map fun i : Nat => (settleN D.safe D.pend f D.pend.length).getD i [] := by
  rw [held_look (crash_plain f) (by rw [crash_safe, hs])]
  exact List.map_congr_left fun j _ => crash_look j
theorem crash_all (h : D.Plain) (hs : D.safe.length = 6) (hf : ∀ k, k < D.pend.length → f k = true) : ((D.crash f).held 6).2 = (D.held 6).2 := by
  rw [held_crash hs, held_look h hs, settleN_congr _ hf]
  refine List.map_congr_left fun j _ => ?_
  have e := settle_look h.pends j D.pend.length (Nat.le_refl _)
  rw [List.take_length] at e
  rw [e, look_eq, Int.toNat_natCast]
theorem sync_err (h : D.Plain) (hs : D.safe.length = 6) : D.sync.2 = 0 := by rw [h.sync (by omega)]
theorem sync_pend (h : D.Plain) (hs : D.safe.length = 6) : D.sync.1.pend = [] := by rw [h.sync (by omega)]
theorem sync_plain (h : D.Plain) (hs : D.safe.length = 6) : D.sync.1.Plain := by
  rw [h.sync (by omega)]
  exact ⟨h.dead, h.armed, h.fails, by simp⟩
theorem sync_safe (h : D.Plain) (hs : D.safe.length = 6) : D.sync.1.safe.length = 6 := by
  rw [h.sync (by omega)]
  exact (length_settleN _).trans hs
theorem sync_crash (h : D.Plain) (hs : D.safe.length = 6) (f : Nat → Bool) : ((D.sync.1.crash f).held 6).2 = (D.held 6).2 := by
  rw [held_crash (sync_safe h hs), sync_pend h hs, held_look h hs]
  refine List.map_congr_left fun j _ => ?_
  rw [h.sync (by omega)]
  have e := settle_look h.pends j D.pend.length (Nat.le_refl _)
  rw [List.take_length] at e
  simp only [List.length_nil, settleN]
  rw [e, look_eq, Int.toNat_natCast]
/-- A sector is fine, by the first k writes. -/
def fineN (D : PD) (x y : Blk) (i : Nat) : Nat → Bool
  | 0 => decide (x = y)
  | k + 1 => fineN D x y i k || match D.pend[k]? with
    | some p => decide ((p.1 : Int) = i) && decide (x = ((D.crash (fun j => (onlyN k).getD j false)).read i).2.1)
    | none => false
theorem fineN_succ {x y : Blk} {i k : Nat} {p : Nat × Blk} (h : D.pend[k]? = some p) : fineN D x y i (k + 1) = (fineN D x y i k || (decide ((p.1 : Int) = i) && decide (x = ((D.crash (fun j => (onlyN k).getD j false)).read i).2.1))) := by simp [fineN, h]
theorem fine_mono {x y : Blk} {i : Nat} : ∀ (n k : Nat), fineN D x y i k = true → fineN D x y i (k + n) = true
  | 0, _, h => h
  | n + 1, k, h => by
    have := fine_mono n k h
    rw [← Nat.add_assoc, fineN, this, Bool.true_or]
theorem safe_fine (h : D.Plain) (hs : D.safe.length = 6) {i : Nat} (hi : i < 6) (f : Nat → Bool) :
    fineN D ((settleN D.safe D.pend f D.pend.length).getD i []) (D.safe.getD i []) i D.pend.length = true := by
  rcases settle_some (f := f) h.pends i D.pend.length (Nat.le_refl _) with e | ⟨j, p, h1, h2, h3, h4⟩
  · have := fine_mono (D := D) (x := (settleN D.safe D.pend f D.pend.length).getD i []) (y := D.safe.getD i []) (i := i) D.pend.length 0 (by rw [fineN, e]; simp)
    rwa [Nat.zero_add] at this
  · have hp := h.pends p (List.mem_of_getElem? h2)
    have e : ((D.crash (fun k => (onlyN j).getD k false)).read i).2.1 = p.2 := by
      rw [(crash_plain _).read, if_pos (by rw [crash_safe]; omega)]
      simp only
      rw [crash_look, settle_only h2, if_pos h1, getD_set _ _ _ _ hp, if_pos h3]
    have := fine_mono (D := D) (x := (settleN D.safe D.pend f D.pend.length).getD i []) (y := D.safe.getD i []) (i := i) (D.pend.length - (j + 1)) (j + 1) (by
      rw [fineN_succ h2, e, h4, decide_eq_true (show (p.1 : Int) = i by omega), decide_eq_true rfl]; simp)
    rwa [show j + 1 + (D.pend.length - (j + 1)) = D.pend.length by omega] at this
theorem held_none (hs : D.safe.length = 6) : ((D.crash (fun k => ([] : List Bool).getD k false)).held 6).2 = (List.range 6).map fun i : Nat => D.safe.getD i [] := by
  rw [held_crash hs]
  refine List.map_congr_left fun j _ => ?_
  have : ∀ k, settleN D.safe D.pend (fun k => ([] : List Bool).getD k false) k = D.safe := fun k => by
    induction k with
    | zero => rfl
    | succ k ih => rw [settleN_no (by simp), ih]
  rw [this]
end
end Go.Proofs.Ytpblppilknkdoaa
