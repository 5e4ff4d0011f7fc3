/- Plain law of DiskArmed: an armed disk does as one that is not, till the power goes, and then nothing. -/
import Derived.Test.YtpblppilknkdoaaLaw2
namespace Go.Proofs.Ytpblppilknkdoaa
open Go Go.Eng Go.Proofs
/-- A disk armed, with so many writes and syncs left. -/
def PD.armedN (D : PD) (n : Int) : PD := { D with armed := true, left := n }
section
variable {D : PD} {i : Int} {n : Int}
theorem armedN_ready (h : D.Plain) : (D.armedN n).ready i = (D.armedN n, if 0 ≤ i ∧ i < D.safe.length then 0 else 2) := by
  unfold PD.ready PD.armedN
  dsimp only
  rw [if_neg (by rw [h.dead]; decide)]
  by_cases hr : 0 ≤ i ∧ i < D.safe.length
  · rw [if_neg (by omega), if_neg (by rw [h.fails]; decide), if_neg (by rw [h.fails]; decide), if_pos hr]
  · rw [if_pos (by omega), if_neg hr]
theorem armedN_yes (h : D.Plain) (hi : 0 ≤ i ∧ i < D.safe.length) : (D.armedN n).ready i = (D.armedN n, 0) := by rw [armedN_ready h, if_pos hi]
theorem armedN_no (h : D.Plain) (hi : ¬ (0 ≤ i ∧ i < D.safe.length)) : (D.armedN n).ready i = (D.armedN n, 2) := by rw [armedN_ready h, if_neg hi]
theorem look_armedN : (D.armedN n).look i = D.look i := by rw [look_eq, look_eq]; rfl
/-- Does this op count, if it is done? -/
def counts (o : POp) (len : Nat) : Prop := kindOf o.k = 2 ∨ (kindOf o.k = 1 ∧ 0 ≤ o.a ∧ o.a < len)
instance (o : POp) (len : Nat) : Decidable (counts o len) := inferInstanceAs (Decidable (_ ∨ _))
theorem armed_start (hn : 0 ≤ n) : (PD.new 6).arm n = ((PD.new 6).armedN n, 0) := by
  unfold PD.arm PD.armedN
  rw [if_neg (by simp [PD.new])]
  simp [hn]
/-- An op that does not count: nothing goes. -/
theorem armed_free (h : D.Plain) (hs : D.safe.length = 6) {o : POp} (hk : kindOf o.k < 3) (hc : ¬ counts o 6) : (D.armedN n).does o = (((D.does o).1).armedN n, (D.does o).2) := by
  have hr := kindOf_range o.k
  unfold counts at hc
  unfold PD.does
  by_cases h0 : kindOf o.k = 0
  · rw [if_pos h0, if_pos h0, h.read]
    unfold PD.read
    rw [armedN_ready h]
    by_cases hi : 0 ≤ o.a ∧ o.a < D.safe.length
    · rw [if_pos hi, if_pos hi]
      simp only [ne_eq, not_true_eq_false, if_false, look_armedN]
      rfl
    · rw [if_neg hi, if_neg hi]; rfl
  · have h1 : kindOf o.k = 1 := by omega
    rw [if_neg h0, if_neg h0, if_pos h1, if_pos h1, h.write, if_neg (by omega)]
    have e : (D.armedN n).write o.a (fblock o.f) = (D.armedN n, 2) := by
      unfold PD.write
      rw [armedN_no h (by omega)]
      rfl
    rw [e]
/-- An op that counts, while there are some left. -/
theorem armed_count (h : D.Plain) (hs : D.safe.length = 6) {o : POp} (hc : counts o 6) (hn : 0 < n) : (D.armedN n).does o = (((D.does o).1).armedN (n - 1), (D.does o).2) ∧ (D.does o).2.2 = 0 := by
  have hr := kindOf_range o.k
  have hst : ¬ (D.armedN n).stops := fun hs => absurd hs.2 (by show ¬ n = 0; omega)
  unfold counts at hc
  unfold PD.does
  have h0 : ¬ kindOf o.k = 0 := by omega
  rw [if_neg h0, if_neg h0]
  by_cases h1 : kindOf o.k = 1
  · rw [if_pos h1, if_pos h1, h.write, if_pos (by omega)]
    have e : (D.armedN n).write o.a (fblock o.f) = ({ D with ops := D.ops + 1, pend := D.pend ++ [(o.a.toNat, fblock o.f)], armed := true, left := n - 1 }, 0) := by
      unfold PD.write
      rw [armedN_yes h (by omega)]
      simp only [ne_eq, not_true_eq_false, if_false]
      rw [if_neg hst]
      simp [PD.pre, PD.armedN]
    rw [e]
    exact ⟨rfl, rfl⟩
  · have h2 : kindOf o.k = 2 := by omega
    rw [if_neg h1, if_neg h1, if_pos h2, if_pos h2, h.sync (by omega)]
    have e : (D.armedN n).sync = ({ D with ops := D.ops + 1, safe := settleN D.safe D.pend (fun _ => true) D.pend.length, pend := [], armed := true, left := n - 1 }, 0) := by
      unfold PD.sync
      rw [armedN_yes h (by omega)]
      simp only [ne_eq, not_true_eq_false, if_false]
      rw [if_neg hst]
      simp [PD.pre, PD.settle, PD.armedN]
    rw [e]
    exact ⟨rfl, rfl⟩
/-- The disk whose power has gone. -/
def PD.gone (D : PD) : PD := { D with dead := true, armed := false, left := 0 }
/-- The op with which the power goes. -/
theorem armed_dies (h : D.Plain) (hs : D.safe.length = 6) {o : POp} (hc : counts o 6) : (D.armedN 0).does o = (D.gone, z64, 9) := by
  have hr := kindOf_range o.k
  have hst : (D.armedN 0).stops := ⟨rfl, rfl⟩
  unfold counts at hc
  unfold PD.does
  have h0 : ¬ kindOf o.k = 0 := by omega
  rw [if_neg h0]
  by_cases h1 : kindOf o.k = 1
  · rw [if_pos h1]
    have e : (D.armedN 0).write o.a (fblock o.f) = (D.gone, 9) := by
      unfold PD.write
      rw [armedN_yes h (by omega)]
      simp only [ne_eq, not_true_eq_false, if_false]
      rw [if_pos hst]
      rfl
    rw [e]
  · have h2 : kindOf o.k = 2 := by omega
    rw [if_neg h1, if_pos h2]
    have e : (D.armedN 0).sync = (D.gone, 9) := by
      unfold PD.sync
      rw [armedN_yes h (by omega)]
      simp only [ne_eq, not_true_eq_false, if_false]
      rw [if_pos hst]
      rfl
    rw [e]
theorem gone_dead : D.gone.dead = true := rfl
theorem gone_ready : D.gone.ready i = (D.gone, 9) := by unfold PD.ready; rw [if_pos gone_dead]
theorem gone_read : D.gone.read i = (D.gone, z64, 9) := by unfold PD.read; rw [gone_ready]; rfl
theorem gone_sync : D.gone.sync = (D.gone, 9) := by unfold PD.sync; rw [gone_ready]; rfl
theorem gone_arm : D.gone.arm n = (D.gone, 9) := by unfold PD.arm; rw [if_pos gone_dead]
theorem gone_fail : D.gone.fail n = (D.gone, 9) := by unfold PD.fail; rw [if_pos gone_dead]
theorem settleN_congr {safe : List Blk} {pend : List (Nat × Blk)} {f g : Nat → Bool} : ∀ k, (∀ j, j < k → f j = g j) → settleN safe pend f k = settleN safe pend g k
  | 0, _ => rfl
  | k + 1, h => by
    simp only [settleN]
    rw [settleN_congr k (fun j hj => h j (by omega)), h k (by omega)]
/-- What a crash that keeps all makes of a disk whose power had gone. -/
def PD.back (D : PD) : PD := { D with safe := settleN D.safe D.pend (fun _ => true) D.pend.length, pend := [], dead := false, armed := false, left := 0, fails := 0 }
theorem gone_crash {f : Nat → Bool} (hf : ∀ k, k < D.pend.length → f k = true) : D.gone.crash f = D.back := by
  have e := settleN_congr (safe := D.safe) (pend := D.pend) (f := f) (g := fun _ => true) D.pend.length hf
  unfold PD.crash PD.settle PD.gone PD.back
  dsimp only
  rw [e]
theorem back_plain (h : D.Plain) : D.back.Plain := ⟨rfl, rfl, rfl, by simp [PD.back]⟩
theorem back_safe : D.back.safe.length = D.safe.length := length_settleN _
theorem back_look (h : D.Plain) (j : Nat) : D.back.look j = D.look j := by
  have e := look_sync h.pends 0 j
  rw [← e, look_eq, look_eq]
  rfl
theorem back_held (h : D.Plain) (hs : D.safe.length = 6) : (D.back.held 6).2 = (D.held 6).2 := by
  obtain ⟨_, _, _, h4⟩ := held_plain (back_plain h) 6 (by rw [back_safe, hs]; decide)
  obtain ⟨_, _, _, h4'⟩ := held_plain h 6 (by rw [hs]; decide)
  rw [h4, h4']
  exact List.map_congr_left fun j _ => back_look h j
end
theorem armed_read {D : PD} {i n : Int} (h : D.Plain) : (D.armedN n).read i = ((D.read i).1.armedN n, (D.read i).2) := by
  rw [h.read]
  unfold PD.read
  rw [armedN_ready h]
  by_cases hi : 0 ≤ i ∧ i < D.safe.length
  · rw [if_pos hi, if_pos hi]
    simp only [ne_eq, not_true_eq_false, if_false, look_armedN]
    rfl
  · rw [if_neg hi, if_neg hi]; rfl
theorem armed_held {D : PD} {n : Int} (h : D.Plain) : ∀ k, k ≤ D.safe.length → (D.armedN n).held k = ((D.held k).1.armedN n, (D.held k).2)
  | 0, _ => rfl
  | k + 1, hk => by
    obtain ⟨h1, _⟩ := held_plain h k (by omega)
    simp only [PD.held]
    rw [armed_held h k (by omega)]
    dsimp only
    rw [armed_read h1]
/-- A write outside is refused. -/
theorem free_err {D : PD} (h : D.Plain) (hs : D.safe.length = 6) {o : POp} (hk : kindOf o.k = 1) (hc : ¬ counts o 6) : (D.does o).2.2 = 2 := by
  unfold counts at hc
  unfold PD.does
  have h0 : ¬ kindOf o.k = 0 := by omega
  rw [if_neg h0, if_pos hk, h.write, if_neg (by omega)]
/-- The disk that is not armed, and how many ops counted, while the power holds. -/
def armN (m : List OpV) : Nat → PD × Int
  | 0 => (PD.new 6, 0)
  | k + 1 => match m[k]? with
    | some x => if 2 < kindOf x.o.k then armN m k else (((armN m k).1.does x.o).1, if counts x.o 6 then (armN m k).2 + 1 else (armN m k).2)
    | none => armN m k
theorem armN_succ {m : List OpV} {k : Nat} {x : OpV} (h : m[k]? = some x) : armN m (k + 1) = if 2 < kindOf x.o.k then armN m k else (((armN m k).1.does x.o).1, if counts x.o 6 then (armN m k).2 + 1 else (armN m k).2) := by simp [armN, h]
theorem armN_ok (m : List OpV) : ∀ k, k ≤ m.length → FailsOk (armN m k) k
  | 0, _ => ⟨PD.Plain.new 6, by simp [armN, PD.new], PD.Few.zero _, by simp [armN]⟩
  | k + 1, hk => by
    have ih := armN_ok m k (by omega)
    have hx : m[k]? = some m[k] := List.getElem?_eq_getElem (by omega)
    rw [armN_succ hx]
    have hc := ih.count
    split
    · exact ⟨ih.plain, ih.safe, ih.few.skip, by omega⟩
    · rename_i hsk
      obtain ⟨g1, g2, _⟩ := ih.plain.doesW (by rw [ih.safe]; decide) (show kindOf (m[k]).o.k < 3 by omega)
      exact ⟨g1, g2.trans ih.safe, ih.few.step PD.step_does, by simp only; split <;> omega⟩
end Go.Proofs.Ytpblppilknkdoaa
