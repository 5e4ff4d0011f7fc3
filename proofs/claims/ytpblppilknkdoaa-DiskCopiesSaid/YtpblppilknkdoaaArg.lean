/- A slice of ops, opened. -/
import Derived.Test.YtpblppilknkdoaaOps
namespace Go.Proofs.Ytpblppilknkdoaa
open Go Go.Eng Go.Proofs Go.ChangeShapes Go.WideShapes Go.ChangeAt Go.RowKit Go.Deep
section
variable {H : Type} {enc : TypeId × Value → H} {W : World}
theorem by32 : Try.prog.bytesOf 32 = 48 := by kernel_rfl
theorem weights_all {e : TypeId} : ∀ {ds : List (DataW H)} {d : DataW H}, d ∈ ds → ∀ n ∈ d.weights Try.prog e, n ∈ DataW.weightsAll Try.prog e ds
  | x :: r, d, hd, n, hn => by
    simp only [DataW.weightsAll, List.mem_append]
    rcases List.mem_cons.1 hd with rfl | hd
    · exact .inl hn
    · exact .inr (weights_all hd n hn)
theorem open_ops {sp : Nat → Bool} {held : Bool} {fuel : Nat} {cs : List Value} {x : DataW H × List MemPlace} (h : DataW.trod enc Try.prog W 0 sp held fuel 22 cs = some x)
    (hw : ∀ n ∈ x.1.weights Try.prog 22, n ≤ reachBytes) : ∃ lv l, cs = [lv] ∧ OpsAt W lv l W.heap.size ∧ l.length ≤ 9223372036854775807 := by
  rcases open_slice Try.underlying22 h with ⟨rfl, rfl⟩ | ⟨a, len, cap, m, n, D, Pl, rfl, _, hl, hmax, hmm, rfl, hx⟩
  · exact ⟨_, [], rfl, .inl ⟨rfl, none, 0, rfl⟩, Nat.zero_le _⟩
  · have hlm : len ≤ m := by rw [hmm]; split <;> omega
    simp only [maxLen] at hmax
    rw [cl32] at hx
    have each : ∀ i, ∃ y : OpV, i < len → (∀ j v, y.cells[j]? = some v → W.cell? (a.add (i * 4 + j)) = some v) ∧ y.Ok W W.heap.size := fun i => by
      by_cases hi : i < len
      · obtain ⟨cs', h1, h2⟩ := hx i (by omega)
        obtain ⟨o, kv, rfl, ha, hb, hn⟩ := open_op h2
        obtain ⟨_, _, hc⟩ := World.cells?_some h1
        refine ⟨⟨o, kv⟩, fun _ => ⟨fun j v hj => ?_, ⟨hb, hn fun n hn => hw n ?_, ha⟩⟩⟩
        · have := hc j
          have hj' := (List.getElem?_eq_some_iff.1 hj).1
          have hj4 : j < 4 := by simpa [OpV.cells] using hj'
          have e : (a.add (i * 4)).add j = a.add (i * 4 + j) := Addr.add_add a _ _
          rw [← e]
          have h9 := hc j
          rw [← hj]
          exact h9 hj4
        · simp only [DataW.weights, Try.underlying22, List.mem_cons, List.mem_append]
          exact .inr (.inl (weights_all (List.mem_map.2 ⟨i, List.mem_range.2 hi, rfl⟩) n hn))
      · exact ⟨⟨⟨0, 0, 0, []⟩, .slice none 0 0⟩, fun h => absurd h hi⟩
    obtain ⟨f, hf⟩ := Classical.axiomOfChoice each
    have hlen : ((List.range len).map f).length = len := by simp
    refine ⟨_, (List.range len).map f, rfl, ?_, by rw [hlen]; omega⟩
    rcases Nat.eq_zero_or_pos len with rfl | hpos
    · exact .inl ⟨rfl, some a, cap, rfl⟩
    · obtain ⟨b, off, spot⟩ := a
      have h0 := (hf 0 hpos).1 0 _ rfl
      have hspot : spot = none := by simpa [Addr.add] using World.cell?_spot h0
      subst hspot
      have hb : b < W.heap.size := World.block_lt_of_cell? W _ h0
      refine .inr ⟨b, off, cap, by rw [hlen], by rw [hlen]; exact hl, hb, fun k x hk => ?_⟩
      have hkl : k < len := by
        have := (List.getElem?_eq_some_iff.1 hk).1
        simpa using this
      have hxf : f k = x := by simpa [hkl] using hk
      subst hxf
      refine ⟨fun j v hj => ?_, (hf k hkl).2⟩
      have h9 := (hf k hkl).1 j v hj
      rwa [Addr.add_mid, ← Nat.add_assoc] at h9
end
end Go.Proofs.Ytpblppilknkdoaa
