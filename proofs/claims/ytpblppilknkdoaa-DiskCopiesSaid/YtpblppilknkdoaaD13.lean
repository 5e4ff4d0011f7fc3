/- From a walk to a row: the arguments opened; the post shut. -/
import Derived.Test.YtpblppilknkdoaaD12
import Derived.Test.YtpblppilknkdoaaRows
import Derived.ProofKit
import Derived.SizedLaws
import Derived.Deep.Slices
import Derived.Carry
namespace Go.Proofs.Ytpblppilknkdoaa
open Go Go.Eng Go.Proofs Go.ChangeShapes Go.WideShapes Go.ChangeAt Go.RowKit Go.Deep

theorem own : ownKnob Try.prog.godebug = none := by kernel_rfl
theorem laidOut : laidOutB Try.prog = true := by kernel_rfl
theorem cl3 : Try.prog.cellsOf 3 = 1 := by kernel_rfl
theorem cl4 : Try.prog.cellsOf 4 = 1 := by kernel_rfl
theorem cl5 : Try.prog.cellsOf 5 = 1 := by kernel_rfl
theorem cl30 : Try.prog.cellsOf 30 = 1 := by kernel_rfl
theorem cl32 : Try.prog.cellsOf 32 = 4 := by kernel_rfl
theorem by4 : Try.prog.bytesOf 4 = 1 := by kernel_rfl

section
variable {H : Type} {enc : TypeId × Value → H} {W : World}

/-- All arguments read behind the call as before it. -/
theorem trodAll_below {W' : World} (hb : Below W.heap.size W W') : ∀ (ts : List TypeId) (vs : List Value) (ds : List (DataW H)) (ps : List MemPlace), (∀ t ∈ ts, Try.prog.readableRec t = true ∧ t < Try.prog.types.size) →
    DataW.TrodAll enc Try.prog W 0 (fun _ => true) true ts vs ds ps → (∀ x ∈ ps, x.block < W.heap.size) → DataW.TrodAll enc Try.prog W' 0 (fun b => decide (b < W.heap.size)) true ts vs ds ps
  | [], [], [], ps, _, h, _ => h
  | t :: ts, v :: vs, d :: ds, ps, ht, h, hlt => by
    obtain ⟨p, q, h1, h2, rfl⟩ := h
    exact ⟨p, q, Below.trod laidOut (ht t (by simp)).1 (ht t (by simp)).2 h1 hb (fun x hx => hlt x (by simp [hx])), trodAll_below hb ts vs ds q (fun t h => ht t (by simp [h])) h2 (fun x hx => hlt x (by simp [hx])), rfl⟩
  | [], _ :: _, _, _, _, h, _ => h.elim
  | [], [], _ :: _, _, _, h, _ => h.elim
  | _ :: _, [], _, _, _, h, _ => h.elim
  | _ :: _, _ :: _, [], _, _, h, _ => h.elim

/-- The post of a law that answers true and leaves all as it was. -/
theorem post_true {W' : World} {fn : Func} {s : ChangeSpec} {args : Array Value} {ds : List (DataW H)} {before : List MemPlace} (hv : s.vars = [])
    (hW : DataW.Whole enc Try.prog fn.params.toList s.vars false W args.toList ds [] before) (hr : fn.resultTypes = #[4]) (h1 : (s.fn H (ds ++ [])).results = [.lit (.bool true)]) (h2 : (s.fn H (ds ++ [])).args = ds) (h3 : (s.fn H (ds ++ [])).vars = [])
    (ht : ∀ t ∈ fn.params.toList, Try.prog.readableRec t = true ∧ t < Try.prog.types.size) (hk : Kept (fun _ => False) W W') : s.post enc Try.prog fn false true false false W args (.bool true) W' := by
  have hW' := hW
  have hlt := hW.lt
  obtain ⟨p, q, hA, hV, rfl, _, _⟩ := hW
  rw [hv] at hV
  have hq : q = [] := hV
  subst hq
  have hb : Below W.heap.size W W' := hk.below (Nat.le_refl _) (fun _ _ h => h)
  refine ⟨ds, [], p ++ [], [], p, [], hW', ?_, ?_, ?_, hb.frame _, fun h => by cases h⟩
  · rw [h1, hr]
    exact ⟨[], [], shut_bool Try.underlying4 true, rfl, rfl⟩
  · rw [h2]
    exact trodAll_below hb _ _ _ _ ht hA (fun x hx => hlt x (by simp [hx]))
  · rw [h3, hv]; rfl

theorem trod_le {k : IntKind} {n : Int} (h : (Lit.int k n).wf = true) : k.min ≤ n ∧ n ≤ k.max := by
  simp only [Lit.wf, Bool.and_eq_true, decide_eq_true_eq] at h
  exact h

def tb : Value → Bool
  | .bool b => b
  | _ => false
/-- A slice of bools. -/
theorem open_bools {sp : Nat → Bool} {held : Bool} {fuel : Nat} {cs : List Value} {x : DataW H × List MemPlace} (h : DataW.trod enc Try.prog W 0 sp held fuel 30 cs = some x) :
    ∃ kv ks, cs = [kv] ∧ BoolsAt W kv ks (fun b => b < W.heap.size) ∧ ((∀ n ∈ x.1.weights Try.prog 30, n ≤ reachBytes) → ks.length ≤ 140737488351232) := by
  rcases open_slice1 Try.underlying30 cl4 h with ⟨rfl, rfl⟩ | ⟨a, len, cap, m, n, V, D, Pl, rfl, _, hl, hm, hmm, rfl, hx⟩
  · exact ⟨_, [], rfl, .inl ⟨rfl, none, 0, rfl⟩, fun _ => Nat.zero_le _⟩
  · have hlm : len ≤ m := by rw [hmm]; split <;> omega
    refine ⟨_, (List.range len).map fun i => tb (V i), rfl, ?_, fun hw => ?_⟩
    · rcases Nat.eq_zero_or_pos len with rfl | hpos
      · exact .inl ⟨rfl, some a, cap, rfl⟩
      · obtain ⟨b, off, spot⟩ := a
        have hspot : spot = none := by simpa [Addr.add] using World.cell?_spot (hx 0 (by omega)).1
        subst hspot
        have hc : ∀ i, i < len → W.cell? ⟨b, off + i, none⟩ = some (V i) := fun i hi => by
          have := (hx i (by omega)).1
          rwa [Addr.add_mid] at this
        refine .inr ⟨b, off, cap, by simp, ?_, fun k x hk => ?_⟩
        · have h0 := hc 0 hpos
          unfold World.cell? at h0
          cases hh : W.heap[b]? with
          | none => simp [hh] at h0
          | some o => exact at_lt _ _ hh
        · have hkl : k < len := by
            have := (List.getElem?_eq_some_iff.1 hk).1
            simpa using this
          rw [hc k hkl]
          have ht := (hx k (by omega)).2
          obtain ⟨v, hv, _⟩ := DataW.trod_bool Try.underlying4 ht
          have hv : V k = .bool v := by simpa using hv
          have hxv : tb (V k) = x := by simpa [hkl] using hk
          rw [hv] at hxv ⊢
          rw [← hxv]
          rfl
    · have := hw (((List.range len).map D).length + ((List.range (m - len)).map fun j => D (len + j)).length) (by simp [DataW.weights, Try.underlying30, by4])
      simp only [List.length_map, List.length_range, reachBytes] at this ⊢
      omega

/-- An op. -/
theorem open_op {sp : Nat → Bool} {held : Bool} {fuel : Nat} {cs : List Value} {x : DataW H × List MemPlace} (h : DataW.trod enc Try.prog W 0 sp held fuel 32 cs = some x) :
    ∃ (o : POp) (kv : Value), cs = [.int .i64 o.k, .int .i64 o.a, .int .u8 o.f, kv] ∧ (-9223372036854775808 ≤ o.a ∧ o.a ≤ 9223372036854775807) ∧ BoolsAt W kv o.ks (fun b => b < W.heap.size) ∧
      ((∀ n ∈ x.1.weights Try.prog 32, n ≤ reachBytes) → o.ks.length ≤ 140737488351232) := by
  obtain ⟨xs, n, _, rfl, hl, hlen, hf⟩ := DataW.trod_struct Try.underlying32 h
  rw [cl32] at hl
  match xs, hlen, cs, hl with
  | [y0, y1, y2, y3], _, [c0, c1, c2, c3], _ =>
    have h0 : DataW.trod enc Try.prog W 0 sp held n 3 [c0] = some y0 := by
      have h : DataW.trod enc Try.prog W 0 sp held n 3 (([c0, c1, c2, c3].drop 0).take (Try.prog.cellsOf 3)) = some y0 := hf 0 _ rfl
      rw [cl3] at h
      exact h
    have h1 : DataW.trod enc Try.prog W 0 sp held n 3 [c1] = some y1 := by
      have h : DataW.trod enc Try.prog W 0 sp held n 3 (([c0, c1, c2, c3].drop 1).take (Try.prog.cellsOf 3)) = some y1 := hf 1 _ rfl
      rw [cl3] at h
      exact h
    have h2 : DataW.trod enc Try.prog W 0 sp held n 5 [c2] = some y2 := by
      have h : DataW.trod enc Try.prog W 0 sp held n 5 (([c0, c1, c2, c3].drop 2).take (Try.prog.cellsOf 5)) = some y2 := hf 2 _ rfl
      rw [cl5] at h
      exact h
    have h3 : DataW.trod enc Try.prog W 0 sp held n 30 [c3] = some y3 := by
      have h : DataW.trod enc Try.prog W 0 sp held n 30 (([c0, c1, c2, c3].drop 3).take (Try.prog.cellsOf 30)) = some y3 := hf 3 _ rfl
      rw [cl30] at h
      exact h
    obtain ⟨k, hk, _, _⟩ := DataW.trod_int Try.underlying3 h0
    obtain ⟨a, ha, _, wa⟩ := DataW.trod_int Try.underlying3 h1
    obtain ⟨f, hfl, _, _⟩ := DataW.trod_int Try.underlying5 h2
    obtain ⟨kv, ks, hkv, hb, hn⟩ := open_bools h3
    simp only [List.cons.injEq, and_true] at hk ha hfl hkv
    subst hk; subst ha; subst hfl; subst hkv
    refine ⟨⟨k, a, f, ks⟩, c3, rfl, trod_le wa, hb, fun hw => hn fun n hn => hw n ?_⟩
    simp only [DataW.weights, Try.underlying32, List.map_cons, List.map_nil, DataW.weightsEach, List.mem_append]
    exact .inr (.inr (.inr (.inl hn)))
end

end Go.Proofs.Ytpblppilknkdoaa
