/- The engine, fourth part: rows of the call's own, values that are built, regions that draw their order. -/
import Derived.Test.YtpblppilknkdoaaEng3
namespace Go.Eng
open Go

/-! ### Parts put in their places -/
theorem foldl_put (vs : List Value) : ∀ (cells : Array Value) (off k : Nat),
    (vs.zipIdx k).foldl (fun cs (p : Value × Nat) => cs.setIfInBounds (off + p.2) p.1) cells = (splice cells.toList (off + k) vs).toArray := by
  induction vs with
  | nil => intro cells off k; simp [splice]
  | cons v r ih =>
    intro cells off k
    simp only [List.zipIdx_cons, List.foldl_cons, splice]
    rw [ih]
    simp only [Array.toList_setIfInBounds, Nat.add_assoc]

theorem fill_cons {place : Nat → Option (Nat × Nat)} {zs : List Value} {i off size : Nat} {v : Value} {rest : List (Nat × Value)} (hp : place i = some (off, size)) (hs : v.cells.size = size) (ho : off + size ≤ zs.length) :
    Instr.fill place zs.toArray ((i, v) :: rest) = Instr.fill place (splice zs off v.cells.toList).toArray rest := by
  have h1 : ¬ (v.cells.size ≠ size ∨ zs.length < off + v.cells.size) := by omega
  have h2 : v.cells.zipIdx.foldl (fun cs (x : Value × Nat) => match x with | (c, j) => cs.setIfInBounds (off + j) c) zs.toArray = (splice zs off v.cells.toList).toArray := by
    rw [← Array.foldl_toList, Array.toList_zipIdx]
    exact foldl_put v.cells.toList zs.toArray off 0
  simp only [Instr.fill, hp]
  rw [if_neg (by simpa using h1)]
  exact congrArg (fun x => Instr.fill place x rest) h2

/-- The places of a struct's fields. -/
def PlacesT (P : Program) (t : TypeId) (ps : Array (Nat × Nat)) : Prop :=
  ∃ fields, P.underlying t = some (.struct fields) ∧ ∀ w, (Array.mapM (fun f : Field => do pure (f.offset, ← sizeOf f.type)) fields : Sem (Array (Nat × Nat))).run P w = .ok ps w

section builds
variable {P : Program} {w : World} {t : TypeId} {zs : List Value} {ps : Array (Nat × Nat)}
theorem run_zero (hz : ZeroT P t zs) : ∃ z, (zeroValue t).run P w = .ok z w ∧ z.cells = zs.toArray := by
  obtain ⟨i, z, hi, hzz, hc⟩ := hz
  exact ⟨z, by simp [zeroValue, typeInfo, hi, hzz], hc⟩

theorem run_build0 (hp : PlacesT P t ps) (hz : ZeroT P t zs) : (Instr.build t #[]).run P w = .ok (.agg zs.toArray) w := by
  obtain ⟨fields, hu, hps⟩ := hp
  obtain ⟨z, hzr, hc⟩ := run_zero (w := w) hz
  simp only [Instr.build, Sem.run_bind, hzr, Result.andThen_ok, run_underlying hu, hps, Instr.fill, hc]
  rfl
theorem run_build1 {i off size : Nat} {v : Value} (hp : PlacesT P t ps) (hz : ZeroT P t zs) (h1 : ps[i]? = some (off, size)) (hs : v.cells.size = size) (ho : Nat.ble (off + size) zs.length = true) :
    (Instr.build t #[(i, v)]).run P w = .ok (.agg (splice zs off v.cells.toList).toArray) w := by
  obtain ⟨fields, hu, hps⟩ := hp
  obtain ⟨z, hzr, hc⟩ := run_zero (w := w) hz
  have ho := Nat.le_of_ble_eq_true ho
  simp only [Instr.build, Sem.run_bind, hzr, Result.andThen_ok, run_underlying hu, hps, hc]
  rw [fill_cons h1 hs ho]
  rfl
theorem run_build2 {i off size j off' size' : Nat} {v v' : Value} (hp : PlacesT P t ps) (hz : ZeroT P t zs) (h1 : ps[i]? = some (off, size)) (hs : v.cells.size = size) (ho : Nat.ble (off + size) zs.length = true)
    (h2 : ps[j]? = some (off', size')) (hs' : v'.cells.size = size') (ho' : Nat.ble (off' + size') zs.length = true) :
    (Instr.build t #[(i, v), (j, v')]).run P w = .ok (.agg (splice (splice zs off v.cells.toList) off' v'.cells.toList).toArray) w := by
  obtain ⟨fields, hu, hps⟩ := hp
  obtain ⟨z, hzr, hc⟩ := run_zero (w := w) hz
  have ho := Nat.le_of_ble_eq_true ho
  have ho' := Nat.le_of_ble_eq_true ho'
  simp only [Instr.build, Sem.run_bind, hzr, Result.andThen_ok, run_underlying hu, hps, hc]
  rw [fill_cons h1 hs ho, fill_cons h2 hs' (by rw [length_splice]; exact ho')]
  rfl
theorem run_build3 {i off size j off' size' k off2 size2 : Nat} {v v' v2 : Value} (hp : PlacesT P t ps) (hz : ZeroT P t zs) (h1 : ps[i]? = some (off, size)) (hs : v.cells.size = size) (ho : Nat.ble (off + size) zs.length = true)
    (h2 : ps[j]? = some (off', size')) (hs' : v'.cells.size = size') (ho' : Nat.ble (off' + size') zs.length = true) (h3 : ps[k]? = some (off2, size2)) (hs2 : v2.cells.size = size2) (ho2 : Nat.ble (off2 + size2) zs.length = true) :
    (Instr.build t #[(i, v), (j, v'), (k, v2)]).run P w = .ok (.agg (splice (splice (splice zs off v.cells.toList) off' v'.cells.toList) off2 v2.cells.toList).toArray) w := by
  obtain ⟨fields, hu, hps⟩ := hp
  obtain ⟨z, hzr, hc⟩ := run_zero (w := w) hz
  have ho := Nat.le_of_ble_eq_true ho
  have ho' := Nat.le_of_ble_eq_true ho'
  have ho2 := Nat.le_of_ble_eq_true ho2
  simp only [Instr.build, Sem.run_bind, hzr, Result.andThen_ok, run_underlying hu, hps, hc]
  rw [fill_cons h1 hs ho, fill_cons h2 hs' (by rw [length_splice]; exact ho'), fill_cons h3 hs2 (by rw [length_splice, length_splice]; exact ho2)]
  rfl
/-- An array with one element set, or none. -/
theorem run_arr0 {n : Nat} {e : TypeId} (hu : P.underlying t = some (.array n e)) {m : Nat} (hs : (P.info? e).map (·.size) = some m) (hz : ZeroT P t zs) : (Instr.build t #[]).run P w = .ok (.agg zs.toArray) w := by
  obtain ⟨z, hzr, hc⟩ := run_zero (w := w) hz
  simp only [Instr.build, Sem.run_bind, hzr, Result.andThen_ok, run_underlying hu, run_sizeOf' hs, Instr.fill, hc]
  rfl
theorem run_arr1 {n i : Nat} {e : TypeId} {v : Value} (hu : P.underlying t = some (.array n e)) {m : Nat} (hs : (P.info? e).map (·.size) = some m) (hz : ZeroT P t zs) (hv : v.cells.size = m) (ho : Nat.ble (i * m + m) zs.length = true) :
    (Instr.build t #[(i, v)]).run P w = .ok (.agg (splice zs (i * m) v.cells.toList).toArray) w := by
  obtain ⟨z, hzr, hc⟩ := run_zero (w := w) hz
  have ho := Nat.le_of_ble_eq_true ho
  simp only [Instr.build, Sem.run_bind, hzr, Result.andThen_ok, run_underlying hu, run_sizeOf' hs, hc]
  rw [fill_cons (place := fun i => some (i * m, m)) rfl hv ho]
  rfl
end builds

theorem splice_all : ∀ (vs l : List Value) (pre : List Value), vs.length = l.length → splice (pre ++ l) pre.length vs = pre ++ vs
  | [], l, pre, h => by
    have : l = [] := List.eq_nil_of_length_eq_zero (by simpa using h.symm)
    simp [splice, this]
  | v :: r, [], pre, h => by simp at h
  | v :: r, u :: l, pre, h => by
    simp only [splice]
    have e1 : (pre ++ u :: l).set pre.length v = (pre ++ [v]) ++ l := by simp
    have e2 : pre.length + 1 = (pre ++ [v]).length := by simp
    rw [e1, e2, splice_all r l (pre ++ [v]) (by simpa using h)]
    simp

/-- Cells over a range: before it, the new ones, behind it. -/
theorem splice_eq (l : List Value) (o : Nat) (vs : List Value) (h : o + vs.length ≤ l.length) : splice l o vs = l.take o ++ vs ++ l.drop (o + vs.length) := by
  induction vs generalizing l o with
  | nil => simp [splice]
  | cons v r ih =>
    simp only [splice]
    simp only [List.length_cons] at h
    rw [ih (l.set o v) (o + 1) (by simp; omega)]
    have ho : o < l.length := by omega
    have e1 : (l.set o v).take (o + 1) = l.take o ++ [v] := by
      rw [List.take_succ_eq_append_getElem (by simpa using ho)]
      simp [List.take_set_of_le (Nat.le_refl o)]
    have e2 : (l.set o v).drop (o + 1 + r.length) = l.drop (o + (r.length + 1)) := by
      rw [List.drop_set_of_lt (by omega)]
      congr 1
      omega
    rw [e1, e2]
    simp

/-! ### Rows of the call's own -/
/-- The slice value v holds the cells xs, n elements of sz cells each, in a block of the footprint F (or it is nil). -/
def Row (w : World) (e : TypeId) (sz : Nat) (v : Value) (n : Nat) (xs : List Value) (F : Nat → Prop) : Prop :=
  w.ownsRow 0 e sz v n xs ∧ ∀ g, v.ownBlock = some g → F g

/-- A footprint that has grown by the blocks that were made. -/
def grow (F : Nat → Prop) (w w' : World) : Nat → Prop := fun k => F k ∨ (w.heap.size ≤ k ∧ k < w'.heap.size)

section rows
variable {w w' : World} {e : TypeId} {sz n : Nat} {v : Value} {xs : List Value} {F S : Nat → Prop}

theorem Row.nil (w : World) (e : TypeId) (sz : Nat) (F : Nat → Prop) : Row w e sz (.slice none 0 0) 0 [] F :=
  ⟨World.ownsRow_nil w 0 e sz, fun g h => by simp [Value.ownBlock] at h⟩
theorem Row.length (h : Row w e sz v n xs F) : xs.length = n * sz := h.1.1
theorem Row.mono {F' : Nat → Prop} (h : Row w e sz v n xs F) (hF : ∀ k, F k → F' k) : Row w e sz v n xs F' := ⟨h.1, fun g hg => hF g (h.2 g hg)⟩
theorem Row.shape (h : Row w e sz v n xs F) : ∃ a c, v = .slice a n c ∧ n ≤ c := by
  rcases h.1.2 with ⟨rfl, rfl⟩ | ⟨g, cap, cur, rfl, _, _, hn, _⟩
  · exact ⟨none, 0, rfl, Nat.le_refl _⟩
  · exact ⟨_, _, rfl, hn⟩
/-- Where there is an element, there is a block. -/
theorem Row.block (h : Row w e sz v n xs F) (hn : 0 < n) : ∃ g cap l, v = .slice (some ⟨g, 0, none⟩) n cap ∧ F g ∧ w.heap[g]? = some (blk l e) ∧ n ≤ cap ∧ l.length = cap * sz ∧ l.take (n * sz) = xs := by
  rcases h.1.2 with ⟨_, rfl⟩ | ⟨g, cap, cur, rfl, _, hg, hnc, _, hs, ht⟩
  · omega
  · exact ⟨g, cap, cur.toList, rfl, h.2 g rfl, by simpa using hg, hnc, by simpa using hs, ht⟩
theorem Row.any (h : Row w e sz v n xs F) : (v = .slice none 0 0 ∧ n = 0 ∧ xs = []) ∨ ∃ g cap l, v = .slice (some ⟨g, 0, none⟩) n cap ∧ F g ∧ w.heap[g]? = some (blk l e) ∧ n ≤ cap ∧ l.length = cap * sz ∧ l.take (n * sz) = xs := by
  rcases h.1.2 with ⟨rfl, rfl⟩ | ⟨g, cap, cur, rfl, _, hg, hnc, _, hs, ht⟩
  · exact .inl ⟨rfl, rfl, List.eq_nil_of_length_eq_zero (by have := h.1.1; simpa using this)⟩
  · exact .inr ⟨g, cap, cur.toList, rfl, h.2 g rfl, by simpa using hg, hnc, by simpa using hs, ht⟩
theorem Row.lt (h : Row w e sz v n xs F) : ∀ g, v.ownBlock = some g → g < w.heap.size := fun g hg => (h.1.lt g hg).2
theorem Row.kept (h : Row w e sz v n xs F) (hk : Kept S w w') (hd : ∀ k, F k → ¬ S k) : Row w' e sz v n xs F := by
  refine ⟨⟨h.1.1, ?_⟩, h.2⟩
  rcases h.1.2 with hn | ⟨g, cap, cur, hv, hb, hg, rest⟩
  · exact .inl hn
  · refine .inr ⟨g, cap, cur, hv, hb, ?_, rest⟩
    rw [hk.block g (Array.getElem?_eq_some_iff.1 hg).1 (hd g (h.2 g (by rw [hv]; rfl)))]
    exact hg
theorem Row.mk (w : World) (g cap : Nat) (l : List Value) (hg : w.heap[g]? = some (blk l e)) (hn : n ≤ cap) (hc : cap ≤ maxLen) (hl : l.length = cap * sz) (ht : l.take (n * sz) = xs) (hF : F g) :
    Row w e sz (.slice (some ⟨g, 0, none⟩) n cap) n xs F :=
  ⟨⟨by rw [← ht, List.length_take, hl]; exact Nat.min_eq_left (Nat.mul_le_mul_right _ hn), .inr ⟨g, cap, l.toArray, rfl, Nat.zero_le _, hg, hn, hc, by simpa using hl, by simpa using ht⟩⟩,
    fun k hk => by simp [Value.ownBlock] at hk; subst hk; exact hF⟩
/-- A cell of a row. -/
theorem Row.cells (h : Row w e sz v n xs F) {g : Nat} {m c : Nat} (hv : v = .slice (some ⟨g, 0, none⟩) m c) : ∀ j u, xs[j]? = some u → w.cell? ⟨g, j, none⟩ = some u := fun j u hu => by
  have := h.1.cells (g := g) (by rw [hv]; rfl) j u hu
  rwa [Addr.add_mid, Nat.zero_add] at this
end rows

/-- The facts on an element's type that an append asks. -/
structure ElemT (P : Program) (t e : TypeId) (sz bytes : Nat) : Prop where
  under : P.underlying t = some (.slice e)
  pos : 0 < sz
  info : ∃ i z, P.info? e = some i ∧ i.zero = some z ∧ i.size = sz ∧ i.bytes = bytes ∧ z.cells.size = sz

theorem ElemT.slice {P : Program} {t e : TypeId} {sz bytes : Nat} (h : ElemT P t e sz bytes) : SliceT P t e sz := by
  obtain ⟨i, z, hi, _, hs, _⟩ := h.info
  exact ⟨h.under, by simp [hi, hs]⟩

section lists
variable {P : Program} {n : Nat} {ds : List Deferred} {Q : Post} {σ : Env} {w : World} {ops : Array Oper} {op : Op} {ty : TypeId} {pos : String} {after : Array Edge} {rest : List Oper} {d : Nat}

/-- An operation whose value and world are known by what they are good for. -/
theorem L.bind {Φ : Value → World → Prop} (h : ∃ v w', Run P σ w op ty v w' ∧ Φ v w') (hd : Nat.blt d n = true) (k : ∀ v w', Φ v w' → L P n ds ops Q rest (upd σ d v) w') :
    L P n ds ops Q (⟨some d, op, ty, pos, after, none⟩ :: rest) σ w := by
  obtain ⟨v, w', hr, hΦ⟩ := h
  exact L.step hr hd (k v w' hΦ)

namespace R
/-- append(s, x..): the new value holds both; it lies where the old one lay, or in a new block. -/
theorem append {t e : TypeId} {sz bytes : Nat} {x y : Operand} {v : Value} {m c k b o : Nat} {xs news : List Value} {F : Nat → Prop} (hT : ElemT P t e sz bytes) (hx : ev σ x = v) (hrow : Row w e sz v m xs F) (hy : ev σ y = .slice (some ⟨b, o, none⟩) k c)
    (hl : news.length = k * sz) (hnews : ∀ j u, news[j]? = some u → w.cell? ⟨b, o + j, none⟩ = some u) (h1 : ∀ u ∈ news, u.oneCell' = true) (h63 : m + k ≤ maxLen) (hby : (m + k) * bytes ≤ 140737488355328) :
    ∃ v' w', Run P σ w (.call { callee := .builtin .append, args := #[x, y], argTypes := #[t, t] }) ty v' w' ∧
      (Row w' e sz v' (m + k) (xs ++ news) (grow F w w') ∧ Kept F w w' ∧ (v' = .slice none 0 0 ↔ v = .slice none 0 0 ∧ k = 0) ∧ (v'.ownBlock = v.ownBlock ∨ v'.ownBlock = some w.heap.size)) := by
  obtain ⟨i, z, hi, hz, hs, hb, hzc⟩ := hT.info
  obtain ⟨v', w', hr, h2, h3, h4, h5⟩ := run_append_own_at (P := P) w 0 t ty e i z sz bytes hT.under hi hz hs hb hzc hT.pos v m xs hrow.1 ⟨b, o, none⟩ k c news hl
    (fun j u hu => by rw [Addr.add_mid]; exact hnews j u hu) h1 h63 hby (Nat.zero_le _)
  refine ⟨v', w', fun _ _ _ _ => ?_, ⟨h2, ?_⟩, (Kept.refl F w).grown h3 (fun g hg _ => hrow.2 g hg), h4, h5⟩
  · simp [execOp, resolve, invoke, builtin, hx, hy, hr]
  · intro g hg
    rcases h5 with h5 | h5
    · exact .inl (hrow.2 g (by rw [← h5]; exact hg))
    · right
      have : g = w.heap.size := by rw [h5] at hg; exact (Option.some.inj hg).symm
      subst this
      exact ⟨Nat.le_refl _, (h2.lt _ hg).2⟩
/-- append(s, nil...): nothing. -/
theorem appendNil {t e : TypeId} {sz bytes : Nat} {x y : Operand} {v : Value} {m : Nat} {xs : List Value} {F : Nat → Prop} (hT : ElemT P t e sz bytes) (hx : ev σ x = v) (hrow : Row w e sz v m xs F) (hy : ev σ y = .slice none 0 0) :
    Run P σ w (.call { callee := .builtin .append, args := #[x, y], argTypes := #[t, t] }) ty v w := fun _ _ _ _ => by
  obtain ⟨i, z, hi, hz, hs, hb, hzc⟩ := hT.info
  have hr := run_append_owned_none (P := P) w 0 t ty e i sz hT.under hi v m xs hrow.1
  simp [execOp, resolve, invoke, builtin, hx, hy, hr]
/-- []T{x} -/
theorem slice1 {t e : TypeId} {sz : Nat} {x : Operand} {v : Value} (hT : SliceT P t e sz) (hz : ∃ zs, ZeroT P e zs ∧ zs.length = sz) (hsz : Nat.blt 0 sz = true) (hsm : Nat.ble sz 16777216 = true) (hx : ev σ x = v) (hv : v.cells.size = sz) :
    Run P σ w (.buildSlice t 1 #[(0, x)]) ty (.slice (some ⟨w.heap.size, 0, none⟩) 1 1) (w.alloc (blk v.cells.toList e)) := fun _ _ _ _ => by
  obtain ⟨hu, hs⟩ := hT
  obtain ⟨zs, hz, hzl⟩ := hz
  obtain ⟨z, hzr, hc⟩ := run_zero (w := w) hz
  have hpos : 0 < sz := by simpa [Nat.blt_eq] using hsz
  have hsm' : ¬ (16777216 < sz) := by have := Nat.le_of_ble_eq_true hsm; omega
  have hne : sz ≠ 0 := by omega
  have hf : ∀ l : List Value, l.length = sz → Instr.fill (fun i => some (i * sz, sz)) l.toArray [(0, v)] = some v.cells := by
    intro l hl
    rw [fill_cons (place := fun i => some (i * sz, sz)) (off := 0 * sz) rfl hv (by omega)]
    have := splice_all v.cells.toList l [] (by simpa [hl] using hv)
    simp only [List.nil_append, List.length_nil] at this
    simp [Instr.fill, this]
  have hf' := hf ((List.range sz).map (fun j => zs.toArray[j % zs.toArray.size]!)) (by simp)
  simp only [execOp, Instr.buildSlice, Sem.run_bind, run_underlying hu, Result.andThen_ok, run_sizeOf' hs, Nat.one_mul]
  rw [if_neg (by simpa using hsm'), if_neg hne]
  simp only [Sem.run_bind, hzr, Result.andThen_ok, Sem.run_pure, hc]
  have he : (Array.range sz).map (fun x => zs.toArray[x % zs.toArray.size]!) = ((List.range sz).map (fun j => zs.toArray[j % zs.toArray.size]!)).toArray := by
    apply Array.ext'
    simp
  simp only [List.map_toArray, List.map_cons, List.map_nil, hx, he, hf', newRow, Sem.run_bind, run_newObj_alloc, Result.andThen_ok, Sem.run_pure]
end R
end lists

/-! ### Regions that draw their order -/
section orders
variable {P : Program} {ops : Array Oper} {Q : Exit → Act → World → Prop} {S : World → Prop} {need : Nat → Bool}

/-- Whatever order is picked from here on; S holds behind every operation behind which it is needed. -/
def wpAnyN (P : Program) (ops : Array Oper) (Q : Exit → Act → World → Prop) (S : World → Prop) (need : Nat → Bool) : Nat → Array Bool → Act → World → Prop
  | 0, listed, a, w => Region.ready .any ops listed = [] ∧ Q .normal a w
  | fuel + 1, listed, a, w =>
    (Region.ready .any ops listed = [] → Q .normal a w) ∧
    ∀ i ∈ Region.ready .any ops listed, wpOp P ops Q i (fun a' w' => (need i = true → S w') ∧ wpAnyN P ops Q S need fuel (listed.setIfInBounds i true) a' w') a w

theorem wpAny_of_N : ∀ (fuel : Nat) (listed : Array Bool) (a : Act) (w : World), wpAnyN P ops Q S need fuel listed a w → wpAny P .any ops Q fuel listed a w
  | 0, _, _, _, h => h
  | fuel + 1, _, _, _, h => ⟨h.1, fun i hi => wpOp_mono (fun a' w' h' => wpAny_of_N fuel _ a' w' h'.2) (h.2 i hi)⟩

/-- Number j waits for number i, at once or through others. -/
def dependsOn (ops : Array Oper) : Nat → Nat → Nat → Bool
  | 0, _, _ => false
  | f + 1, j, i => match ops[j]? with
    | some oj => oj.after.any (fun e => Region.binds .any e && e.on == i) || oj.after.any (fun e => Region.binds .any e && dependsOn ops f e.on i)
    | none => false

/-- Those behind which S is not needed wait for number i. -/
def waitsFor (ops : Array Oper) (need : Nat → Bool) (i : Nat) : Bool :=
  (List.range ops.size).all fun j => j == i || need j || dependsOn ops 5 j i

/-- Whatever has come up, that for which it waits has come up too. -/
def closedL (ops : Array Oper) (listed : Array Bool) : Bool :=
  (List.range ops.size).all fun j => !listed.getD j false || match ops[j]? with
    | some oj => oj.after.all fun e => !Region.binds .any e || listed.getD e.on false
    | none => true

theorem closedL_spec {listed : Array Bool} (h : closedL ops listed = true) {j : Nat} {oj : Oper} (hj : ops[j]? = some oj) (hl : listed.getD j false = true) : ∀ e ∈ oj.after, Region.binds .any e = true → listed.getD e.on false = true := by
  simp only [closedL, List.all_eq_true, List.mem_range] at h
  have h1 := h j (Array.getElem?_eq_some_iff.1 hj).1
  simp only [hj, hl, Bool.not_true, Bool.false_or] at h1
  intro e he hb
  have h2 := Array.all_eq_true_iff_forall_mem.1 h1 e he
  simpa [hb] using h2

theorem closedL_set {listed : Array Bool} (h : closedL ops listed = true) {j : Nat} (hj : j ∈ Region.ready .any ops listed) : closedL ops (listed.setIfInBounds j true) = true := by
  have hmono : ∀ k, listed.getD k false = true → (listed.setIfInBounds j true).getD k false = true := fun k hk => by
    by_cases e : j = k
    · subst e; exact getD_set_true hk
    · rw [getD_set_ne false e]; exact hk
  simp only [closedL, List.all_eq_true, List.mem_range]
  intro k hk
  obtain ⟨_, oj, hoj, hall⟩ := mem_ready.1 hj
  cases hok : ops[k]? with
  | none => simp
  | some ok =>
    simp only [Bool.or_eq_true]
    by_cases hl : (listed.setIfInBounds j true).getD k false = true
    · right
      refine Array.all_eq_true_iff_forall_mem.2 fun e he => ?_
      cases hb : Region.binds .any e with
      | false => rfl
      | true =>
        simp only [Bool.not_true, Bool.false_or]
        by_cases hkj : j = k
        · subst hkj
          rw [hoj] at hok
          cases hok
          exact hmono _ (hall e he hb)
        · rw [getD_set_ne false hkj] at hl
          exact hmono _ (closedL_spec h hok hl e he hb)
    · left
      simpa using hl

theorem dependsOn_spec {listed : Array Bool} (h : closedL ops listed = true) {i : Nat} : ∀ f j oj, ops[j]? = some oj → (∀ e ∈ oj.after, Region.binds .any e = true → listed.getD e.on false = true) → dependsOn ops f j i = true → listed.getD i false = true
  | 0, _, _, _, _, hd => by simp [dependsOn] at hd
  | f + 1, j, oj, hj, hall, hd => by
    simp only [dependsOn, hj, Bool.or_eq_true] at hd
    rcases hd with hd | hd
    · obtain ⟨e, he, hb⟩ := Array.any_eq_true'.1 hd
      simp only [Bool.and_eq_true, beq_iff_eq] at hb
      rw [← hb.2]
      exact hall e he hb.1
    · obtain ⟨e, he, hb⟩ := Array.any_eq_true'.1 hd
      simp only [Bool.and_eq_true] at hb
      have hl := hall e he hb.1
      cases hoe : ops[e.on]? with
      | none =>
        cases f with
        | zero => simp [dependsOn] at hb
        | succ f => simp [dependsOn, hoe] at hb
      | some oe => exact dependsOn_spec h f e.on oe hoe (closedL_spec h hoe hl) hb.2

theorem wpAnyN_first {i : Nat} {oi : Oper} {v : Value} (hi : ops[i]? = some oi) (hsel : ∀ (j : Nat) (o : Oper) cs b, ops[j]? = some o → o.op ≠ .select cs b)
    (hw : waitsFor ops need i = true) (hQ : ∀ c a w, Q (.panic c) (a.put oi.dst v) w → Q (.panic c) a w) :
    ∀ (fuel : Nat) (listed : Array Bool) (a : Act) (w : World),
      (∀ j oj, ops[j]? = some oj → j ≠ i → listed.getD j true = false → (∀ e ∈ oj.after, Region.binds .any e = true → e.on ≠ i) → oi.apart ops oj = true) →
      closedL ops listed = true → i ∈ Region.ready .any ops listed → YieldsIf P ops S oi v a → S w →
      wpAnyN P ops Q S need fuel (listed.setIfInBounds i true) (a.put oi.dst v) w → wpAnyN P ops Q S need (fuel + 1) listed a w := by
  intro fuel
  induction fuel with
  | zero =>
    intro listed a w _ _ hr hy hS H
    refine ⟨fun h => (by rw [h] at hr; cases hr), fun j hj => ?_⟩
    by_cases hji : j = i
    · subst hji; exact hy.wpOp hi hS ⟨fun _ => hS, H⟩
    · have := ready_mono hj hji
      rw [H.1] at this
      cases this
  | succ fuel ih =>
    intro listed a w hfree hcl hr hy hS H
    refine ⟨fun h => (by rw [h] at hr; cases hr), fun j hj => ?_⟩
    by_cases hji : j = i
    · subst hji; exact hy.wpOp hi hS ⟨fun _ => hS, H⟩
    · have h1 := H.2 j (ready_mono hj hji)
      obtain ⟨hjun, oj, hoj, hall⟩ := mem_ready.1 hj
      have hun : listed.getD i true = false := (mem_ready.1 hr).1
      have hnot : ∀ e ∈ oj.after, Region.binds .any e = true → e.on ≠ i := fun e he hb heq => by
        have h1 := hall e he hb
        rw [heq] at h1
        rcases Nat.lt_or_ge i listed.size with h' | h'
        · simp [h'] at hun h1; rw [hun] at h1; cases h1
        · simp [Array.getElem?_eq_none h'] at h1
      have hnj : need j = true := by
        cases hn : need j with
        | true => rfl
        | false =>
          simp only [waitsFor, List.all_eq_true, List.mem_range] at hw
          have h1 := hw j (Array.getElem?_eq_some_iff.1 hoj).1
          simp only [Bool.or_eq_true, beq_iff_eq, hji, hn, false_or, Bool.false_eq_true] at h1
          have hl := dependsOn_spec hcl _ j oj hoj hall h1
          rcases Nat.lt_or_ge i listed.size with h' | h'
          · simp [h'] at hun hl; rw [hun] at hl; cases hl
          · simp [Array.getElem?_eq_none h'] at hl
      have h2 := wpOp_putIf hoj (hfree j oj hoj hji hjun hnot) (fun cs b => hsel i oi cs b hi) (fun cs b => hsel j oj cs b hoj) hQ hy h1
      have hfree' : ∀ k ok, ops[k]? = some ok → k ≠ i → (listed.setIfInBounds j true).getD k true = false →
          (∀ e ∈ ok.after, Region.binds .any e = true → e.on ≠ i) → oi.apart ops ok = true := fun k ok hk hki hun hno => by
        refine hfree k ok hk hki ?_ hno
        by_cases hjk : j = k
        · subst hjk; exact hjun
        · rw [getD_set_ne true hjk] at hun; exact hun
      refine wpOp_mono (fun a' w' h3 => ⟨fun _ => h3.2.1 hnj, ih (listed.setIfInBounds j true) a' w' hfree' (closedL_set hcl hj) (ready_mono hr (Ne.symm hji)) h3.1 (h3.2.1 hnj) ?_⟩) h2
      rw [Array.setIfInBounds_comm _ _ hji]
      exact h3.2.2

theorem wpAnyN_done {listed : Array Bool} {a : Act} {w : World} (hr : Region.ready .any ops listed = []) (h : Q .normal a w) :
    ∀ fuel, wpAnyN P ops Q S need fuel listed a w
  | 0 => ⟨hr, h⟩
  | _ + 1 => ⟨fun _ => h, by rw [hr]; simp⟩
end orders

def AH (P : Program) (n : Nat) (ds : List Deferred) (ops : Array Oper) (Q : Post) (S : World → Prop) (need : Nat → Bool) (fuel : Nat) (listed : Array Bool) (σ : Env) (w : World) : Prop :=
  ∀ a, Fr a σ n ds → wpAnyN P ops (lift n ds Q) S need fuel listed a w

/-- One operation that comes up. -/
def AO (P : Program) (n : Nat) (ds : List Deferred) (ops : Array Oper) (Q : Post) (i : Nat) (K : Env → World → Prop) (σ : Env) (w : World) : Prop :=
  ∀ a, Fr a σ n ds → wpOp P ops (lift n ds Q) i (fun a' w' => ∃ σ', Fr a' σ' n ds ∧ K σ' w') a w

/-- The guard says yes, or there is none. -/
def Wants (ops : Array Oper) (n : Nat) (σ : Env) : Option (Nat × Bool) → Prop
  | none => True
  | some (j, b) => ∃ g, (ops[j]?).bind (·.dst) = some g ∧ Nat.blt g n = true ∧ σ g = .bool b
/-- The guard says no. -/
def Shuns (ops : Array Oper) (n : Nat) (σ : Env) : Option (Nat × Bool) → Prop
  | none => False
  | some (j, b) => ∃ g, (ops[j]?).bind (·.dst) = some g ∧ Nat.blt g n = true ∧ (σ g = .bool (!b) ∨ σ g = undef)

section draws
variable {P : Program} {n : Nat} {ds : List Deferred} {Q : Post} {σ : Env} {w : World} {ops : Array Oper} {op : Op} {ty : TypeId} {pos : String} {after : Array Edge} {gd : Option (Nat × Bool)} {d i fuel : Nat} {S : World → Prop} {need : Nat → Bool} {listed : Array Bool} {K : Env → World → Prop}

theorem Wants.wanted {a : Act} (ha : Fr a σ n ds) (h : Wants ops n σ gd) {dst : Option Tmp} : Region.wanted ⟨dst, op, ty, pos, after, gd⟩ (yielded ops a.tmps) = true := by
  cases gd with
  | none => rfl
  | some jb =>
    obtain ⟨j, b⟩ := jb
    obtain ⟨g, hj, hg, hv⟩ := h
    have hs := ha.slot (t := g) (by simpa [Nat.blt_eq] using hg)
    simp [Region.wanted, yielded, hj, hs, hv]
theorem Shuns.wanted {a : Act} (ha : Fr a σ n ds) (h : Shuns ops n σ gd) {dst : Option Tmp} : Region.wanted ⟨dst, op, ty, pos, after, gd⟩ (yielded ops a.tmps) = false := by
  cases gd with
  | none => exact h.elim
  | some jb =>
    obtain ⟨j, b⟩ := jb
    obtain ⟨g, hj, hg, hv⟩ := h
    have hs := ha.slot (t := g) (by simpa [Nat.blt_eq] using hg)
    simp only [Region.wanted, yielded, hj, Option.bind_some, hs]
    rcases hv with hv | hv <;> rw [hv] <;> simp [undef]

theorem C.draw {id : Nat} {l : List Oper} (S : World → Prop) (need : Nat → Bool) (hm : P.follows .mixedOrders = true) (h : AH P n ds l.toArray Q S need l.length (Array.replicate l.length false) σ w.drew) :
    C P n ds (.region id l.toArray true) Q σ w := fun a ha => by
  refine wp_region_any hm (wpAny_of_N (S := S) (need := need) _ _ _ _ ?_)
  have := h a ha
  simpa using this

/-- Take an operation first that yields the same in every world that meets S. -/
theorem AH.take (i : Nat) {v : Value} (hi : ops[i]? = some ⟨some d, op, ty, pos, after, gd⟩) (hs : Region.noSelect ops = true) (hw : (waitsFor ops need i && closedL ops listed) = true) (hf : Region.free .any ops listed i = true) (hr : (Region.ready .any ops listed).contains i = true)
    (hnp : ∀ c σ w, ¬ Q (.panic c) σ w) (hd : Nat.blt d n = true) (hg : Wants ops n σ gd) (hy : ∀ w, S w → Run P σ w op ty v w) (hS : S w)
    (h : AH P n ds ops Q S need fuel (listed.setIfInBounds i true) (upd σ d v) w) : AH P n ds ops Q S need (fuel + 1) listed σ w := fun a ha => by
  refine wpAnyN_first (i := i) (v := v) hi (Region.noSelect_spec hs) (Bool.and_eq_true_iff.1 hw).1 ?_ fuel listed a w (Region.free_spec hi hf) (Bool.and_eq_true_iff.1 hw).2 (by simpa using hr) (.inl ⟨hg.wanted ha, fun w' hw' => ?_⟩) hS (h _ (ha.put (by simpa [Nat.blt_eq] using hd) v))
  · rintro c a' w' ⟨σ', _, hq⟩
    exact absurd hq (hnp c σ' w')
  · rw [ha.eval]; exact hy w' hw' _ _ _ _
/-- .. whose guard says no. -/
theorem AH.pass (i : Nat) (hi : ops[i]? = some ⟨some d, op, ty, pos, after, gd⟩) (hs : Region.noSelect ops = true) (hw : (waitsFor ops need i && closedL ops listed) = true) (hf : Region.free .any ops listed i = true) (hr : (Region.ready .any ops listed).contains i = true)
    (hnp : ∀ c σ w, ¬ Q (.panic c) σ w) (hd : Nat.blt d n = true) (hg : Shuns ops n σ gd) (hS : S w)
    (h : AH P n ds ops Q S need fuel (listed.setIfInBounds i true) (upd σ d undef) w) : AH P n ds ops Q S need (fuel + 1) listed σ w := fun a ha => by
  refine wpAnyN_first (i := i) (v := undef) hi (Region.noSelect_spec hs) (Bool.and_eq_true_iff.1 hw).1 ?_ fuel listed a w (Region.free_spec hi hf) (Bool.and_eq_true_iff.1 hw).2 (by simpa using hr) (.inr ⟨hg.wanted ha, rfl⟩) hS (h _ (ha.put (by simpa [Nat.blt_eq] using hd) undef))
  rintro c a' w' ⟨σ', _, hq⟩
  exact absurd hq (hnp c σ' w')
theorem AH.done (hr : Region.ready .any ops listed = []) (h : Q .normal σ w) : AH P n ds ops Q S need fuel listed σ w := fun _ ha => wpAnyN_done hr ⟨σ, ha, h⟩ fuel
/-- Whichever may come up. -/
theorem AH.all {rs : List Nat} (hr : Region.ready .any ops listed = rs) (hne : rs ≠ [])
    (h : ∀ i ∈ rs, AO P n ds ops Q i (fun σ' w' => (need i = true → S w') ∧ AH P n ds ops Q S need fuel (listed.setIfInBounds i true) σ' w') σ w) : AH P n ds ops Q S need (fuel + 1) listed σ w := fun a ha =>
  ⟨fun h0 => absurd (hr ▸ h0) hne, fun i hi => wpOp_mono (fun a' _ ⟨_, hf, hS, hA⟩ => ⟨hS, hA a' hf⟩) (h i (hr ▸ hi) a ha)⟩
theorem AH.one (i : Nat) (hr : Region.ready .any ops listed = [i])
    (h : AO P n ds ops Q i (fun σ' w' => (need i = true → S w') ∧ AH P n ds ops Q S need fuel (listed.setIfInBounds i true) σ' w') σ w) : AH P n ds ops Q S need (fuel + 1) listed σ w :=
  AH.all hr (by simp) (by simpa using h)

theorem AO.step {v : Value} {w' : World} (hi : ops[i]? = some ⟨some d, op, ty, pos, after, gd⟩) (hg : Wants ops n σ gd) (hr : Run P σ w op ty v w') (hd : Nat.blt d n = true) (k : K (upd σ d v) w') : AO P n ds ops Q i K σ w := fun a ha => by
  unfold wpOp
  simp only [hi, hg.wanted ha, if_true]
  refine .inl ?_
  unfold Oper.wp
  rw [ha.eval, hr]
  exact ⟨_, ha.put (by simpa [Nat.blt_eq] using hd) v, k⟩
theorem AO.does {w' : World} (hi : ops[i]? = some ⟨none, op, ty, pos, after, gd⟩) (hg : Wants ops n σ gd) (hr : Does P σ w op ty w') (k : K σ w') : AO P n ds ops Q i K σ w := fun a ha => by
  unfold wpOp
  simp only [hi, hg.wanted ha, if_true]
  refine .inl ?_
  unfold Oper.wp
  rw [ha.eval, hr]
  exact ⟨_, ha, k⟩
theorem AO.bind {Φ : Value → World → Prop} (hi : ops[i]? = some ⟨some d, op, ty, pos, after, gd⟩) (hg : Wants ops n σ gd) (h : ∃ v w', Run P σ w op ty v w' ∧ Φ v w') (hd : Nat.blt d n = true) (k : ∀ v w', Φ v w' → K (upd σ d v) w') : AO P n ds ops Q i K σ w := by
  obtain ⟨v, w', hr, hΦ⟩ := h
  exact AO.step hi hg hr hd (k v w' hΦ)
theorem AO.call {f : FuncId} {args : Array Value} {R : Value → World → Prop} (hi : ops[i]? = some ⟨some d, op, ty, pos, after, gd⟩) (hg : Wants ops n σ gd) (he : Enters P σ w op ty f args) (hd : Nat.blt d n = true) (hc : Ret P f args w R)
    (k : ∀ v w', R v w' → K (upd σ d v) w') : AO P n ds ops Q i K σ w := fun a ha => by
  unfold wpOp
  simp only [hi, hg.wanted ha, if_true]
  refine .inl ?_
  unfold Oper.wp
  rw [ha.eval, he]
  refine Calls.mono hc ?_
  rintro e w' ⟨v, rfl, hR⟩
  exact ⟨_, ha.put (by simpa [Nat.blt_eq] using hd) v, k v w' hR⟩
end draws

end Go.Eng
