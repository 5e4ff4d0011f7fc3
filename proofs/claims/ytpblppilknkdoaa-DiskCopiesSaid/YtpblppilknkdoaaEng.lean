/- A small engine for walks: the frame is a function from slots to values, a step is one law by the kind of the operation. No program in sight. -/
import Derived.WalkKit
import Derived.OrdersHeld
namespace Go.Eng

/-- What the slots hold. -/
abbrev Env := Nat → Value

/-- One slot written. -/
def upd (σ : Env) (d : Nat) (v : Value) : Env := fun t => cond (Nat.beq t d) v (σ t)

theorem beq_no {t d : Nat} (h : t ≠ d) : Nat.beq t d = false := Bool.eq_false_iff.2 fun e => h (Nat.eq_of_beq_eq_true e)
theorem beq_yes (t : Nat) : Nat.beq t t = true := Nat.beq_refl t
theorem upd_same (σ : Env) (d : Nat) (v : Value) : upd σ d v d = v := by simp only [upd, beq_yes, cond]
theorem upd_other (σ : Env) {d t : Nat} (v : Value) (h : t ≠ d) : upd σ d v t = σ t := by simp only [upd, beq_no h, cond]

/-- Several slots written, the first last. -/
def upds : List (Nat × Value) → Env → Env
  | [], σ => σ
  | (d, v) :: r, σ => upd (upds r σ) d v

/-- These slots hold these values. -/
def holds : List (Nat × Value) → Env → Prop
  | [], _ => True
  | (d, v) :: r, σ => σ d = v ∧ holds r σ

theorem upds_self : ∀ (l : List (Nat × Value)) (σ : Env), holds l σ → upds l σ = σ
  | [], _, _ => rfl
  | (d, v) :: r, σ, ⟨h, hr⟩ => by
    funext t
    simp only [upds, upds_self r σ hr]
    by_cases e : t = d
    · subst e; rw [upd_same, h]
    · rw [upd_other _ _ e]

/-- What the arguments make of a new frame. -/
def initEnv (args : List Value) : Env := fun t => args.getD t undef

/-- An operand's value. -/
def ev (σ : Env) : Operand → Value
  | .tmp t => σ t
  | .const v => v
  | .global g => .pointer (some ⟨g, 0, none⟩)
  | .func f => .func (.func f) #[] #[]

/-- The frame's slots are what the function says. -/
structure Fr (a : Act) (σ : Env) (n : Nat) (ds : List Deferred) : Prop where
  size : a.tmps.size = n
  get : ∀ t, a.tmps.getD t undef = σ t
  defers : a.defers = ds

section frames
variable {a : Act} {σ : Env} {n : Nat} {ds : List Deferred}

theorem Fr.eval (h : Fr a σ n ds) : a.eval = ev σ := by
  funext x
  cases x with
  | tmp t => exact h.get t
  | _ => rfl

theorem Fr.put (h : Fr a σ n ds) {d : Nat} (hd : d < n) (v : Value) : Fr (a.put (some d) v) (upd σ d v) n ds := by
  refine ⟨by simp [Act.put, h.size], fun t => ?_, h.defers⟩
  have hg := h.get t
  by_cases e : t = d
  · subst e
    have : t < a.tmps.size := by rw [h.size]; exact hd
    rw [upd_same]
    simp [Act.put, this]
  · have e' : d ≠ t := fun x => e x.symm
    rw [upd_other σ v e, ← hg]
    simp [Act.put, Array.getElem?_setIfInBounds_ne e']

theorem Fr.slot (h : Fr a σ n ds) {t : Nat} (ht : t < n) : a.tmps[t]? = some (σ t) := by
  have : t < a.tmps.size := by rw [h.size]; exact ht
  have hg := h.get t
  simp [this] at hg ⊢
  exact hg

theorem Fr.init (args : List Value) (n : Nat) (h : args.length ≤ n) :
    Fr { tmps := args.toArray ++ Array.replicate (n - args.toArray.size) undef, defers := [] } (initEnv args) n [] := by
  refine ⟨by simp; omega, fun t => ?_, rfl⟩
  simp only [initEnv]
  rcases Nat.lt_or_ge t args.length with ht | ht
  · simp [Array.getElem?_append, ht, List.getD]
  · have hn : ¬ t < args.length := by omega
    have e1 : args.getD t undef = undef := by simp [List.getD, List.getElem?_eq_none ht]
    rw [e1]
    simp only [Array.getD_eq_getD_getElem?, Array.getElem?_append, List.size_toArray, if_neg hn]
    rcases Nat.lt_or_ge (t - args.length) (n - args.length) with h2 | h2
    · simp [h2]
    · simp [Nat.not_lt.2 h2]
end frames

/-! ### Posts -/
abbrev Post := Exit → Env → World → Prop

def lift (n : Nat) (ds : List Deferred) (Q : Post) : Exit → Act → World → Prop := fun e a w => ∃ σ, Fr a σ n ds ∧ Q e σ w

/-- The rest behind a piece of code. -/
def thenP (k : Env → World → Prop) (Q : Post) : Post
  | .normal, σ, w => k σ w
  | e, σ, w => Q e σ w

def blockP (id : Nat) (Q : Post) : Post
  | .exit id', σ, w => cond (Nat.beq id' id) (Q .normal σ w) (Q (.exit id') σ w)
  | e, σ, w => Q e σ w

/-- A piece of code, from these slots and this world, comes to Q. -/
def C (P : Program) (n : Nat) (ds : List Deferred) (c : Code) (Q : Post) (σ : Env) (w : World) : Prop :=
  ∀ a, Fr a σ n ds → c.wp P (lift n ds Q) a w

/-- A list of operations. -/
def L (P : Program) (n : Nat) (ds : List Deferred) (ops : Array Oper) (Q : Post) (l : List Oper) (σ : Env) (w : World) : Prop :=
  ∀ a, Fr a σ n ds → wpList P ops (lift n ds Q) l a w

/-- A call returns, and what it returns and the world behind it meet R. -/
def Ret (P : Program) (f : FuncId) (args : Array Value) (w : World) (R : Value → World → Prop) : Prop :=
  Calls P f args w fun e w' => ∃ v, e = .returned v ∧ R v w'

section rules
variable {P : Program} {n : Nat} {ds : List Deferred} {Q : Post} {σ : Env} {w : World}

theorem C.mono {c : Code} {Q' : Post} (h : C P n ds c Q σ w) (hq : ∀ e σ w, Q e σ w → Q' e σ w) : C P n ds c Q' σ w :=
  fun a ha => wp_mono (h a ha) fun e _ w ⟨σ', hf, hQ⟩ => ⟨σ', hf, hq e σ' w hQ⟩

theorem C.skip (h : Q .normal σ w) : C P n ds .skip Q σ w := fun _ ha => wp_skip ⟨σ, ha, h⟩
theorem C.ret (h : Q .ret σ w) : C P n ds .ret Q σ w := fun _ ha => wp_ret ⟨σ, ha, h⟩
theorem C.exit {id : Nat} (h : Q (.exit id) σ w) : C P n ds (.exit id) Q σ w := fun _ ha => wp_exit ⟨σ, ha, h⟩

theorem C.seq {x y : Code} (h : C P n ds x (thenP (C P n ds y Q) Q) σ w) : C P n ds (.seq x y) Q σ w := fun a ha => by
  refine wp_seq (wp_mono (h a ha) ?_)
  rintro e a' w' ⟨σ', hf, hq⟩
  cases e with
  | normal => exact hq a' hf
  | _ => exact ⟨σ', hf, hq⟩

theorem C.block {id : Nat} {c : Code} (h : C P n ds c (blockP id Q) σ w) : C P n ds (.block id c) Q σ w := fun a ha => by
  refine wp_block (wp_mono (h a ha) ?_)
  rintro e a' w' ⟨σ', hf, hq⟩
  cases e with
  | exit id' =>
    simp only [blockP] at hq
    simp only [Exit.inBlock]
    by_cases e : id' = id
    · subst e; rw [beq_yes] at hq; simpa using ⟨σ', hf, hq⟩
    · rw [beq_no e] at hq
      rw [if_neg e]
      exact ⟨σ', hf, hq⟩
  | _ => exact ⟨σ', hf, hq⟩

theorem C.condT {x : Operand} {c d : Code} (hx : ev σ x = .bool true) (h : C P n ds c Q σ w) : C P n ds (.cond x c d) Q σ w :=
  fun a ha => wp_cond_true (by rw [ha.eval]; exact hx) (h a ha)
theorem C.condF {x : Operand} {c d : Code} (hx : ev σ x = .bool false) (h : C P n ds d Q σ w) : C P n ds (.cond x c d) Q σ w :=
  fun a ha => wp_cond_false (by rw [ha.eval]; exact hx) (h a ha)
theorem C.cond {x : Operand} {c d : Code} {b : Bool} (hx : ev σ x = .bool b) (ht : b = true → C P n ds c Q σ w) (hf : b = false → C P n ds d Q σ w) :
    C P n ds (.cond x c d) Q σ w := by
  cases b with
  | true => exact C.condT hx (ht rfl)
  | false => exact C.condF hx (hf rfl)

/-- A loop: the slots that the rounds look at hold 'sl x', the world meets 'I x'; 'μ x' goes down. -/
theorem C.loop {c : Code} {α : Type} (sl : α → List (Nat × Value)) (I : α → World → Prop) (μ : α → Nat)
    (h0 : ∃ x, holds (sl x) σ ∧ I x w)
    (round : ∀ x g w, I x w → C P n ds c (thenP (fun σ' w' => ∃ x', holds (sl x') σ' ∧ I x' w' ∧ μ x' < μ x) Q) (upds (sl x) g) w) :
    C P n ds (.loop c) Q σ w := fun a ha => by
  obtain ⟨x0, hs0, hi0⟩ := h0
  -- the measure of a frame: the least of the measures of what it may be
  have key : ∀ m x a w, μ x = m → (∃ g, Fr a (upds (sl x) g) n ds) → I x w →
      ∀ (b : Frame) (k : List Item) (cs : List Frame), ∃ e a' w', lift n ds Q e a' w' ∧ Arrives P (lone (b.at a (.code c :: .inLoop c :: k)) cs w) b k cs e a' w' := by
    intro m
    induction m using Nat.strongRecOn with
    | _ m ih =>
      intro x a w hm ⟨g, hf⟩ hi b k cs
      obtain ⟨e, a₁, w₁, hq, harr⟩ := round x g w hi a hf b (.inLoop c :: k) cs
      obtain ⟨σ₁, hf₁, hq⟩ := hq
      cases e with
      | normal =>
        obtain ⟨x', hs', hi', hlt⟩ := hq
        obtain ⟨e₂, a₂, w₂, hq₂, harr₂⟩ := ih (μ x') (hm ▸ hlt) x' a₁ w₁ rfl ⟨σ₁, by rw [upds_self _ _ hs']; exact hf₁⟩ hi' b k cs
        exact ⟨e₂, a₂, w₂, hq₂, .of_steps (Steps.trans harr (.one step_inLoop)) harr₂⟩
      | exit id => exact ⟨_, a₁, w₁, ⟨σ₁, hf₁, hq⟩, .pass (x := .inLoop c) rfl (fun _ _ => .inl (by simp)) harr⟩
      | goto l => exact ⟨_, a₁, w₁, ⟨σ₁, hf₁, hq⟩, .pass (x := .inLoop c) rfl (fun _ _ => .inl (by simp)) harr⟩
      | ret => exact ⟨_, a₁, w₁, ⟨σ₁, hf₁, hq⟩, .pass (x := .inLoop c) rfl (fun _ _ => .inl (by simp)) harr⟩
      | panic ch => exact ⟨_, a₁, w₁, ⟨σ₁, hf₁, hq⟩, .pass (x := .inLoop c) rfl (fun _ _ => .inl (by simp)) harr⟩
      | outgrown => exact ⟨_, a₁, w₁, ⟨σ₁, hf₁, hq⟩, .pass (x := .inLoop c) rfl (fun _ _ => .inl (by simp)) harr⟩
  intro b k cs
  obtain ⟨e, a', w', hq, harr⟩ := key _ x0 a w rfl ⟨σ, by rw [upds_self _ _ hs0]; exact ha⟩ hi0 b k cs
  exact ⟨e, a', w', hq, .of_steps (.one step_loop) harr⟩

/-- A cut: behind a piece of code only this is remembered: what some slots hold, and what is known of the world. -/
theorem C.cut {c d : Code} {α : Type} (sl : α → List (Nat × Value)) (I : α → World → Prop)
    (h : C P n ds c (thenP (fun σ' w' => ∃ x, holds (sl x) σ' ∧ I x w') Q) σ w)
    (k : ∀ x g w, I x w → C P n ds d Q (upds (sl x) g) w) : C P n ds (.seq c d) Q σ w := by
  refine C.seq (C.mono h ?_)
  rintro e σ' w' hq
  cases e with
  | normal =>
    obtain ⟨x, hs, hi⟩ := hq
    have := k x σ' w' hi
    rw [upds_self _ _ hs] at this
    exact this
  | _ => exact hq

theorem C.region {id : Nat} {l : List Oper} (h : L P n ds l.toArray Q l σ w) : C P n ds (.region id l.toArray false) Q σ w :=
  fun a ha => wp_region_lit (h a ha)

theorem L.nil {ops : Array Oper} (h : Q .normal σ w) : L P n ds ops Q [] σ w := fun _ ha => wpList_nil ⟨σ, ha, h⟩

/-- What one operation does: it yields v and leaves the world w'. -/
def Run (P : Program) (σ : Env) (w : World) (op : Op) (ty : TypeId) (v : Value) (w' : World) : Prop :=
  ∀ dst pos after gd, (execOp (ev σ) ⟨dst, op, ty, pos, after, gd⟩).run P w = .ok (.value v) w'

/-- An operation that yields nothing (a store). -/
def Does (P : Program) (σ : Env) (w : World) (op : Op) (ty : TypeId) (w' : World) : Prop :=
  ∀ dst pos after gd, (execOp (ev σ) ⟨dst, op, ty, pos, after, gd⟩).run P w = .ok .skip w'

/-- A call of a function with a body. -/
def Enters (P : Program) (σ : Env) (w : World) (op : Op) (ty : TypeId) (f : FuncId) (args : Array Value) : Prop :=
  ∀ dst pos after gd, (execOp (ev σ) ⟨dst, op, ty, pos, after, gd⟩).run P w = .ok (.enter f args) w

section lists
variable {ops : Array Oper} {op : Op} {ty : TypeId} {pos : String} {after : Array Edge} {rest : List Oper} {d : Nat}

theorem L.step {v : Value} {w' : World} (hr : Run P σ w op ty v w') (hd : Nat.blt d n = true) (k : L P n ds ops Q rest (upd σ d v) w') :
    L P n ds ops Q (⟨some d, op, ty, pos, after, none⟩ :: rest) σ w := fun a ha => by
  refine wpList_plain rfl fun K hK => ?_
  unfold Oper.wp
  rw [ha.eval, hr]
  exact hK _ _ (k _ (ha.put (by simpa [Nat.blt_eq] using hd) v))

theorem L.does {w' : World} (hr : Does P σ w op ty w') (k : L P n ds ops Q rest σ w') :
    L P n ds ops Q (⟨none, op, ty, pos, after, none⟩ :: rest) σ w := fun a ha => by
  refine wpList_plain rfl fun K hK => ?_
  unfold Oper.wp
  rw [ha.eval, hr]
  exact hK _ _ (k a ha)

theorem L.call {f : FuncId} {args : Array Value} {R : Value → World → Prop} (he : Enters P σ w op ty f args) (hd : Nat.blt d n = true) (hc : Ret P f args w R)
    (k : ∀ v w', R v w' → L P n ds ops Q rest (upd σ d v) w') : L P n ds ops Q (⟨some d, op, ty, pos, after, none⟩ :: rest) σ w := fun a ha => by
  refine wpList_plain rfl fun K hK => ?_
  unfold Oper.wp
  rw [ha.eval, he]
  refine Calls.mono hc ?_
  rintro e w' ⟨v, rfl, hR⟩
  exact hK _ _ (k v w' hR _ (ha.put (by simpa [Nat.blt_eq] using hd) v))

/-- A guarded operation whose guard says yes. -/
theorem L.yes {dst : Option Tmp} {j g : Nat} {b : Bool} (hj : (ops[j]?).bind (·.dst) = some g) (hg : Nat.blt g n = true) (hv : σ g = .bool b)
    (k : L P n ds ops Q (⟨dst, op, ty, pos, after, none⟩ :: rest) σ w) : L P n ds ops Q (⟨dst, op, ty, pos, after, some (j, b)⟩ :: rest) σ w := fun a ha => by
  have hs := ha.slot (t := g) (by simpa [Nat.blt_eq] using hg)
  have hy : yielded ops a.tmps j = some b := by simp [yielded, hj, hs, hv]
  have h := k a ha
  unfold wpList at h ⊢
  rw [if_pos (by simp [Region.wanted])] at h
  rw [if_pos (by simp [Region.wanted, hy])]
  exact h

/-- .. says no: by the other Bool, or because nothing was yielded. -/
theorem L.no {j g : Nat} {b : Bool} (hj : (ops[j]?).bind (·.dst) = some g) (hg : Nat.blt g n = true) (hd : Nat.blt d n = true) (hv : σ g = .bool (!b) ∨ σ g = undef)
    (k : L P n ds ops Q rest (upd σ d undef) w) : L P n ds ops Q (⟨some d, op, ty, pos, after, some (j, b)⟩ :: rest) σ w := fun a ha => by
  have hs := ha.slot (t := g) (by simpa [Nat.blt_eq] using hg)
  have hy : yielded ops a.tmps j ≠ some b := by
    simp only [yielded, hj, Option.bind_some, hs]
    rcases hv with hv | hv <;> rw [hv] <;> simp [undef]
  unfold wpList
  rw [if_neg (by simp [Region.wanted, hy])]
  exact k _ (ha.put (by simpa [Nat.blt_eq] using hd) undef)
end lists
end rules
end Go.Eng
