/- The engine, part 6: range over a function: rounds, the loop, the function around it. -/
import Derived.Test.YtpblppilknkdoaaEng5
import Derived.TacticsIn
import Derived.RangeFuncNested
import Derived.RangeFuncLeaves
namespace Go.Eng
open Go Go.RowKit

/-- The widest fence; in a round, where one is named. -/
abbrev FW (ro : Option Nat) : Fence := { Fence.wide with round := ro }

def CI (ro : Option Nat) (m : Nat) (P : Program) (n : Nat) (ds : List Deferred) (c : Code) (Q : Post) (σ : Env) (w : World) : Prop :=
  ∀ a, Fr a σ n ds → c.wpIn (FW ro) m P (lift n ds Q) a w
def LI (ro : Option Nat) (m : Nat) (P : Program) (n : Nat) (ds : List Deferred) (ops : Array Oper) (Q : Post) (l : List Oper) (σ : Env) (w : World) : Prop :=
  ∀ a, Fr a σ n ds → wpListIn (FW ro) m P ops (lift n ds Q) l a w

def noDefer : Op → Bool
  | .defer _ => false
  | _ => true

section rules
variable {ro : Option Nat} {m : Nat} {P : Program} {n : Nat} {ds : List Deferred} {Q : Post} {σ : Env} {w : World}

theorem C.ofIn {c : Code} (h : CI none m P n ds c Q σ w) : C P n ds c Q σ w := fun a ha => wpIn_wide.1 (h a ha)
theorem CI.ofC {c : Code} (h : C P n ds c Q σ w) : CI none m P n ds c Q σ w := fun a ha => wpIn_wide.2 (h a ha)

theorem CI.mono {c : Code} {Q' : Post} (h : CI ro m P n ds c Q σ w) (hq : ∀ e σ w, Q e σ w → Q' e σ w) : CI ro m P n ds c Q' σ w :=
  fun a ha => wpIn_mono (h a ha) fun e _ w ⟨σ', hf, hQ⟩ => ⟨σ', hf, hq e σ' w hQ⟩
theorem CI.skip (h : Q .normal σ w) : CI ro m P n ds .skip Q σ w := fun _ ha => wpIn_skip ⟨σ, ha, h⟩
theorem CI.ret (h : Q .ret σ w) : CI ro m P n ds .ret Q σ w := fun _ ha => wpIn_ret ⟨σ, ha, h⟩
theorem CI.exit {id : Nat} (h : Q (.exit id) σ w) : CI ro m P n ds (.exit id) Q σ w := fun _ ha => wpIn_exit ⟨σ, ha, h⟩
theorem CI.seq {x y : Code} (h : CI ro m P n ds x (thenP (CI ro m P n ds y Q) Q) σ w) : CI ro m P n ds (.seq x y) Q σ w := fun a ha => by
  refine wpIn_seq (wpIn_mono (h a ha) ?_)
  rintro e a' w' ⟨σ', hf, hq⟩
  cases e with
  | normal => exact hq a' hf
  | _ => exact ⟨σ', hf, hq⟩
theorem CI.block {id : Nat} {c : Code} (h : CI ro m P n ds c (blockP id Q) σ w) : CI ro m P n ds (.block id c) Q σ w := fun a ha => by
  refine wpIn_block (wpIn_mono (h a ha) ?_)
  rintro e a' w' ⟨σ', hf, hq⟩
  cases e with
  | exit id' =>
    simp only [blockP] at hq
    simp only [Exit.inBlock]
    by_cases e : id' = id
    · subst e; rw [beq_yes] at hq; simpa using ⟨σ', hf, hq⟩
    · rw [beq_no e] at hq
      rw [if_neg e]
      exact ⟨σ', hf, hq⟩
  | _ => exact ⟨σ', hf, hq⟩
theorem CI.condT {x : Operand} {c d : Code} (hx : ev σ x = .bool true) (h : CI ro m P n ds c Q σ w) : CI ro m P n ds (.cond x c d) Q σ w :=
  fun a ha => wpIn_cond_true (by rw [ha.eval]; exact hx) (h a ha)
theorem CI.condF {x : Operand} {c d : Code} (hx : ev σ x = .bool false) (h : CI ro m P n ds d Q σ w) : CI ro m P n ds (.cond x c d) Q σ w :=
  fun a ha => wpIn_cond_false (by rw [ha.eval]; exact hx) (h a ha)
theorem CI.region {id : Nat} {l : List Oper} (h : LI ro m P n ds l.toArray Q l σ w) : CI ro m P n ds (.region id l.toArray false) Q σ w :=
  fun a ha => wpIn_region_lit (h a ha)
theorem LI.nil {ops : Array Oper} (h : Q .normal σ w) : LI ro m P n ds ops Q [] σ w := fun _ ha => wpListIn_nil ⟨σ, ha, h⟩

theorem semAt_eq {o : Oper} (h : noDefer o.op = true) (ρ : Operand → Value) : Oper.semAt ro ρ o = execOp ρ o :=
  Oper.semAt_eq ro ρ o fun c e => by rw [e] at h; cases h

section lists
variable {ops : Array Oper} {op : Op} {ty : TypeId} {pos : String} {after : Array Edge} {rest : List Oper} {d : Nat}
theorem LI.step {v : Value} {w' : World} (hr : Run P σ w op ty v w') (hd : Nat.blt d n = true) (k : LI ro m P n ds ops Q rest (upd σ d v) w') (ho : noDefer op = true := by rfl) :
    LI ro m P n ds ops Q (⟨some d, op, ty, pos, after, none⟩ :: rest) σ w := fun a ha => by
  refine wpListIn_plain rfl fun K hK => ⟨fun _ _ => trivial, ?_⟩
  rw [semAt_eq (ro := ro) (o := ⟨some d, op, ty, pos, after, none⟩) ho, ha.eval, hr]
  exact hK _ _ (k _ (ha.put (by simpa [Nat.blt_eq] using hd) v))
theorem LI.does {w' : World} (hr : Does P σ w op ty w') (k : LI ro m P n ds ops Q rest σ w') (ho : noDefer op = true := by rfl) :
    LI ro m P n ds ops Q (⟨none, op, ty, pos, after, none⟩ :: rest) σ w := fun a ha => by
  refine wpListIn_plain rfl fun K hK => ⟨fun _ _ => trivial, ?_⟩
  rw [semAt_eq (ro := ro) (o := ⟨none, op, ty, pos, after, none⟩) ho, ha.eval, hr]
  exact hK _ _ (k a ha)
theorem LI.stepE {v : Value} {w' : World} (hr : Run P σ w op ty v w') (hd : Nat.blt d n = true) (k : ∀ w2, w' = w2 → LI ro m P n ds ops Q rest (upd σ d v) w2) (ho : noDefer op = true := by rfl) :
    LI ro m P n ds ops Q (⟨some d, op, ty, pos, after, none⟩ :: rest) σ w := LI.step hr hd (k _ rfl) ho
theorem LI.doesE {w' : World} (hr : Does P σ w op ty w') (k : ∀ w2, w' = w2 → LI ro m P n ds ops Q rest σ w2) (ho : noDefer op = true := by rfl) :
    LI ro m P n ds ops Q (⟨none, op, ty, pos, after, none⟩ :: rest) σ w := LI.does hr (k _ rfl) ho
/-- A call of yield. -/
theorem LI.round {l : Nat} {fn : FuncId} {tmps : Array Value} {assign body : Code} {R : Value → World → Prop}
    (he : ∀ dst pos after gd, (execOp (ev σ) ⟨dst, op, ty, pos, after, gd⟩).run P w = .ok (.round l fn tmps assign body) w) (hd : Nat.blt d n = true)
    (hR : RoundIn (FW ro) (m - 1) P l fn tmps assign body w fun e w' => ∃ v, e = .returned v ∧ R v w')
    (k : ∀ v w', R v w' → LI ro m P n ds ops Q rest (upd σ d v) w') (ho : noDefer op = true := by rfl) : LI ro m P n ds ops Q (⟨some d, op, ty, pos, after, none⟩ :: rest) σ w := fun a ha => by
  refine wpListIn_plain rfl fun K hK => ⟨fun _ _ => trivial, ?_⟩
  rw [semAt_eq (ro := ro) (o := ⟨some d, op, ty, pos, after, none⟩) ho, ha.eval, he]
  refine ⟨fun h => by simp [Fence.wide] at h, hR.mono ?_⟩
  rintro e w' ⟨v, rfl, hR⟩
  exact hK _ _ (k v w' hR _ (ha.put (by simpa [Nat.blt_eq] using hd) v))
end lists

theorem E.yield2 {g x y : Operand} {l : Nat} {ats : Array TypeId} {ty : TypeId} {fn : FuncId} {tmps : Array Value} {assign body : Code} (hg : ev σ g = .func (.yield l) #[] #[])
    (hy : (Instr.yield l #[ev σ x, ev σ y]).run P w = .ok (.round l fn tmps assign body) w) :
    ∀ dst pos after gd, (execOp (ev σ) ⟨dst, .call { callee := .value g, args := #[x, y], argTypes := ats }, ty, pos, after, gd⟩).run P w = .ok (.round l fn tmps assign body) w := fun _ _ _ _ => by
  simp [execOp, resolve, hg, Deferred.ofValue, invoke, hy]

/-! ### Code whose post speaks of the activation -/
def CA (P : Program) (n : Nat) (ds : List Deferred) (c : Code) (QQ : Exit → Act → World → Prop) (σ : Env) (w : World) : Prop :=
  ∀ a, Fr a σ n ds → c.wp P QQ a w

/-- What is asked of an act is asked of each that holds these slots. -/
def actP (n : Nat) (ds : List Deferred) (QQ : Exit → Act → World → Prop) : Post
  | .ret, σ, w => ∀ a, Fr a σ n ds → QQ .ret a w
  | .normal, σ, w => ∀ a, Fr a σ n ds → QQ .normal a w
  | _, _, _ => False

theorem CA.ofC {c : Code} {QQ : Exit → Act → World → Prop} (h : C P n ds c (actP n ds QQ) σ w) : CA P n ds c QQ σ w := fun a ha =>
  wp_mono (h a ha) fun e a' _ ⟨_, hf, hq⟩ => by
    cases e with
    | ret => exact hq a' hf
    | normal => exact hq a' hf
    | _ => exact hq.elim
theorem CA.seq {x y : Code} {QQ : Exit → Act → World → Prop} (h : C P n ds x (thenP (CA P n ds y QQ) (actP n ds QQ)) σ w) : CA P n ds (.seq x y) QQ σ w := fun a ha => by
  refine wp_seq (wp_mono (h a ha) ?_)
  rintro e a' w' ⟨σ', hf, hq⟩
  cases e with
  | normal => exact hq a' hf
  | ret => exact hq a' hf
  | _ => exact hq.elim
theorem CA.seqA {x y : Code} {QQ : Exit → Act → World → Prop} (h : CA P n ds x (Exit.then (fun a w => y.wp P QQ a w) QQ) σ w) : CA P n ds (.seq x y) QQ σ w :=
  fun a ha => wp_seq (h a ha)

/-- The loop over a function's yields: the block around it, the code behind it. -/
theorem CA.range {id : Nat} {QQ : Exit → Act → World → Prop} {g : Operand} {p1 p2 : Nat} {assign body : Code} {gf : Nat} {lb : Array Value} {α : Type} {e1 e2 : α → Value} {S Sp : List α → Prop} {N : Nat}
    (hg : ev σ g = .func (.func gf) #[] lb) (hf : HasBody P gf) (hp1 : Nat.blt p1 n = true) (hp2 : Nat.blt p2 n = true)
    (hseq : SeqStopsK (FW none) 2 P gf lb (fun x => #[e1 x, e2 x]) (Below w.heap.size) S Sp N w)
    (I Ix : List α → World → Prop) (A : α → Env → World → Prop) (hI : OwnFrom w.heap.size I) (hIx : OwnFrom w.heap.size Ix) (hA : ∀ x τ, OwnFrom w.heap.size (fun (_ : Unit) W => A x τ W)) (h0 : I [] w)
    (hassign : ∀ l pre x W, I pre W → CI (some l) 1 P n [] assign (fun e τ W' => e = .normal ∧ KeepsFrom w.heap.size W W' ∧ Below w.heap.size W W' ∧ I pre W' ∧ A x τ W') (upd (upd σ p1 (e1 x)) p2 (e2 x)) W)
    (hbody : ∀ l pre x τ W, I pre W → A x τ W → CI (some l) 1 P n [] body (fun e _ W' => KeepsFrom w.heap.size W W' ∧ (e = .normal ∧ Below w.heap.size W W' ∧ I (pre ++ [x]) W' ∨ e = .ret ∧ Ix (pre ++ [x]) W')) τ W)
    (hdone : ∀ D xs W, w.heap.size ≤ D → S xs → I xs W → W.heap[D]? = some (.deferred (some [])) → ∀ a, Fr a σ n [⟨.collected D, #[]⟩] → QQ .normal a W)
    (hstop : ∀ D pre W, w.heap.size ≤ D → Sp pre → Ix pre W → W.heap[D]? = some (.deferred (some [])) → ∀ a, Fr a σ n [⟨.collected D, #[]⟩] → QQ .ret a W) :
    CA P n [] (.block id (.rangeFunc g #[p1, p2] assign body)) QQ σ w := fun a ha => by
  have e3 : ∀ (D : Nat), Fr { a with defers := { target := .collected D, args := #[] } :: a.defers } σ n [⟨.collected D, #[]⟩] := fun D => ⟨ha.size, ha.get, by simp [ha.defers]⟩
  refine wp_block (wpIn_wide.1 (?_ : (Code.rangeFunc g #[p1, p2] assign body).wpIn (FW none) 3 P _ a w))
  refine wpIn_rangeFunc_ownH (N := N) (S := S) (Sp := Sp) (w0 := w) (Kp := Below w.heap.size) (encs := fun x => #[e1 x, e2 x]) rfl (by decide) (by rw [ha.eval]; exact hg) trivial (fun args w => run_callFunc hf args w)
    hseq belowK_t (belowK_b (Nat.le_refl _)) (Below.refl _ _) (fun _ => rfl) I (fun c pre W => c = .ret ∧ Ix pre W) hI
    (fun c s X Y row hs hg' hr => ⟨hs.1, hIx s X Y row hs.2 hg' hr⟩) h0 (fun x a' W => ∃ τ, Fr a' τ n [] ∧ A x τ W)
    (fun x a' s X Y row hs hg' hr => by obtain ⟨τ, hf, hA'⟩ := hs; exact ⟨τ, hf, hA x τ s X Y row hA' hg' hr⟩) ?_ ?_ ?_ ?_
  · intro l pre x W K hi hK
    have hfr : Fr { tmps := (#[p1, p2].zip #[e1 x, e2 x]).foldl (fun t (p, v) => t.setIfInBounds p v) a.tmps, defers := [] } (upd (upd σ p1 (e1 x)) p2 (e2 x)) n [] := by
      have h1 : Fr { tmps := a.tmps, defers := [] } σ n [] := ⟨ha.size, ha.get, rfl⟩
      have h2 := (h1.put (by simpa [Nat.blt_eq] using hp1) (e1 x)).put (by simpa [Nat.blt_eq] using hp2) (e2 x)
      simpa [Act.put] using h2
    refine wpIn_mono (hassign l pre x W hi _ hfr) ?_
    rintro e a' W' ⟨τ, hf', rfl, h1, h2, h3, h4⟩
    exact hK a' W' h1 h2 h3 ⟨τ, hf', h4⟩
  · intro l pre x a' W _ _ hi hx _
    obtain ⟨τ, hf', hA'⟩ := hx
    refine wpIn_mono (hbody l pre x τ W hi hA' a' hf') ?_
    rintro e a'' W' ⟨τ', _, hk, ⟨rfl, hb, hi'⟩ | ⟨rfl, hx'⟩⟩
    · exact ⟨hk, hb, hi'⟩
    · exact ⟨hk, rfl, hx'⟩
  · intro D xs W hD hS hi hd
    exact hdone D xs W hD hS hi hd _ (e3 D)
  · rintro D c pre W hD hp ⟨rfl, hx⟩ hd
    exact wpIn_ret (hstop D pre W hD hp hx hd _ (e3 D))

/-! ### The function around it -/
def retA (P : Program) (fn : Func) (R : Value → World → Prop) (n : Nat) : Exit → Act → World → Prop := fun e a w =>
  (e = .normal ∨ e = .ret) ∧ ∃ σ, (Fr a σ n [] ∧ RetOk P fn R σ w) ∨ ∃ D, Fr a σ n [⟨.collected D, #[]⟩] ∧ w.heap[D]? = some (.deferred (some [])) ∧ RetOk P fn R σ (setO w D (.deferred none))

theorem Ret.introA {fn : Func} {R : Value → World → Prop} {f : FuncId} {c : Code} (args : List Value) (hf : P.funcs[f]? = some fn) (hb : fn.body = some c) (hn : Nat.ble args.length fn.ntmps = true)
    (h : CA P fn.ntmps [] c (retA P fn R fn.ntmps) (initEnv args) w) : Ret P f args.toArray w R := by
  refine (callsIn_wide (n := 3)).1 (callsIn_of_wp_marks hf hb trivial (wpIn_mono (wpIn_wide.2 (h _ (Fr.init args fn.ntmps (by simpa [Nat.ble_eq] using hn)))) ?_))
  have fin : ∀ (a : Act) (σ : Env) (w : World), (∀ t, a.tmps.getD t undef = σ t) → RetOk P fn R σ w → LeavesInM Fence.wide 3 P fn a.tmps (fun e w' => ∃ v, e = .returned v ∧ R v w') [] .returning w := by
    rintro a σ w hg ⟨v, hv, hR⟩
    exact ⟨v, hv _ hg, v, rfl, hR⟩
  have all : ∀ (a : Act) (w : World), (∃ σ, (Fr a σ fn.ntmps [] ∧ RetOk P fn R σ w) ∨ ∃ D, Fr a σ fn.ntmps [⟨.collected D, #[]⟩] ∧ w.heap[D]? = some (.deferred (some [])) ∧ RetOk P fn R σ (setO w D (.deferred none))) →
      LeavesInM Fence.wide 3 P fn a.tmps (fun e w' => ∃ v, e = .returned v ∧ R v w') a.defers .returning w := by
    rintro a w ⟨σ, ⟨hf', hR⟩ | ⟨D, hf', hd, hR⟩⟩
    · rw [hf'.defers]; exact fin a σ w hf'.get hR
    · rw [hf'.defers]
      exact ⟨by simp, .inl ⟨D, _, rfl, run_takeDeferred hd, fin a σ _ hf'.get hR⟩⟩
  rintro e a w ⟨rfl | rfl, hx⟩
  · exact all a w hx
  · exact all a w hx
theorem actRet {fn : Func} {R : Value → World → Prop} (h : RetOk P fn R σ w) : actP n [] (retA P fn R n) .ret σ w := fun _ ha => ⟨.inr rfl, _, .inl ⟨ha, h⟩⟩
theorem actRetD {fn : Func} {R : Value → World → Prop} {D : Nat} {w2 : World} (hd : w.heap[D]? = some (.deferred (some []))) (e : setO w D (.deferred none) = w2) (h : RetOk P fn R σ w2) : actP n [⟨.collected D, #[]⟩] (retA P fn R n) .ret σ w :=
  fun _ ha => ⟨.inr rfl, _, .inr ⟨D, ha, hd, by rw [e]; exact h⟩⟩
theorem actStop {fn : Func} {R : Value → World → Prop} {D : Nat} {w2 : World} {K : Act → World → Prop} (hd : w.heap[D]? = some (.deferred (some []))) (e : setO w D (.deferred none) = w2) (h : RetOk P fn R σ w2) :
    ∀ a, Fr a σ n [⟨.collected D, #[]⟩] → Exit.then K (retA P fn R n) .ret a w := fun _ ha => ⟨.inr rfl, _, .inr ⟨D, ha, hd, by rw [e]; exact h⟩⟩
theorem CA.use {y : Code} {QQ : Exit → Act → World → Prop} (h : CA P n ds y QQ σ w) : ∀ a, Fr a σ n ds → Exit.then (fun a w => y.wp P QQ a w) QQ .normal a w := h
theorem ownFrom_blk {β : Type} {B b : Nat} {l : List Value} {e : TypeId} : OwnFrom B (fun (_ : β) W => W.heap[b]? = some (blk l e)) := fun _ X Y row hs hg hr =>
  (hg.block b (at_lt _ _ hs) (fun e => by obtain ⟨_, o, h2, h3⟩ := hr b e.symm; rw [hs] at h2; cases h2; cases h3)).trans hs
theorem keepsFrom_setOC {B b : Nat} {o : Obj} {l : List Value} {e : TypeId} (hb : w.heap[b]? = some (blk l e)) : KeepsFrom B w (setO w b o) := ⟨by simp, fun k x _ hx hc => by
  by_cases hk : k = b
  · subst hk; rw [hb] at hx; cases hx; cases hc
  · rw [at_setO_ne _ _ _ _ hk]; exact hx⟩
theorem Below.setOAbove {B b : Nat} {o : Obj} (hb : B ≤ b) : Below B w (setO w b o) := ⟨rfl, rfl, rfl, by simp, fun k hk => at_setO_ne _ _ _ _ (by omega)⟩
theorem Below.setO2 {B : Nat} {W : World} (h : Below B w W) (b : Nat) (o : Obj) (hb : b < B) : Below B (setO w b o) (setO W b o) := by
  refine ⟨h.os, h.tape, h.output, by simpa using h.size, fun k hk => ?_⟩
  by_cases e : k = b
  · subst e
    have h1 := h.block k hk
    by_cases hw : k < w.heap.size
    · rw [at_setO_same _ _ _ hw, at_setO_same _ _ _ (Nat.lt_of_lt_of_le hw h.size)]
    · have hW : ¬ k < W.heap.size := by
        intro hlt
        rw [Array.getElem?_eq_getElem hlt, Array.getElem?_eq_none (by omega)] at h1
        cases h1
      rw [Array.getElem?_eq_none (by simpa using Nat.not_lt.1 hW), Array.getElem?_eq_none (by simpa using Nat.not_lt.1 hw)]
  · rw [at_setO_ne _ _ _ _ e, at_setO_ne _ _ _ _ e]; exact h.block k hk
theorem Below.toKept {B : Nat} {W : World} (h : Below B w W) (hB : w.heap.size ≤ B) : Kept (fun _ => False) w W := ⟨h.os, h.tape, h.output, h.size, fun k hk _ => h.block k (by omega)⟩
theorem Below.at {B : Nat} {W : World} (h : Below B w W) {b : Nat} {x : Obj} (hx : w.heap[b]? = some x) (hb : b < B) : W.heap[b]? = some x := by rw [h.block b hb]; exact hx
theorem keepsFrom_setO {B b : Nat} {o : Obj} (hb : b < B) : KeepsFrom B w (setO w b o) := ⟨by simp, fun k x hk hx _ => by rw [at_setO_ne _ _ _ _ (by omega)]; exact hx⟩
theorem keepsFrom_alloc {B : Nat} {o : Obj} : KeepsFrom B w (w.alloc o) := ⟨by simp, fun k x _ hx _ => by rw [at_alloc_lt _ _ _ (at_lt _ _ hx)]; exact hx⟩
theorem ownFrom_of_below {β : Type} {B : Nat} {w : World} (hB : w.heap.size ≤ B) (p : β → Prop) : OwnFrom B (fun s W => p s ∧ Below w.heap.size w W) :=
  fun s X Y row hs hg hr => ⟨hs.1, (ownFrom_below (β := Unit) (Nat.le_refl _) hB) () X Y row hs.2 hg (fun r e => by obtain ⟨h1, o, h2, h3⟩ := hr r e; exact ⟨by omega, o, h2, h3⟩)⟩
theorem Ret.callsIn {R : Value → World → Prop} {f : FuncId} {args : Array Value} (h : Ret P f args w R) (m : Nat) : CallsIn (FW none) m P f args w fun e w' => ∃ v, e = .returned v ∧ R v w' := (callsIn_wide (n := m)).2 h
end rules
end Go.Eng
