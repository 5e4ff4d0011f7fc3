/- DiskDoes: the walk. -/
import Derived.Test.YtpblppilknkdoaaLaw5
namespace Go.Proofs.Ytpblppilknkdoaa
open Go Go.Eng Go.Proofs
attribute [local irreducible] Go.Eng.C Go.Eng.L Go.Eng.Ret Go.Eng.Run Go.Eng.Does Go.Eng.Enters Go.Eng.AH Go.Eng.AO Go.Eng.RetOk
theorem does_len2 {D : PD} (h : D.Ok) {o : POp} : (D.does o).2.1.length = 64 := by
  unfold PD.does
  split
  · exact read_length h
  · repeat' split
    all_goals rfl
def RD.run (X : RD) (l : List OpV) : RD := l.foldl (fun X x => (X.want x.o).1) X
theorem RD.run_succ {X : RD} {l : List OpV} {k : Nat} {x : OpV} (h : l[k]? = some x) : X.run (l.take (k + 1)) = ((X.run (l.take k)).want x.o).1 := by
  simp [RD.run, List.take_add_one, h]
theorem sim_run {c : Nat} {D : PD} {X : RD} (h : Sim c D X) {m : List OpV} (hm : c + m.length ≤ 1000000) : ∀ k, k ≤ m.length → Sim (c + k) (D.run (m.take k)) (X.run (m.take k))
  | 0, _ => h
  | k + 1, hk => by
    have hx : m[k]? = some m[k] := List.getElem?_eq_getElem (by omega)
    rw [PD.run_succ hx, RD.run_succ hx]
    exact (sim_does (sim_run h hm k (by omega)) (by omega) _).2
/-- All sectors, read one by one. -/
def RD.held (X : RD) : Nat → RD
  | 0 => X
  | k + 1 => ((X.held k).read k).1
theorem sim_held {c : Nat} {D : PD} {X : RD} (h : Sim c D X) : ∀ k, c + k ≤ 1000000 → Sim (c + k) (D.held k).1 (X.held k)
  | 0, _ => h
  | k + 1, hk => by
    simp only [PD.held, RD.held]
    exact (sim_read (sim_held h k (by omega)) (by omega) _).2
theorem wakes_few {D : PD} {m : List OpV} {k : Nat} (hk : k ≤ m.length) : (D.run (m.take k)).ops ≤ D.ops + k ∧ (D.run (m.take k)).pend.length ≤ D.pend.length + k ∧ (D.run (m.take k)).safe.length = D.safe.length :=
  ⟨(PD.run_few k hk).ops, (PD.run_few k hk).pend, (PD.run_few k hk).safe⟩
set_option maxHeartbeats 8000000 in
theorem diskdoes_calls {w : World} {lv : Value} {l : List OpV} {N9 : Nat} {n : Int} (h : OpsAt w lv l N9) (hN : N9 ≤ w.heap.size) (hbig : l.length ≤ 9223372036854775807) :
    Ret Try.prog 4 #[.int .i64 n, lv] w fun v w' => v = .bool true ∧ Kept (fun _ => False) w w' := by
  obtain ⟨a, c, rfl, hc⟩ := h.shape
  obtain ⟨m, hm⟩ : ∃ m, m = l.take 120 := ⟨_, rfl⟩
  have hml : m.length ≤ 120 := by rw [hm, List.length_take]; omega
  have hops := h.first rfl
  rw [← hm] at hops
  have hq := Kept.refl (fun _ => False) w
  refine Ret.intro [.int .i64 n, .slice a l.length c] Try.func4 rfl rfl ?_
  refine C.seq ?_
  refine C.region ?_
  refine L.step (R.assignV (v := .bool false) rfl) rfl ?_
  refine L.nil ?_
  refine C.seq ?_
  refine C.seq ?_
  refine C.region ?_
  refine L.call (E.call0 hb10) rfl wakes_calls ?_
  rintro _ w501 ⟨rfl, hk502⟩
  have z503 := (hk502).size
  have q504 := Kept.trans hq hk502 (fun _ _ h => h.elim)
  refine L.step (R.notV (v := .bool false) rfl rfl) rfl ?_
  refine L.nil ?_
  refine C.condF rfl ?_
  refine C.skip ?_
  refine C.seq ?_
  refine C.region ?_
  refine L.step (R.moveV (v := .int .i64 n) rfl) rfl ?_
  rcases Classical.em (n < 1 ∨ 2048 < n) with hbad | hgood
  ·
    refine L.call (E.call1 hb16) rfl (new_bad hbad) ?_
    rintro _ w505 ⟨rfl, ew⟩
    obtain rfl := ew.symm
    refine L.step (R.moveV (v := .tuple #[.pointer none, .int .i64 2]) rfl) rfl ?_
    refine L.step (R.extract (v := .pointer none) rfl rfl) rfl ?_
    refine L.step (R.extract (v := .int .i64 2) rfl rfl) rfl ?_
    refine L.step (R.assignV (v := .pointer none) rfl) rfl ?_
    refine L.step (R.assignV (v := .int .i64 2) rfl) rfl ?_
    refine L.nil ?_
    refine C.seq ?_
    refine C.region ?_
    refine L.step (R.moveV (v := .int .i64 n) rfl) rfl ?_
    refine L.call (E.call1 hb17) rfl (rnew_bad hbad) ?_
    rintro _ w506 ⟨rfl, hk507⟩
    have z508 := (hk507).size
    have q509 := Kept.trans q504 hk507 (fun _ _ h => h.elim)
    refine L.step (R.moveV (v := .tuple #[.agg (List.toArray ([.slice none 0 0, .slice none 0 0, .bool false, .int .i64 0, .int .i64 0, .int .i64 0])), .int .i64 2]) rfl) rfl ?_
    refine L.step (R.extract (v := .agg (List.toArray ([.slice none 0 0, .slice none 0 0, .bool false, .int .i64 0, .int .i64 0, .int .i64 0]))) rfl rfl) rfl ?_
    refine L.step (R.extract (v := .int .i64 2) rfl rfl) rfl ?_
    refine L.stepE (R.alloc z43) rfl fun w511 e510 => ?_
    have hb7 := (q509).size
    have k513 := Al.new e510
    have z514 := Al.size e510
    have q515 := Al.kept e510 q509
    refine L.doesE (R.storeAll (cs := [.slice none 0 0, .slice none 0 0, .bool false, .int .i64 0, .int .i64 0, .int .i64 0]) r43 rfl rfl rfl (by simp [Value.oneCell']) k513 rfl) fun w517 e516 => ?_
    have k518 := So.hit e516 k513
    have z519 := So.size e516
    have q520 := So.kept e516 q515 (fun h => absurd h (by omega))
    refine L.step (R.assignV (v := .int .i64 2) rfl) rfl ?_
    refine L.nil ?_
    refine C.seq ?_
    refine C.seq ?_
    refine C.region ?_
    refine L.step (R.moveV (v := .int .i64 2) rfl) rfl ?_
    refine L.step (R.moveV (v := .int .i64 2) rfl) rfl ?_
    refine L.step (R.neqF rfl rfl (by omega)) rfl ?_
    refine L.step (R.moveV (v := .bool false) rfl) rfl ?_
    refine L.yes rfl rfl rfl ?_
    refine L.step (R.moveV (v := .pointer none) rfl) rfl ?_
    refine L.yes rfl rfl rfl ?_
    refine L.step (R.eqlP Try.underlying24 rfl rfl) rfl ?_
    refine L.yes rfl rfl rfl ?_
    refine L.step (R.moveV (v := .int .i64 2) rfl) rfl ?_
    refine L.yes rfl rfl rfl ?_
    refine L.step (R.neqT rfl rfl (by omega)) rfl ?_
    refine L.yes rfl rfl rfl ?_
    refine L.step (neqBF Try.underlying4 rfl rfl rfl) rfl ?_
    refine L.step (R.pickFV (v := .bool false) rfl rfl) rfl ?_
    refine L.nil ?_
    refine C.condF rfl ?_
    refine C.skip ?_
    refine C.seq ?_
    refine C.seq ?_
    refine C.region ?_
    refine L.step (R.moveV (v := .int .i64 2) rfl) rfl ?_
    refine L.step (R.neqT rfl rfl (by omega)) rfl ?_
    refine L.nil ?_
    refine C.condT rfl ?_
    refine C.seq ?_
    refine C.region ?_
    refine L.step (R.assignV (v := .bool true) rfl) rfl ?_
    refine L.nil ?_
    refine C.ret (?_ : RetOk _ _ _ _ _)
    refine RetOk.tV (v := .bool true) rfl rfl ?_
    exact ⟨rfl, q520⟩
  ·
    refine L.call (E.call1 hb16) rfl (new_good (show 1 ≤ n by omega) (show n ≤ 2048 by omega)) ?_
    rintro _ w521 ⟨rd, rfl, hrd, hD523, hk522⟩
    have z524 := (hk522).size
    have q525 := Kept.trans q504 hk522 (fun _ _ h => h.elim)
    obtain ⟨N, hNn⟩ : ∃ N, N = n.toNat := ⟨_, rfl⟩
    have hN1 : 1 ≤ N ∧ N ≤ 2048 := by omega
    have hNl : (PD.new N).safe.length = N := by simp [PD.new]
    rw [← hNn] at hD523
    have hzk := (q525).size
    obtain ⟨F526, eF526⟩ : ∃ G, G = grow (fun _ => False) w501 w521 := ⟨_, rfl⟩
    rw [← eF526] at hD523
    have mm528 : ∀ k, F526 k → (fun _ => False) k ∨ (w501.heap.size ≤ k ∧ k < w521.heap.size) := fun k hk => by rw [eF526] at hk; exact hk
    have bd527 : ∀ k, F526 k → w.heap.size ≤ k ∧ k < w521.heap.size := fun k hk => by
      have hz9 := (q525).size
      rcases mm528 k hk with h | h
      · exact h.elim
      · omega
    refine L.step (R.moveV (v := .tuple #[.pointer (some ⟨rd, 0, none⟩), .int .i64 0]) rfl) rfl ?_
    refine L.step (R.extract (v := .pointer (some ⟨rd, 0, none⟩)) rfl rfl) rfl ?_
    refine L.step (R.extract (v := .int .i64 0) rfl rfl) rfl ?_
    refine L.step (R.assignV (v := .pointer (some ⟨rd, 0, none⟩)) rfl) rfl ?_
    refine L.step (R.assignV (v := .int .i64 0) rfl) rfl ?_
    refine L.nil ?_
    refine C.seq ?_
    refine C.region ?_
    refine L.step (R.moveV (v := .int .i64 n) rfl) rfl ?_
    refine L.call (E.call1 hb17) rfl (rnew_good (show 1 ≤ n by omega) (show n ≤ 2048 by omega)) ?_
    rintro _ w529 ⟨y532, rfl, hR531, hk530⟩
    rw [← hNn] at hR531
    obtain ⟨aS0, cS0, aP0, cP0, rfl⟩ := RefAt.lits hR531
    have z533 := (hk530).size
    have q534 := Kept.trans q525 hk530 (fun _ _ h => h.elim)
    have hD535 := DiskAt.kept hD523 hk530 (fun _ _ h => h)
    obtain ⟨F536, eF536⟩ : ∃ G, G = grow (fun _ => False) w521 w529 := ⟨_, rfl⟩
    rw [← eF536] at hR531
    have mm538 : ∀ k, F536 k → (fun _ => False) k ∨ (w521.heap.size ≤ k ∧ k < w529.heap.size) := fun k hk => by rw [eF536] at hk; exact hk
    have bd537 : ∀ k, F536 k → w.heap.size ≤ k ∧ k < w529.heap.size := fun k hk => by
      have hz9 := (q534).size
      rcases mm538 k hk with h | h
      · exact h.elim
      · omega
    have sp539 : ∀ k, F536 k → ¬ F526 k := fun k hk hy => by
      rcases mm538 k hk with h | h
      · exact h.elim
      · have h0_ := bd527 k hy; omega
    refine L.step (R.moveV (v := .tuple #[.agg (List.toArray ([.slice aS0 ((RD.new N).safe.length) cS0, .slice aP0 ((RD.new N).pend.length) cP0, .bool ((RD.new N).dead), .int .i64 ((RD.new N).left), .int .i64 ((RD.new N).fails), .int .i64 ((RD.new N).ops)])), .int .i64 0]) rfl) rfl ?_
    refine L.step (R.extract (v := .agg (List.toArray ([.slice aS0 ((RD.new N).safe.length) cS0, .slice aP0 ((RD.new N).pend.length) cP0, .bool ((RD.new N).dead), .int .i64 ((RD.new N).left), .int .i64 ((RD.new N).fails), .int .i64 ((RD.new N).ops)]))) rfl rfl) rfl ?_
    refine L.step (R.extract (v := .int .i64 0) rfl rfl) rfl ?_
    refine L.stepE (R.alloc z43) rfl fun w541 e540 => ?_
    have hb7 := (q534).size
    have k543 := Al.new e540
    have z544 := Al.size e540
    have q545 := Al.kept e540 q534
    have hD546 := DiskAt.kept hD535 (Al.kept e540 (Kept.refl (fun _ => False) _)) (fun _ _ h => h)
    have hR547 := RefAt.kept hR531 (Al.kept e540 (Kept.refl (fun _ => False) _)) (fun _ _ h => h)
    have bn548 : ∀ k, F526 k → k ≠ w529.heap.size := fun k hk => by have h0_ := bd527 k hk; omega
    have bn549 : ∀ k, F536 k → k ≠ w529.heap.size := fun k hk => by have h0_ := bd537 k hk; omega
    refine L.doesE (R.storeAll (cs := [.slice aS0 ((RD.new N).safe.length) cS0, .slice aP0 ((RD.new N).pend.length) cP0, .bool ((RD.new N).dead), .int .i64 ((RD.new N).left), .int .i64 ((RD.new N).fails), .int .i64 ((RD.new N).ops)]) r43 rfl rfl rfl (by simp [Value.oneCell']) k543 rfl) fun w551 e550 => ?_
    have k552 := So.hit e550 k543
    have z553 := So.size e550
    have q554 := So.kept e550 q545 (fun h => absurd h (by omega))
    have hD555 := DiskAt.kept hD546 (So.kept e550 (Kept.refl (fun k => k = w529.heap.size) _) (fun _ => rfl)) (fun k hk e => by have e9 : k = w529.heap.size := e; have h0_ := bd527 k hk; have h1_ := bn548 k hk; omega)
    have hR556 := RefAt.kept hR547 (So.kept e550 (Kept.refl (fun k => k = w529.heap.size) _) (fun _ => rfl)) (fun k hk e => by have e9 : k = w529.heap.size := e; have h0_ := bd537 k hk; have h1_ := bn549 k hk; omega)
    refine L.step (R.assignV (v := .int .i64 0) rfl) rfl ?_
    refine L.nil ?_
    refine C.seq ?_
    refine C.seq ?_
    refine C.region ?_
    refine L.step (R.moveV (v := .int .i64 0) rfl) rfl ?_
    refine L.step (R.moveV (v := .int .i64 0) rfl) rfl ?_
    refine L.step (R.neqF rfl rfl (by omega)) rfl ?_
    refine L.step (R.moveV (v := .bool false) rfl) rfl ?_
    refine L.yes rfl rfl rfl ?_
    refine L.step (R.moveV (v := .pointer (some ⟨rd, 0, none⟩)) rfl) rfl ?_
    refine L.yes rfl rfl rfl ?_
    refine L.step (R.eqlP Try.underlying24 rfl rfl) rfl ?_
    refine L.yes rfl rfl rfl ?_
    refine L.step (R.moveV (v := .int .i64 0) rfl) rfl ?_
    refine L.yes rfl rfl rfl ?_
    refine L.step (R.neqF rfl rfl (by omega)) rfl ?_
    refine L.yes rfl rfl rfl ?_
    refine L.step (neqBF Try.underlying4 rfl rfl rfl) rfl ?_
    refine L.step (R.pickFV (v := .bool false) rfl rfl) rfl ?_
    refine L.nil ?_
    refine C.condF rfl ?_
    refine C.skip ?_
    refine C.seq ?_
    refine C.seq ?_
    refine C.region ?_
    refine L.step (R.moveV (v := .int .i64 0) rfl) rfl ?_
    refine L.step (R.neqF rfl rfl (by omega)) rfl ?_
    refine L.nil ?_
    refine C.condF rfl ?_
    refine C.skip ?_
    refine C.seq ?_
    refine C.seq ?_
    refine C.region ?_
    refine L.step (R.moveV (v := .slice a l.length c) rfl) rfl ?_
    refine L.call (E.call1 hb12) rfl (few_calls (m := m.length) hc (by omega) (by rw [hm, List.length_take, Nat.min_comm])) ?_
    rintro _ w557 ⟨rfl, ew⟩
    obtain rfl := ew.symm
    refine L.step (R.lenV (v := .int .i64 ((m.length : Nat) : Int)) Try.underlying22 rfl rfl) rfl ?_
    refine L.step (R.moveV (v := .int .i64 0) rfl) rfl ?_
    refine L.nil ?_
    refine C.block ?_
    have hsw9 := (q554).size
    refine C.loop (α := Nat × (Nat → Prop) × (Nat → Prop)) (fun x => [(5, .pointer (some ⟨rd, 0, none⟩)), (7, .pointer (some ⟨w529.heap.size, 0, none⟩)), (43, .slice a m.length c), (44, .int .i64 ((m.length : Nat) : Int)), (45, .int .i64 ((x.1 : Nat) : Int))]) (fun x W => x.1 ≤ m.length ∧ Kept (fun _ => False) w W ∧ DiskAt W rd ((PD.new N).run (m.take x.1)) x.2.1 ∧ (∃ aS cS aP cP, W.heap[w529.heap.size]? = some (blk (rcells (.slice aS ((RD.new N).run (m.take x.1)).safe.length cS) (.slice aP ((RD.new N).run (m.take x.1)).pend.length cP) ((RD.new N).run (m.take x.1))) 43) ∧ RefAt W (.agg (rcells (.slice aS ((RD.new N).run (m.take x.1)).safe.length cS) (.slice aP ((RD.new N).run (m.take x.1)).pend.length cP) ((RD.new N).run (m.take x.1))).toArray) ((RD.new N).run (m.take x.1)) x.2.2) ∧ (∀ k, x.2.1 k → w.heap.size ≤ k ∧ k < W.heap.size ∧ k ≠ w529.heap.size) ∧ (∀ k, x.2.2 k → w.heap.size ≤ k ∧ k < W.heap.size ∧ k ≠ w529.heap.size) ∧ (∀ k, x.2.1 k → ¬ x.2.2 k)) (fun x => m.length - x.1) ⟨(0, F526, F536), ⟨rfl, rfl, rfl, rfl, rfl, trivial⟩, ⟨Nat.zero_le _, q554, hD555, ⟨aS0, cS0, aP0, cP0, k552, hR556⟩, (fun k hk => ⟨by have h0_ := bd527 k hk; have h1_ := bn548 k hk; omega, by have h0_ := bd527 k hk; have h1_ := bn548 k hk; omega, by have h0_ := bd527 k hk; have h1_ := bn548 k hk; omega⟩), (fun k hk => ⟨by have h0_ := bd537 k hk; have h1_ := bn549 k hk; omega, by have h0_ := bd537 k hk; have h1_ := bn549 k hk; omega, by have h0_ := bd537 k hk; have h1_ := bn549 k hk; omega⟩), (fun k h1 h2 => sp539 k h2 h1)⟩⟩ ?_
    intro x g559 w558 hI560
    obtain ⟨hk, hq, hD9, ⟨aS, cS, aP, cP, hx7, hR9⟩, hF9, hG9, hsp9⟩ := hI560
    have hsz := hq.size
    have hx7l := at_lt _ _ hx7
    have hsim := sim_run (sim_new N) (m := m) (by omega) x.1 hk
    have hfw := wakes_few (D := PD.new N) hk
    rw [Nat.zero_add] at hsim
    obtain ⟨Dk, hDk⟩ : ∃ D, D = ((PD.new N).run (m.take x.1)) := ⟨_, rfl⟩
    obtain ⟨Xk, hXk⟩ : ∃ X, X = ((RD.new N).run (m.take x.1)) := ⟨_, rfl⟩
    rw [← hDk] at hD9 hsim hfw
    rw [← hXk] at hR9 hx7 hsim
    have hf0 : (PD.new N).ops = 0 := rfl
    have hf1 : (PD.new N).pend.length = 0 := rfl
    have hf2 := hD9.ok.ops
    have hf3 : Xk.ops = Dk.ops := hsim.ops.symm
    have hf4 : Xk.pend.length = Dk.pend.length := by rw [hsim.pend]
    have hf5 : Xk.safe.length = Dk.safe.length := by rw [hsim.safe]
    have bd1 : ∀ k, x.2.1 k → w.heap.size ≤ k ∧ k < w558.heap.size := fun k hk => ⟨(hF9 k hk).1, (hF9 k hk).2.1⟩
    have bn1 : ∀ k, x.2.1 k → k ≠ w529.heap.size := fun k hk => (hF9 k hk).2.2
    have bd2 : ∀ k, x.2.2 k → w.heap.size ≤ k ∧ k < w558.heap.size := fun k hk => ⟨(hG9 k hk).1, (hG9 k hk).2.1⟩
    have bn2 : ∀ k, x.2.2 k → k ≠ w529.heap.size := fun k hk => (hG9 k hk).2.2
    refine C.seq ?_
    refine C.region ?_
    rcases Classical.em (((x.1 : Nat) : Int) < ((m.length : Nat) : Int)) with ht561 | ht561
    ·
      refine L.step (R.lssT rfl rfl (ht561)) rfl ?_
      refine L.nil ?_
      refine C.seq ?_
      refine C.condT rfl ?_
      refine C.skip ?_
      refine C.seq ?_
      refine C.block ?_
      refine C.seq ?_
      refine C.region ?_
      obtain ⟨bo, oo, hao, hbo, hcell0⟩ := hops.blockA (by omega)
      have hcellW := (hops.kept hq (fun _ _ h => h))
      obtain ⟨x1, hx1⟩ : ∃ y, m[x.1]? = some y := ⟨_, List.getElem?_eq_getElem (by omega)⟩
      have hokx1 := (hcell0 _ _ hx1).2
      have hsl : a = some ⟨bo, oo, none⟩ := hao
      obtain ⟨bo2, oo2, hao2, _, hcellW⟩ := hcellW.blockA (by omega)
      have hcx := (hcellW _ _ hx1).1
      have hbb : bo2 = bo ∧ oo2 = oo := by rw [hao] at hao2; cases hao2; exact ⟨rfl, rfl⟩
      obtain ⟨rfl, rfl⟩ := hbb
      refine L.step (R.indexAddrV (m := x.1) (o2 := oo2 + x.1 * 4) (b := bo2) (o := oo2) (len := m.length) (cap := c) s22 (by show Value.slice a m.length c = _; rw [hao]) rfl rfl (by omega) rfl) rfl ?_
      refine L.step (R.loadCA (cs := x1.cells) r32 rfl hcx rfl) rfl ?_
      refine L.stepE (R.alloc z32) rfl fun w563 e562 => ?_
      have k565 := Al.new e562
      have k566 := Al.old e562 hx7
      have z567 := Al.size e562
      have q568 := Al.kept e562 hq
      have hD569 := DiskAt.kept hD9 (Al.kept e562 (Kept.refl (fun _ => False) _)) (fun _ _ h => h)
      have hR570 := RefAt.kept hR9 (Al.kept e562 (Kept.refl (fun _ => False) _)) (fun _ _ h => h)
      refine L.doesE (R.storeAll (cs := x1.cells) r32 rfl rfl rfl (hokx1.ones) k565 rfl) fun w572 e571 => ?_
      have k573 := So.old e571 (apartE k566 k565 (by decide)) k566
      have k574 := So.hit e571 k565
      have z575 := So.size e571
      have q576 := So.kept e571 q568 (fun h => absurd h (by omega))
      have hD577 := DiskAt.kept hD569 (So.kept e571 (Kept.refl (fun k => k = w558.heap.size) _) (fun _ => rfl)) (fun k hk e => by have e9 : k = w558.heap.size := e; have h0_ := bd1 k hk; have h1_ := bn1 k hk; omega)
      have hR578 := RefAt.kept hR570 (So.kept e571 (Kept.refl (fun k => k = w558.heap.size) _) (fun _ => rfl)) (fun k hk e => by have e9 : k = w558.heap.size := e; have h0_ := bd2 k hk; have h1_ := bn2 k hk; omega)
      refine L.nil ?_
      refine C.seq ?_
      refine C.region ?_
      refine L.step (R.moveV (v := .pointer (some ⟨rd, 0, none⟩)) rfl) rfl ?_
      refine L.step (R.loadA (cs := x1.cells) r32 rfl k574 rfl rfl) rfl ?_
      refine L.call (E.call2 hb18) rfl (does_calls (o := x1.o) hD577 (by omega) (by omega) (hokx1.bools.kept q576 (fun _ _ h => h)) hokx1.len hokx1.at_ (fun k hk => by have h0_ := bd1 k hk; have h1_ := bn1 k hk; omega)) ?_
      rintro _ w579 ⟨rfl, hD581, hk580⟩
      have hsd := sim_does hsim (by omega) x1.o
      obtain ⟨bl, hbl⟩ : ∃ b, b = (Xk.want x1.o).2.1 := ⟨_, rfl⟩
      obtain ⟨er, her⟩ : ∃ e, e = (Xk.want x1.o).2.2 := ⟨_, rfl⟩
      obtain ⟨Dn, hDn9⟩ : ∃ D, D = (Dk.does x1.o).1 := ⟨_, rfl⟩
      obtain ⟨Xn, hXn9⟩ : ∃ X, X = (Xk.want x1.o).1 := ⟨_, rfl⟩
      have hbl64 : bl.length = 64 := by rw [hbl, ← hsd.1]; exact does_len2 hD9.ok
      rw [← hDn9, ← hXn9] at hsd
      rw [hsd.1, ← hbl, ← her]
      rw [← hDn9] at hD581
      simp only [bval]
      have k582 := Kept.old hk580 k573 (fun hF => by have h0_ := bd1 _ hF; have h1_ := bn1 _ hF; omega)
      have k583 := Kept.old hk580 k574 (fun hF => by have h0_ := bd1 _ hF; have h1_ := bn1 _ hF; omega)
      have hR584 := RefAt.kept hR578 hk580 (fun k h1 h2 => hsp9 k h2 h1)
      have z585 := hk580.size
      have q586 : Kept (fun _ => False) w w579 := Kept.trans q576 hk580 (fun k hlt9 hk9 => by have h0_ := bd1 k hk9; have h1_ := bn1 k hk9; omega)
      obtain ⟨F587, eF587⟩ : ∃ G, G = grow x.2.1 w572 w579 := ⟨_, rfl⟩
      rw [← eF587] at hD581
      have mm589 : ∀ k, F587 k → x.2.1 k ∨ (w572.heap.size ≤ k ∧ k < w579.heap.size) := fun k hk => by rw [eF587] at hk; exact hk
      have bd588 : ∀ k, F587 k → w.heap.size ≤ k ∧ k < w579.heap.size := fun k hk => by
        have hz9 := (q586).size
        rcases mm589 k hk with h | h
        · have h0_ := bd1 k h; have h1_ := bn1 k h; omega
        · omega
      have bn590 : ∀ k, F587 k → k ≠ w529.heap.size := fun k hk => by
        rcases mm589 k hk with h | h
        · have h0_ := bd1 k h; have h1_ := bn1 k h; omega
        · omega
      have sp591 : ∀ k, F587 k → ¬ x.2.2 k := fun k hk hy => by
        rcases mm589 k hk with h | h
        · exact hsp9 k h hy
        · have h0_ := bd2 k hy; have h1_ := bn2 k hy; omega
      refine L.step (R.moveV (v := .tuple #[.agg (List.toArray (bcells bl)), .int .i64 er]) rfl) rfl ?_
      refine L.step (R.extract (v := .agg (List.toArray (bcells bl))) rfl rfl) rfl ?_
      refine L.step (R.extract (v := .int .i64 er) rfl rfl) rfl ?_
      refine L.stepE (R.alloc z27) rfl fun w593 e592 => ?_
      have k595 := Al.new e592
      have k596 := Al.old e592 k582
      have k597 := Al.old e592 k583
      have z598 := Al.size e592
      have q599 := Al.kept e592 q586
      have hD600 := DiskAt.kept hD581 (Al.kept e592 (Kept.refl (fun _ => False) _)) (fun _ _ h => h)
      have hR601 := RefAt.kept hR584 (Al.kept e592 (Kept.refl (fun _ => False) _)) (fun _ _ h => h)
      refine L.doesE (R.storeAll (cs := bcells bl) r27 rfl rfl (bcells64 hbl64) (one_bcells _) k595 (List.length_replicate)) fun w603 e602 => ?_
      have k604 := So.old e602 (apartE k596 k595 (by decide)) k596
      have k605 := So.old e602 (apartE k597 k595 (by decide)) k597
      have k606 := So.hit e602 k595
      have z607 := So.size e602
      have q608 := So.kept e602 q599 (fun h => absurd h (by omega))
      have hD609 := DiskAt.kept hD600 (So.kept e602 (Kept.refl (fun k => k = w579.heap.size) _) (fun _ => rfl)) (fun k hk e => by have e9 : k = w579.heap.size := e; have h0_ := bd588 k hk; have h1_ := bn590 k hk; omega)
      have hR610 := RefAt.kept hR601 (So.kept e602 (Kept.refl (fun k => k = w579.heap.size) _) (fun _ => rfl)) (fun k hk e => by have e9 : k = w579.heap.size := e; have h0_ := bd2 k hk; have h1_ := bn2 k hk; omega)
      refine L.step (R.assignV (v := .int .i64 er) rfl) rfl ?_
      refine L.nil ?_
      refine C.seq ?_
      refine C.region ?_
      refine L.stepE (R.alloc z27) rfl fun w612 e611 => ?_
      have k614 := Al.new e611
      have k615 := Al.old e611 k604
      have k616 := Al.old e611 k605
      have k617 := Al.old e611 k606
      have z618 := Al.size e611
      have q619 := Al.kept e611 q608
      have hD620 := DiskAt.kept hD609 (Al.kept e611 (Kept.refl (fun _ => False) _)) (fun _ _ h => h)
      have hR621 := RefAt.kept hR610 (Al.kept e611 (Kept.refl (fun _ => False) _)) (fun _ _ h => h)
      have bn622 : ∀ k, F587 k → k ≠ w603.heap.size := fun k hk => by have h0_ := bd588 k hk; have h1_ := bn590 k hk; omega
      have bn623 : ∀ k, x.2.2 k → k ≠ w603.heap.size := fun k hk => by have h0_ := bd2 k hk; have h1_ := bn2 k hk; omega
      refine L.nil ?_
      refine C.seq ?_
      refine C.region ?_
      refine L.step (R.loadA (cs := [.slice aS Xk.safe.length cS, .slice aP Xk.pend.length cP, .bool Xk.dead, .int .i64 Xk.left, .int .i64 Xk.fails, .int .i64 Xk.ops]) r43 rfl k615 rfl rfl) rfl ?_
      refine L.step (R.loadA (cs := x1.cells) r32 rfl k616 rfl rfl) rfl ?_
      refine L.call (E.call2 hb19) rfl (want_calls (o := x1.o) hR621 (fun k hk => by have h0_ := bd2 k hk; have h1_ := bn2 k hk; have h2_ := bn623 k hk; omega) (hokx1.bools.kept q619 (fun _ _ h => h)) hokx1.len hokx1.at_ (by omega) (by omega) (by omega)) ?_
      rintro _ w624 ⟨y627, rfl, hR626, hk625⟩
      rw [← hXn9] at hR626
      rw [← hbl, ← her]
      simp only [bval]
      obtain ⟨aSi628, cSi628, aPi628, cPi628, rfl⟩ := RefAt.lits hR626
      have k629 := Kept.old hk625 k615 (fun h => h)
      have k630 := Kept.old hk625 k616 (fun h => h)
      have k631 := Kept.old hk625 k617 (fun h => h)
      have k632 := Kept.old hk625 k614 (fun h => h)
      have z633 := (hk625).size
      have q634 := Kept.trans q619 hk625 (fun _ _ h => h.elim)
      have hD635 := DiskAt.kept hD620 hk625 (fun _ _ h => h)
      have hR636 := RefAt.kept hR621 hk625 (fun _ _ h => h)
      have z637 := hk625.size
      obtain ⟨F638, eF638⟩ : ∃ G, G = grow x.2.2 w612 w624 := ⟨_, rfl⟩
      rw [← eF638] at hR626
      have mm640 : ∀ k, F638 k → x.2.2 k ∨ (w612.heap.size ≤ k ∧ k < w624.heap.size) := fun k hk => by rw [eF638] at hk; exact hk
      have bd639 : ∀ k, F638 k → w.heap.size ≤ k ∧ k < w624.heap.size := fun k hk => by
        have hz9 := (q634).size
        rcases mm640 k hk with h | h
        · have h0_ := bd2 k h; have h1_ := bn2 k h; have h2_ := bn623 k h; omega
        · omega
      have bn641 : ∀ k, F638 k → k ≠ w529.heap.size := fun k hk => by
        rcases mm640 k hk with h | h
        · have h0_ := bd2 k h; have h1_ := bn2 k h; have h2_ := bn623 k h; omega
        · omega
      have bn642 : ∀ k, F638 k → k ≠ w603.heap.size := fun k hk => by
        rcases mm640 k hk with h | h
        · have h0_ := bd2 k h; have h1_ := bn2 k h; have h2_ := bn623 k h; omega
        · omega
      have sp643 : ∀ k, F638 k → ¬ F587 k := fun k hk hy => by
        rcases mm640 k hk with h | h
        · exact (fun k h1 h2 => sp591 k h2 h1) k h hy
        · have h0_ := bd588 k hy; have h1_ := bn590 k hy; have h2_ := bn622 k hy; omega
      refine L.step (R.moveV (v := .tuple #[.agg (List.toArray ([.slice aSi628 Xn.safe.length cSi628, .slice aPi628 Xn.pend.length cPi628, .bool Xn.dead, .int .i64 Xn.left, .int .i64 Xn.fails, .int .i64 Xn.ops])), .agg (List.toArray (bcells bl)), .int .i64 er]) rfl) rfl ?_
      refine L.step (R.extract (v := .agg (List.toArray ([.slice aSi628 Xn.safe.length cSi628, .slice aPi628 Xn.pend.length cPi628, .bool Xn.dead, .int .i64 Xn.left, .int .i64 Xn.fails, .int .i64 Xn.ops]))) rfl rfl) rfl ?_
      refine L.step (R.extract (v := .agg (List.toArray (bcells bl))) rfl rfl) rfl ?_
      refine L.step (R.extract (v := .int .i64 er) rfl rfl) rfl ?_
      refine L.doesE (R.storeAll (cs := [.slice aSi628 Xn.safe.length cSi628, .slice aPi628 Xn.pend.length cPi628, .bool Xn.dead, .int .i64 Xn.left, .int .i64 Xn.fails, .int .i64 Xn.ops]) r43 rfl rfl rfl (by simp [Value.oneCell']) k629 rfl) fun w645 e644 => ?_
      have k646 := So.hit e644 k629
      have k647 := So.old e644 (apartE k630 k629 (by decide)) k630
      have k648 := So.old e644 (apartE k631 k629 (by decide)) k631
      have k649 := So.old e644 (apartE k632 k629 (by decide)) k632
      have z650 := So.size e644
      have q651 := So.kept e644 q634 (fun h => absurd h (by omega))
      have hD652 := DiskAt.kept hD635 (So.kept e644 (Kept.refl (fun k => k = w529.heap.size) _) (fun _ => rfl)) (fun k hk e => by have e9 : k = w529.heap.size := e; have h0_ := bd588 k hk; have h1_ := bn590 k hk; have h2_ := bn622 k hk; omega)
      have hR653 := RefAt.kept hR626 (So.kept e644 (Kept.refl (fun k => k = w529.heap.size) _) (fun _ => rfl)) (fun k hk e => by have e9 : k = w529.heap.size := e; have h0_ := bd639 k hk; have h1_ := bn641 k hk; have h2_ := bn642 k hk; omega)
      refine L.doesE (R.storeAll (cs := bcells bl) r27 rfl rfl (bcells64 hbl64) (one_bcells _) k649 (List.length_replicate)) fun w655 e654 => ?_
      have k656 := So.old e654 (apartE k646 k649 (by decide)) k646
      have k657 := So.old e654 (apartE k647 k649 (by decide)) k647
      have k658 := So.old e654 (by omega) k648
      have k659 := So.hit e654 k649
      have z660 := So.size e654
      have q661 := So.kept e654 q651 (fun h => absurd h (by omega))
      have hD662 := DiskAt.kept hD652 (So.kept e654 (Kept.refl (fun k => k = w603.heap.size) _) (fun _ => rfl)) (fun k hk e => by have e9 : k = w603.heap.size := e; have h0_ := bd588 k hk; have h1_ := bn590 k hk; have h2_ := bn622 k hk; omega)
      have hR663 := RefAt.kept hR653 (So.kept e654 (Kept.refl (fun k => k = w603.heap.size) _) (fun _ => rfl)) (fun k hk e => by have e9 : k = w603.heap.size := e; have h0_ := bd639 k hk; have h1_ := bn641 k hk; have h2_ := bn642 k hk; omega)
      refine L.step (R.assignV (v := .int .i64 er) rfl) rfl ?_
      refine L.nil ?_
      refine C.seq ?_
      refine C.region ?_
      refine L.step (R.moveV (v := .int .i64 er) rfl) rfl ?_
      refine L.step (R.moveV (v := .int .i64 er) rfl) rfl ?_
      refine L.step (R.neqF rfl rfl (rfl)) rfl ?_
      refine L.step (R.moveV (v := .bool false) rfl) rfl ?_
      refine L.yes rfl rfl rfl ?_
      refine L.step (R.loadA (cs := bcells bl) r27 rfl k658 (List.take_of_length_le (Nat.le_of_eq (bcells64 hbl64))) (bcells64 hbl64)) rfl ?_
      refine L.yes rfl rfl rfl ?_
      refine L.step (R.loadA (cs := bcells bl) r27 rfl k659 (List.take_of_length_le (Nat.le_of_eq (bcells64 hbl64))) (bcells64 hbl64)) rfl ?_
      refine L.yes rfl rfl rfl ?_
      refine L.step (R.neqAV (A := bl) (B := bl) (b := false) Try.underlying27 Try.underlying5 n5 gd27 rfl rfl hbl64 hbl64 (by rw [decide_eq_true rfl]; rfl)) rfl ?_
      refine L.step (R.pickFV (v := .bool false) rfl rfl) rfl ?_
      refine L.step (R.moveV (v := .bool false) rfl) rfl ?_
      refine L.yes rfl rfl rfl ?_
      refine L.step (R.moveV (v := .pointer (some ⟨rd, 0, none⟩)) rfl) rfl ?_
      refine L.yes rfl rfl rfl ?_
      refine L.step (R.loadA (cs := [.slice aSi628 Xn.safe.length cSi628, .slice aPi628 Xn.pend.length cPi628, .bool Xn.dead, .int .i64 Xn.left, .int .i64 Xn.fails, .int .i64 Xn.ops]) r43 rfl k656 rfl rfl) rfl ?_
      refine L.yes rfl rfl rfl ?_
      have hs2 := hsd.2
      have hp9 : Xn.pend.length ≤ 1000000 := by rw [← hs2.pend, hDn9]; have := (PD.step_does (D := Dk) (o := x1.o)).pend; omega
      refine L.call (E.call2 hb20) rfl (agree_calls hD662 hR663 (by rw [hs2.safe]) hs2.dead hs2.ops hs2.pend hp9) ?_
      rintro _ w664 ⟨rfl, hk665⟩
      have k666 := Kept.old hk665 k656 (fun h => h)
      have k667 := Kept.old hk665 k657 (fun h => h)
      have k668 := Kept.old hk665 k658 (fun h => h)
      have k669 := Kept.old hk665 k659 (fun h => h)
      have z670 := (hk665).size
      have q671 := Kept.trans q661 hk665 (fun _ _ h => h.elim)
      have hD672 := DiskAt.kept hD662 hk665 (fun _ _ h => h)
      have hR673 := RefAt.kept hR663 hk665 (fun _ _ h => h)
      refine L.yes rfl rfl rfl ?_
      refine L.step (R.notV (v := .bool false) rfl rfl) rfl ?_
      refine L.step (R.pickFV (v := .bool false) rfl rfl) rfl ?_
      refine L.nil ?_
      refine C.condF rfl ?_
      refine C.skip ?_
      refine C.region ?_
      refine L.step (R.add rfl rfl (by omega)) rfl ?_
      refine L.step (R.moveV (v := .int .i64 (((x.1 : Nat) : Int) + 1)) rfl) rfl ?_
      refine L.nil ?_
      have hsq := (q671).size
      have hDn : Dn = ((PD.new N).run (m.take (x.1 + 1))) := by rw [PD.run_succ hx1, hDn9, hDk]
      have hXn : Xn = ((RD.new N).run (m.take (x.1 + 1))) := by rw [RD.run_succ hx1, hXn9, hXk]
      refine thenP.mk ⟨(x.1 + 1, F587, F638), ⟨rfl, rfl, rfl, rfl, rfl, trivial⟩, ⟨by show x.1 + 1 ≤ _; omega, q671, by show DiskAt _ _ ((PD.new N).run (m.take (x.1 + 1))) _; rw [← hDn]; exact hD672, by
        show (∃ aS cS aP cP, w664.heap[w529.heap.size]? = some (blk (rcells (.slice aS ((RD.new N).run (m.take (x.1 + 1))).safe.length cS) (.slice aP ((RD.new N).run (m.take (x.1 + 1))).pend.length cP) ((RD.new N).run (m.take (x.1 + 1)))) 43) ∧ RefAt w664 (.agg (rcells (.slice aS ((RD.new N).run (m.take (x.1 + 1))).safe.length cS) (.slice aP ((RD.new N).run (m.take (x.1 + 1))).pend.length cP) ((RD.new N).run (m.take (x.1 + 1)))).toArray) ((RD.new N).run (m.take (x.1 + 1))) F638)
        rw [← hXn]
        exact ⟨aSi628, cSi628, aPi628, cPi628, k666, hR673⟩, (fun k hk => ⟨by have h0_ := bd588 k hk; have h1_ := bn590 k hk; have h2_ := bn622 k hk; omega, by have h0_ := bd588 k hk; have h1_ := bn590 k hk; have h2_ := bn622 k hk; omega, by have h0_ := bd588 k hk; have h1_ := bn590 k hk; have h2_ := bn622 k hk; omega⟩), (fun k hk => ⟨by have h0_ := bd639 k hk; have h1_ := bn641 k hk; have h2_ := bn642 k hk; omega, by have h0_ := bd639 k hk; have h1_ := bn641 k hk; have h2_ := bn642 k hk; omega, by have h0_ := bd639 k hk; have h1_ := bn641 k hk; have h2_ := bn642 k hk; omega⟩), (fun k h1 h2 => sp643 k h2 h1)⟩, by show m.length - (x.1 + 1) < m.length - x.1; omega⟩
    ·
      refine L.step (R.lssF rfl rfl (Int.not_lt.1 ht561)) rfl ?_
      refine L.nil ?_
      refine C.seq ?_
      refine C.condF rfl ?_
      refine C.exit ?_
      refine C.seq ?_
      refine C.seq ?_
      refine C.region ?_
      refine L.step (R.moveV (v := .pointer (some ⟨rd, 0, none⟩)) rfl) rfl ?_
      refine L.call (E.call1 hb21) rfl (len_disk hD9) ?_
      rintro _ w674 ⟨rfl, ew⟩
      obtain rfl := ew.symm
      obtain ⟨q9, hq9⟩ : ∃ q : Int, q = if (12 : Int) < ((Dk.safe.length : Nat) : Int) then 12 else ((Dk.safe.length : Nat) : Int) := ⟨_, rfl⟩
      have hq12 : 0 ≤ q9 ∧ q9 ≤ 12 := by rw [hq9]; split <;> omega
      refine L.step (R.min2V (v := .int .i64 q9) rfl rfl (by rw [hq9])) rfl ?_
      refine L.step (R.moveV (v := .int .i64 0) rfl) rfl ?_
      refine L.nil ?_
      refine C.block ?_
      have hxm : x.1 = m.length := by omega
      rw [hxm] at hDk hXk hsim
      have hzE := (hq).size
      refine C.loop (α := Nat) (fun j => [(5, .pointer (some ⟨rd, 0, none⟩)), (7, .pointer (some ⟨w529.heap.size, 0, none⟩)), (79, .int .i64 q9), (80, .int .i64 ((j : Nat) : Int))]) (fun j W => (j : Int) ≤ q9 ∧ w558.heap.size ≤ W.heap.size ∧ Kept (fun _ => False) w W ∧ DiskAt W rd (Dk.held j).1 x.2.1 ∧ (∃ aS cS aP cP, W.heap[w529.heap.size]? = some (blk (rcells (.slice aS (Xk.held j).safe.length cS) (.slice aP (Xk.held j).pend.length cP) (Xk.held j)) 43) ∧ RefAt W (.agg (rcells (.slice aS (Xk.held j).safe.length cS) (.slice aP (Xk.held j).pend.length cP) (Xk.held j)).toArray) (Xk.held j) x.2.2)) (fun j => (q9 - j).toNat) ⟨0, ⟨rfl, rfl, rfl, rfl, trivial⟩, ⟨by show ((0 : Nat) : Int) ≤ q9; omega, Nat.le_refl _, hq, hD9, ⟨aS, cS, aP, cP, hx7, hR9⟩⟩⟩ ?_
      intro j g676 w675 hI677
      obtain ⟨hj, hzw, hq, hD9, aS, cS, aP, cP, hx7, hR9⟩ := hI677
      have hsz := hq.size
      have hx7l := at_lt _ _ hx7
      have hsj := sim_held hsim j (by omega)
      have hfj := PD.held_few (D := Dk) j
      obtain ⟨Dj, hDj⟩ : ∃ D, D = (Dk.held j).1 := ⟨_, rfl⟩
      obtain ⟨Xj, hXj⟩ : ∃ X, X = Xk.held j := ⟨_, rfl⟩
      rw [← hDj] at hD9 hsj hfj
      rw [← hXj] at hR9 hx7 hsj
      have hj1 := hfj.ops
      have hj2 := hfj.pend
      have hj3 := hD9.ok.ops
      have hj4 : Xj.ops = Dj.ops := hsj.ops.symm
      have hj5 : Xj.pend.length = Dj.pend.length := by rw [hsj.pend]
      refine C.seq ?_
      refine C.region ?_
      rcases Classical.em ((j : Int) < q9) with hjq | hjq
      ·
        refine L.step (R.lssT rfl rfl (by omega)) rfl ?_
        refine L.nil ?_
        refine C.seq ?_
        refine C.condT rfl ?_
        refine C.skip ?_
        refine C.seq ?_
        refine C.block ?_
        refine C.seq ?_
        refine C.region ?_
        refine L.step (R.moveV (v := .int .i64 ((j : Nat) : Int)) rfl) rfl ?_
        refine L.step (R.assignV (v := .int .i64 ((j : Nat) : Int)) rfl) rfl ?_
        refine L.nil ?_
        refine C.seq ?_
        refine C.region ?_
        refine L.step (R.moveV (v := .pointer (some ⟨rd, 0, none⟩)) rfl) rfl ?_
        refine L.step (R.moveV (v := .int .i64 ((j : Nat) : Int)) rfl) rfl ?_
        refine L.call (E.call2 hb22) rfl (read_calls hD9 (by omega) (by omega) (i := (j : Int))) ?_
        rintro _ w678 ⟨rfl, hD680, hk679⟩
        have hsd := sim_read hsj (by omega) (j : Int)
        obtain ⟨bl, hbl⟩ : ∃ b, b = (Xj.read (j : Int)).2.1 := ⟨_, rfl⟩
        obtain ⟨er, her⟩ : ∃ e, e = (Xj.read (j : Int)).2.2 := ⟨_, rfl⟩
        obtain ⟨Dn, hDn9⟩ : ∃ D, D = (Dj.read (j : Int)).1 := ⟨_, rfl⟩
        obtain ⟨Xn, hXn9⟩ : ∃ X, X = (Xj.read (j : Int)).1 := ⟨_, rfl⟩
        have hbl64 : bl.length = 64 := by rw [hbl, ← hsd.1]; exact read_length hD9.ok
        rw [← hDn9, ← hXn9] at hsd
        rw [hsd.1, ← hbl, ← her]
        rw [← hDn9] at hD680
        simp only [bval]
        have k681 := Kept.old hk679 hx7 (fun hF => by have h0_ := bd1 _ hF; have h1_ := bn1 _ hF; omega)
        have hR682 := RefAt.kept hR9 hk679 (fun k h1 h2 => hsp9 k h2 h1)
        have z683 := hk679.size
        have q684 : Kept (fun _ => False) w w678 := Kept.trans hq hk679 (fun k hlt9 hk9 => by have h0_ := bd1 k hk9; have h1_ := bn1 k hk9; omega)
        refine L.step (R.moveV (v := .tuple #[.agg (List.toArray (bcells bl)), .int .i64 er]) rfl) rfl ?_
        refine L.step (R.extract (v := .agg (List.toArray (bcells bl))) rfl rfl) rfl ?_
        refine L.step (R.extract (v := .int .i64 er) rfl rfl) rfl ?_
        refine L.stepE (R.alloc z27) rfl fun w686 e685 => ?_
        have k688 := Al.new e685
        have k689 := Al.old e685 k681
        have z690 := Al.size e685
        have q691 := Al.kept e685 q684
        have hD692 := DiskAt.kept hD680 (Al.kept e685 (Kept.refl (fun _ => False) _)) (fun _ _ h => h)
        have hR693 := RefAt.kept hR682 (Al.kept e685 (Kept.refl (fun _ => False) _)) (fun _ _ h => h)
        refine L.doesE (R.storeAll (cs := bcells bl) r27 rfl rfl (bcells64 hbl64) (one_bcells _) k688 (List.length_replicate)) fun w695 e694 => ?_
        have k696 := So.old e694 (apartE k689 k688 (by decide)) k689
        have k697 := So.hit e694 k688
        have z698 := So.size e694
        have q699 := So.kept e694 q691 (fun h => absurd h (by omega))
        have hD700 := DiskAt.kept hD692 (So.kept e694 (Kept.refl (fun k => k = w678.heap.size) _) (fun _ => rfl)) (fun k hk e => by have e9 : k = w678.heap.size := e; have h0_ := bd1 k hk; have h1_ := bn1 k hk; omega)
        have hR701 := RefAt.kept hR693 (So.kept e694 (Kept.refl (fun k => k = w678.heap.size) _) (fun _ => rfl)) (fun k hk e => by have e9 : k = w678.heap.size := e; have h0_ := bd2 k hk; have h1_ := bn2 k hk; omega)
        refine L.step (R.assignV (v := .int .i64 er) rfl) rfl ?_
        refine L.nil ?_
        refine C.seq ?_
        refine C.region ?_
        refine L.stepE (R.alloc z27) rfl fun w703 e702 => ?_
        have k705 := Al.new e702
        have k706 := Al.old e702 k696
        have k707 := Al.old e702 k697
        have z708 := Al.size e702
        have q709 := Al.kept e702 q699
        have hD710 := DiskAt.kept hD700 (Al.kept e702 (Kept.refl (fun _ => False) _)) (fun _ _ h => h)
        have hR711 := RefAt.kept hR701 (Al.kept e702 (Kept.refl (fun _ => False) _)) (fun _ _ h => h)
        refine L.nil ?_
        refine C.seq ?_
        refine C.region ?_
        refine L.step (R.loadA (cs := [.slice aS Xj.safe.length cS, .slice aP Xj.pend.length cP, .bool Xj.dead, .int .i64 Xj.left, .int .i64 Xj.fails, .int .i64 Xj.ops]) r43 rfl k706 rfl rfl) rfl ?_
        refine L.step (R.moveV (v := .int .i64 ((j : Nat) : Int)) rfl) rfl ?_
        refine L.call (E.call2 hb23) rfl (rread_calls hR711 (by omega) (by omega) (i := (j : Int))) ?_
        rintro _ w712 ⟨y715, rfl, hR714, hk713⟩
        rw [← hXn9] at hR714
        rw [← hbl, ← her]
        simp only [bval]
        obtain ⟨aSi716, cSi716, aPi716, cPi716, rfl⟩ := RefAt.lits hR714
        have k717 := Kept.old hk713 k706 (fun h => h)
        have k718 := Kept.old hk713 k707 (fun h => h)
        have k719 := Kept.old hk713 k705 (fun h => h)
        have z720 := (hk713).size
        have q721 := Kept.trans q709 hk713 (fun _ _ h => h.elim)
        have hD722 := DiskAt.kept hD710 hk713 (fun _ _ h => h)
        have hR723 := RefAt.kept hR711 hk713 (fun _ _ h => h)
        refine L.step (R.moveV (v := .tuple #[.agg (List.toArray ([.slice aSi716 Xn.safe.length cSi716, .slice aPi716 Xn.pend.length cPi716, .bool Xn.dead, .int .i64 Xn.left, .int .i64 Xn.fails, .int .i64 Xn.ops])), .agg (List.toArray (bcells bl)), .int .i64 er]) rfl) rfl ?_
        refine L.step (R.extract (v := .agg (List.toArray ([.slice aSi716 Xn.safe.length cSi716, .slice aPi716 Xn.pend.length cPi716, .bool Xn.dead, .int .i64 Xn.left, .int .i64 Xn.fails, .int .i64 Xn.ops]))) rfl rfl) rfl ?_
        refine L.step (R.extract (v := .agg (List.toArray (bcells bl))) rfl rfl) rfl ?_
        refine L.step (R.extract (v := .int .i64 er) rfl rfl) rfl ?_
        refine L.doesE (R.storeAll (cs := [.slice aSi716 Xn.safe.length cSi716, .slice aPi716 Xn.pend.length cPi716, .bool Xn.dead, .int .i64 Xn.left, .int .i64 Xn.fails, .int .i64 Xn.ops]) r43 rfl rfl rfl (by simp [Value.oneCell']) k717 rfl) fun w725 e724 => ?_
        have k726 := So.hit e724 k717
        have k727 := So.old e724 (apartE k718 k717 (by decide)) k718
        have k728 := So.old e724 (apartE k719 k717 (by decide)) k719
        have z729 := So.size e724
        have q730 := So.kept e724 q721 (fun h => absurd h (by omega))
        have hD731 := DiskAt.kept hD722 (So.kept e724 (Kept.refl (fun k => k = w529.heap.size) _) (fun _ => rfl)) (fun k hk e => by have e9 : k = w529.heap.size := e; have h0_ := bd1 k hk; have h1_ := bn1 k hk; omega)
        have hR732 := RefAt.kept hR714 (So.kept e724 (Kept.refl (fun k => k = w529.heap.size) _) (fun _ => rfl)) (fun k hk e => by have e9 : k = w529.heap.size := e; have h0_ := bd2 k hk; have h1_ := bn2 k hk; omega)
        refine L.doesE (R.storeAll (cs := bcells bl) r27 rfl rfl (bcells64 hbl64) (one_bcells _) k728 (List.length_replicate)) fun w734 e733 => ?_
        have k735 := So.old e733 (apartE k726 k728 (by decide)) k726
        have k736 := So.old e733 (by omega) k727
        have k737 := So.hit e733 k728
        have z738 := So.size e733
        have q739 := So.kept e733 q730 (fun h => absurd h (by omega))
        have hD740 := DiskAt.kept hD731 (So.kept e733 (Kept.refl (fun k => k = w695.heap.size) _) (fun _ => rfl)) (fun k hk e => by have e9 : k = w695.heap.size := e; have h0_ := bd1 k hk; have h1_ := bn1 k hk; omega)
        have hR741 := RefAt.kept hR732 (So.kept e733 (Kept.refl (fun k => k = w695.heap.size) _) (fun _ => rfl)) (fun k hk e => by have e9 : k = w695.heap.size := e; have h0_ := bd2 k hk; have h1_ := bn2 k hk; omega)
        refine L.step (R.assignV (v := .int .i64 er) rfl) rfl ?_
        refine L.nil ?_
        refine C.seq ?_
        refine C.region ?_
        refine L.step (R.loadA (cs := bcells bl) r27 rfl k736 (List.take_of_length_le (Nat.le_of_eq (bcells64 hbl64))) (bcells64 hbl64)) rfl ?_
        refine L.step (R.loadA (cs := bcells bl) r27 rfl k737 (List.take_of_length_le (Nat.le_of_eq (bcells64 hbl64))) (bcells64 hbl64)) rfl ?_
        refine L.step (R.neqAV (A := bl) (B := bl) (b := false) Try.underlying27 Try.underlying5 n5 gd27 rfl rfl hbl64 hbl64 (by rw [decide_eq_true rfl]; rfl)) rfl ?_
        refine L.step (R.moveV (v := .bool false) rfl) rfl ?_
        refine L.yes rfl rfl rfl ?_
        refine L.step (R.moveV (v := .int .i64 er) rfl) rfl ?_
        refine L.yes rfl rfl rfl ?_
        refine L.step (R.moveV (v := .int .i64 er) rfl) rfl ?_
        refine L.yes rfl rfl rfl ?_
        refine L.step (R.neqF rfl rfl (rfl)) rfl ?_
        refine L.step (R.pickFV (v := .bool false) rfl rfl) rfl ?_
        refine L.nil ?_
        refine C.condF rfl ?_
        refine C.skip ?_
        refine C.region ?_
        refine L.step (R.add rfl rfl (by omega)) rfl ?_
        refine L.step (R.moveV (v := .int .i64 (((j : Nat) : Int) + 1)) rfl) rfl ?_
        refine L.nil ?_
        refine thenP.mk ⟨j + 1, ⟨rfl, rfl, rfl, rfl, trivial⟩, ⟨by show ((j + 1 : Nat) : Int) ≤ q9; omega, by omega, q739, by show DiskAt _ _ ((Dk.held j).1.read (j : Int)).1 _; rw [← hDj, ← hDn9]; exact hD740, by
          show (∃ aS cS aP cP, w734.heap[w529.heap.size]? = some (blk (rcells (.slice aS ((Xk.held j).read (j : Int)).1.safe.length cS) (.slice aP ((Xk.held j).read (j : Int)).1.pend.length cP) ((Xk.held j).read (j : Int)).1) 43) ∧ RefAt w734 (.agg (rcells (.slice aS ((Xk.held j).read (j : Int)).1.safe.length cS) (.slice aP ((Xk.held j).read (j : Int)).1.pend.length cP) ((Xk.held j).read (j : Int)).1).toArray) ((Xk.held j).read (j : Int)).1 x.2.2)
          rw [← hXj, ← hXn9]
          exact ⟨aSi716, cSi716, aPi716, cPi716, k735, hR741⟩⟩, by show (q9 - ((j + 1 : Nat) : Int)).toNat < (q9 - j).toNat; omega⟩
      ·
        refine L.step (R.lssF rfl rfl (by omega)) rfl ?_
        refine L.nil ?_
        refine C.seq ?_
        refine C.condF rfl ?_
        refine C.exit ?_
        refine C.seq ?_
        refine C.region ?_
        refine L.step (R.assignV (v := .bool true) rfl) rfl ?_
        refine L.nil ?_
        refine C.ret (?_ : RetOk _ _ _ _ _)
        refine RetOk.tV (v := .bool true) rfl rfl ?_
        exact ⟨rfl, hq⟩
end Go.Proofs.Ytpblppilknkdoaa
