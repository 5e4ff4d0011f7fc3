/- DiskCopies: the walk. -/
import Derived.Test.YtpblppilknkdoaaD26
namespace Go.Proofs.Ytpblppilknkdoaa
open Go Go.Eng Go.Proofs
attribute [local irreducible] Go.Eng.C Go.Eng.L Go.Eng.Ret Go.Eng.Run Go.Eng.Does Go.Eng.Enters Go.Eng.AH Go.Eng.AO Go.Eng.RetOk
set_option maxHeartbeats 16000000 in
theorem diskcopies_calls {w : World} {lv1 lv2 lv3 : Value} {l1 l2 l3 : List OpV} {N1 N2 N3 : Nat} (h1 : OpsAt w lv1 l1 N1) (h2 : OpsAt w lv2 l2 N2) (h3 : OpsAt w lv3 l3 N3) (hN1 : N1 ≤ w.heap.size) (hN2 : N2 ≤ w.heap.size) (hN3 : N3 ≤ w.heap.size)
    (hbig1 : l1.length ≤ 9223372036854775807) (hbig2 : l2.length ≤ 9223372036854775807) (hbig3 : l3.length ≤ 9223372036854775807) :
    Ret Try.prog 8 #[lv1, lv2, lv3] w fun v w' => v = .bool true ∧ Kept (fun _ => False) w w' := by
  obtain ⟨a1, c1, rfl, hc1⟩ := h1.shape
  obtain ⟨m1, hm1⟩ : ∃ m, m = l1.take 120 := ⟨_, rfl⟩
  have hml1 : m1.length ≤ 120 := by rw [hm1, List.length_take]; omega
  have hops1 := h1.first rfl
  rw [← hm1] at hops1
  obtain ⟨a2, c2, rfl, hc2⟩ := h2.shape
  obtain ⟨m2, hm2⟩ : ∃ m, m = l2.take 120 := ⟨_, rfl⟩
  have hml2 : m2.length ≤ 120 := by rw [hm2, List.length_take]; omega
  have hops2 := h2.first rfl
  rw [← hm2] at hops2
  obtain ⟨a3, c3, rfl, hc3⟩ := h3.shape
  obtain ⟨m3, hm3⟩ : ∃ m, m = l3.take 120 := ⟨_, rfl⟩
  have hml3 : m3.length ≤ 120 := by rw [hm3, List.length_take]; omega
  have hops3 := h3.first rfl
  rw [← hm3] at hops3
  have hq := Kept.refl (fun _ => False) w
  refine Ret.intro [.slice a1 l1.length c1, .slice a2 l2.length c2, .slice a3 l3.length c3] Try.func8 rfl rfl ?_
  refine C.seq ?_
  refine C.region ?_
  refine L.step (R.assignV (v := .bool false) rfl) rfl ?_
  refine L.nil ?_
  refine C.seq ?_
  refine C.seq ?_
  refine C.region ?_
  refine L.call (E.call0 hb10) rfl wakes_calls ?_
  rintro _ w501 ⟨rfl, hk502⟩
  have z503 := (hk502).size
  have q504 := Kept.trans hq hk502 (fun _ _ h => h.elim)
  refine L.step (R.notV (v := .bool false) rfl rfl) rfl ?_
  refine L.nil ?_
  refine C.condF rfl ?_
  refine C.skip ?_
  refine C.seq ?_
  refine C.region ?_
  refine L.call (E.call1 hb16) rfl (new_good (n := 6) (by decide) (by decide)) ?_
  rintro _ w505 ⟨rd, rfl, hrd, hD507, hk506⟩
  have z508 := (hk506).size
  have q509 := Kept.trans q504 hk506 (fun _ _ h => h.elim)
  have hD507 : DiskAt w505 rd (PD.new 6) (grow (fun _ => False) w501 w505) := hD507
  have hzk := (q509).size
  obtain ⟨F510, eF510⟩ : ∃ G, G = grow (fun _ => False) w501 w505 := ⟨_, rfl⟩
  rw [← eF510] at hD507
  have mm512 : ∀ k, F510 k → (fun _ => False) k ∨ (w501.heap.size ≤ k ∧ k < w505.heap.size) := fun k hk => by rw [eF510] at hk; exact hk
  have bd511 : ∀ k, F510 k → w.heap.size ≤ k ∧ k < w505.heap.size := fun k hk => by
    have hz9 := (q509).size
    rcases mm512 k hk with h | h
    · exact h.elim
    · omega
  refine L.step (R.moveV (v := .tuple #[.pointer (some ⟨rd, 0, none⟩), .int .i64 0]) rfl) rfl ?_
  refine L.step (R.extract (v := .pointer (some ⟨rd, 0, none⟩)) rfl rfl) rfl ?_
  refine L.step (R.extract (v := .int .i64 0) rfl rfl) rfl ?_
  refine L.step (R.assignV (v := .pointer (some ⟨rd, 0, none⟩)) rfl) rfl ?_
  refine L.step (R.assignV (v := .int .i64 0) rfl) rfl ?_
  refine L.nil ?_
  refine C.seq ?_
  refine C.region ?_
  refine L.call (E.call1 hb17) rfl (rnew_good (n := 6) (by decide) (by decide)) ?_
  rintro _ w513 ⟨y516, rfl, hR515, hk514⟩
  have hR515 : RefAt w513 y516 (RD.new 6) (grow (fun _ => False) w505 w513) := hR515
  obtain ⟨aS0, cS0, aP0, cP0, rfl⟩ := RefAt.lits hR515
  have z517 := (hk514).size
  have q518 := Kept.trans q509 hk514 (fun _ _ h => h.elim)
  have hD519 := DiskAt.kept hD507 hk514 (fun _ _ h => h)
  obtain ⟨F520, eF520⟩ : ∃ G, G = grow (fun _ => False) w505 w513 := ⟨_, rfl⟩
  rw [← eF520] at hR515
  have mm522 : ∀ k, F520 k → (fun _ => False) k ∨ (w505.heap.size ≤ k ∧ k < w513.heap.size) := fun k hk => by rw [eF520] at hk; exact hk
  have bd521 : ∀ k, F520 k → w.heap.size ≤ k ∧ k < w513.heap.size := fun k hk => by
    have hz9 := (q518).size
    rcases mm522 k hk with h | h
    · exact h.elim
    · omega
  have sp523 : ∀ k, F520 k → ¬ F510 k := fun k hk hy => by
    rcases mm522 k hk with h | h
    · exact h.elim
    · have h0_ := bd511 k hy; omega
  refine L.step (R.moveV (v := .tuple #[.agg (List.toArray ([.slice aS0 ((RD.new 6).safe.length) cS0, .slice aP0 ((RD.new 6).pend.length) cP0, .bool ((RD.new 6).dead), .int .i64 ((RD.new 6).left), .int .i64 ((RD.new 6).fails), .int .i64 ((RD.new 6).ops)])), .int .i64 0]) rfl) rfl ?_
  refine L.step (R.extract (v := .agg (List.toArray ([.slice aS0 ((RD.new 6).safe.length) cS0, .slice aP0 ((RD.new 6).pend.length) cP0, .bool ((RD.new 6).dead), .int .i64 ((RD.new 6).left), .int .i64 ((RD.new 6).fails), .int .i64 ((RD.new 6).ops)]))) rfl rfl) rfl ?_
  refine L.step (R.extract (v := .int .i64 0) rfl rfl) rfl ?_
  refine L.stepE (R.alloc z43) rfl fun w525 e524 => ?_
  have hb526 := (q518).size
  have k528 := Al.new e524
  have z529 := Al.size e524
  have q530 := Al.kept e524 q518
  have hD531 := DiskAt.kept hD519 (Al.kept e524 (Kept.refl (fun _ => False) _)) (fun _ _ h => h)
  have hR532 := RefAt.kept hR515 (Al.kept e524 (Kept.refl (fun _ => False) _)) (fun _ _ h => h)
  have bn533 : ∀ k, F510 k → k ≠ w513.heap.size := fun k hk => by have h0_ := bd511 k hk; omega
  have bn534 : ∀ k, F520 k → k ≠ w513.heap.size := fun k hk => by have h0_ := bd521 k hk; omega
  refine L.doesE (R.storeAll (cs := [.slice aS0 ((RD.new 6).safe.length) cS0, .slice aP0 ((RD.new 6).pend.length) cP0, .bool ((RD.new 6).dead), .int .i64 ((RD.new 6).left), .int .i64 ((RD.new 6).fails), .int .i64 ((RD.new 6).ops)]) r43 rfl rfl rfl (by simp [Value.oneCell']) k528 rfl) fun w536 e535 => ?_
  have k537 := So.hit e535 k528
  have z538 := So.size e535
  have q539 := So.kept e535 q530 (fun h => absurd h (by omega))
  have hD540 := DiskAt.kept hD531 (So.kept e535 (Kept.refl (fun k => k = w513.heap.size) _) (fun _ => rfl)) (fun k hk e => by have e9 : k = w513.heap.size := e; have h0_ := bd511 k hk; have h1_ := bn533 k hk; omega)
  have hR541 := RefAt.kept hR532 (So.kept e535 (Kept.refl (fun k => k = w513.heap.size) _) (fun _ => rfl)) (fun k hk e => by have e9 : k = w513.heap.size := e; have h0_ := bd521 k hk; have h1_ := bn534 k hk; omega)
  refine L.step (R.assignV (v := .int .i64 0) rfl) rfl ?_
  refine L.nil ?_
  refine C.seq ?_
  refine C.seq ?_
  refine C.region ?_
  refine L.step (R.moveV (v := .int .i64 0) rfl) rfl ?_
  refine L.step (R.neqF rfl rfl (by omega)) rfl ?_
  refine L.step (R.moveV (v := .bool false) rfl) rfl ?_
  refine L.yes rfl rfl rfl ?_
  refine L.step (R.moveV (v := .int .i64 0) rfl) rfl ?_
  refine L.yes rfl rfl rfl ?_
  refine L.step (R.neqF rfl rfl (by omega)) rfl ?_
  refine L.step (R.pickFV (v := .bool false) rfl rfl) rfl ?_
  refine L.nil ?_
  refine C.condF rfl ?_
  refine C.skip ?_
  refine C.seq ?_
  refine C.seq ?_
  refine C.region ?_
  refine L.step (R.moveV (v := .slice a1 l1.length c1) rfl) rfl ?_
  refine L.call (E.call1 hb12) rfl (few_calls (m := m1.length) hc1 (by omega) (by rw [hm1, List.length_take, Nat.min_comm])) ?_
  rintro _ w542 ⟨rfl, ew⟩
  obtain rfl := ew.symm
  refine L.step (R.lenV (v := .int .i64 ((m1.length : Nat) : Int)) Try.underlying22 rfl rfl) rfl ?_
  refine L.step (R.moveV (v := .int .i64 0) rfl) rfl ?_
  refine L.nil ?_
  refine C.block ?_
  have hsw9 := (q539).size
  refine C.loop (α := Nat × (Nat → Prop) × (Nat → Prop)) (fun x => [(1, .slice a2 l2.length c2), (2, .slice a3 l3.length c3), (7, .pointer (some ⟨rd, 0, none⟩)), (9, .pointer (some ⟨w513.heap.size, 0, none⟩)), (39, .slice a1 m1.length c1), (40, .int .i64 ((m1.length : Nat) : Int)), (41, .int .i64 ((x.1 : Nat) : Int))]) (fun x W => x.1 ≤ m1.length ∧ Kept (fun _ => False) w W ∧ DiskAt W rd ((PD.new 6).run (m1.take x.1)) x.2.1 ∧ (∃ aS cS aP cP, W.heap[w513.heap.size]? = some (blk (rcells (.slice aS ((RD.new 6).run (m1.take x.1)).safe.length cS) (.slice aP ((RD.new 6).run (m1.take x.1)).pend.length cP) ((RD.new 6).run (m1.take x.1))) 43) ∧ RefAt W (.agg (rcells (.slice aS ((RD.new 6).run (m1.take x.1)).safe.length cS) (.slice aP ((RD.new 6).run (m1.take x.1)).pend.length cP) ((RD.new 6).run (m1.take x.1))).toArray) ((RD.new 6).run (m1.take x.1)) x.2.2) ∧ (∀ k, x.2.1 k → w.heap.size ≤ k ∧ k < W.heap.size ∧ k ≠ w513.heap.size) ∧ (∀ k, x.2.2 k → w.heap.size ≤ k ∧ k < W.heap.size ∧ k ≠ w513.heap.size) ∧ (∀ k, x.2.1 k → ¬ x.2.2 k)) (fun x => m1.length - x.1) ⟨(0, F510, F520), ⟨rfl, rfl, rfl, rfl, rfl, rfl, rfl, trivial⟩, ⟨Nat.zero_le _, q539, hD540, ⟨aS0, cS0, aP0, cP0, k537, hR541⟩, (fun k hk => ⟨by have h0_ := bd511 k hk; have h1_ := bn533 k hk; omega, by have h0_ := bd511 k hk; have h1_ := bn533 k hk; omega, by have h0_ := bd511 k hk; have h1_ := bn533 k hk; omega⟩), (fun k hk => ⟨by have h0_ := bd521 k hk; have h1_ := bn534 k hk; omega, by have h0_ := bd521 k hk; have h1_ := bn534 k hk; omega, by have h0_ := bd521 k hk; have h1_ := bn534 k hk; omega⟩), (fun k h1 h2 => sp523 k h2 h1)⟩⟩ ?_
  intro x g544 w543 hI545
  obtain ⟨hk1, hq1, hd1, ⟨aSx1, cSx1, aPx1, cPx1, hbx1, hx1⟩, hBd1, hBx1, hSdx1⟩ := hI545
  have hsz1 := hq1.size
  have bdd1 : ∀ k, x.2.1 k → w.heap.size ≤ k ∧ k < w543.heap.size := fun k hk => ⟨(hBd1 k hk).1, (hBd1 k hk).2.1⟩
  have bnd1_0 : ∀ k, x.2.1 k → k ≠ w513.heap.size := fun k hk => (hBd1 k hk).2.2
  have bdx1 : ∀ k, x.2.2 k → w.heap.size ≤ k ∧ k < w543.heap.size := fun k hk => ⟨(hBx1 k hk).1, (hBx1 k hk).2.1⟩
  have bnx1_0 : ∀ k, x.2.2 k → k ≠ w513.heap.size := fun k hk => (hBx1 k hk).2.2
  have hsim := sim_run (sim_new 6) (m := m1) (by omega) x.1 hk1
  have hfw1 := wakes_few (D := (PD.new 6)) hk1
  rw [Nat.zero_add] at hsim
  obtain ⟨Dk, hDDk⟩ : ∃ D, D = ((PD.new 6).run (m1.take x.1)) := ⟨_, rfl⟩
  obtain ⟨Xk, hXXk⟩ : ∃ X, X = ((RD.new 6).run (m1.take x.1)) := ⟨_, rfl⟩
  rw [← hDDk] at hd1 hsim hfw1
  rw [← hXXk] at hx1 hbx1 hsim
  have hf0 : (PD.new 6).ops = 0 := rfl
  have hf1 : (PD.new 6).pend.length = 0 := rfl
  have hf6 : (PD.new 6).safe.length = 6 := rfl
  have hf21 := hd1.ok.ops
  have hf31 : Xk.ops = Dk.ops := hsim.ops.symm
  have hf41 : Xk.pend.length = Dk.pend.length := by rw [hsim.pend]
  have hf51 : Xk.safe.length = Dk.safe.length := by rw [hsim.safe]
  have hblx1 := at_lt _ _ hbx1
  refine C.seq ?_
  refine C.region ?_
  rcases Classical.em (((x.1 : Nat) : Int) < ((m1.length : Nat) : Int)) with ht546 | ht546
  ·
    refine L.step (R.lssT rfl rfl (ht546)) rfl ?_
    refine L.nil ?_
    refine C.seq ?_
    refine C.condT rfl ?_
    refine C.skip ?_
    refine C.seq ?_
    refine C.block ?_
    refine C.seq ?_
    refine C.region ?_
    obtain ⟨bo, oo, hao, hbo, hcell0⟩ := hops1.blockA (by omega)
    have hcellW := (hops1.kept hq1 (fun _ _ h => h))
    obtain ⟨o1, ho1⟩ : ∃ y, m1[x.1]? = some y := ⟨_, List.getElem?_eq_getElem (by omega)⟩
    have hoko1 := (hcell0 _ _ ho1).2
    have hsl : a1 = some ⟨bo, oo, none⟩ := hao
    obtain ⟨bo2, oo2, hao2, _, hcellW⟩ := hcellW.blockA (by omega)
    have hcx := (hcellW _ _ ho1).1
    have hbb : bo2 = bo ∧ oo2 = oo := by rw [hao] at hao2; cases hao2; exact ⟨rfl, rfl⟩
    obtain ⟨rfl, rfl⟩ := hbb
    refine L.step (R.indexAddrV (m := x.1) (o2 := oo2 + x.1 * 4) (b := bo2) (o := oo2) (len := m1.length) (cap := c1) s22 (by show Value.slice a1 m1.length c1 = _; rw [hao]) rfl rfl (by omega) rfl) rfl ?_
    refine L.step (R.loadCA (cs := o1.cells) r32 rfl hcx rfl) rfl ?_
    refine L.stepE (R.alloc z32) rfl fun w548 e547 => ?_
    have k550 := Al.new e547
    have k551 := Al.old e547 hbx1
    have z552 := Al.size e547
    have q553 := Al.kept e547 hq1
    have hD554 := DiskAt.kept hd1 (Al.kept e547 (Kept.refl (fun _ => False) _)) (fun _ _ h => h)
    have hR555 := RefAt.kept hx1 (Al.kept e547 (Kept.refl (fun _ => False) _)) (fun _ _ h => h)
    refine L.doesE (R.storeAll (cs := o1.cells) r32 rfl rfl rfl (hoko1.ones) k550 rfl) fun w557 e556 => ?_
    have k558 := So.old e556 (apartE k551 k550 (by decide)) k551
    have k559 := So.hit e556 k550
    have z560 := So.size e556
    have q561 := So.kept e556 q553 (fun h => absurd h (by omega))
    have hD562 := DiskAt.kept hD554 (So.kept e556 (Kept.refl (fun k => k = w543.heap.size) _) (fun _ => rfl)) (fun k hk e => by have e9 : k = w543.heap.size := e; have h0_ := bdd1 k hk; have h1_ := bnd1_0 k hk; omega)
    have hR563 := RefAt.kept hR555 (So.kept e556 (Kept.refl (fun k => k = w543.heap.size) _) (fun _ => rfl)) (fun k hk e => by have e9 : k = w543.heap.size := e; have h0_ := bdx1 k hk; have h1_ := bnx1_0 k hk; omega)
    refine L.nil ?_
    refine C.seq ?_
    refine C.region ?_
    refine L.step (R.moveV (v := .pointer (some ⟨rd, 0, none⟩)) rfl) rfl ?_
    refine L.step (R.loadA (cs := o1.cells) r32 rfl k559 rfl rfl) rfl ?_
    refine L.call (E.call2 hb18) rfl (does_calls (o := o1.o) hD562 (by omega) (by omega) (hoko1.bools.kept q561 (fun _ _ h => h)) hoko1.len hoko1.at_ (fun k hk => by have h0_ := bdd1 k hk; have h1_ := bnd1_0 k hk; omega)) ?_
    rintro _ w564 ⟨rfl, hD566, hk565⟩
    have hsd := sim_does hsim (by omega) o1.o
    obtain ⟨bl, hbl⟩ : ∃ b, b = (Xk.want o1.o).2.1 := ⟨_, rfl⟩
    obtain ⟨er, her⟩ : ∃ e, e = (Xk.want o1.o).2.2 := ⟨_, rfl⟩
    obtain ⟨Dn, hDn9⟩ : ∃ D, D = (Dk.does o1.o).1 := ⟨_, rfl⟩
    obtain ⟨Xn, hXn9⟩ : ∃ X, X = (Xk.want o1.o).1 := ⟨_, rfl⟩
    have hbl64 : bl.length = 64 := by rw [hbl, ← hsd.1]; exact does_len2 hD562.ok
    rw [← hDn9, ← hXn9] at hsd
    rw [hsd.1, ← hbl, ← her]
    rw [← hDn9] at hD566
    simp only [bval]
    have k567 := Kept.old hk565 k558 (fun hF => by have h0_ := bdd1 _ hF; have h1_ := bnd1_0 _ hF; omega)
    have k568 := Kept.old hk565 k559 (fun hF => by have h0_ := bdd1 _ hF; have h1_ := bnd1_0 _ hF; omega)
    have hR569 := RefAt.kept hR563 hk565 (fun k h1 h2 => hSdx1 k h2 h1)
    have z570 := hk565.size
    have q571 : Kept (fun _ => False) w w564 := Kept.trans q561 hk565 (fun k hlt9 hk9 => by have h0_ := bdd1 k hk9; have h1_ := bnd1_0 k hk9; omega)
    obtain ⟨F572, eF572⟩ : ∃ G, G = grow x.2.1 w557 w564 := ⟨_, rfl⟩
    rw [← eF572] at hD566
    have mm574 : ∀ k, F572 k → x.2.1 k ∨ (w557.heap.size ≤ k ∧ k < w564.heap.size) := fun k hk => by rw [eF572] at hk; exact hk
    have bd573 : ∀ k, F572 k → w.heap.size ≤ k ∧ k < w564.heap.size := fun k hk => by
      have hz9 := (q571).size
      rcases mm574 k hk with h | h
      · have h0_ := bdd1 k h; have h1_ := bnd1_0 k h; omega
      · omega
    have bn575 : ∀ k, F572 k → k ≠ w513.heap.size := fun k hk => by
      rcases mm574 k hk with h | h
      · have h0_ := bdd1 k h; have h1_ := bnd1_0 k h; omega
      · omega
    have sp576 : ∀ k, F572 k → ¬ x.2.2 k := fun k hk hy => by
      rcases mm574 k hk with h | h
      · exact hSdx1 k h hy
      · have h0_ := bdx1 k hy; have h1_ := bnx1_0 k hy; omega
    refine L.nil ?_
    refine C.region ?_
    refine L.step (R.loadA (cs := [.slice aSx1 Xk.safe.length cSx1, .slice aPx1 Xk.pend.length cPx1, .bool Xk.dead, .int .i64 Xk.left, .int .i64 Xk.fails, .int .i64 Xk.ops]) r43 rfl k567 rfl rfl) rfl ?_
    refine L.step (R.loadA (cs := o1.cells) r32 rfl k568 rfl rfl) rfl ?_
    refine L.call (E.call2 hb19) rfl (want_calls (o := o1.o) hR569 (fun k hk => by have h0_ := bdx1 k hk; have h1_ := bnx1_0 k hk; omega) (hoko1.bools.kept q571 (fun _ _ h => h)) hoko1.len hoko1.at_ (by omega) (by omega) (by omega)) ?_
    rintro _ w577 ⟨y580, rfl, hR579, hk578⟩
    rw [← hXn9] at hR579
    rw [← hbl, ← her]
    simp only [bval]
    obtain ⟨aSi581, cSi581, aPi581, cPi581, rfl⟩ := RefAt.lits hR579
    have k582 := Kept.old hk578 k567 (fun h => h)
    have k583 := Kept.old hk578 k568 (fun h => h)
    have z584 := (hk578).size
    have q585 := Kept.trans q571 hk578 (fun _ _ h => h.elim)
    have hD586 := DiskAt.kept hD566 hk578 (fun _ _ h => h)
    have hR587 := RefAt.kept hR569 hk578 (fun _ _ h => h)
    have z588 := hk578.size
    obtain ⟨F589, eF589⟩ : ∃ G, G = grow x.2.2 w564 w577 := ⟨_, rfl⟩
    rw [← eF589] at hR579
    have mm591 : ∀ k, F589 k → x.2.2 k ∨ (w564.heap.size ≤ k ∧ k < w577.heap.size) := fun k hk => by rw [eF589] at hk; exact hk
    have bd590 : ∀ k, F589 k → w.heap.size ≤ k ∧ k < w577.heap.size := fun k hk => by
      have hz9 := (q585).size
      rcases mm591 k hk with h | h
      · have h0_ := bdx1 k h; have h1_ := bnx1_0 k h; omega
      · omega
    have bn592 : ∀ k, F589 k → k ≠ w513.heap.size := fun k hk => by
      rcases mm591 k hk with h | h
      · have h0_ := bdx1 k h; have h1_ := bnx1_0 k h; omega
      · omega
    have sp593 : ∀ k, F589 k → ¬ F572 k := fun k hk hy => by
      rcases mm591 k hk with h | h
      · exact (fun k h1 h2 => sp576 k h2 h1) k h hy
      · have h0_ := bd573 k hy; have h1_ := bn575 k hy; omega
    refine L.step (R.moveV (v := .tuple #[.agg (List.toArray ([.slice aSi581 Xn.safe.length cSi581, .slice aPi581 Xn.pend.length cPi581, .bool Xn.dead, .int .i64 Xn.left, .int .i64 Xn.fails, .int .i64 Xn.ops])), .agg (List.toArray (bcells bl)), .int .i64 er]) rfl) rfl ?_
    refine L.step (R.extract (v := .agg (List.toArray ([.slice aSi581 Xn.safe.length cSi581, .slice aPi581 Xn.pend.length cPi581, .bool Xn.dead, .int .i64 Xn.left, .int .i64 Xn.fails, .int .i64 Xn.ops]))) rfl rfl) rfl ?_
    refine L.step (R.extract (v := .agg (List.toArray (bcells bl))) rfl rfl) rfl ?_
    refine L.step (R.extract (v := .int .i64 er) rfl rfl) rfl ?_
    refine L.doesE (R.storeAll (cs := [.slice aSi581 Xn.safe.length cSi581, .slice aPi581 Xn.pend.length cPi581, .bool Xn.dead, .int .i64 Xn.left, .int .i64 Xn.fails, .int .i64 Xn.ops]) r43 rfl rfl rfl (by simp [Value.oneCell']) k582 rfl) fun w595 e594 => ?_
    have k596 := So.hit e594 k582
    have k597 := So.old e594 (apartE k583 k582 (by decide)) k583
    have z598 := So.size e594
    have q599 := So.kept e594 q585 (fun h => absurd h (by omega))
    have hD600 := DiskAt.kept hD586 (So.kept e594 (Kept.refl (fun k => k = w513.heap.size) _) (fun _ => rfl)) (fun k hk e => by have e9 : k = w513.heap.size := e; have h0_ := bd573 k hk; have h1_ := bn575 k hk; omega)
    have hR601 := RefAt.kept hR579 (So.kept e594 (Kept.refl (fun k => k = w513.heap.size) _) (fun _ => rfl)) (fun k hk e => by have e9 : k = w513.heap.size := e; have h0_ := bd590 k hk; have h1_ := bn592 k hk; omega)
    refine L.nil ?_
    refine C.region ?_
    refine L.step (R.add rfl rfl (by omega)) rfl ?_
    refine L.step (R.moveV (v := .int .i64 (((x.1 : Nat) : Int) + 1)) rfl) rfl ?_
    refine L.nil ?_
    have hsq := (q599).size
    have hDn : Dn = ((PD.new 6).run (m1.take (x.1 + 1))) := by rw [PD.run_succ ho1, hDn9, hDDk]
    have hXn : Xn = ((RD.new 6).run (m1.take (x.1 + 1))) := by rw [RD.run_succ ho1, hXn9, hXXk]
    refine thenP.mk ⟨(x.1 + 1, F572, F589), ⟨rfl, rfl, rfl, rfl, rfl, rfl, rfl, trivial⟩, ⟨by show x.1 + 1 ≤ _; omega, q599, by show DiskAt w595 rd ((PD.new 6).run (m1.take (x.1 + 1))) F572; rw [← hDn]; exact hD600, by show (∃ aS cS aP cP, w595.heap[w513.heap.size]? = some (blk (rcells (.slice aS ((RD.new 6).run (m1.take (x.1 + 1))).safe.length cS) (.slice aP ((RD.new 6).run (m1.take (x.1 + 1))).pend.length cP) ((RD.new 6).run (m1.take (x.1 + 1)))) 43) ∧ RefAt w595 (.agg (rcells (.slice aS ((RD.new 6).run (m1.take (x.1 + 1))).safe.length cS) (.slice aP ((RD.new 6).run (m1.take (x.1 + 1))).pend.length cP) ((RD.new 6).run (m1.take (x.1 + 1)))).toArray) ((RD.new 6).run (m1.take (x.1 + 1))) F589); rw [← hXn]; exact ⟨aSi581, cSi581, aPi581, cPi581, k596, hR601⟩, (fun k hk => ⟨by have h0_ := bd573 k hk; have h1_ := bn575 k hk; omega, by have h0_ := bd573 k hk; have h1_ := bn575 k hk; omega, by have h0_ := bd573 k hk; have h1_ := bn575 k hk; omega⟩), (fun k hk => ⟨by have h0_ := bd590 k hk; have h1_ := bn592 k hk; omega, by have h0_ := bd590 k hk; have h1_ := bn592 k hk; omega, by have h0_ := bd590 k hk; have h1_ := bn592 k hk; omega⟩), (fun k h1 h2 => sp593 k h2 h1)⟩, by show m1.length - (x.1 + 1) < m1.length - x.1; omega⟩
  ·
    refine L.step (R.lssF rfl rfl (Int.not_lt.1 ht546)) rfl ?_
    refine L.nil ?_
    refine C.seq ?_
    refine C.condF rfl ?_
    refine C.exit ?_
    refine C.seq ?_
    refine C.drawE (fun W : World => W.heap[w513.heap.size]? = some (blk ([.slice aSx1 Xk.safe.length cSx1, .slice aPx1 Xk.pend.length cPx1, .bool Xk.dead, .int .i64 Xk.left, .int .i64 Xk.fails, .int .i64 Xk.ops]) 43)) (fun _ => true) mixed fun w602 e603 => ?_
    have k604 := Dr.old e603 hbx1
    have z605 := Dr.size e603
    have q606 := Dr.kept e603 hq1
    have hD607 := DiskAt.kept hd1 (Dr.kept e603 (Kept.refl (fun _ => False) _)) (fun _ _ h => h)
    have hR608 := RefAt.kept hx1 (Dr.kept e603 (Kept.refl (fun _ => False) _)) (fun _ _ h => h)
    refine AH.take 0 rfl (by kernel_rfl) (by kernel_rfl) (by kernel_rfl) (by kernel_rfl) (fun _ _ _ h => h) rfl trivial (fun _ hS => (R.moveV (v := .pointer (some ⟨rd, 0, none⟩)) rfl)) k604 ?_
    refine AH.take 2 rfl (by kernel_rfl) (by kernel_rfl) (by kernel_rfl) (by kernel_rfl) (fun _ _ _ h => h) rfl trivial (fun _ hS => (R.loadA (cs := [.slice aSx1 Xk.safe.length cSx1, .slice aPx1 Xk.pend.length cPx1, .bool Xk.dead, .int .i64 Xk.left, .int .i64 Xk.fails, .int .i64 Xk.ops]) r43 rfl hS rfl rfl)) k604 ?_
    refine AH.all (rs := [1, 3]) (by kernel_rfl) (by decide) (fun i hi => ?_)
    simp only [List.mem_cons, List.not_mem_nil, or_false] at hi
    rcases hi with rfl | rfl
    ·
      have hz32 := (q606).size
      refine (AO.call rfl trivial (E.call1 hb32) rfl (copy_calls hD607 (by omega) (by omega)) ?_)
      rintro _ w609 ⟨rc, rfl, hge, hD611, hk610⟩
      have k612 := Kept.old hk610 k604 (fun h => h)
      have z613 := (hk610).size
      have q614 := Kept.trans q606 hk610 (fun _ _ h => h.elim)
      have hD615 := DiskAt.kept hD607 hk610 (fun _ _ h => h)
      have hR616 := RefAt.kept hR608 hk610 (fun _ _ h => h)
      obtain ⟨F617, eF617⟩ : ∃ G, G = grow (fun _ => False) w602 w609 := ⟨_, rfl⟩
      rw [← eF617] at hD611
      have mm619 : ∀ k, F617 k → (fun _ => False) k ∨ (w602.heap.size ≤ k ∧ k < w609.heap.size) := fun k hk => by rw [eF617] at hk; exact hk
      have bd618 : ∀ k, F617 k → w.heap.size ≤ k ∧ k < w609.heap.size := fun k hk => by
        have hz9 := (q614).size
        rcases mm619 k hk with h | h
        · exact h.elim
        · omega
      have bn620 : ∀ k, F617 k → k ≠ w513.heap.size := fun k hk => by
        rcases mm619 k hk with h | h
        · exact h.elim
        · omega
      have sp621 : ∀ k, F617 k → ¬ x.2.1 k := fun k hk hy => by
        rcases mm619 k hk with h | h
        · exact h.elim
        · have h0_ := bdd1 k hy; have h1_ := bnd1_0 k hy; omega
      have sp622 : ∀ k, F617 k → ¬ x.2.2 k := fun k hk hy => by
        rcases mm619 k hk with h | h
        · exact h.elim
        · have h0_ := bdx1 k hy; have h1_ := bnx1_0 k hy; omega
      refine ⟨fun _ => k612, ?_⟩
      refine AH.one 3 (by kernel_rfl) (AO.stepE rfl trivial (R.alloc z43) rfl fun w624 e623 => ?_)
      have hb625 := (q614).size
      have k627 := Al.new e623
      have k628 := Al.old e623 k612
      have z629 := Al.size e623
      have q630 := Al.kept e623 q614
      have hD631 := DiskAt.kept hD615 (Al.kept e623 (Kept.refl (fun _ => False) _)) (fun _ _ h => h)
      have hD632 := DiskAt.kept hD611 (Al.kept e623 (Kept.refl (fun _ => False) _)) (fun _ _ h => h)
      have hR633 := RefAt.kept hR616 (Al.kept e623 (Kept.refl (fun _ => False) _)) (fun _ _ h => h)
      have bn634 : ∀ k, x.2.1 k → k ≠ w609.heap.size := fun k hk => by have h0_ := bdd1 k hk; have h1_ := bnd1_0 k hk; omega
      have bn635 : ∀ k, F617 k → k ≠ w609.heap.size := fun k hk => by have h0_ := bd618 k hk; have h1_ := bn620 k hk; omega
      have bn636 : ∀ k, x.2.2 k → k ≠ w609.heap.size := fun k hk => by have h0_ := bdx1 k hk; have h1_ := bnx1_0 k hk; omega
      refine ⟨fun _ => k628, ?_⟩
      refine AH.take 4 rfl (by kernel_rfl) (by kernel_rfl) (by kernel_rfl) (by kernel_rfl) (fun _ _ _ h => h) rfl trivial (fun _ hS => (R.assignV (v := .pointer (some ⟨rc, 0, none⟩)) rfl)) k628 ?_
      refine AH.one 5 (by kernel_rfl) (AO.doesE rfl trivial (R.storeAll (cs := [.slice aSx1 Xk.safe.length cSx1, .slice aPx1 Xk.pend.length cPx1, .bool Xk.dead, .int .i64 Xk.left, .int .i64 Xk.fails, .int .i64 Xk.ops]) r43 rfl rfl rfl (by simp [Value.oneCell']) k627 rfl) fun w638 e637 => ?_)
      have k639 := So.old e637 (by omega) k628
      have k640 := So.hit e637 k627
      have z641 := So.size e637
      have q642 := So.kept e637 q630 (fun h => absurd h (by omega))
      have hD643 := DiskAt.kept hD631 (So.kept e637 (Kept.refl (fun k => k = w609.heap.size) _) (fun _ => rfl)) (fun k hk e => by have e9 : k = w609.heap.size := e; have h0_ := bdd1 k hk; have h1_ := bnd1_0 k hk; have h2_ := bn634 k hk; omega)
      have hD644 := DiskAt.kept hD632 (So.kept e637 (Kept.refl (fun k => k = w609.heap.size) _) (fun _ => rfl)) (fun k hk e => by have e9 : k = w609.heap.size := e; have h0_ := bd618 k hk; have h1_ := bn620 k hk; have h2_ := bn635 k hk; omega)
      have hR645 := RefAt.kept hR633 (So.kept e637 (Kept.refl (fun k => k = w609.heap.size) _) (fun _ => rfl)) (fun k hk e => by have e9 : k = w609.heap.size := e; have h0_ := bdx1 k hk; have h1_ := bnx1_0 k hk; have h2_ := bn636 k hk; omega)
      refine ⟨fun _ => k639, ?_⟩
      refine AH.done (by kernel_rfl) ?_
      refine C.seq ?_
      refine C.seq ?_
      refine C.region ?_
      refine L.step (R.moveV (v := .pointer (some ⟨rc, 0, none⟩)) rfl) rfl ?_
      refine L.step (R.eqlP Try.underlying24 rfl rfl) rfl ?_
      refine L.nil ?_
      refine C.condF rfl ?_
      refine C.skip ?_
      refine C.seq ?_
      refine C.seq ?_
      refine C.region ?_
      refine L.step (R.moveV (v := .slice a2 l2.length c2) rfl) rfl ?_
      refine L.call (E.call1 hb12) rfl (few_calls (m := m2.length) hc2 (by omega) (by rw [hm2, List.length_take, Nat.min_comm])) ?_
      rintro _ w646 ⟨rfl, ew⟩
      obtain rfl := ew.symm
      refine L.step (R.lenV (v := .int .i64 ((m2.length : Nat) : Int)) Try.underlying22 rfl rfl) rfl ?_
      refine L.step (R.moveV (v := .int .i64 0) rfl) rfl ?_
      refine L.nil ?_
      refine C.block ?_
      have hsw9 := (q642).size
      refine C.loop (α := Nat × (Nat → Prop) × (Nat → Prop)) (fun x2 => [(2, .slice a3 l3.length c3), (7, .pointer (some ⟨rd, 0, none⟩)), (9, .pointer (some ⟨w513.heap.size, 0, none⟩)), (13, .pointer (some ⟨rc, 0, none⟩)), (14, .pointer (some ⟨w609.heap.size, 0, none⟩)), (62, .slice a2 m2.length c2), (63, .int .i64 ((m2.length : Nat) : Int)), (64, .int .i64 ((x2.1 : Nat) : Int))]) (fun x2 W => x2.1 ≤ m2.length ∧ Kept (fun _ => False) w W ∧ DiskAt W rd (Dk.run (m2.take x2.1)) x2.2.1 ∧ DiskAt W rc Dk F617 ∧ (∃ aS cS aP cP, W.heap[w513.heap.size]? = some (blk (rcells (.slice aS (Xk.run (m2.take x2.1)).safe.length cS) (.slice aP (Xk.run (m2.take x2.1)).pend.length cP) (Xk.run (m2.take x2.1))) 43) ∧ RefAt W (.agg (rcells (.slice aS (Xk.run (m2.take x2.1)).safe.length cS) (.slice aP (Xk.run (m2.take x2.1)).pend.length cP) (Xk.run (m2.take x2.1))).toArray) (Xk.run (m2.take x2.1)) x2.2.2) ∧ (∃ aS cS aP cP, W.heap[w609.heap.size]? = some (blk (rcells (.slice aS Xk.safe.length cS) (.slice aP Xk.pend.length cP) Xk) 43) ∧ RefAt W (.agg (rcells (.slice aS Xk.safe.length cS) (.slice aP Xk.pend.length cP) Xk).toArray) Xk x.2.2) ∧ (∀ k, x2.2.1 k → w.heap.size ≤ k ∧ k < W.heap.size ∧ k ≠ w513.heap.size ∧ k ≠ w609.heap.size) ∧ (∀ k, F617 k → w.heap.size ≤ k ∧ k < W.heap.size ∧ k ≠ w513.heap.size ∧ k ≠ w609.heap.size) ∧ (∀ k, x2.2.2 k → w.heap.size ≤ k ∧ k < W.heap.size ∧ k ≠ w513.heap.size ∧ k ≠ w609.heap.size) ∧ (∀ k, x.2.2 k → w.heap.size ≤ k ∧ k < W.heap.size ∧ k ≠ w513.heap.size ∧ k ≠ w609.heap.size) ∧ (∀ k, x2.2.1 k → ¬ x2.2.2 k) ∧ (∀ k, x2.2.1 k → ¬ F617 k) ∧ (∀ k, x2.2.1 k → ¬ x.2.2 k) ∧ (∀ k, F617 k → ¬ x2.2.2 k) ∧ (∀ k, F617 k → ¬ x.2.2 k)) (fun x2 => m2.length - x2.1) ⟨(0, x.2.1, x.2.2), ⟨rfl, rfl, rfl, rfl, rfl, rfl, rfl, rfl, trivial⟩, ⟨Nat.zero_le _, q642, hD643, hD644, ⟨aSx1, cSx1, aPx1, cPx1, k639, hR645⟩, ⟨aSx1, cSx1, aPx1, cPx1, k640, hR645⟩, (fun k hk => ⟨by have h0_ := bdd1 k hk; have h1_ := bnd1_0 k hk; have h2_ := bn634 k hk; omega, by have h0_ := bdd1 k hk; have h1_ := bnd1_0 k hk; have h2_ := bn634 k hk; omega, by have h0_ := bdd1 k hk; have h1_ := bnd1_0 k hk; have h2_ := bn634 k hk; omega, by have h0_ := bdd1 k hk; have h1_ := bnd1_0 k hk; have h2_ := bn634 k hk; omega⟩), (fun k hk => ⟨by have h0_ := bd618 k hk; have h1_ := bn620 k hk; have h2_ := bn635 k hk; omega, by have h0_ := bd618 k hk; have h1_ := bn620 k hk; have h2_ := bn635 k hk; omega, by have h0_ := bd618 k hk; have h1_ := bn620 k hk; have h2_ := bn635 k hk; omega, by have h0_ := bd618 k hk; have h1_ := bn620 k hk; have h2_ := bn635 k hk; omega⟩), (fun k hk => ⟨by have h0_ := bdx1 k hk; have h1_ := bnx1_0 k hk; have h2_ := bn636 k hk; omega, by have h0_ := bdx1 k hk; have h1_ := bnx1_0 k hk; have h2_ := bn636 k hk; omega, by have h0_ := bdx1 k hk; have h1_ := bnx1_0 k hk; have h2_ := bn636 k hk; omega, by have h0_ := bdx1 k hk; have h1_ := bnx1_0 k hk; have h2_ := bn636 k hk; omega⟩), (fun k hk => ⟨by have h0_ := bdx1 k hk; have h1_ := bnx1_0 k hk; have h2_ := bn636 k hk; omega, by have h0_ := bdx1 k hk; have h1_ := bnx1_0 k hk; have h2_ := bn636 k hk; omega, by have h0_ := bdx1 k hk; have h1_ := bnx1_0 k hk; have h2_ := bn636 k hk; omega, by have h0_ := bdx1 k hk; have h1_ := bnx1_0 k hk; have h2_ := bn636 k hk; omega⟩), hSdx1, (fun k h1 h2 => sp621 k h2 h1), hSdx1, sp622, sp622⟩⟩ ?_
      intro x2 g648 w647 hI649
      obtain ⟨hk2, hq2, hd2, hc2, ⟨aSx2, cSx2, aPx2, cPx2, hbx2, hx2⟩, ⟨aSy2, cSy2, aPy2, cPy2, hby2, hy2⟩, hBd2, hBc2, hBx2, hBy2, hSdx2, hSdc2, hSdy2, hScx2, hScy2⟩ := hI649
      have hsz2 := hq2.size
      have bdd2 : ∀ k, x2.2.1 k → w.heap.size ≤ k ∧ k < w647.heap.size := fun k hk => ⟨(hBd2 k hk).1, (hBd2 k hk).2.1⟩
      have bnd2_0 : ∀ k, x2.2.1 k → k ≠ w513.heap.size := fun k hk => (hBd2 k hk).2.2.1
      have bnd2_1 : ∀ k, x2.2.1 k → k ≠ w609.heap.size := fun k hk => (hBd2 k hk).2.2.2
      have bdc2 : ∀ k, F617 k → w.heap.size ≤ k ∧ k < w647.heap.size := fun k hk => ⟨(hBc2 k hk).1, (hBc2 k hk).2.1⟩
      have bnc2_0 : ∀ k, F617 k → k ≠ w513.heap.size := fun k hk => (hBc2 k hk).2.2.1
      have bnc2_1 : ∀ k, F617 k → k ≠ w609.heap.size := fun k hk => (hBc2 k hk).2.2.2
      have bdx2 : ∀ k, x2.2.2 k → w.heap.size ≤ k ∧ k < w647.heap.size := fun k hk => ⟨(hBx2 k hk).1, (hBx2 k hk).2.1⟩
      have bnx2_0 : ∀ k, x2.2.2 k → k ≠ w513.heap.size := fun k hk => (hBx2 k hk).2.2.1
      have bnx2_1 : ∀ k, x2.2.2 k → k ≠ w609.heap.size := fun k hk => (hBx2 k hk).2.2.2
      have bdy2 : ∀ k, x.2.2 k → w.heap.size ≤ k ∧ k < w647.heap.size := fun k hk => ⟨(hBy2 k hk).1, (hBy2 k hk).2.1⟩
      have bny2_0 : ∀ k, x.2.2 k → k ≠ w513.heap.size := fun k hk => (hBy2 k hk).2.2.1
      have bny2_1 : ∀ k, x.2.2 k → k ≠ w609.heap.size := fun k hk => (hBy2 k hk).2.2.2
      have hsim2 := sim_run hsim (m := m2) (by omega) x2.1 hk2
      have hfw2 := wakes_few (D := Dk) hk2
      obtain ⟨De, hDDe⟩ : ∃ D, D = (Dk.run (m2.take x2.1)) := ⟨_, rfl⟩
      obtain ⟨Xe, hXXe⟩ : ∃ X, X = (Xk.run (m2.take x2.1)) := ⟨_, rfl⟩
      rw [← hDDe] at hd2 hsim2 hfw2
      rw [← hXXe] at hx2 hbx2 hsim2
      have hf22 := hd2.ok.ops
      have hf32 : Xe.ops = De.ops := hsim2.ops.symm
      have hf42 : Xe.pend.length = De.pend.length := by rw [hsim2.pend]
      have hf52 : Xe.safe.length = De.safe.length := by rw [hsim2.safe]
      have hblx2 := at_lt _ _ hbx2
      have hbly2 := at_lt _ _ hby2
      refine C.seq ?_
      refine C.region ?_
      rcases Classical.em (((x2.1 : Nat) : Int) < ((m2.length : Nat) : Int)) with ht650 | ht650
      ·
        refine L.step (R.lssT rfl rfl (ht650)) rfl ?_
        refine L.nil ?_
        refine C.seq ?_
        refine C.condT rfl ?_
        refine C.skip ?_
        refine C.seq ?_
        refine C.block ?_
        refine C.seq ?_
        refine C.region ?_
        obtain ⟨bo, oo, hao, hbo, hcell0⟩ := hops2.blockA (by omega)
        have hcellW := (hops2.kept hq2 (fun _ _ h => h))
        obtain ⟨o2, ho2⟩ : ∃ y, m2[x2.1]? = some y := ⟨_, List.getElem?_eq_getElem (by omega)⟩
        have hoko2 := (hcell0 _ _ ho2).2
        have hsl : a2 = some ⟨bo, oo, none⟩ := hao
        obtain ⟨bo2, oo2, hao2, _, hcellW⟩ := hcellW.blockA (by omega)
        have hcx := (hcellW _ _ ho2).1
        have hbb : bo2 = bo ∧ oo2 = oo := by rw [hao] at hao2; cases hao2; exact ⟨rfl, rfl⟩
        obtain ⟨rfl, rfl⟩ := hbb
        refine L.step (R.indexAddrV (m := x2.1) (o2 := oo2 + x2.1 * 4) (b := bo2) (o := oo2) (len := m2.length) (cap := c2) s22 (by show Value.slice a2 m2.length c2 = _; rw [hao]) rfl rfl (by omega) rfl) rfl ?_
        refine L.step (R.loadCA (cs := o2.cells) r32 rfl hcx rfl) rfl ?_
        refine L.stepE (R.alloc z32) rfl fun w652 e651 => ?_
        have k654 := Al.new e651
        have k655 := Al.old e651 hbx2
        have k656 := Al.old e651 hby2
        have z657 := Al.size e651
        have q658 := Al.kept e651 hq2
        have hD659 := DiskAt.kept hd2 (Al.kept e651 (Kept.refl (fun _ => False) _)) (fun _ _ h => h)
        have hD660 := DiskAt.kept hc2 (Al.kept e651 (Kept.refl (fun _ => False) _)) (fun _ _ h => h)
        have hR661 := RefAt.kept hx2 (Al.kept e651 (Kept.refl (fun _ => False) _)) (fun _ _ h => h)
        have hR662 := RefAt.kept hy2 (Al.kept e651 (Kept.refl (fun _ => False) _)) (fun _ _ h => h)
        refine L.doesE (R.storeAll (cs := o2.cells) r32 rfl rfl rfl (hoko2.ones) k654 rfl) fun w664 e663 => ?_
        have k665 := So.old e663 (apartE k655 k654 (by decide)) k655
        have k666 := So.old e663 (apartE k656 k654 (by decide)) k656
        have k667 := So.hit e663 k654
        have z668 := So.size e663
        have q669 := So.kept e663 q658 (fun h => absurd h (by omega))
        have hD670 := DiskAt.kept hD659 (So.kept e663 (Kept.refl (fun k => k = w647.heap.size) _) (fun _ => rfl)) (fun k hk e => by have e9 : k = w647.heap.size := e; have h0_ := bdd2 k hk; have h1_ := bnd2_0 k hk; have h2_ := bnd2_1 k hk; omega)
        have hD671 := DiskAt.kept hD660 (So.kept e663 (Kept.refl (fun k => k = w647.heap.size) _) (fun _ => rfl)) (fun k hk e => by have e9 : k = w647.heap.size := e; have h0_ := bdc2 k hk; have h1_ := bnc2_0 k hk; have h2_ := bnc2_1 k hk; omega)
        have hR672 := RefAt.kept hR661 (So.kept e663 (Kept.refl (fun k => k = w647.heap.size) _) (fun _ => rfl)) (fun k hk e => by have e9 : k = w647.heap.size := e; have h0_ := bdx2 k hk; have h1_ := bnx2_0 k hk; have h2_ := bnx2_1 k hk; omega)
        have hR673 := RefAt.kept hR662 (So.kept e663 (Kept.refl (fun k => k = w647.heap.size) _) (fun _ => rfl)) (fun k hk e => by have e9 : k = w647.heap.size := e; have h0_ := bdy2 k hk; have h1_ := bny2_0 k hk; have h2_ := bny2_1 k hk; omega)
        refine L.nil ?_
        refine C.seq ?_
        refine C.region ?_
        refine L.step (R.moveV (v := .pointer (some ⟨rd, 0, none⟩)) rfl) rfl ?_
        refine L.step (R.loadA (cs := o2.cells) r32 rfl k667 rfl rfl) rfl ?_
        refine L.call (E.call2 hb18) rfl (does_calls (o := o2.o) hD670 (by omega) (by omega) (hoko2.bools.kept q669 (fun _ _ h => h)) hoko2.len hoko2.at_ (fun k hk => by have h0_ := bdd2 k hk; have h1_ := bnd2_0 k hk; have h2_ := bnd2_1 k hk; omega)) ?_
        rintro _ w674 ⟨rfl, hD676, hk675⟩
        have hsd := sim_does hsim2 (by omega) o2.o
        obtain ⟨bl, hbl⟩ : ∃ b, b = (Xe.want o2.o).2.1 := ⟨_, rfl⟩
        obtain ⟨er, her⟩ : ∃ e, e = (Xe.want o2.o).2.2 := ⟨_, rfl⟩
        obtain ⟨Dn, hDn9⟩ : ∃ D, D = (De.does o2.o).1 := ⟨_, rfl⟩
        obtain ⟨Xn, hXn9⟩ : ∃ X, X = (Xe.want o2.o).1 := ⟨_, rfl⟩
        have hbl64 : bl.length = 64 := by rw [hbl, ← hsd.1]; exact does_len2 hD670.ok
        rw [← hDn9, ← hXn9] at hsd
        rw [hsd.1, ← hbl, ← her]
        rw [← hDn9] at hD676
        simp only [bval]
        have k677 := Kept.old hk675 k665 (fun hF => by have h0_ := bdd2 _ hF; have h1_ := bnd2_0 _ hF; have h2_ := bnd2_1 _ hF; omega)
        have k678 := Kept.old hk675 k666 (fun hF => by have h0_ := bdd2 _ hF; have h1_ := bnd2_0 _ hF; have h2_ := bnd2_1 _ hF; omega)
        have k679 := Kept.old hk675 k667 (fun hF => by have h0_ := bdd2 _ hF; have h1_ := bnd2_0 _ hF; have h2_ := bnd2_1 _ hF; omega)
        have hD680 := DiskAt.kept hD671 hk675 (fun k h1 h2 => hSdc2 k h2 h1)
        have hR681 := RefAt.kept hR672 hk675 (fun k h1 h2 => hSdx2 k h2 h1)
        have hR682 := RefAt.kept hR673 hk675 (fun k h1 h2 => hSdy2 k h2 h1)
        have z683 := hk675.size
        have q684 : Kept (fun _ => False) w w674 := Kept.trans q669 hk675 (fun k hlt9 hk9 => by have h0_ := bdd2 k hk9; have h1_ := bnd2_0 k hk9; have h2_ := bnd2_1 k hk9; omega)
        obtain ⟨F685, eF685⟩ : ∃ G, G = grow x2.2.1 w664 w674 := ⟨_, rfl⟩
        rw [← eF685] at hD676
        have mm687 : ∀ k, F685 k → x2.2.1 k ∨ (w664.heap.size ≤ k ∧ k < w674.heap.size) := fun k hk => by rw [eF685] at hk; exact hk
        have bd686 : ∀ k, F685 k → w.heap.size ≤ k ∧ k < w674.heap.size := fun k hk => by
          have hz9 := (q684).size
          rcases mm687 k hk with h | h
          · have h0_ := bdd2 k h; have h1_ := bnd2_0 k h; have h2_ := bnd2_1 k h; omega
          · omega
        have bn688 : ∀ k, F685 k → k ≠ w513.heap.size := fun k hk => by
          rcases mm687 k hk with h | h
          · have h0_ := bdd2 k h; have h1_ := bnd2_0 k h; have h2_ := bnd2_1 k h; omega
          · omega
        have bn689 : ∀ k, F685 k → k ≠ w609.heap.size := fun k hk => by
          rcases mm687 k hk with h | h
          · have h0_ := bdd2 k h; have h1_ := bnd2_0 k h; have h2_ := bnd2_1 k h; omega
          · omega
        have sp690 : ∀ k, F685 k → ¬ F617 k := fun k hk hy => by
          rcases mm687 k hk with h | h
          · exact hSdc2 k h hy
          · have h0_ := bdc2 k hy; have h1_ := bnc2_0 k hy; have h2_ := bnc2_1 k hy; omega
        have sp691 : ∀ k, F685 k → ¬ x2.2.2 k := fun k hk hy => by
          rcases mm687 k hk with h | h
          · exact hSdx2 k h hy
          · have h0_ := bdx2 k hy; have h1_ := bnx2_0 k hy; have h2_ := bnx2_1 k hy; omega
        have sp692 : ∀ k, F685 k → ¬ x.2.2 k := fun k hk hy => by
          rcases mm687 k hk with h | h
          · exact hSdy2 k h hy
          · have h0_ := bdy2 k hy; have h1_ := bny2_0 k hy; have h2_ := bny2_1 k hy; omega
        refine L.nil ?_
        refine C.region ?_
        refine L.step (R.loadA (cs := [.slice aSx2 Xe.safe.length cSx2, .slice aPx2 Xe.pend.length cPx2, .bool Xe.dead, .int .i64 Xe.left, .int .i64 Xe.fails, .int .i64 Xe.ops]) r43 rfl k677 rfl rfl) rfl ?_
        refine L.step (R.loadA (cs := o2.cells) r32 rfl k679 rfl rfl) rfl ?_
        refine L.call (E.call2 hb19) rfl (want_calls (o := o2.o) hR681 (fun k hk => by have h0_ := bdx2 k hk; have h1_ := bnx2_0 k hk; have h2_ := bnx2_1 k hk; omega) (hoko2.bools.kept q684 (fun _ _ h => h)) hoko2.len hoko2.at_ (by omega) (by omega) (by omega)) ?_
        rintro _ w693 ⟨y696, rfl, hR695, hk694⟩
        rw [← hXn9] at hR695
        rw [← hbl, ← her]
        simp only [bval]
        obtain ⟨aSi697, cSi697, aPi697, cPi697, rfl⟩ := RefAt.lits hR695
        have k698 := Kept.old hk694 k677 (fun h => h)
        have k699 := Kept.old hk694 k678 (fun h => h)
        have k700 := Kept.old hk694 k679 (fun h => h)
        have z701 := (hk694).size
        have q702 := Kept.trans q684 hk694 (fun _ _ h => h.elim)
        have hD703 := DiskAt.kept hD676 hk694 (fun _ _ h => h)
        have hD704 := DiskAt.kept hD680 hk694 (fun _ _ h => h)
        have hR705 := RefAt.kept hR681 hk694 (fun _ _ h => h)
        have hR706 := RefAt.kept hR682 hk694 (fun _ _ h => h)
        have z707 := hk694.size
        obtain ⟨F708, eF708⟩ : ∃ G, G = grow x2.2.2 w674 w693 := ⟨_, rfl⟩
        rw [← eF708] at hR695
        have mm710 : ∀ k, F708 k → x2.2.2 k ∨ (w674.heap.size ≤ k ∧ k < w693.heap.size) := fun k hk => by rw [eF708] at hk; exact hk
        have bd709 : ∀ k, F708 k → w.heap.size ≤ k ∧ k < w693.heap.size := fun k hk => by
          have hz9 := (q702).size
          rcases mm710 k hk with h | h
          · have h0_ := bdx2 k h; have h1_ := bnx2_0 k h; have h2_ := bnx2_1 k h; omega
          · omega
        have bn711 : ∀ k, F708 k → k ≠ w513.heap.size := fun k hk => by
          rcases mm710 k hk with h | h
          · have h0_ := bdx2 k h; have h1_ := bnx2_0 k h; have h2_ := bnx2_1 k h; omega
          · omega
        have bn712 : ∀ k, F708 k → k ≠ w609.heap.size := fun k hk => by
          rcases mm710 k hk with h | h
          · have h0_ := bdx2 k h; have h1_ := bnx2_0 k h; have h2_ := bnx2_1 k h; omega
          · omega
        have sp713 : ∀ k, F708 k → ¬ F685 k := fun k hk hy => by
          rcases mm710 k hk with h | h
          · exact (fun k h1 h2 => sp691 k h2 h1) k h hy
          · have h0_ := bd686 k hy; have h1_ := bn688 k hy; have h2_ := bn689 k hy; omega
        have sp714 : ∀ k, F708 k → ¬ F617 k := fun k hk hy => by
          rcases mm710 k hk with h | h
          · exact (fun k h1 h2 => hScx2 k h2 h1) k h hy
          · have h0_ := bdc2 k hy; have h1_ := bnc2_0 k hy; have h2_ := bnc2_1 k hy; omega
        refine L.step (R.moveV (v := .tuple #[.agg (List.toArray ([.slice aSi697 Xn.safe.length cSi697, .slice aPi697 Xn.pend.length cPi697, .bool Xn.dead, .int .i64 Xn.left, .int .i64 Xn.fails, .int .i64 Xn.ops])), .agg (List.toArray (bcells bl)), .int .i64 er]) rfl) rfl ?_
        refine L.step (R.extract (v := .agg (List.toArray ([.slice aSi697 Xn.safe.length cSi697, .slice aPi697 Xn.pend.length cPi697, .bool Xn.dead, .int .i64 Xn.left, .int .i64 Xn.fails, .int .i64 Xn.ops]))) rfl rfl) rfl ?_
        refine L.step (R.extract (v := .agg (List.toArray (bcells bl))) rfl rfl) rfl ?_
        refine L.step (R.extract (v := .int .i64 er) rfl rfl) rfl ?_
        refine L.doesE (R.storeAll (cs := [.slice aSi697 Xn.safe.length cSi697, .slice aPi697 Xn.pend.length cPi697, .bool Xn.dead, .int .i64 Xn.left, .int .i64 Xn.fails, .int .i64 Xn.ops]) r43 rfl rfl rfl (by simp [Value.oneCell']) k698 rfl) fun w716 e715 => ?_
        have k717 := So.hit e715 k698
        have k718 := So.old e715 (by omega) k699
        have k719 := So.old e715 (apartE k700 k698 (by decide)) k700
        have z720 := So.size e715
        have q721 := So.kept e715 q702 (fun h => absurd h (by omega))
        have hD722 := DiskAt.kept hD703 (So.kept e715 (Kept.refl (fun k => k = w513.heap.size) _) (fun _ => rfl)) (fun k hk e => by have e9 : k = w513.heap.size := e; have h0_ := bd686 k hk; have h1_ := bn688 k hk; have h2_ := bn689 k hk; omega)
        have hD723 := DiskAt.kept hD704 (So.kept e715 (Kept.refl (fun k => k = w513.heap.size) _) (fun _ => rfl)) (fun k hk e => by have e9 : k = w513.heap.size := e; have h0_ := bdc2 k hk; have h1_ := bnc2_0 k hk; have h2_ := bnc2_1 k hk; omega)
        have hR724 := RefAt.kept hR695 (So.kept e715 (Kept.refl (fun k => k = w513.heap.size) _) (fun _ => rfl)) (fun k hk e => by have e9 : k = w513.heap.size := e; have h0_ := bd709 k hk; have h1_ := bn711 k hk; have h2_ := bn712 k hk; omega)
        have hR725 := RefAt.kept hR706 (So.kept e715 (Kept.refl (fun k => k = w513.heap.size) _) (fun _ => rfl)) (fun k hk e => by have e9 : k = w513.heap.size := e; have h0_ := bdy2 k hk; have h1_ := bny2_0 k hk; have h2_ := bny2_1 k hk; omega)
        refine L.nil ?_
        refine C.region ?_
        refine L.step (R.add rfl rfl (by omega)) rfl ?_
        refine L.step (R.moveV (v := .int .i64 (((x2.1 : Nat) : Int) + 1)) rfl) rfl ?_
        refine L.nil ?_
        have hsq := (q721).size
        have hDn : Dn = (Dk.run (m2.take (x2.1 + 1))) := by rw [PD.run_succ ho2, hDn9, hDDe]
        have hXn : Xn = (Xk.run (m2.take (x2.1 + 1))) := by rw [RD.run_succ ho2, hXn9, hXXe]
        refine thenP.mk ⟨(x2.1 + 1, F685, F708), ⟨rfl, rfl, rfl, rfl, rfl, rfl, rfl, rfl, trivial⟩, ⟨by show x2.1 + 1 ≤ _; omega, q721, by show DiskAt w716 rd (Dk.run (m2.take (x2.1 + 1))) F685; rw [← hDn]; exact hD722, hD723, by show (∃ aS cS aP cP, w716.heap[w513.heap.size]? = some (blk (rcells (.slice aS (Xk.run (m2.take (x2.1 + 1))).safe.length cS) (.slice aP (Xk.run (m2.take (x2.1 + 1))).pend.length cP) (Xk.run (m2.take (x2.1 + 1)))) 43) ∧ RefAt w716 (.agg (rcells (.slice aS (Xk.run (m2.take (x2.1 + 1))).safe.length cS) (.slice aP (Xk.run (m2.take (x2.1 + 1))).pend.length cP) (Xk.run (m2.take (x2.1 + 1)))).toArray) (Xk.run (m2.take (x2.1 + 1))) F708); rw [← hXn]; exact ⟨aSi697, cSi697, aPi697, cPi697, k717, hR724⟩, ⟨aSy2, cSy2, aPy2, cPy2, k718, hR725⟩, (fun k hk => ⟨by have h0_ := bd686 k hk; have h1_ := bn688 k hk; have h2_ := bn689 k hk; omega, by have h0_ := bd686 k hk; have h1_ := bn688 k hk; have h2_ := bn689 k hk; omega, by have h0_ := bd686 k hk; have h1_ := bn688 k hk; have h2_ := bn689 k hk; omega, by have h0_ := bd686 k hk; have h1_ := bn688 k hk; have h2_ := bn689 k hk; omega⟩), (fun k hk => ⟨by have h0_ := bdc2 k hk; have h1_ := bnc2_0 k hk; have h2_ := bnc2_1 k hk; omega, by have h0_ := bdc2 k hk; have h1_ := bnc2_0 k hk; have h2_ := bnc2_1 k hk; omega, by have h0_ := bdc2 k hk; have h1_ := bnc2_0 k hk; have h2_ := bnc2_1 k hk; omega, by have h0_ := bdc2 k hk; have h1_ := bnc2_0 k hk; have h2_ := bnc2_1 k hk; omega⟩), (fun k hk => ⟨by have h0_ := bd709 k hk; have h1_ := bn711 k hk; have h2_ := bn712 k hk; omega, by have h0_ := bd709 k hk; have h1_ := bn711 k hk; have h2_ := bn712 k hk; omega, by have h0_ := bd709 k hk; have h1_ := bn711 k hk; have h2_ := bn712 k hk; omega, by have h0_ := bd709 k hk; have h1_ := bn711 k hk; have h2_ := bn712 k hk; omega⟩), (fun k hk => ⟨by have h0_ := bdy2 k hk; have h1_ := bny2_0 k hk; have h2_ := bny2_1 k hk; omega, by have h0_ := bdy2 k hk; have h1_ := bny2_0 k hk; have h2_ := bny2_1 k hk; omega, by have h0_ := bdy2 k hk; have h1_ := bny2_0 k hk; have h2_ := bny2_1 k hk; omega, by have h0_ := bdy2 k hk; have h1_ := bny2_0 k hk; have h2_ := bny2_1 k hk; omega⟩), (fun k h1 h2 => sp713 k h2 h1), sp690, sp692, (fun k h1 h2 => sp714 k h2 h1), hScy2⟩, by show m2.length - (x2.1 + 1) < m2.length - x2.1; omega⟩
      ·
        refine L.step (R.lssF rfl rfl (Int.not_lt.1 ht650)) rfl ?_
        refine L.nil ?_
        refine C.seq ?_
        refine C.condF rfl ?_
        refine C.exit ?_
        refine C.seq ?_
        refine C.seq ?_
        refine C.region ?_
        refine L.step (R.moveV (v := .slice a3 l3.length c3) rfl) rfl ?_
        refine L.call (E.call1 hb12) rfl (few_calls (m := m3.length) hc3 (by omega) (by rw [hm3, List.length_take, Nat.min_comm])) ?_
        rintro _ w726 ⟨rfl, ew⟩
        obtain rfl := ew.symm
        refine L.step (R.lenV (v := .int .i64 ((m3.length : Nat) : Int)) Try.underlying22 rfl rfl) rfl ?_
        refine L.step (R.moveV (v := .int .i64 0) rfl) rfl ?_
        refine L.nil ?_
        refine C.block ?_
        have hsw9 := (hq2).size
        refine C.loop (α := Nat × (Nat → Prop) × (Nat → Prop)) (fun x3 => [(7, .pointer (some ⟨rd, 0, none⟩)), (9, .pointer (some ⟨w513.heap.size, 0, none⟩)), (13, .pointer (some ⟨rc, 0, none⟩)), (14, .pointer (some ⟨w609.heap.size, 0, none⟩)), (80, .slice a3 m3.length c3), (81, .int .i64 ((m3.length : Nat) : Int)), (82, .int .i64 ((x3.1 : Nat) : Int))]) (fun x3 W => x3.1 ≤ m3.length ∧ Kept (fun _ => False) w W ∧ DiskAt W rd De x2.2.1 ∧ DiskAt W rc (Dk.run (m3.take x3.1)) x3.2.1 ∧ (∃ aS cS aP cP, W.heap[w513.heap.size]? = some (blk (rcells (.slice aS Xe.safe.length cS) (.slice aP Xe.pend.length cP) Xe) 43) ∧ RefAt W (.agg (rcells (.slice aS Xe.safe.length cS) (.slice aP Xe.pend.length cP) Xe).toArray) Xe x2.2.2) ∧ (∃ aS cS aP cP, W.heap[w609.heap.size]? = some (blk (rcells (.slice aS (Xk.run (m3.take x3.1)).safe.length cS) (.slice aP (Xk.run (m3.take x3.1)).pend.length cP) (Xk.run (m3.take x3.1))) 43) ∧ RefAt W (.agg (rcells (.slice aS (Xk.run (m3.take x3.1)).safe.length cS) (.slice aP (Xk.run (m3.take x3.1)).pend.length cP) (Xk.run (m3.take x3.1))).toArray) (Xk.run (m3.take x3.1)) x3.2.2) ∧ (∀ k, x2.2.1 k → w.heap.size ≤ k ∧ k < W.heap.size ∧ k ≠ w513.heap.size ∧ k ≠ w609.heap.size) ∧ (∀ k, x3.2.1 k → w.heap.size ≤ k ∧ k < W.heap.size ∧ k ≠ w513.heap.size ∧ k ≠ w609.heap.size) ∧ (∀ k, x2.2.2 k → w.heap.size ≤ k ∧ k < W.heap.size ∧ k ≠ w513.heap.size ∧ k ≠ w609.heap.size) ∧ (∀ k, x3.2.2 k → w.heap.size ≤ k ∧ k < W.heap.size ∧ k ≠ w513.heap.size ∧ k ≠ w609.heap.size) ∧ (∀ k, x2.2.1 k → ¬ x2.2.2 k) ∧ (∀ k, x2.2.1 k → ¬ x3.2.1 k) ∧ (∀ k, x2.2.1 k → ¬ x3.2.2 k) ∧ (∀ k, x3.2.1 k → ¬ x2.2.2 k) ∧ (∀ k, x3.2.1 k → ¬ x3.2.2 k)) (fun x3 => m3.length - x3.1) ⟨(0, F617, x.2.2), ⟨rfl, rfl, rfl, rfl, rfl, rfl, rfl, trivial⟩, ⟨Nat.zero_le _, hq2, hd2, hc2, ⟨aSx2, cSx2, aPx2, cPx2, hbx2, hx2⟩, ⟨aSy2, cSy2, aPy2, cPy2, hby2, hy2⟩, (fun k hk => ⟨by have h0_ := bdd2 k hk; have h1_ := bnd2_0 k hk; have h2_ := bnd2_1 k hk; omega, by have h0_ := bdd2 k hk; have h1_ := bnd2_0 k hk; have h2_ := bnd2_1 k hk; omega, by have h0_ := bdd2 k hk; have h1_ := bnd2_0 k hk; have h2_ := bnd2_1 k hk; omega, by have h0_ := bdd2 k hk; have h1_ := bnd2_0 k hk; have h2_ := bnd2_1 k hk; omega⟩), (fun k hk => ⟨by have h0_ := bdc2 k hk; have h1_ := bnc2_0 k hk; have h2_ := bnc2_1 k hk; omega, by have h0_ := bdc2 k hk; have h1_ := bnc2_0 k hk; have h2_ := bnc2_1 k hk; omega, by have h0_ := bdc2 k hk; have h1_ := bnc2_0 k hk; have h2_ := bnc2_1 k hk; omega, by have h0_ := bdc2 k hk; have h1_ := bnc2_0 k hk; have h2_ := bnc2_1 k hk; omega⟩), (fun k hk => ⟨by have h0_ := bdx2 k hk; have h1_ := bnx2_0 k hk; have h2_ := bnx2_1 k hk; omega, by have h0_ := bdx2 k hk; have h1_ := bnx2_0 k hk; have h2_ := bnx2_1 k hk; omega, by have h0_ := bdx2 k hk; have h1_ := bnx2_0 k hk; have h2_ := bnx2_1 k hk; omega, by have h0_ := bdx2 k hk; have h1_ := bnx2_0 k hk; have h2_ := bnx2_1 k hk; omega⟩), (fun k hk => ⟨by have h0_ := bdy2 k hk; have h1_ := bny2_0 k hk; have h2_ := bny2_1 k hk; omega, by have h0_ := bdy2 k hk; have h1_ := bny2_0 k hk; have h2_ := bny2_1 k hk; omega, by have h0_ := bdy2 k hk; have h1_ := bny2_0 k hk; have h2_ := bny2_1 k hk; omega, by have h0_ := bdy2 k hk; have h1_ := bny2_0 k hk; have h2_ := bny2_1 k hk; omega⟩), hSdx2, hSdc2, hSdy2, hScx2, hScy2⟩⟩ ?_
        intro x3 g728 w727 hI729
        obtain ⟨hk3, hq3, hd3, hc3, ⟨aSx3, cSx3, aPx3, cPx3, hbx3, hx3⟩, ⟨aSy3, cSy3, aPy3, cPy3, hby3, hy3⟩, hBd3, hBc3, hBx3, hBy3, hSdx3, hSdc3, hSdy3, hScx3, hScy3⟩ := hI729
        have hsz3 := hq3.size
        have bdd3 : ∀ k, x2.2.1 k → w.heap.size ≤ k ∧ k < w727.heap.size := fun k hk => ⟨(hBd3 k hk).1, (hBd3 k hk).2.1⟩
        have bnd3_0 : ∀ k, x2.2.1 k → k ≠ w513.heap.size := fun k hk => (hBd3 k hk).2.2.1
        have bnd3_1 : ∀ k, x2.2.1 k → k ≠ w609.heap.size := fun k hk => (hBd3 k hk).2.2.2
        have bdc3 : ∀ k, x3.2.1 k → w.heap.size ≤ k ∧ k < w727.heap.size := fun k hk => ⟨(hBc3 k hk).1, (hBc3 k hk).2.1⟩
        have bnc3_0 : ∀ k, x3.2.1 k → k ≠ w513.heap.size := fun k hk => (hBc3 k hk).2.2.1
        have bnc3_1 : ∀ k, x3.2.1 k → k ≠ w609.heap.size := fun k hk => (hBc3 k hk).2.2.2
        have bdx3 : ∀ k, x2.2.2 k → w.heap.size ≤ k ∧ k < w727.heap.size := fun k hk => ⟨(hBx3 k hk).1, (hBx3 k hk).2.1⟩
        have bnx3_0 : ∀ k, x2.2.2 k → k ≠ w513.heap.size := fun k hk => (hBx3 k hk).2.2.1
        have bnx3_1 : ∀ k, x2.2.2 k → k ≠ w609.heap.size := fun k hk => (hBx3 k hk).2.2.2
        have bdy3 : ∀ k, x3.2.2 k → w.heap.size ≤ k ∧ k < w727.heap.size := fun k hk => ⟨(hBy3 k hk).1, (hBy3 k hk).2.1⟩
        have bny3_0 : ∀ k, x3.2.2 k → k ≠ w513.heap.size := fun k hk => (hBy3 k hk).2.2.1
        have bny3_1 : ∀ k, x3.2.2 k → k ≠ w609.heap.size := fun k hk => (hBy3 k hk).2.2.2
        have hsim3 := sim_run hsim (m := m3) (by omega) x3.1 hk3
        have hfw3 := wakes_few (D := Dk) hk3
        obtain ⟨Df, hDDf⟩ : ∃ D, D = (Dk.run (m3.take x3.1)) := ⟨_, rfl⟩
        obtain ⟨Xf, hXXf⟩ : ∃ X, X = (Xk.run (m3.take x3.1)) := ⟨_, rfl⟩
        rw [← hDDf] at hc3 hsim3 hfw3
        rw [← hXXf] at hy3 hby3 hsim3
        have hf23 := hc3.ok.ops
        have hf33 : Xf.ops = Df.ops := hsim3.ops.symm
        have hf43 : Xf.pend.length = Df.pend.length := by rw [hsim3.pend]
        have hf53 : Xf.safe.length = Df.safe.length := by rw [hsim3.safe]
        have hblx3 := at_lt _ _ hbx3
        have hbly3 := at_lt _ _ hby3
        refine C.seq ?_
        refine C.region ?_
        rcases Classical.em (((x3.1 : Nat) : Int) < ((m3.length : Nat) : Int)) with ht730 | ht730
        ·
          refine L.step (R.lssT rfl rfl (ht730)) rfl ?_
          refine L.nil ?_
          refine C.seq ?_
          refine C.condT rfl ?_
          refine C.skip ?_
          refine C.seq ?_
          refine C.block ?_
          refine C.seq ?_
          refine C.region ?_
          obtain ⟨bo, oo, hao, hbo, hcell0⟩ := hops3.blockA (by omega)
          have hcellW := (hops3.kept hq3 (fun _ _ h => h))
          obtain ⟨o3, ho3⟩ : ∃ y, m3[x3.1]? = some y := ⟨_, List.getElem?_eq_getElem (by omega)⟩
          have hoko3 := (hcell0 _ _ ho3).2
          have hsl : a3 = some ⟨bo, oo, none⟩ := hao
          obtain ⟨bo2, oo2, hao2, _, hcellW⟩ := hcellW.blockA (by omega)
          have hcx := (hcellW _ _ ho3).1
          have hbb : bo2 = bo ∧ oo2 = oo := by rw [hao] at hao2; cases hao2; exact ⟨rfl, rfl⟩
          obtain ⟨rfl, rfl⟩ := hbb
          refine L.step (R.indexAddrV (m := x3.1) (o2 := oo2 + x3.1 * 4) (b := bo2) (o := oo2) (len := m3.length) (cap := c3) s22 (by show Value.slice a3 m3.length c3 = _; rw [hao]) rfl rfl (by omega) rfl) rfl ?_
          refine L.step (R.loadCA (cs := o3.cells) r32 rfl hcx rfl) rfl ?_
          refine L.stepE (R.alloc z32) rfl fun w732 e731 => ?_
          have k734 := Al.new e731
          have k735 := Al.old e731 hbx3
          have k736 := Al.old e731 hby3
          have z737 := Al.size e731
          have q738 := Al.kept e731 hq3
          have hD739 := DiskAt.kept hd3 (Al.kept e731 (Kept.refl (fun _ => False) _)) (fun _ _ h => h)
          have hD740 := DiskAt.kept hc3 (Al.kept e731 (Kept.refl (fun _ => False) _)) (fun _ _ h => h)
          have hR741 := RefAt.kept hx3 (Al.kept e731 (Kept.refl (fun _ => False) _)) (fun _ _ h => h)
          have hR742 := RefAt.kept hy3 (Al.kept e731 (Kept.refl (fun _ => False) _)) (fun _ _ h => h)
          refine L.doesE (R.storeAll (cs := o3.cells) r32 rfl rfl rfl (hoko3.ones) k734 rfl) fun w744 e743 => ?_
          have k745 := So.old e743 (apartE k735 k734 (by decide)) k735
          have k746 := So.old e743 (apartE k736 k734 (by decide)) k736
          have k747 := So.hit e743 k734
          have z748 := So.size e743
          have q749 := So.kept e743 q738 (fun h => absurd h (by omega))
          have hD750 := DiskAt.kept hD739 (So.kept e743 (Kept.refl (fun k => k = w727.heap.size) _) (fun _ => rfl)) (fun k hk e => by have e9 : k = w727.heap.size := e; have h0_ := bdd3 k hk; have h1_ := bnd3_0 k hk; have h2_ := bnd3_1 k hk; omega)
          have hD751 := DiskAt.kept hD740 (So.kept e743 (Kept.refl (fun k => k = w727.heap.size) _) (fun _ => rfl)) (fun k hk e => by have e9 : k = w727.heap.size := e; have h0_ := bdc3 k hk; have h1_ := bnc3_0 k hk; have h2_ := bnc3_1 k hk; omega)
          have hR752 := RefAt.kept hR741 (So.kept e743 (Kept.refl (fun k => k = w727.heap.size) _) (fun _ => rfl)) (fun k hk e => by have e9 : k = w727.heap.size := e; have h0_ := bdx3 k hk; have h1_ := bnx3_0 k hk; have h2_ := bnx3_1 k hk; omega)
          have hR753 := RefAt.kept hR742 (So.kept e743 (Kept.refl (fun k => k = w727.heap.size) _) (fun _ => rfl)) (fun k hk e => by have e9 : k = w727.heap.size := e; have h0_ := bdy3 k hk; have h1_ := bny3_0 k hk; have h2_ := bny3_1 k hk; omega)
          refine L.nil ?_
          refine C.seq ?_
          refine C.region ?_
          refine L.step (R.moveV (v := .pointer (some ⟨rc, 0, none⟩)) rfl) rfl ?_
          refine L.step (R.loadA (cs := o3.cells) r32 rfl k747 rfl rfl) rfl ?_
          refine L.call (E.call2 hb18) rfl (does_calls (o := o3.o) hD751 (by omega) (by omega) (hoko3.bools.kept q749 (fun _ _ h => h)) hoko3.len hoko3.at_ (fun k hk => by have h0_ := bdc3 k hk; have h1_ := bnc3_0 k hk; have h2_ := bnc3_1 k hk; omega)) ?_
          rintro _ w754 ⟨rfl, hD756, hk755⟩
          have hsd := sim_does hsim3 (by omega) o3.o
          obtain ⟨bl, hbl⟩ : ∃ b, b = (Xf.want o3.o).2.1 := ⟨_, rfl⟩
          obtain ⟨er, her⟩ : ∃ e, e = (Xf.want o3.o).2.2 := ⟨_, rfl⟩
          obtain ⟨Dn, hDn9⟩ : ∃ D, D = (Df.does o3.o).1 := ⟨_, rfl⟩
          obtain ⟨Xn, hXn9⟩ : ∃ X, X = (Xf.want o3.o).1 := ⟨_, rfl⟩
          have hbl64 : bl.length = 64 := by rw [hbl, ← hsd.1]; exact does_len2 hD751.ok
          rw [← hDn9, ← hXn9] at hsd
          rw [hsd.1, ← hbl, ← her]
          rw [← hDn9] at hD756
          simp only [bval]
          have k757 := Kept.old hk755 k745 (fun hF => by have h0_ := bdc3 _ hF; have h1_ := bnc3_0 _ hF; have h2_ := bnc3_1 _ hF; omega)
          have k758 := Kept.old hk755 k746 (fun hF => by have h0_ := bdc3 _ hF; have h1_ := bnc3_0 _ hF; have h2_ := bnc3_1 _ hF; omega)
          have k759 := Kept.old hk755 k747 (fun hF => by have h0_ := bdc3 _ hF; have h1_ := bnc3_0 _ hF; have h2_ := bnc3_1 _ hF; omega)
          have hD760 := DiskAt.kept hD750 hk755 hSdc3
          have hR761 := RefAt.kept hR752 hk755 (fun k h1 h2 => hScx3 k h2 h1)
          have hR762 := RefAt.kept hR753 hk755 (fun k h1 h2 => hScy3 k h2 h1)
          have z763 := hk755.size
          have q764 : Kept (fun _ => False) w w754 := Kept.trans q749 hk755 (fun k hlt9 hk9 => by have h0_ := bdc3 k hk9; have h1_ := bnc3_0 k hk9; have h2_ := bnc3_1 k hk9; omega)
          obtain ⟨F765, eF765⟩ : ∃ G, G = grow x3.2.1 w744 w754 := ⟨_, rfl⟩
          rw [← eF765] at hD756
          have mm767 : ∀ k, F765 k → x3.2.1 k ∨ (w744.heap.size ≤ k ∧ k < w754.heap.size) := fun k hk => by rw [eF765] at hk; exact hk
          have bd766 : ∀ k, F765 k → w.heap.size ≤ k ∧ k < w754.heap.size := fun k hk => by
            have hz9 := (q764).size
            rcases mm767 k hk with h | h
            · have h0_ := bdc3 k h; have h1_ := bnc3_0 k h; have h2_ := bnc3_1 k h; omega
            · omega
          have bn768 : ∀ k, F765 k → k ≠ w513.heap.size := fun k hk => by
            rcases mm767 k hk with h | h
            · have h0_ := bdc3 k h; have h1_ := bnc3_0 k h; have h2_ := bnc3_1 k h; omega
            · omega
          have bn769 : ∀ k, F765 k → k ≠ w609.heap.size := fun k hk => by
            rcases mm767 k hk with h | h
            · have h0_ := bdc3 k h; have h1_ := bnc3_0 k h; have h2_ := bnc3_1 k h; omega
            · omega
          have sp770 : ∀ k, F765 k → ¬ x2.2.1 k := fun k hk hy => by
            rcases mm767 k hk with h | h
            · exact (fun k h1 h2 => hSdc3 k h2 h1) k h hy
            · have h0_ := bdd3 k hy; have h1_ := bnd3_0 k hy; have h2_ := bnd3_1 k hy; omega
          have sp771 : ∀ k, F765 k → ¬ x2.2.2 k := fun k hk hy => by
            rcases mm767 k hk with h | h
            · exact hScx3 k h hy
            · have h0_ := bdx3 k hy; have h1_ := bnx3_0 k hy; have h2_ := bnx3_1 k hy; omega
          have sp772 : ∀ k, F765 k → ¬ x3.2.2 k := fun k hk hy => by
            rcases mm767 k hk with h | h
            · exact hScy3 k h hy
            · have h0_ := bdy3 k hy; have h1_ := bny3_0 k hy; have h2_ := bny3_1 k hy; omega
          refine L.step (R.moveV (v := .tuple #[.agg (List.toArray (bcells bl)), .int .i64 er]) rfl) rfl ?_
          refine L.step (R.extract (v := .agg (List.toArray (bcells bl))) rfl rfl) rfl ?_
          refine L.step (R.extract (v := .int .i64 er) rfl rfl) rfl ?_
          refine L.stepE (R.alloc z27) rfl fun w774 e773 => ?_
          have k776 := Al.new e773
          have k777 := Al.old e773 k757
          have k778 := Al.old e773 k758
          have k779 := Al.old e773 k759
          have z780 := Al.size e773
          have q781 := Al.kept e773 q764
          have hD782 := DiskAt.kept hD760 (Al.kept e773 (Kept.refl (fun _ => False) _)) (fun _ _ h => h)
          have hD783 := DiskAt.kept hD756 (Al.kept e773 (Kept.refl (fun _ => False) _)) (fun _ _ h => h)
          have hR784 := RefAt.kept hR761 (Al.kept e773 (Kept.refl (fun _ => False) _)) (fun _ _ h => h)
          have hR785 := RefAt.kept hR762 (Al.kept e773 (Kept.refl (fun _ => False) _)) (fun _ _ h => h)
          refine L.doesE (R.storeAll (cs := bcells bl) r27 rfl rfl (bcells64 hbl64) (one_bcells _) k776 (List.length_replicate)) fun w787 e786 => ?_
          have k788 := So.old e786 (apartE k777 k776 (by decide)) k777
          have k789 := So.old e786 (apartE k778 k776 (by decide)) k778
          have k790 := So.old e786 (apartE k779 k776 (by decide)) k779
          have k791 := So.hit e786 k776
          have z792 := So.size e786
          have q793 := So.kept e786 q781 (fun h => absurd h (by omega))
          have hD794 := DiskAt.kept hD782 (So.kept e786 (Kept.refl (fun k => k = w754.heap.size) _) (fun _ => rfl)) (fun k hk e => by have e9 : k = w754.heap.size := e; have h0_ := bdd3 k hk; have h1_ := bnd3_0 k hk; have h2_ := bnd3_1 k hk; omega)
          have hD795 := DiskAt.kept hD783 (So.kept e786 (Kept.refl (fun k => k = w754.heap.size) _) (fun _ => rfl)) (fun k hk e => by have e9 : k = w754.heap.size := e; have h0_ := bd766 k hk; have h1_ := bn768 k hk; have h2_ := bn769 k hk; omega)
          have hR796 := RefAt.kept hR784 (So.kept e786 (Kept.refl (fun k => k = w754.heap.size) _) (fun _ => rfl)) (fun k hk e => by have e9 : k = w754.heap.size := e; have h0_ := bdx3 k hk; have h1_ := bnx3_0 k hk; have h2_ := bnx3_1 k hk; omega)
          have hR797 := RefAt.kept hR785 (So.kept e786 (Kept.refl (fun k => k = w754.heap.size) _) (fun _ => rfl)) (fun k hk e => by have e9 : k = w754.heap.size := e; have h0_ := bdy3 k hk; have h1_ := bny3_0 k hk; have h2_ := bny3_1 k hk; omega)
          refine L.step (R.assignV (v := .int .i64 er) rfl) rfl ?_
          refine L.nil ?_
          refine C.seq ?_
          refine C.region ?_
          refine L.stepE (R.alloc z27) rfl fun w799 e798 => ?_
          have k801 := Al.new e798
          have k802 := Al.old e798 k788
          have k803 := Al.old e798 k789
          have k804 := Al.old e798 k790
          have k805 := Al.old e798 k791
          have z806 := Al.size e798
          have q807 := Al.kept e798 q793
          have hD808 := DiskAt.kept hD794 (Al.kept e798 (Kept.refl (fun _ => False) _)) (fun _ _ h => h)
          have hD809 := DiskAt.kept hD795 (Al.kept e798 (Kept.refl (fun _ => False) _)) (fun _ _ h => h)
          have hR810 := RefAt.kept hR796 (Al.kept e798 (Kept.refl (fun _ => False) _)) (fun _ _ h => h)
          have hR811 := RefAt.kept hR797 (Al.kept e798 (Kept.refl (fun _ => False) _)) (fun _ _ h => h)
          have bn812 : ∀ k, x2.2.1 k → k ≠ w787.heap.size := fun k hk => by have h0_ := bdd3 k hk; have h1_ := bnd3_0 k hk; have h2_ := bnd3_1 k hk; omega
          have bn813 : ∀ k, F765 k → k ≠ w787.heap.size := fun k hk => by have h0_ := bd766 k hk; have h1_ := bn768 k hk; have h2_ := bn769 k hk; omega
          have bn814 : ∀ k, x2.2.2 k → k ≠ w787.heap.size := fun k hk => by have h0_ := bdx3 k hk; have h1_ := bnx3_0 k hk; have h2_ := bnx3_1 k hk; omega
          have bn815 : ∀ k, x3.2.2 k → k ≠ w787.heap.size := fun k hk => by have h0_ := bdy3 k hk; have h1_ := bny3_0 k hk; have h2_ := bny3_1 k hk; omega
          refine L.nil ?_
          refine C.seq ?_
          refine C.region ?_
          refine L.step (R.loadA (cs := [.slice aSy3 Xf.safe.length cSy3, .slice aPy3 Xf.pend.length cPy3, .bool Xf.dead, .int .i64 Xf.left, .int .i64 Xf.fails, .int .i64 Xf.ops]) r43 rfl k803 rfl rfl) rfl ?_
          refine L.step (R.loadA (cs := o3.cells) r32 rfl k804 rfl rfl) rfl ?_
          refine L.call (E.call2 hb19) rfl (want_calls (o := o3.o) hR811 (fun k hk => by have h0_ := bdy3 k hk; have h1_ := bny3_0 k hk; have h2_ := bny3_1 k hk; have h3_ := bn815 k hk; omega) (hoko3.bools.kept q807 (fun _ _ h => h)) hoko3.len hoko3.at_ (by omega) (by omega) (by omega)) ?_
          rintro _ w816 ⟨y819, rfl, hR818, hk817⟩
          rw [← hXn9] at hR818
          rw [← hbl, ← her]
          simp only [bval]
          obtain ⟨aSi820, cSi820, aPi820, cPi820, rfl⟩ := RefAt.lits hR818
          have k821 := Kept.old hk817 k802 (fun h => h)
          have k822 := Kept.old hk817 k803 (fun h => h)
          have k823 := Kept.old hk817 k804 (fun h => h)
          have k824 := Kept.old hk817 k805 (fun h => h)
          have k825 := Kept.old hk817 k801 (fun h => h)
          have z826 := (hk817).size
          have q827 := Kept.trans q807 hk817 (fun _ _ h => h.elim)
          have hD828 := DiskAt.kept hD808 hk817 (fun _ _ h => h)
          have hD829 := DiskAt.kept hD809 hk817 (fun _ _ h => h)
          have hR830 := RefAt.kept hR810 hk817 (fun _ _ h => h)
          have hR831 := RefAt.kept hR811 hk817 (fun _ _ h => h)
          have z832 := hk817.size
          obtain ⟨F833, eF833⟩ : ∃ G, G = grow x3.2.2 w799 w816 := ⟨_, rfl⟩
          rw [← eF833] at hR818
          have mm835 : ∀ k, F833 k → x3.2.2 k ∨ (w799.heap.size ≤ k ∧ k < w816.heap.size) := fun k hk => by rw [eF833] at hk; exact hk
          have bd834 : ∀ k, F833 k → w.heap.size ≤ k ∧ k < w816.heap.size := fun k hk => by
            have hz9 := (q827).size
            rcases mm835 k hk with h | h
            · have h0_ := bdy3 k h; have h1_ := bny3_0 k h; have h2_ := bny3_1 k h; have h3_ := bn815 k h; omega
            · omega
          have bn836 : ∀ k, F833 k → k ≠ w513.heap.size := fun k hk => by
            rcases mm835 k hk with h | h
            · have h0_ := bdy3 k h; have h1_ := bny3_0 k h; have h2_ := bny3_1 k h; have h3_ := bn815 k h; omega
            · omega
          have bn837 : ∀ k, F833 k → k ≠ w609.heap.size := fun k hk => by
            rcases mm835 k hk with h | h
            · have h0_ := bdy3 k h; have h1_ := bny3_0 k h; have h2_ := bny3_1 k h; have h3_ := bn815 k h; omega
            · omega
          have bn838 : ∀ k, F833 k → k ≠ w787.heap.size := fun k hk => by
            rcases mm835 k hk with h | h
            · have h0_ := bdy3 k h; have h1_ := bny3_0 k h; have h2_ := bny3_1 k h; have h3_ := bn815 k h; omega
            · omega
          have sp839 : ∀ k, F833 k → ¬ x2.2.1 k := fun k hk hy => by
            rcases mm835 k hk with h | h
            · exact (fun k h1 h2 => hSdy3 k h2 h1) k h hy
            · have h0_ := bdd3 k hy; have h1_ := bnd3_0 k hy; have h2_ := bnd3_1 k hy; have h3_ := bn812 k hy; omega
          have sp840 : ∀ k, F833 k → ¬ F765 k := fun k hk hy => by
            rcases mm835 k hk with h | h
            · exact (fun k h1 h2 => sp772 k h2 h1) k h hy
            · have h0_ := bd766 k hy; have h1_ := bn768 k hy; have h2_ := bn769 k hy; have h3_ := bn813 k hy; omega
          refine L.step (R.moveV (v := .tuple #[.agg (List.toArray ([.slice aSi820 Xn.safe.length cSi820, .slice aPi820 Xn.pend.length cPi820, .bool Xn.dead, .int .i64 Xn.left, .int .i64 Xn.fails, .int .i64 Xn.ops])), .agg (List.toArray (bcells bl)), .int .i64 er]) rfl) rfl ?_
          refine L.step (R.extract (v := .agg (List.toArray ([.slice aSi820 Xn.safe.length cSi820, .slice aPi820 Xn.pend.length cPi820, .bool Xn.dead, .int .i64 Xn.left, .int .i64 Xn.fails, .int .i64 Xn.ops]))) rfl rfl) rfl ?_
          refine L.step (R.extract (v := .agg (List.toArray (bcells bl))) rfl rfl) rfl ?_
          refine L.step (R.extract (v := .int .i64 er) rfl rfl) rfl ?_
          refine L.doesE (R.storeAll (cs := [.slice aSi820 Xn.safe.length cSi820, .slice aPi820 Xn.pend.length cPi820, .bool Xn.dead, .int .i64 Xn.left, .int .i64 Xn.fails, .int .i64 Xn.ops]) r43 rfl rfl rfl (by simp [Value.oneCell']) k822 rfl) fun w842 e841 => ?_
          have k843 := So.old e841 (by omega) k821
          have k844 := So.hit e841 k822
          have k845 := So.old e841 (apartE k823 k822 (by decide)) k823
          have k846 := So.old e841 (apartE k824 k822 (by decide)) k824
          have k847 := So.old e841 (apartE k825 k822 (by decide)) k825
          have z848 := So.size e841
          have q849 := So.kept e841 q827 (fun h => absurd h (by omega))
          have hD850 := DiskAt.kept hD828 (So.kept e841 (Kept.refl (fun k => k = w609.heap.size) _) (fun _ => rfl)) (fun k hk e => by have e9 : k = w609.heap.size := e; have h0_ := bdd3 k hk; have h1_ := bnd3_0 k hk; have h2_ := bnd3_1 k hk; have h3_ := bn812 k hk; omega)
          have hD851 := DiskAt.kept hD829 (So.kept e841 (Kept.refl (fun k => k = w609.heap.size) _) (fun _ => rfl)) (fun k hk e => by have e9 : k = w609.heap.size := e; have h0_ := bd766 k hk; have h1_ := bn768 k hk; have h2_ := bn769 k hk; have h3_ := bn813 k hk; omega)
          have hR852 := RefAt.kept hR830 (So.kept e841 (Kept.refl (fun k => k = w609.heap.size) _) (fun _ => rfl)) (fun k hk e => by have e9 : k = w609.heap.size := e; have h0_ := bdx3 k hk; have h1_ := bnx3_0 k hk; have h2_ := bnx3_1 k hk; have h3_ := bn814 k hk; omega)
          have hR853 := RefAt.kept hR818 (So.kept e841 (Kept.refl (fun k => k = w609.heap.size) _) (fun _ => rfl)) (fun k hk e => by have e9 : k = w609.heap.size := e; have h0_ := bd834 k hk; have h1_ := bn836 k hk; have h2_ := bn837 k hk; have h3_ := bn838 k hk; omega)
          refine L.doesE (R.storeAll (cs := bcells bl) r27 rfl rfl (bcells64 hbl64) (one_bcells _) k847 (List.length_replicate)) fun w855 e854 => ?_
          have k856 := So.old e854 (apartE k843 k847 (by decide)) k843
          have k857 := So.old e854 (apartE k844 k847 (by decide)) k844
          have k858 := So.old e854 (apartE k845 k847 (by decide)) k845
          have k859 := So.old e854 (by omega) k846
          have k860 := So.hit e854 k847
          have z861 := So.size e854
          have q862 := So.kept e854 q849 (fun h => absurd h (by omega))
          have hD863 := DiskAt.kept hD850 (So.kept e854 (Kept.refl (fun k => k = w787.heap.size) _) (fun _ => rfl)) (fun k hk e => by have e9 : k = w787.heap.size := e; have h0_ := bdd3 k hk; have h1_ := bnd3_0 k hk; have h2_ := bnd3_1 k hk; have h3_ := bn812 k hk; omega)
          have hD864 := DiskAt.kept hD851 (So.kept e854 (Kept.refl (fun k => k = w787.heap.size) _) (fun _ => rfl)) (fun k hk e => by have e9 : k = w787.heap.size := e; have h0_ := bd766 k hk; have h1_ := bn768 k hk; have h2_ := bn769 k hk; have h3_ := bn813 k hk; omega)
          have hR865 := RefAt.kept hR852 (So.kept e854 (Kept.refl (fun k => k = w787.heap.size) _) (fun _ => rfl)) (fun k hk e => by have e9 : k = w787.heap.size := e; have h0_ := bdx3 k hk; have h1_ := bnx3_0 k hk; have h2_ := bnx3_1 k hk; have h3_ := bn814 k hk; omega)
          have hR866 := RefAt.kept hR853 (So.kept e854 (Kept.refl (fun k => k = w787.heap.size) _) (fun _ => rfl)) (fun k hk e => by have e9 : k = w787.heap.size := e; have h0_ := bd834 k hk; have h1_ := bn836 k hk; have h2_ := bn837 k hk; have h3_ := bn838 k hk; omega)
          refine L.step (R.assignV (v := .int .i64 er) rfl) rfl ?_
          refine L.nil ?_
          refine C.seq ?_
          refine C.region ?_
          refine L.step (R.loadA (cs := bcells bl) r27 rfl k859 (List.take_of_length_le (Nat.le_of_eq (bcells64 hbl64))) (bcells64 hbl64)) rfl ?_
          refine L.step (R.loadA (cs := bcells bl) r27 rfl k860 (List.take_of_length_le (Nat.le_of_eq (bcells64 hbl64))) (bcells64 hbl64)) rfl ?_
          refine L.step (R.neqAV (A := bl) (B := bl) (b := false) Try.underlying27 Try.underlying5 n5 gd27 rfl rfl hbl64 hbl64 (by rw [decide_eq_true rfl]; rfl)) rfl ?_
          refine L.step (R.moveV (v := .bool false) rfl) rfl ?_
          refine L.yes rfl rfl rfl ?_
          refine L.step (R.moveV (v := .int .i64 er) rfl) rfl ?_
          refine L.yes rfl rfl rfl ?_
          refine L.step (R.moveV (v := .int .i64 er) rfl) rfl ?_
          refine L.yes rfl rfl rfl ?_
          refine L.step (R.neqF rfl rfl (rfl)) rfl ?_
          refine L.step (R.pickFV (v := .bool false) rfl rfl) rfl ?_
          refine L.nil ?_
          refine C.condF rfl ?_
          refine C.skip ?_
          refine C.region ?_
          refine L.step (R.add rfl rfl (by omega)) rfl ?_
          refine L.step (R.moveV (v := .int .i64 (((x3.1 : Nat) : Int) + 1)) rfl) rfl ?_
          refine L.nil ?_
          have hsq := (q862).size
          have hDn : Dn = (Dk.run (m3.take (x3.1 + 1))) := by rw [PD.run_succ ho3, hDn9, hDDf]
          have hXn : Xn = (Xk.run (m3.take (x3.1 + 1))) := by rw [RD.run_succ ho3, hXn9, hXXf]
          refine thenP.mk ⟨(x3.1 + 1, F765, F833), ⟨rfl, rfl, rfl, rfl, rfl, rfl, rfl, trivial⟩, ⟨by show x3.1 + 1 ≤ _; omega, q862, hD863, by show DiskAt w855 rc (Dk.run (m3.take (x3.1 + 1))) F765; rw [← hDn]; exact hD864, ⟨aSx3, cSx3, aPx3, cPx3, k856, hR865⟩, by show (∃ aS cS aP cP, w855.heap[w609.heap.size]? = some (blk (rcells (.slice aS (Xk.run (m3.take (x3.1 + 1))).safe.length cS) (.slice aP (Xk.run (m3.take (x3.1 + 1))).pend.length cP) (Xk.run (m3.take (x3.1 + 1)))) 43) ∧ RefAt w855 (.agg (rcells (.slice aS (Xk.run (m3.take (x3.1 + 1))).safe.length cS) (.slice aP (Xk.run (m3.take (x3.1 + 1))).pend.length cP) (Xk.run (m3.take (x3.1 + 1)))).toArray) (Xk.run (m3.take (x3.1 + 1))) F833); rw [← hXn]; exact ⟨aSi820, cSi820, aPi820, cPi820, k857, hR866⟩, (fun k hk => ⟨by have h0_ := bdd3 k hk; have h1_ := bnd3_0 k hk; have h2_ := bnd3_1 k hk; have h3_ := bn812 k hk; omega, by have h0_ := bdd3 k hk; have h1_ := bnd3_0 k hk; have h2_ := bnd3_1 k hk; have h3_ := bn812 k hk; omega, by have h0_ := bdd3 k hk; have h1_ := bnd3_0 k hk; have h2_ := bnd3_1 k hk; have h3_ := bn812 k hk; omega, by have h0_ := bdd3 k hk; have h1_ := bnd3_0 k hk; have h2_ := bnd3_1 k hk; have h3_ := bn812 k hk; omega⟩), (fun k hk => ⟨by have h0_ := bd766 k hk; have h1_ := bn768 k hk; have h2_ := bn769 k hk; have h3_ := bn813 k hk; omega, by have h0_ := bd766 k hk; have h1_ := bn768 k hk; have h2_ := bn769 k hk; have h3_ := bn813 k hk; omega, by have h0_ := bd766 k hk; have h1_ := bn768 k hk; have h2_ := bn769 k hk; have h3_ := bn813 k hk; omega, by have h0_ := bd766 k hk; have h1_ := bn768 k hk; have h2_ := bn769 k hk; have h3_ := bn813 k hk; omega⟩), (fun k hk => ⟨by have h0_ := bdx3 k hk; have h1_ := bnx3_0 k hk; have h2_ := bnx3_1 k hk; have h3_ := bn814 k hk; omega, by have h0_ := bdx3 k hk; have h1_ := bnx3_0 k hk; have h2_ := bnx3_1 k hk; have h3_ := bn814 k hk; omega, by have h0_ := bdx3 k hk; have h1_ := bnx3_0 k hk; have h2_ := bnx3_1 k hk; have h3_ := bn814 k hk; omega, by have h0_ := bdx3 k hk; have h1_ := bnx3_0 k hk; have h2_ := bnx3_1 k hk; have h3_ := bn814 k hk; omega⟩), (fun k hk => ⟨by have h0_ := bd834 k hk; have h1_ := bn836 k hk; have h2_ := bn837 k hk; have h3_ := bn838 k hk; omega, by have h0_ := bd834 k hk; have h1_ := bn836 k hk; have h2_ := bn837 k hk; have h3_ := bn838 k hk; omega, by have h0_ := bd834 k hk; have h1_ := bn836 k hk; have h2_ := bn837 k hk; have h3_ := bn838 k hk; omega, by have h0_ := bd834 k hk; have h1_ := bn836 k hk; have h2_ := bn837 k hk; have h3_ := bn838 k hk; omega⟩), hSdx3, (fun k h1 h2 => sp770 k h2 h1), (fun k h1 h2 => sp839 k h2 h1), sp771, (fun k h1 h2 => sp840 k h2 h1)⟩, by show m3.length - (x3.1 + 1) < m3.length - x3.1; omega⟩
        ·
          refine L.step (R.lssF rfl rfl (Int.not_lt.1 ht730)) rfl ?_
          refine L.nil ?_
          refine C.seq ?_
          refine C.condF rfl ?_
          refine C.exit ?_
          refine C.seq ?_
          refine C.region ?_
          refine L.step (R.moveV (v := .pointer (some ⟨rd, 0, none⟩)) rfl) rfl ?_
          refine L.step (R.loadA (cs := [.slice aSx3 Xe.safe.length cSx3, .slice aPx3 Xe.pend.length cPx3, .bool Xe.dead, .int .i64 Xe.left, .int .i64 Xe.fails, .int .i64 Xe.ops]) r43 rfl hbx3 rfl rfl) rfl ?_
          refine L.call (E.call2 hb20) rfl (agree_calls hd3 hx3 (by rw [hsim2.safe]) hsim2.dead hsim2.ops hsim2.pend (by omega)) ?_
          rintro _ w867 ⟨rfl, hk868⟩
          have k869 := Kept.old hk868 hbx3 (fun h => h)
          have k870 := Kept.old hk868 hby3 (fun h => h)
          have z871 := (hk868).size
          have q872 := Kept.trans hq3 hk868 (fun _ _ h => h.elim)
          have hD873 := DiskAt.kept hd3 hk868 (fun _ _ h => h)
          have hD874 := DiskAt.kept hc3 hk868 (fun _ _ h => h)
          have hR875 := RefAt.kept hx3 hk868 (fun _ _ h => h)
          have hR876 := RefAt.kept hy3 hk868 (fun _ _ h => h)
          refine L.step (R.moveV (v := .bool true) rfl) rfl ?_
          refine L.yes rfl rfl rfl ?_
          refine L.step (R.moveV (v := .pointer (some ⟨rc, 0, none⟩)) rfl) rfl ?_
          refine L.yes rfl rfl rfl ?_
          refine L.step (R.loadA (cs := [.slice aSy3 Xf.safe.length cSy3, .slice aPy3 Xf.pend.length cPy3, .bool Xf.dead, .int .i64 Xf.left, .int .i64 Xf.fails, .int .i64 Xf.ops]) r43 rfl k870 rfl rfl) rfl ?_
          refine L.yes rfl rfl rfl ?_
          refine L.call (E.call2 hb20) rfl (agree_calls hD874 hR876 (by rw [hsim3.safe]) hsim3.dead hsim3.ops hsim3.pend (by omega)) ?_
          rintro _ w877 ⟨rfl, hk878⟩
          have k879 := Kept.old hk878 k869 (fun h => h)
          have k880 := Kept.old hk878 k870 (fun h => h)
          have z881 := (hk878).size
          have q882 := Kept.trans q872 hk878 (fun _ _ h => h.elim)
          have hD883 := DiskAt.kept hD873 hk878 (fun _ _ h => h)
          have hD884 := DiskAt.kept hD874 hk878 (fun _ _ h => h)
          have hR885 := RefAt.kept hR875 hk878 (fun _ _ h => h)
          have hR886 := RefAt.kept hR876 hk878 (fun _ _ h => h)
          refine L.step (R.pickTV (v := .bool true) rfl rfl) rfl ?_
          refine L.step (R.assignV (v := .bool true) rfl) rfl ?_
          refine L.nil ?_
          refine C.ret (?_ : RetOk _ _ _ _ _)
          refine RetOk.tV (v := .bool true) rfl rfl ?_
          exact ⟨rfl, q882⟩
    ·
      refine (AO.stepE rfl trivial (R.alloc z43) rfl fun w888 e887 => ?_)
      have hb889 := (q606).size
      have k891 := Al.new e887
      have k892 := Al.old e887 k604
      have z893 := Al.size e887
      have q894 := Al.kept e887 q606
      have hD895 := DiskAt.kept hD607 (Al.kept e887 (Kept.refl (fun _ => False) _)) (fun _ _ h => h)
      have hR896 := RefAt.kept hR608 (Al.kept e887 (Kept.refl (fun _ => False) _)) (fun _ _ h => h)
      have bn897 : ∀ k, x.2.1 k → k ≠ w602.heap.size := fun k hk => by have h0_ := bdd1 k hk; have h1_ := bnd1_0 k hk; omega
      have bn898 : ∀ k, x.2.2 k → k ≠ w602.heap.size := fun k hk => by have h0_ := bdx1 k hk; have h1_ := bnx1_0 k hk; omega
      refine ⟨fun _ => k892, ?_⟩
      have hz32 := (q894).size
      refine AH.one 1 (by kernel_rfl) (AO.call rfl trivial (E.call1 hb32) rfl (copy_calls hD895 (by omega) (by omega)) ?_)
      rintro _ w899 ⟨rc, rfl, hge, hD901, hk900⟩
      have k902 := Kept.old hk900 k892 (fun h => h)
      have k903 := Kept.old hk900 k891 (fun h => h)
      have z904 := (hk900).size
      have q905 := Kept.trans q894 hk900 (fun _ _ h => h.elim)
      have hD906 := DiskAt.kept hD895 hk900 (fun _ _ h => h)
      have hR907 := RefAt.kept hR896 hk900 (fun _ _ h => h)
      obtain ⟨F908, eF908⟩ : ∃ G, G = grow (fun _ => False) w888 w899 := ⟨_, rfl⟩
      rw [← eF908] at hD901
      have mm910 : ∀ k, F908 k → (fun _ => False) k ∨ (w888.heap.size ≤ k ∧ k < w899.heap.size) := fun k hk => by rw [eF908] at hk; exact hk
      have bd909 : ∀ k, F908 k → w.heap.size ≤ k ∧ k < w899.heap.size := fun k hk => by
        have hz9 := (q905).size
        rcases mm910 k hk with h | h
        · exact h.elim
        · omega
      have bn911 : ∀ k, F908 k → k ≠ w513.heap.size := fun k hk => by
        rcases mm910 k hk with h | h
        · exact h.elim
        · omega
      have bn912 : ∀ k, F908 k → k ≠ w602.heap.size := fun k hk => by
        rcases mm910 k hk with h | h
        · exact h.elim
        · omega
      have sp913 : ∀ k, F908 k → ¬ x.2.1 k := fun k hk hy => by
        rcases mm910 k hk with h | h
        · exact h.elim
        · have h0_ := bdd1 k hy; have h1_ := bnd1_0 k hy; have h2_ := bn897 k hy; omega
      have sp914 : ∀ k, F908 k → ¬ x.2.2 k := fun k hk hy => by
        rcases mm910 k hk with h | h
        · exact h.elim
        · have h0_ := bdx1 k hy; have h1_ := bnx1_0 k hy; have h2_ := bn898 k hy; omega
      refine ⟨fun _ => k902, ?_⟩
      refine AH.take 4 rfl (by kernel_rfl) (by kernel_rfl) (by kernel_rfl) (by kernel_rfl) (fun _ _ _ h => h) rfl trivial (fun _ hS => (R.assignV (v := .pointer (some ⟨rc, 0, none⟩)) rfl)) k902 ?_
      refine AH.one 5 (by kernel_rfl) (AO.doesE rfl trivial (R.storeAll (cs := [.slice aSx1 Xk.safe.length cSx1, .slice aPx1 Xk.pend.length cPx1, .bool Xk.dead, .int .i64 Xk.left, .int .i64 Xk.fails, .int .i64 Xk.ops]) r43 rfl rfl rfl (by simp [Value.oneCell']) k903 rfl) fun w916 e915 => ?_)
      have k917 := So.old e915 (by omega) k902
      have k918 := So.hit e915 k903
      have z919 := So.size e915
      have q920 := So.kept e915 q905 (fun h => absurd h (by omega))
      have hD921 := DiskAt.kept hD906 (So.kept e915 (Kept.refl (fun k => k = w602.heap.size) _) (fun _ => rfl)) (fun k hk e => by have e9 : k = w602.heap.size := e; have h0_ := bdd1 k hk; have h1_ := bnd1_0 k hk; have h2_ := bn897 k hk; omega)
      have hD922 := DiskAt.kept hD901 (So.kept e915 (Kept.refl (fun k => k = w602.heap.size) _) (fun _ => rfl)) (fun k hk e => by have e9 : k = w602.heap.size := e; have h0_ := bd909 k hk; have h1_ := bn911 k hk; have h2_ := bn912 k hk; omega)
      have hR923 := RefAt.kept hR907 (So.kept e915 (Kept.refl (fun k => k = w602.heap.size) _) (fun _ => rfl)) (fun k hk e => by have e9 : k = w602.heap.size := e; have h0_ := bdx1 k hk; have h1_ := bnx1_0 k hk; have h2_ := bn898 k hk; omega)
      refine ⟨fun _ => k917, ?_⟩
      refine AH.done (by kernel_rfl) ?_
      refine C.seq ?_
      refine C.seq ?_
      refine C.region ?_
      refine L.step (R.moveV (v := .pointer (some ⟨rc, 0, none⟩)) rfl) rfl ?_
      refine L.step (R.eqlP Try.underlying24 rfl rfl) rfl ?_
      refine L.nil ?_
      refine C.condF rfl ?_
      refine C.skip ?_
      refine C.seq ?_
      refine C.seq ?_
      refine C.region ?_
      refine L.step (R.moveV (v := .slice a2 l2.length c2) rfl) rfl ?_
      refine L.call (E.call1 hb12) rfl (few_calls (m := m2.length) hc2 (by omega) (by rw [hm2, List.length_take, Nat.min_comm])) ?_
      rintro _ w924 ⟨rfl, ew⟩
      obtain rfl := ew.symm
      refine L.step (R.lenV (v := .int .i64 ((m2.length : Nat) : Int)) Try.underlying22 rfl rfl) rfl ?_
      refine L.step (R.moveV (v := .int .i64 0) rfl) rfl ?_
      refine L.nil ?_
      refine C.block ?_
      have hsw9 := (q920).size
      refine C.loop (α := Nat × (Nat → Prop) × (Nat → Prop)) (fun x2 => [(2, .slice a3 l3.length c3), (7, .pointer (some ⟨rd, 0, none⟩)), (9, .pointer (some ⟨w513.heap.size, 0, none⟩)), (13, .pointer (some ⟨rc, 0, none⟩)), (14, .pointer (some ⟨w602.heap.size, 0, none⟩)), (62, .slice a2 m2.length c2), (63, .int .i64 ((m2.length : Nat) : Int)), (64, .int .i64 ((x2.1 : Nat) : Int))]) (fun x2 W => x2.1 ≤ m2.length ∧ Kept (fun _ => False) w W ∧ DiskAt W rd (Dk.run (m2.take x2.1)) x2.2.1 ∧ DiskAt W rc Dk F908 ∧ (∃ aS cS aP cP, W.heap[w513.heap.size]? = some (blk (rcells (.slice aS (Xk.run (m2.take x2.1)).safe.length cS) (.slice aP (Xk.run (m2.take x2.1)).pend.length cP) (Xk.run (m2.take x2.1))) 43) ∧ RefAt W (.agg (rcells (.slice aS (Xk.run (m2.take x2.1)).safe.length cS) (.slice aP (Xk.run (m2.take x2.1)).pend.length cP) (Xk.run (m2.take x2.1))).toArray) (Xk.run (m2.take x2.1)) x2.2.2) ∧ (∃ aS cS aP cP, W.heap[w602.heap.size]? = some (blk (rcells (.slice aS Xk.safe.length cS) (.slice aP Xk.pend.length cP) Xk) 43) ∧ RefAt W (.agg (rcells (.slice aS Xk.safe.length cS) (.slice aP Xk.pend.length cP) Xk).toArray) Xk x.2.2) ∧ (∀ k, x2.2.1 k → w.heap.size ≤ k ∧ k < W.heap.size ∧ k ≠ w513.heap.size ∧ k ≠ w602.heap.size) ∧ (∀ k, F908 k → w.heap.size ≤ k ∧ k < W.heap.size ∧ k ≠ w513.heap.size ∧ k ≠ w602.heap.size) ∧ (∀ k, x2.2.2 k → w.heap.size ≤ k ∧ k < W.heap.size ∧ k ≠ w513.heap.size ∧ k ≠ w602.heap.size) ∧ (∀ k, x.2.2 k → w.heap.size ≤ k ∧ k < W.heap.size ∧ k ≠ w513.heap.size ∧ k ≠ w602.heap.size) ∧ (∀ k, x2.2.1 k → ¬ x2.2.2 k) ∧ (∀ k, x2.2.1 k → ¬ F908 k) ∧ (∀ k, x2.2.1 k → ¬ x.2.2 k) ∧ (∀ k, F908 k → ¬ x2.2.2 k) ∧ (∀ k, F908 k → ¬ x.2.2 k)) (fun x2 => m2.length - x2.1) ⟨(0, x.2.1, x.2.2), ⟨rfl, rfl, rfl, rfl, rfl, rfl, rfl, rfl, trivial⟩, ⟨Nat.zero_le _, q920, hD921, hD922, ⟨aSx1, cSx1, aPx1, cPx1, k917, hR923⟩, ⟨aSx1, cSx1, aPx1, cPx1, k918, hR923⟩, (fun k hk => ⟨by have h0_ := bdd1 k hk; have h1_ := bnd1_0 k hk; have h2_ := bn897 k hk; omega, by have h0_ := bdd1 k hk; have h1_ := bnd1_0 k hk; have h2_ := bn897 k hk; omega, by have h0_ := bdd1 k hk; have h1_ := bnd1_0 k hk; have h2_ := bn897 k hk; omega, by have h0_ := bdd1 k hk; have h1_ := bnd1_0 k hk; have h2_ := bn897 k hk; omega⟩), (fun k hk => ⟨by have h0_ := bd909 k hk; have h1_ := bn911 k hk; have h2_ := bn912 k hk; omega, by have h0_ := bd909 k hk; have h1_ := bn911 k hk; have h2_ := bn912 k hk; omega, by have h0_ := bd909 k hk; have h1_ := bn911 k hk; have h2_ := bn912 k hk; omega, by have h0_ := bd909 k hk; have h1_ := bn911 k hk; have h2_ := bn912 k hk; omega⟩), (fun k hk => ⟨by have h0_ := bdx1 k hk; have h1_ := bnx1_0 k hk; have h2_ := bn898 k hk; omega, by have h0_ := bdx1 k hk; have h1_ := bnx1_0 k hk; have h2_ := bn898 k hk; omega, by have h0_ := bdx1 k hk; have h1_ := bnx1_0 k hk; have h2_ := bn898 k hk; omega, by have h0_ := bdx1 k hk; have h1_ := bnx1_0 k hk; have h2_ := bn898 k hk; omega⟩), (fun k hk => ⟨by have h0_ := bdx1 k hk; have h1_ := bnx1_0 k hk; have h2_ := bn898 k hk; omega, by have h0_ := bdx1 k hk; have h1_ := bnx1_0 k hk; have h2_ := bn898 k hk; omega, by have h0_ := bdx1 k hk; have h1_ := bnx1_0 k hk; have h2_ := bn898 k hk; omega, by have h0_ := bdx1 k hk; have h1_ := bnx1_0 k hk; have h2_ := bn898 k hk; omega⟩), hSdx1, (fun k h1 h2 => sp913 k h2 h1), hSdx1, sp914, sp914⟩⟩ ?_
      intro x2 g926 w925 hI927
      obtain ⟨hk2, hq2, hd2, hc2, ⟨aSx2, cSx2, aPx2, cPx2, hbx2, hx2⟩, ⟨aSy2, cSy2, aPy2, cPy2, hby2, hy2⟩, hBd2, hBc2, hBx2, hBy2, hSdx2, hSdc2, hSdy2, hScx2, hScy2⟩ := hI927
      have hsz2 := hq2.size
      have bdd2 : ∀ k, x2.2.1 k → w.heap.size ≤ k ∧ k < w925.heap.size := fun k hk => ⟨(hBd2 k hk).1, (hBd2 k hk).2.1⟩
      have bnd2_0 : ∀ k, x2.2.1 k → k ≠ w513.heap.size := fun k hk => (hBd2 k hk).2.2.1
      have bnd2_1 : ∀ k, x2.2.1 k → k ≠ w602.heap.size := fun k hk => (hBd2 k hk).2.2.2
      have bdc2 : ∀ k, F908 k → w.heap.size ≤ k ∧ k < w925.heap.size := fun k hk => ⟨(hBc2 k hk).1, (hBc2 k hk).2.1⟩
      have bnc2_0 : ∀ k, F908 k → k ≠ w513.heap.size := fun k hk => (hBc2 k hk).2.2.1
      have bnc2_1 : ∀ k, F908 k → k ≠ w602.heap.size := fun k hk => (hBc2 k hk).2.2.2
      have bdx2 : ∀ k, x2.2.2 k → w.heap.size ≤ k ∧ k < w925.heap.size := fun k hk => ⟨(hBx2 k hk).1, (hBx2 k hk).2.1⟩
      have bnx2_0 : ∀ k, x2.2.2 k → k ≠ w513.heap.size := fun k hk => (hBx2 k hk).2.2.1
      have bnx2_1 : ∀ k, x2.2.2 k → k ≠ w602.heap.size := fun k hk => (hBx2 k hk).2.2.2
      have bdy2 : ∀ k, x.2.2 k → w.heap.size ≤ k ∧ k < w925.heap.size := fun k hk => ⟨(hBy2 k hk).1, (hBy2 k hk).2.1⟩
      have bny2_0 : ∀ k, x.2.2 k → k ≠ w513.heap.size := fun k hk => (hBy2 k hk).2.2.1
      have bny2_1 : ∀ k, x.2.2 k → k ≠ w602.heap.size := fun k hk => (hBy2 k hk).2.2.2
      have hsim2 := sim_run hsim (m := m2) (by omega) x2.1 hk2
      have hfw2 := wakes_few (D := Dk) hk2
      obtain ⟨De, hDDe⟩ : ∃ D, D = (Dk.run (m2.take x2.1)) := ⟨_, rfl⟩
      obtain ⟨Xe, hXXe⟩ : ∃ X, X = (Xk.run (m2.take x2.1)) := ⟨_, rfl⟩
      rw [← hDDe] at hd2 hsim2 hfw2
      rw [← hXXe] at hx2 hbx2 hsim2
      have hf22 := hd2.ok.ops
      have hf32 : Xe.ops = De.ops := hsim2.ops.symm
      have hf42 : Xe.pend.length = De.pend.length := by rw [hsim2.pend]
      have hf52 : Xe.safe.length = De.safe.length := by rw [hsim2.safe]
      have hblx2 := at_lt _ _ hbx2
      have hbly2 := at_lt _ _ hby2
      refine C.seq ?_
      refine C.region ?_
      rcases Classical.em (((x2.1 : Nat) : Int) < ((m2.length : Nat) : Int)) with ht928 | ht928
      ·
        refine L.step (R.lssT rfl rfl (ht928)) rfl ?_
        refine L.nil ?_
        refine C.seq ?_
        refine C.condT rfl ?_
        refine C.skip ?_
        refine C.seq ?_
        refine C.block ?_
        refine C.seq ?_
        refine C.region ?_
        obtain ⟨bo, oo, hao, hbo, hcell0⟩ := hops2.blockA (by omega)
        have hcellW := (hops2.kept hq2 (fun _ _ h => h))
        obtain ⟨o2, ho2⟩ : ∃ y, m2[x2.1]? = some y := ⟨_, List.getElem?_eq_getElem (by omega)⟩
        have hoko2 := (hcell0 _ _ ho2).2
        have hsl : a2 = some ⟨bo, oo, none⟩ := hao
        obtain ⟨bo2, oo2, hao2, _, hcellW⟩ := hcellW.blockA (by omega)
        have hcx := (hcellW _ _ ho2).1
        have hbb : bo2 = bo ∧ oo2 = oo := by rw [hao] at hao2; cases hao2; exact ⟨rfl, rfl⟩
        obtain ⟨rfl, rfl⟩ := hbb
        refine L.step (R.indexAddrV (m := x2.1) (o2 := oo2 + x2.1 * 4) (b := bo2) (o := oo2) (len := m2.length) (cap := c2) s22 (by show Value.slice a2 m2.length c2 = _; rw [hao]) rfl rfl (by omega) rfl) rfl ?_
        refine L.step (R.loadCA (cs := o2.cells) r32 rfl hcx rfl) rfl ?_
        refine L.stepE (R.alloc z32) rfl fun w930 e929 => ?_
        have k932 := Al.new e929
        have k933 := Al.old e929 hbx2
        have k934 := Al.old e929 hby2
        have z935 := Al.size e929
        have q936 := Al.kept e929 hq2
        have hD937 := DiskAt.kept hd2 (Al.kept e929 (Kept.refl (fun _ => False) _)) (fun _ _ h => h)
        have hD938 := DiskAt.kept hc2 (Al.kept e929 (Kept.refl (fun _ => False) _)) (fun _ _ h => h)
        have hR939 := RefAt.kept hx2 (Al.kept e929 (Kept.refl (fun _ => False) _)) (fun _ _ h => h)
        have hR940 := RefAt.kept hy2 (Al.kept e929 (Kept.refl (fun _ => False) _)) (fun _ _ h => h)
        refine L.doesE (R.storeAll (cs := o2.cells) r32 rfl rfl rfl (hoko2.ones) k932 rfl) fun w942 e941 => ?_
        have k943 := So.old e941 (apartE k933 k932 (by decide)) k933
        have k944 := So.old e941 (apartE k934 k932 (by decide)) k934
        have k945 := So.hit e941 k932
        have z946 := So.size e941
        have q947 := So.kept e941 q936 (fun h => absurd h (by omega))
        have hD948 := DiskAt.kept hD937 (So.kept e941 (Kept.refl (fun k => k = w925.heap.size) _) (fun _ => rfl)) (fun k hk e => by have e9 : k = w925.heap.size := e; have h0_ := bdd2 k hk; have h1_ := bnd2_0 k hk; have h2_ := bnd2_1 k hk; omega)
        have hD949 := DiskAt.kept hD938 (So.kept e941 (Kept.refl (fun k => k = w925.heap.size) _) (fun _ => rfl)) (fun k hk e => by have e9 : k = w925.heap.size := e; have h0_ := bdc2 k hk; have h1_ := bnc2_0 k hk; have h2_ := bnc2_1 k hk; omega)
        have hR950 := RefAt.kept hR939 (So.kept e941 (Kept.refl (fun k => k = w925.heap.size) _) (fun _ => rfl)) (fun k hk e => by have e9 : k = w925.heap.size := e; have h0_ := bdx2 k hk; have h1_ := bnx2_0 k hk; have h2_ := bnx2_1 k hk; omega)
        have hR951 := RefAt.kept hR940 (So.kept e941 (Kept.refl (fun k => k = w925.heap.size) _) (fun _ => rfl)) (fun k hk e => by have e9 : k = w925.heap.size := e; have h0_ := bdy2 k hk; have h1_ := bny2_0 k hk; have h2_ := bny2_1 k hk; omega)
        refine L.nil ?_
        refine C.seq ?_
        refine C.region ?_
        refine L.step (R.moveV (v := .pointer (some ⟨rd, 0, none⟩)) rfl) rfl ?_
        refine L.step (R.loadA (cs := o2.cells) r32 rfl k945 rfl rfl) rfl ?_
        refine L.call (E.call2 hb18) rfl (does_calls (o := o2.o) hD948 (by omega) (by omega) (hoko2.bools.kept q947 (fun _ _ h => h)) hoko2.len hoko2.at_ (fun k hk => by have h0_ := bdd2 k hk; have h1_ := bnd2_0 k hk; have h2_ := bnd2_1 k hk; omega)) ?_
        rintro _ w952 ⟨rfl, hD954, hk953⟩
        have hsd := sim_does hsim2 (by omega) o2.o
        obtain ⟨bl, hbl⟩ : ∃ b, b = (Xe.want o2.o).2.1 := ⟨_, rfl⟩
        obtain ⟨er, her⟩ : ∃ e, e = (Xe.want o2.o).2.2 := ⟨_, rfl⟩
        obtain ⟨Dn, hDn9⟩ : ∃ D, D = (De.does o2.o).1 := ⟨_, rfl⟩
        obtain ⟨Xn, hXn9⟩ : ∃ X, X = (Xe.want o2.o).1 := ⟨_, rfl⟩
        have hbl64 : bl.length = 64 := by rw [hbl, ← hsd.1]; exact does_len2 hD948.ok
        rw [← hDn9, ← hXn9] at hsd
        rw [hsd.1, ← hbl, ← her]
        rw [← hDn9] at hD954
        simp only [bval]
        have k955 := Kept.old hk953 k943 (fun hF => by have h0_ := bdd2 _ hF; have h1_ := bnd2_0 _ hF; have h2_ := bnd2_1 _ hF; omega)
        have k956 := Kept.old hk953 k944 (fun hF => by have h0_ := bdd2 _ hF; have h1_ := bnd2_0 _ hF; have h2_ := bnd2_1 _ hF; omega)
        have k957 := Kept.old hk953 k945 (fun hF => by have h0_ := bdd2 _ hF; have h1_ := bnd2_0 _ hF; have h2_ := bnd2_1 _ hF; omega)
        have hD958 := DiskAt.kept hD949 hk953 (fun k h1 h2 => hSdc2 k h2 h1)
        have hR959 := RefAt.kept hR950 hk953 (fun k h1 h2 => hSdx2 k h2 h1)
        have hR960 := RefAt.kept hR951 hk953 (fun k h1 h2 => hSdy2 k h2 h1)
        have z961 := hk953.size
        have q962 : Kept (fun _ => False) w w952 := Kept.trans q947 hk953 (fun k hlt9 hk9 => by have h0_ := bdd2 k hk9; have h1_ := bnd2_0 k hk9; have h2_ := bnd2_1 k hk9; omega)
        obtain ⟨F963, eF963⟩ : ∃ G, G = grow x2.2.1 w942 w952 := ⟨_, rfl⟩
        rw [← eF963] at hD954
        have mm965 : ∀ k, F963 k → x2.2.1 k ∨ (w942.heap.size ≤ k ∧ k < w952.heap.size) := fun k hk => by rw [eF963] at hk; exact hk
        have bd964 : ∀ k, F963 k → w.heap.size ≤ k ∧ k < w952.heap.size := fun k hk => by
          have hz9 := (q962).size
          rcases mm965 k hk with h | h
          · have h0_ := bdd2 k h; have h1_ := bnd2_0 k h; have h2_ := bnd2_1 k h; omega
          · omega
        have bn966 : ∀ k, F963 k → k ≠ w513.heap.size := fun k hk => by
          rcases mm965 k hk with h | h
          · have h0_ := bdd2 k h; have h1_ := bnd2_0 k h; have h2_ := bnd2_1 k h; omega
          · omega
        have bn967 : ∀ k, F963 k → k ≠ w602.heap.size := fun k hk => by
          rcases mm965 k hk with h | h
          · have h0_ := bdd2 k h; have h1_ := bnd2_0 k h; have h2_ := bnd2_1 k h; omega
          · omega
        have sp968 : ∀ k, F963 k → ¬ F908 k := fun k hk hy => by
          rcases mm965 k hk with h | h
          · exact hSdc2 k h hy
          · have h0_ := bdc2 k hy; have h1_ := bnc2_0 k hy; have h2_ := bnc2_1 k hy; omega
        have sp969 : ∀ k, F963 k → ¬ x2.2.2 k := fun k hk hy => by
          rcases mm965 k hk with h | h
          · exact hSdx2 k h hy
          · have h0_ := bdx2 k hy; have h1_ := bnx2_0 k hy; have h2_ := bnx2_1 k hy; omega
        have sp970 : ∀ k, F963 k → ¬ x.2.2 k := fun k hk hy => by
          rcases mm965 k hk with h | h
          · exact hSdy2 k h hy
          · have h0_ := bdy2 k hy; have h1_ := bny2_0 k hy; have h2_ := bny2_1 k hy; omega
        refine L.nil ?_
        refine C.region ?_
        refine L.step (R.loadA (cs := [.slice aSx2 Xe.safe.length cSx2, .slice aPx2 Xe.pend.length cPx2, .bool Xe.dead, .int .i64 Xe.left, .int .i64 Xe.fails, .int .i64 Xe.ops]) r43 rfl k955 rfl rfl) rfl ?_
        refine L.step (R.loadA (cs := o2.cells) r32 rfl k957 rfl rfl) rfl ?_
        refine L.call (E.call2 hb19) rfl (want_calls (o := o2.o) hR959 (fun k hk => by have h0_ := bdx2 k hk; have h1_ := bnx2_0 k hk; have h2_ := bnx2_1 k hk; omega) (hoko2.bools.kept q962 (fun _ _ h => h)) hoko2.len hoko2.at_ (by omega) (by omega) (by omega)) ?_
        rintro _ w971 ⟨y974, rfl, hR973, hk972⟩
        rw [← hXn9] at hR973
        rw [← hbl, ← her]
        simp only [bval]
        obtain ⟨aSi975, cSi975, aPi975, cPi975, rfl⟩ := RefAt.lits hR973
        have k976 := Kept.old hk972 k955 (fun h => h)
        have k977 := Kept.old hk972 k956 (fun h => h)
        have k978 := Kept.old hk972 k957 (fun h => h)
        have z979 := (hk972).size
        have q980 := Kept.trans q962 hk972 (fun _ _ h => h.elim)
        have hD981 := DiskAt.kept hD954 hk972 (fun _ _ h => h)
        have hD982 := DiskAt.kept hD958 hk972 (fun _ _ h => h)
        have hR983 := RefAt.kept hR959 hk972 (fun _ _ h => h)
        have hR984 := RefAt.kept hR960 hk972 (fun _ _ h => h)
        have z985 := hk972.size
        obtain ⟨F986, eF986⟩ : ∃ G, G = grow x2.2.2 w952 w971 := ⟨_, rfl⟩
        rw [← eF986] at hR973
        have mm988 : ∀ k, F986 k → x2.2.2 k ∨ (w952.heap.size ≤ k ∧ k < w971.heap.size) := fun k hk => by rw [eF986] at hk; exact hk
        have bd987 : ∀ k, F986 k → w.heap.size ≤ k ∧ k < w971.heap.size := fun k hk => by
          have hz9 := (q980).size
          rcases mm988 k hk with h | h
          · have h0_ := bdx2 k h; have h1_ := bnx2_0 k h; have h2_ := bnx2_1 k h; omega
          · omega
        have bn989 : ∀ k, F986 k → k ≠ w513.heap.size := fun k hk => by
          rcases mm988 k hk with h | h
          · have h0_ := bdx2 k h; have h1_ := bnx2_0 k h; have h2_ := bnx2_1 k h; omega
          · omega
        have bn990 : ∀ k, F986 k → k ≠ w602.heap.size := fun k hk => by
          rcases mm988 k hk with h | h
          · have h0_ := bdx2 k h; have h1_ := bnx2_0 k h; have h2_ := bnx2_1 k h; omega
          · omega
        have sp991 : ∀ k, F986 k → ¬ F963 k := fun k hk hy => by
          rcases mm988 k hk with h | h
          · exact (fun k h1 h2 => sp969 k h2 h1) k h hy
          · have h0_ := bd964 k hy; have h1_ := bn966 k hy; have h2_ := bn967 k hy; omega
        have sp992 : ∀ k, F986 k → ¬ F908 k := fun k hk hy => by
          rcases mm988 k hk with h | h
          · exact (fun k h1 h2 => hScx2 k h2 h1) k h hy
          · have h0_ := bdc2 k hy; have h1_ := bnc2_0 k hy; have h2_ := bnc2_1 k hy; omega
        refine L.step (R.moveV (v := .tuple #[.agg (List.toArray ([.slice aSi975 Xn.safe.length cSi975, .slice aPi975 Xn.pend.length cPi975, .bool Xn.dead, .int .i64 Xn.left, .int .i64 Xn.fails, .int .i64 Xn.ops])), .agg (List.toArray (bcells bl)), .int .i64 er]) rfl) rfl ?_
        refine L.step (R.extract (v := .agg (List.toArray ([.slice aSi975 Xn.safe.length cSi975, .slice aPi975 Xn.pend.length cPi975, .bool Xn.dead, .int .i64 Xn.left, .int .i64 Xn.fails, .int .i64 Xn.ops]))) rfl rfl) rfl ?_
        refine L.step (R.extract (v := .agg (List.toArray (bcells bl))) rfl rfl) rfl ?_
        refine L.step (R.extract (v := .int .i64 er) rfl rfl) rfl ?_
        refine L.doesE (R.storeAll (cs := [.slice aSi975 Xn.safe.length cSi975, .slice aPi975 Xn.pend.length cPi975, .bool Xn.dead, .int .i64 Xn.left, .int .i64 Xn.fails, .int .i64 Xn.ops]) r43 rfl rfl rfl (by simp [Value.oneCell']) k976 rfl) fun w994 e993 => ?_
        have k995 := So.hit e993 k976
        have k996 := So.old e993 (by omega) k977
        have k997 := So.old e993 (apartE k978 k976 (by decide)) k978
        have z998 := So.size e993
        have q999 := So.kept e993 q980 (fun h => absurd h (by omega))
        have hD1000 := DiskAt.kept hD981 (So.kept e993 (Kept.refl (fun k => k = w513.heap.size) _) (fun _ => rfl)) (fun k hk e => by have e9 : k = w513.heap.size := e; have h0_ := bd964 k hk; have h1_ := bn966 k hk; have h2_ := bn967 k hk; omega)
        have hD1001 := DiskAt.kept hD982 (So.kept e993 (Kept.refl (fun k => k = w513.heap.size) _) (fun _ => rfl)) (fun k hk e => by have e9 : k = w513.heap.size := e; have h0_ := bdc2 k hk; have h1_ := bnc2_0 k hk; have h2_ := bnc2_1 k hk; omega)
        have hR1002 := RefAt.kept hR973 (So.kept e993 (Kept.refl (fun k => k = w513.heap.size) _) (fun _ => rfl)) (fun k hk e => by have e9 : k = w513.heap.size := e; have h0_ := bd987 k hk; have h1_ := bn989 k hk; have h2_ := bn990 k hk; omega)
        have hR1003 := RefAt.kept hR984 (So.kept e993 (Kept.refl (fun k => k = w513.heap.size) _) (fun _ => rfl)) (fun k hk e => by have e9 : k = w513.heap.size := e; have h0_ := bdy2 k hk; have h1_ := bny2_0 k hk; have h2_ := bny2_1 k hk; omega)
        refine L.nil ?_
        refine C.region ?_
        refine L.step (R.add rfl rfl (by omega)) rfl ?_
        refine L.step (R.moveV (v := .int .i64 (((x2.1 : Nat) : Int) + 1)) rfl) rfl ?_
        refine L.nil ?_
        have hsq := (q999).size
        have hDn : Dn = (Dk.run (m2.take (x2.1 + 1))) := by rw [PD.run_succ ho2, hDn9, hDDe]
        have hXn : Xn = (Xk.run (m2.take (x2.1 + 1))) := by rw [RD.run_succ ho2, hXn9, hXXe]
        refine thenP.mk ⟨(x2.1 + 1, F963, F986), ⟨rfl, rfl, rfl, rfl, rfl, rfl, rfl, rfl, trivial⟩, ⟨by show x2.1 + 1 ≤ _; omega, q999, by show DiskAt w994 rd (Dk.run (m2.take (x2.1 + 1))) F963; rw [← hDn]; exact hD1000, hD1001, by show (∃ aS cS aP cP, w994.heap[w513.heap.size]? = some (blk (rcells (.slice aS (Xk.run (m2.take (x2.1 + 1))).safe.length cS) (.slice aP (Xk.run (m2.take (x2.1 + 1))).pend.length cP) (Xk.run (m2.take (x2.1 + 1)))) 43) ∧ RefAt w994 (.agg (rcells (.slice aS (Xk.run (m2.take (x2.1 + 1))).safe.length cS) (.slice aP (Xk.run (m2.take (x2.1 + 1))).pend.length cP) (Xk.run (m2.take (x2.1 + 1)))).toArray) (Xk.run (m2.take (x2.1 + 1))) F986); rw [← hXn]; exact ⟨aSi975, cSi975, aPi975, cPi975, k995, hR1002⟩, ⟨aSy2, cSy2, aPy2, cPy2, k996, hR1003⟩, (fun k hk => ⟨by have h0_ := bd964 k hk; have h1_ := bn966 k hk; have h2_ := bn967 k hk; omega, by have h0_ := bd964 k hk; have h1_ := bn966 k hk; have h2_ := bn967 k hk; omega, by have h0_ := bd964 k hk; have h1_ := bn966 k hk; have h2_ := bn967 k hk; omega, by have h0_ := bd964 k hk; have h1_ := bn966 k hk; have h2_ := bn967 k hk; omega⟩), (fun k hk => ⟨by have h0_ := bdc2 k hk; have h1_ := bnc2_0 k hk; have h2_ := bnc2_1 k hk; omega, by have h0_ := bdc2 k hk; have h1_ := bnc2_0 k hk; have h2_ := bnc2_1 k hk; omega, by have h0_ := bdc2 k hk; have h1_ := bnc2_0 k hk; have h2_ := bnc2_1 k hk; omega, by have h0_ := bdc2 k hk; have h1_ := bnc2_0 k hk; have h2_ := bnc2_1 k hk; omega⟩), (fun k hk => ⟨by have h0_ := bd987 k hk; have h1_ := bn989 k hk; have h2_ := bn990 k hk; omega, by have h0_ := bd987 k hk; have h1_ := bn989 k hk; have h2_ := bn990 k hk; omega, by have h0_ := bd987 k hk; have h1_ := bn989 k hk; have h2_ := bn990 k hk; omega, by have h0_ := bd987 k hk; have h1_ := bn989 k hk; have h2_ := bn990 k hk; omega⟩), (fun k hk => ⟨by have h0_ := bdy2 k hk; have h1_ := bny2_0 k hk; have h2_ := bny2_1 k hk; omega, by have h0_ := bdy2 k hk; have h1_ := bny2_0 k hk; have h2_ := bny2_1 k hk; omega, by have h0_ := bdy2 k hk; have h1_ := bny2_0 k hk; have h2_ := bny2_1 k hk; omega, by have h0_ := bdy2 k hk; have h1_ := bny2_0 k hk; have h2_ := bny2_1 k hk; omega⟩), (fun k h1 h2 => sp991 k h2 h1), sp968, sp970, (fun k h1 h2 => sp992 k h2 h1), hScy2⟩, by show m2.length - (x2.1 + 1) < m2.length - x2.1; omega⟩
      ·
        refine L.step (R.lssF rfl rfl (Int.not_lt.1 ht928)) rfl ?_
        refine L.nil ?_
        refine C.seq ?_
        refine C.condF rfl ?_
        refine C.exit ?_
        refine C.seq ?_
        refine C.seq ?_
        refine C.region ?_
        refine L.step (R.moveV (v := .slice a3 l3.length c3) rfl) rfl ?_
        refine L.call (E.call1 hb12) rfl (few_calls (m := m3.length) hc3 (by omega) (by rw [hm3, List.length_take, Nat.min_comm])) ?_
        rintro _ w1004 ⟨rfl, ew⟩
        obtain rfl := ew.symm
        refine L.step (R.lenV (v := .int .i64 ((m3.length : Nat) : Int)) Try.underlying22 rfl rfl) rfl ?_
        refine L.step (R.moveV (v := .int .i64 0) rfl) rfl ?_
        refine L.nil ?_
        refine C.block ?_
        have hsw9 := (hq2).size
        refine C.loop (α := Nat × (Nat → Prop) × (Nat → Prop)) (fun x3 => [(7, .pointer (some ⟨rd, 0, none⟩)), (9, .pointer (some ⟨w513.heap.size, 0, none⟩)), (13, .pointer (some ⟨rc, 0, none⟩)), (14, .pointer (some ⟨w602.heap.size, 0, none⟩)), (80, .slice a3 m3.length c3), (81, .int .i64 ((m3.length : Nat) : Int)), (82, .int .i64 ((x3.1 : Nat) : Int))]) (fun x3 W => x3.1 ≤ m3.length ∧ Kept (fun _ => False) w W ∧ DiskAt W rd De x2.2.1 ∧ DiskAt W rc (Dk.run (m3.take x3.1)) x3.2.1 ∧ (∃ aS cS aP cP, W.heap[w513.heap.size]? = some (blk (rcells (.slice aS Xe.safe.length cS) (.slice aP Xe.pend.length cP) Xe) 43) ∧ RefAt W (.agg (rcells (.slice aS Xe.safe.length cS) (.slice aP Xe.pend.length cP) Xe).toArray) Xe x2.2.2) ∧ (∃ aS cS aP cP, W.heap[w602.heap.size]? = some (blk (rcells (.slice aS (Xk.run (m3.take x3.1)).safe.length cS) (.slice aP (Xk.run (m3.take x3.1)).pend.length cP) (Xk.run (m3.take x3.1))) 43) ∧ RefAt W (.agg (rcells (.slice aS (Xk.run (m3.take x3.1)).safe.length cS) (.slice aP (Xk.run (m3.take x3.1)).pend.length cP) (Xk.run (m3.take x3.1))).toArray) (Xk.run (m3.take x3.1)) x3.2.2) ∧ (∀ k, x2.2.1 k → w.heap.size ≤ k ∧ k < W.heap.size ∧ k ≠ w513.heap.size ∧ k ≠ w602.heap.size) ∧ (∀ k, x3.2.1 k → w.heap.size ≤ k ∧ k < W.heap.size ∧ k ≠ w513.heap.size ∧ k ≠ w602.heap.size) ∧ (∀ k, x2.2.2 k → w.heap.size ≤ k ∧ k < W.heap.size ∧ k ≠ w513.heap.size ∧ k ≠ w602.heap.size) ∧ (∀ k, x3.2.2 k → w.heap.size ≤ k ∧ k < W.heap.size ∧ k ≠ w513.heap.size ∧ k ≠ w602.heap.size) ∧ (∀ k, x2.2.1 k → ¬ x2.2.2 k) ∧ (∀ k, x2.2.1 k → ¬ x3.2.1 k) ∧ (∀ k, x2.2.1 k → ¬ x3.2.2 k) ∧ (∀ k, x3.2.1 k → ¬ x2.2.2 k) ∧ (∀ k, x3.2.1 k → ¬ x3.2.2 k)) (fun x3 => m3.length - x3.1) ⟨(0, F908, x.2.2), ⟨rfl, rfl, rfl, rfl, rfl, rfl, rfl, trivial⟩, ⟨Nat.zero_le _, hq2, hd2, hc2, ⟨aSx2, cSx2, aPx2, cPx2, hbx2, hx2⟩, ⟨aSy2, cSy2, aPy2, cPy2, hby2, hy2⟩, (fun k hk => ⟨by have h0_ := bdd2 k hk; have h1_ := bnd2_0 k hk; have h2_ := bnd2_1 k hk; omega, by have h0_ := bdd2 k hk; have h1_ := bnd2_0 k hk; have h2_ := bnd2_1 k hk; omega, by have h0_ := bdd2 k hk; have h1_ := bnd2_0 k hk; have h2_ := bnd2_1 k hk; omega, by have h0_ := bdd2 k hk; have h1_ := bnd2_0 k hk; have h2_ := bnd2_1 k hk; omega⟩), (fun k hk => ⟨by have h0_ := bdc2 k hk; have h1_ := bnc2_0 k hk; have h2_ := bnc2_1 k hk; omega, by have h0_ := bdc2 k hk; have h1_ := bnc2_0 k hk; have h2_ := bnc2_1 k hk; omega, by have h0_ := bdc2 k hk; have h1_ := bnc2_0 k hk; have h2_ := bnc2_1 k hk; omega, by have h0_ := bdc2 k hk; have h1_ := bnc2_0 k hk; have h2_ := bnc2_1 k hk; omega⟩), (fun k hk => ⟨by have h0_ := bdx2 k hk; have h1_ := bnx2_0 k hk; have h2_ := bnx2_1 k hk; omega, by have h0_ := bdx2 k hk; have h1_ := bnx2_0 k hk; have h2_ := bnx2_1 k hk; omega, by have h0_ := bdx2 k hk; have h1_ := bnx2_0 k hk; have h2_ := bnx2_1 k hk; omega, by have h0_ := bdx2 k hk; have h1_ := bnx2_0 k hk; have h2_ := bnx2_1 k hk; omega⟩), (fun k hk => ⟨by have h0_ := bdy2 k hk; have h1_ := bny2_0 k hk; have h2_ := bny2_1 k hk; omega, by have h0_ := bdy2 k hk; have h1_ := bny2_0 k hk; have h2_ := bny2_1 k hk; omega, by have h0_ := bdy2 k hk; have h1_ := bny2_0 k hk; have h2_ := bny2_1 k hk; omega, by have h0_ := bdy2 k hk; have h1_ := bny2_0 k hk; have h2_ := bny2_1 k hk; omega⟩), hSdx2, hSdc2, hSdy2, hScx2, hScy2⟩⟩ ?_
        intro x3 g1006 w1005 hI1007
        obtain ⟨hk3, hq3, hd3, hc3, ⟨aSx3, cSx3, aPx3, cPx3, hbx3, hx3⟩, ⟨aSy3, cSy3, aPy3, cPy3, hby3, hy3⟩, hBd3, hBc3, hBx3, hBy3, hSdx3, hSdc3, hSdy3, hScx3, hScy3⟩ := hI1007
        have hsz3 := hq3.size
        have bdd3 : ∀ k, x2.2.1 k → w.heap.size ≤ k ∧ k < w1005.heap.size := fun k hk => ⟨(hBd3 k hk).1, (hBd3 k hk).2.1⟩
        have bnd3_0 : ∀ k, x2.2.1 k → k ≠ w513.heap.size := fun k hk => (hBd3 k hk).2.2.1
        have bnd3_1 : ∀ k, x2.2.1 k → k ≠ w602.heap.size := fun k hk => (hBd3 k hk).2.2.2
        have bdc3 : ∀ k, x3.2.1 k → w.heap.size ≤ k ∧ k < w1005.heap.size := fun k hk => ⟨(hBc3 k hk).1, (hBc3 k hk).2.1⟩
        have bnc3_0 : ∀ k, x3.2.1 k → k ≠ w513.heap.size := fun k hk => (hBc3 k hk).2.2.1
        have bnc3_1 : ∀ k, x3.2.1 k → k ≠ w602.heap.size := fun k hk => (hBc3 k hk).2.2.2
        have bdx3 : ∀ k, x2.2.2 k → w.heap.size ≤ k ∧ k < w1005.heap.size := fun k hk => ⟨(hBx3 k hk).1, (hBx3 k hk).2.1⟩
        have bnx3_0 : ∀ k, x2.2.2 k → k ≠ w513.heap.size := fun k hk => (hBx3 k hk).2.2.1
        have bnx3_1 : ∀ k, x2.2.2 k → k ≠ w602.heap.size := fun k hk => (hBx3 k hk).2.2.2
        have bdy3 : ∀ k, x3.2.2 k → w.heap.size ≤ k ∧ k < w1005.heap.size := fun k hk => ⟨(hBy3 k hk).1, (hBy3 k hk).2.1⟩
        have bny3_0 : ∀ k, x3.2.2 k → k ≠ w513.heap.size := fun k hk => (hBy3 k hk).2.2.1
        have bny3_1 : ∀ k, x3.2.2 k → k ≠ w602.heap.size := fun k hk => (hBy3 k hk).2.2.2
        have hsim3 := sim_run hsim (m := m3) (by omega) x3.1 hk3
        have hfw3 := wakes_few (D := Dk) hk3
        obtain ⟨Df, hDDf⟩ : ∃ D, D = (Dk.run (m3.take x3.1)) := ⟨_, rfl⟩
        obtain ⟨Xf, hXXf⟩ : ∃ X, X = (Xk.run (m3.take x3.1)) := ⟨_, rfl⟩
        rw [← hDDf] at hc3 hsim3 hfw3
        rw [← hXXf] at hy3 hby3 hsim3
        have hf23 := hc3.ok.ops
        have hf33 : Xf.ops = Df.ops := hsim3.ops.symm
        have hf43 : Xf.pend.length = Df.pend.length := by rw [hsim3.pend]
        have hf53 : Xf.safe.length = Df.safe.length := by rw [hsim3.safe]
        have hblx3 := at_lt _ _ hbx3
        have hbly3 := at_lt _ _ hby3
        refine C.seq ?_
        refine C.region ?_
        rcases Classical.em (((x3.1 : Nat) : Int) < ((m3.length : Nat) : Int)) with ht1008 | ht1008
        ·
          refine L.step (R.lssT rfl rfl (ht1008)) rfl ?_
          refine L.nil ?_
          refine C.seq ?_
          refine C.condT rfl ?_
          refine C.skip ?_
          refine C.seq ?_
          refine C.block ?_
          refine C.seq ?_
          refine C.region ?_
          obtain ⟨bo, oo, hao, hbo, hcell0⟩ := hops3.blockA (by omega)
          have hcellW := (hops3.kept hq3 (fun _ _ h => h))
          obtain ⟨o3, ho3⟩ : ∃ y, m3[x3.1]? = some y := ⟨_, List.getElem?_eq_getElem (by omega)⟩
          have hoko3 := (hcell0 _ _ ho3).2
          have hsl : a3 = some ⟨bo, oo, none⟩ := hao
          obtain ⟨bo2, oo2, hao2, _, hcellW⟩ := hcellW.blockA (by omega)
          have hcx := (hcellW _ _ ho3).1
          have hbb : bo2 = bo ∧ oo2 = oo := by rw [hao] at hao2; cases hao2; exact ⟨rfl, rfl⟩
          obtain ⟨rfl, rfl⟩ := hbb
          refine L.step (R.indexAddrV (m := x3.1) (o2 := oo2 + x3.1 * 4) (b := bo2) (o := oo2) (len := m3.length) (cap := c3) s22 (by show Value.slice a3 m3.length c3 = _; rw [hao]) rfl rfl (by omega) rfl) rfl ?_
          refine L.step (R.loadCA (cs := o3.cells) r32 rfl hcx rfl) rfl ?_
          refine L.stepE (R.alloc z32) rfl fun w1010 e1009 => ?_
          have k1012 := Al.new e1009
          have k1013 := Al.old e1009 hbx3
          have k1014 := Al.old e1009 hby3
          have z1015 := Al.size e1009
          have q1016 := Al.kept e1009 hq3
          have hD1017 := DiskAt.kept hd3 (Al.kept e1009 (Kept.refl (fun _ => False) _)) (fun _ _ h => h)
          have hD1018 := DiskAt.kept hc3 (Al.kept e1009 (Kept.refl (fun _ => False) _)) (fun _ _ h => h)
          have hR1019 := RefAt.kept hx3 (Al.kept e1009 (Kept.refl (fun _ => False) _)) (fun _ _ h => h)
          have hR1020 := RefAt.kept hy3 (Al.kept e1009 (Kept.refl (fun _ => False) _)) (fun _ _ h => h)
          refine L.doesE (R.storeAll (cs := o3.cells) r32 rfl rfl rfl (hoko3.ones) k1012 rfl) fun w1022 e1021 => ?_
          have k1023 := So.old e1021 (apartE k1013 k1012 (by decide)) k1013
          have k1024 := So.old e1021 (apartE k1014 k1012 (by decide)) k1014
          have k1025 := So.hit e1021 k1012
          have z1026 := So.size e1021
          have q1027 := So.kept e1021 q1016 (fun h => absurd h (by omega))
          have hD1028 := DiskAt.kept hD1017 (So.kept e1021 (Kept.refl (fun k => k = w1005.heap.size) _) (fun _ => rfl)) (fun k hk e => by have e9 : k = w1005.heap.size := e; have h0_ := bdd3 k hk; have h1_ := bnd3_0 k hk; have h2_ := bnd3_1 k hk; omega)
          have hD1029 := DiskAt.kept hD1018 (So.kept e1021 (Kept.refl (fun k => k = w1005.heap.size) _) (fun _ => rfl)) (fun k hk e => by have e9 : k = w1005.heap.size := e; have h0_ := bdc3 k hk; have h1_ := bnc3_0 k hk; have h2_ := bnc3_1 k hk; omega)
          have hR1030 := RefAt.kept hR1019 (So.kept e1021 (Kept.refl (fun k => k = w1005.heap.size) _) (fun _ => rfl)) (fun k hk e => by have e9 : k = w1005.heap.size := e; have h0_ := bdx3 k hk; have h1_ := bnx3_0 k hk; have h2_ := bnx3_1 k hk; omega)
          have hR1031 := RefAt.kept hR1020 (So.kept e1021 (Kept.refl (fun k => k = w1005.heap.size) _) (fun _ => rfl)) (fun k hk e => by have e9 : k = w1005.heap.size := e; have h0_ := bdy3 k hk; have h1_ := bny3_0 k hk; have h2_ := bny3_1 k hk; omega)
          refine L.nil ?_
          refine C.seq ?_
          refine C.region ?_
          refine L.step (R.moveV (v := .pointer (some ⟨rc, 0, none⟩)) rfl) rfl ?_
          refine L.step (R.loadA (cs := o3.cells) r32 rfl k1025 rfl rfl) rfl ?_
          refine L.call (E.call2 hb18) rfl (does_calls (o := o3.o) hD1029 (by omega) (by omega) (hoko3.bools.kept q1027 (fun _ _ h => h)) hoko3.len hoko3.at_ (fun k hk => by have h0_ := bdc3 k hk; have h1_ := bnc3_0 k hk; have h2_ := bnc3_1 k hk; omega)) ?_
          rintro _ w1032 ⟨rfl, hD1034, hk1033⟩
          have hsd := sim_does hsim3 (by omega) o3.o
          obtain ⟨bl, hbl⟩ : ∃ b, b = (Xf.want o3.o).2.1 := ⟨_, rfl⟩
          obtain ⟨er, her⟩ : ∃ e, e = (Xf.want o3.o).2.2 := ⟨_, rfl⟩
          obtain ⟨Dn, hDn9⟩ : ∃ D, D = (Df.does o3.o).1 := ⟨_, rfl⟩
          obtain ⟨Xn, hXn9⟩ : ∃ X, X = (Xf.want o3.o).1 := ⟨_, rfl⟩
          have hbl64 : bl.length = 64 := by rw [hbl, ← hsd.1]; exact does_len2 hD1029.ok
          rw [← hDn9, ← hXn9] at hsd
          rw [hsd.1, ← hbl, ← her]
          rw [← hDn9] at hD1034
          simp only [bval]
          have k1035 := Kept.old hk1033 k1023 (fun hF => by have h0_ := bdc3 _ hF; have h1_ := bnc3_0 _ hF; have h2_ := bnc3_1 _ hF; omega)
          have k1036 := Kept.old hk1033 k1024 (fun hF => by have h0_ := bdc3 _ hF; have h1_ := bnc3_0 _ hF; have h2_ := bnc3_1 _ hF; omega)
          have k1037 := Kept.old hk1033 k1025 (fun hF => by have h0_ := bdc3 _ hF; have h1_ := bnc3_0 _ hF; have h2_ := bnc3_1 _ hF; omega)
          have hD1038 := DiskAt.kept hD1028 hk1033 hSdc3
          have hR1039 := RefAt.kept hR1030 hk1033 (fun k h1 h2 => hScx3 k h2 h1)
          have hR1040 := RefAt.kept hR1031 hk1033 (fun k h1 h2 => hScy3 k h2 h1)
          have z1041 := hk1033.size
          have q1042 : Kept (fun _ => False) w w1032 := Kept.trans q1027 hk1033 (fun k hlt9 hk9 => by have h0_ := bdc3 k hk9; have h1_ := bnc3_0 k hk9; have h2_ := bnc3_1 k hk9; omega)
          obtain ⟨F1043, eF1043⟩ : ∃ G, G = grow x3.2.1 w1022 w1032 := ⟨_, rfl⟩
          rw [← eF1043] at hD1034
          have mm1045 : ∀ k, F1043 k → x3.2.1 k ∨ (w1022.heap.size ≤ k ∧ k < w1032.heap.size) := fun k hk => by rw [eF1043] at hk; exact hk
          have bd1044 : ∀ k, F1043 k → w.heap.size ≤ k ∧ k < w1032.heap.size := fun k hk => by
            have hz9 := (q1042).size
            rcases mm1045 k hk with h | h
            · have h0_ := bdc3 k h; have h1_ := bnc3_0 k h; have h2_ := bnc3_1 k h; omega
            · omega
          have bn1046 : ∀ k, F1043 k → k ≠ w513.heap.size := fun k hk => by
            rcases mm1045 k hk with h | h
            · have h0_ := bdc3 k h; have h1_ := bnc3_0 k h; have h2_ := bnc3_1 k h; omega
            · omega
          have bn1047 : ∀ k, F1043 k → k ≠ w602.heap.size := fun k hk => by
            rcases mm1045 k hk with h | h
            · have h0_ := bdc3 k h; have h1_ := bnc3_0 k h; have h2_ := bnc3_1 k h; omega
            · omega
          have sp1048 : ∀ k, F1043 k → ¬ x2.2.1 k := fun k hk hy => by
            rcases mm1045 k hk with h | h
            · exact (fun k h1 h2 => hSdc3 k h2 h1) k h hy
            · have h0_ := bdd3 k hy; have h1_ := bnd3_0 k hy; have h2_ := bnd3_1 k hy; omega
          have sp1049 : ∀ k, F1043 k → ¬ x2.2.2 k := fun k hk hy => by
            rcases mm1045 k hk with h | h
            · exact hScx3 k h hy
            · have h0_ := bdx3 k hy; have h1_ := bnx3_0 k hy; have h2_ := bnx3_1 k hy; omega
          have sp1050 : ∀ k, F1043 k → ¬ x3.2.2 k := fun k hk hy => by
            rcases mm1045 k hk with h | h
            · exact hScy3 k h hy
            · have h0_ := bdy3 k hy; have h1_ := bny3_0 k hy; have h2_ := bny3_1 k hy; omega
          refine L.step (R.moveV (v := .tuple #[.agg (List.toArray (bcells bl)), .int .i64 er]) rfl) rfl ?_
          refine L.step (R.extract (v := .agg (List.toArray (bcells bl))) rfl rfl) rfl ?_
          refine L.step (R.extract (v := .int .i64 er) rfl rfl) rfl ?_
          refine L.stepE (R.alloc z27) rfl fun w1052 e1051 => ?_
          have k1054 := Al.new e1051
          have k1055 := Al.old e1051 k1035
          have k1056 := Al.old e1051 k1036
          have k1057 := Al.old e1051 k1037
          have z1058 := Al.size e1051
          have q1059 := Al.kept e1051 q1042
          have hD1060 := DiskAt.kept hD1038 (Al.kept e1051 (Kept.refl (fun _ => False) _)) (fun _ _ h => h)
          have hD1061 := DiskAt.kept hD1034 (Al.kept e1051 (Kept.refl (fun _ => False) _)) (fun _ _ h => h)
          have hR1062 := RefAt.kept hR1039 (Al.kept e1051 (Kept.refl (fun _ => False) _)) (fun _ _ h => h)
          have hR1063 := RefAt.kept hR1040 (Al.kept e1051 (Kept.refl (fun _ => False) _)) (fun _ _ h => h)
          refine L.doesE (R.storeAll (cs := bcells bl) r27 rfl rfl (bcells64 hbl64) (one_bcells _) k1054 (List.length_replicate)) fun w1065 e1064 => ?_
          have k1066 := So.old e1064 (apartE k1055 k1054 (by decide)) k1055
          have k1067 := So.old e1064 (apartE k1056 k1054 (by decide)) k1056
          have k1068 := So.old e1064 (apartE k1057 k1054 (by decide)) k1057
          have k1069 := So.hit e1064 k1054
          have z1070 := So.size e1064
          have q1071 := So.kept e1064 q1059 (fun h => absurd h (by omega))
          have hD1072 := DiskAt.kept hD1060 (So.kept e1064 (Kept.refl (fun k => k = w1032.heap.size) _) (fun _ => rfl)) (fun k hk e => by have e9 : k = w1032.heap.size := e; have h0_ := bdd3 k hk; have h1_ := bnd3_0 k hk; have h2_ := bnd3_1 k hk; omega)
          have hD1073 := DiskAt.kept hD1061 (So.kept e1064 (Kept.refl (fun k => k = w1032.heap.size) _) (fun _ => rfl)) (fun k hk e => by have e9 : k = w1032.heap.size := e; have h0_ := bd1044 k hk; have h1_ := bn1046 k hk; have h2_ := bn1047 k hk; omega)
          have hR1074 := RefAt.kept hR1062 (So.kept e1064 (Kept.refl (fun k => k = w1032.heap.size) _) (fun _ => rfl)) (fun k hk e => by have e9 : k = w1032.heap.size := e; have h0_ := bdx3 k hk; have h1_ := bnx3_0 k hk; have h2_ := bnx3_1 k hk; omega)
          have hR1075 := RefAt.kept hR1063 (So.kept e1064 (Kept.refl (fun k => k = w1032.heap.size) _) (fun _ => rfl)) (fun k hk e => by have e9 : k = w1032.heap.size := e; have h0_ := bdy3 k hk; have h1_ := bny3_0 k hk; have h2_ := bny3_1 k hk; omega)
          refine L.step (R.assignV (v := .int .i64 er) rfl) rfl ?_
          refine L.nil ?_
          refine C.seq ?_
          refine C.region ?_
          refine L.stepE (R.alloc z27) rfl fun w1077 e1076 => ?_
          have k1079 := Al.new e1076
          have k1080 := Al.old e1076 k1066
          have k1081 := Al.old e1076 k1067
          have k1082 := Al.old e1076 k1068
          have k1083 := Al.old e1076 k1069
          have z1084 := Al.size e1076
          have q1085 := Al.kept e1076 q1071
          have hD1086 := DiskAt.kept hD1072 (Al.kept e1076 (Kept.refl (fun _ => False) _)) (fun _ _ h => h)
          have hD1087 := DiskAt.kept hD1073 (Al.kept e1076 (Kept.refl (fun _ => False) _)) (fun _ _ h => h)
          have hR1088 := RefAt.kept hR1074 (Al.kept e1076 (Kept.refl (fun _ => False) _)) (fun _ _ h => h)
          have hR1089 := RefAt.kept hR1075 (Al.kept e1076 (Kept.refl (fun _ => False) _)) (fun _ _ h => h)
          have bn1090 : ∀ k, x2.2.1 k → k ≠ w1065.heap.size := fun k hk => by have h0_ := bdd3 k hk; have h1_ := bnd3_0 k hk; have h2_ := bnd3_1 k hk; omega
          have bn1091 : ∀ k, F1043 k → k ≠ w1065.heap.size := fun k hk => by have h0_ := bd1044 k hk; have h1_ := bn1046 k hk; have h2_ := bn1047 k hk; omega
          have bn1092 : ∀ k, x2.2.2 k → k ≠ w1065.heap.size := fun k hk => by have h0_ := bdx3 k hk; have h1_ := bnx3_0 k hk; have h2_ := bnx3_1 k hk; omega
          have bn1093 : ∀ k, x3.2.2 k → k ≠ w1065.heap.size := fun k hk => by have h0_ := bdy3 k hk; have h1_ := bny3_0 k hk; have h2_ := bny3_1 k hk; omega
          refine L.nil ?_
          refine C.seq ?_
          refine C.region ?_
          refine L.step (R.loadA (cs := [.slice aSy3 Xf.safe.length cSy3, .slice aPy3 Xf.pend.length cPy3, .bool Xf.dead, .int .i64 Xf.left, .int .i64 Xf.fails, .int .i64 Xf.ops]) r43 rfl k1081 rfl rfl) rfl ?_
          refine L.step (R.loadA (cs := o3.cells) r32 rfl k1082 rfl rfl) rfl ?_
          refine L.call (E.call2 hb19) rfl (want_calls (o := o3.o) hR1089 (fun k hk => by have h0_ := bdy3 k hk; have h1_ := bny3_0 k hk; have h2_ := bny3_1 k hk; have h3_ := bn1093 k hk; omega) (hoko3.bools.kept q1085 (fun _ _ h => h)) hoko3.len hoko3.at_ (by omega) (by omega) (by omega)) ?_
          rintro _ w1094 ⟨y1097, rfl, hR1096, hk1095⟩
          rw [← hXn9] at hR1096
          rw [← hbl, ← her]
          simp only [bval]
          obtain ⟨aSi1098, cSi1098, aPi1098, cPi1098, rfl⟩ := RefAt.lits hR1096
          have k1099 := Kept.old hk1095 k1080 (fun h => h)
          have k1100 := Kept.old hk1095 k1081 (fun h => h)
          have k1101 := Kept.old hk1095 k1082 (fun h => h)
          have k1102 := Kept.old hk1095 k1083 (fun h => h)
          have k1103 := Kept.old hk1095 k1079 (fun h => h)
          have z1104 := (hk1095).size
          have q1105 := Kept.trans q1085 hk1095 (fun _ _ h => h.elim)
          have hD1106 := DiskAt.kept hD1086 hk1095 (fun _ _ h => h)
          have hD1107 := DiskAt.kept hD1087 hk1095 (fun _ _ h => h)
          have hR1108 := RefAt.kept hR1088 hk1095 (fun _ _ h => h)
          have hR1109 := RefAt.kept hR1089 hk1095 (fun _ _ h => h)
          have z1110 := hk1095.size
          obtain ⟨F1111, eF1111⟩ : ∃ G, G = grow x3.2.2 w1077 w1094 := ⟨_, rfl⟩
          rw [← eF1111] at hR1096
          have mm1113 : ∀ k, F1111 k → x3.2.2 k ∨ (w1077.heap.size ≤ k ∧ k < w1094.heap.size) := fun k hk => by rw [eF1111] at hk; exact hk
          have bd1112 : ∀ k, F1111 k → w.heap.size ≤ k ∧ k < w1094.heap.size := fun k hk => by
            have hz9 := (q1105).size
            rcases mm1113 k hk with h | h
            · have h0_ := bdy3 k h; have h1_ := bny3_0 k h; have h2_ := bny3_1 k h; have h3_ := bn1093 k h; omega
            · omega
          have bn1114 : ∀ k, F1111 k → k ≠ w513.heap.size := fun k hk => by
            rcases mm1113 k hk with h | h
            · have h0_ := bdy3 k h; have h1_ := bny3_0 k h; have h2_ := bny3_1 k h; have h3_ := bn1093 k h; omega
            · omega
          have bn1115 : ∀ k, F1111 k → k ≠ w602.heap.size := fun k hk => by
            rcases mm1113 k hk with h | h
            · have h0_ := bdy3 k h; have h1_ := bny3_0 k h; have h2_ := bny3_1 k h; have h3_ := bn1093 k h; omega
            · omega
          have bn1116 : ∀ k, F1111 k → k ≠ w1065.heap.size := fun k hk => by
            rcases mm1113 k hk with h | h
            · have h0_ := bdy3 k h; have h1_ := bny3_0 k h; have h2_ := bny3_1 k h; have h3_ := bn1093 k h; omega
            · omega
          have sp1117 : ∀ k, F1111 k → ¬ x2.2.1 k := fun k hk hy => by
            rcases mm1113 k hk with h | h
            · exact (fun k h1 h2 => hSdy3 k h2 h1) k h hy
            · have h0_ := bdd3 k hy; have h1_ := bnd3_0 k hy; have h2_ := bnd3_1 k hy; have h3_ := bn1090 k hy; omega
          have sp1118 : ∀ k, F1111 k → ¬ F1043 k := fun k hk hy => by
            rcases mm1113 k hk with h | h
            · exact (fun k h1 h2 => sp1050 k h2 h1) k h hy
            · have h0_ := bd1044 k hy; have h1_ := bn1046 k hy; have h2_ := bn1047 k hy; have h3_ := bn1091 k hy; omega
          refine L.step (R.moveV (v := .tuple #[.agg (List.toArray ([.slice aSi1098 Xn.safe.length cSi1098, .slice aPi1098 Xn.pend.length cPi1098, .bool Xn.dead, .int .i64 Xn.left, .int .i64 Xn.fails, .int .i64 Xn.ops])), .agg (List.toArray (bcells bl)), .int .i64 er]) rfl) rfl ?_
          refine L.step (R.extract (v := .agg (List.toArray ([.slice aSi1098 Xn.safe.length cSi1098, .slice aPi1098 Xn.pend.length cPi1098, .bool Xn.dead, .int .i64 Xn.left, .int .i64 Xn.fails, .int .i64 Xn.ops]))) rfl rfl) rfl ?_
          refine L.step (R.extract (v := .agg (List.toArray (bcells bl))) rfl rfl) rfl ?_
          refine L.step (R.extract (v := .int .i64 er) rfl rfl) rfl ?_
          refine L.doesE (R.storeAll (cs := [.slice aSi1098 Xn.safe.length cSi1098, .slice aPi1098 Xn.pend.length cPi1098, .bool Xn.dead, .int .i64 Xn.left, .int .i64 Xn.fails, .int .i64 Xn.ops]) r43 rfl rfl rfl (by simp [Value.oneCell']) k1100 rfl) fun w1120 e1119 => ?_
          have k1121 := So.old e1119 (by omega) k1099
          have k1122 := So.hit e1119 k1100
          have k1123 := So.old e1119 (apartE k1101 k1100 (by decide)) k1101
          have k1124 := So.old e1119 (apartE k1102 k1100 (by decide)) k1102
          have k1125 := So.old e1119 (apartE k1103 k1100 (by decide)) k1103
          have z1126 := So.size e1119
          have q1127 := So.kept e1119 q1105 (fun h => absurd h (by omega))
          have hD1128 := DiskAt.kept hD1106 (So.kept e1119 (Kept.refl (fun k => k = w602.heap.size) _) (fun _ => rfl)) (fun k hk e => by have e9 : k = w602.heap.size := e; have h0_ := bdd3 k hk; have h1_ := bnd3_0 k hk; have h2_ := bnd3_1 k hk; have h3_ := bn1090 k hk; omega)
          have hD1129 := DiskAt.kept hD1107 (So.kept e1119 (Kept.refl (fun k => k = w602.heap.size) _) (fun _ => rfl)) (fun k hk e => by have e9 : k = w602.heap.size := e; have h0_ := bd1044 k hk; have h1_ := bn1046 k hk; have h2_ := bn1047 k hk; have h3_ := bn1091 k hk; omega)
          have hR1130 := RefAt.kept hR1108 (So.kept e1119 (Kept.refl (fun k => k = w602.heap.size) _) (fun _ => rfl)) (fun k hk e => by have e9 : k = w602.heap.size := e; have h0_ := bdx3 k hk; have h1_ := bnx3_0 k hk; have h2_ := bnx3_1 k hk; have h3_ := bn1092 k hk; omega)
          have hR1131 := RefAt.kept hR1096 (So.kept e1119 (Kept.refl (fun k => k = w602.heap.size) _) (fun _ => rfl)) (fun k hk e => by have e9 : k = w602.heap.size := e; have h0_ := bd1112 k hk; have h1_ := bn1114 k hk; have h2_ := bn1115 k hk; have h3_ := bn1116 k hk; omega)
          refine L.doesE (R.storeAll (cs := bcells bl) r27 rfl rfl (bcells64 hbl64) (one_bcells _) k1125 (List.length_replicate)) fun w1133 e1132 => ?_
          have k1134 := So.old e1132 (apartE k1121 k1125 (by decide)) k1121
          have k1135 := So.old e1132 (apartE k1122 k1125 (by decide)) k1122
          have k1136 := So.old e1132 (apartE k1123 k1125 (by decide)) k1123
          have k1137 := So.old e1132 (by omega) k1124
          have k1138 := So.hit e1132 k1125
          have z1139 := So.size e1132
          have q1140 := So.kept e1132 q1127 (fun h => absurd h (by omega))
          have hD1141 := DiskAt.kept hD1128 (So.kept e1132 (Kept.refl (fun k => k = w1065.heap.size) _) (fun _ => rfl)) (fun k hk e => by have e9 : k = w1065.heap.size := e; have h0_ := bdd3 k hk; have h1_ := bnd3_0 k hk; have h2_ := bnd3_1 k hk; have h3_ := bn1090 k hk; omega)
          have hD1142 := DiskAt.kept hD1129 (So.kept e1132 (Kept.refl (fun k => k = w1065.heap.size) _) (fun _ => rfl)) (fun k hk e => by have e9 : k = w1065.heap.size := e; have h0_ := bd1044 k hk; have h1_ := bn1046 k hk; have h2_ := bn1047 k hk; have h3_ := bn1091 k hk; omega)
          have hR1143 := RefAt.kept hR1130 (So.kept e1132 (Kept.refl (fun k => k = w1065.heap.size) _) (fun _ => rfl)) (fun k hk e => by have e9 : k = w1065.heap.size := e; have h0_ := bdx3 k hk; have h1_ := bnx3_0 k hk; have h2_ := bnx3_1 k hk; have h3_ := bn1092 k hk; omega)
          have hR1144 := RefAt.kept hR1131 (So.kept e1132 (Kept.refl (fun k => k = w1065.heap.size) _) (fun _ => rfl)) (fun k hk e => by have e9 : k = w1065.heap.size := e; have h0_ := bd1112 k hk; have h1_ := bn1114 k hk; have h2_ := bn1115 k hk; have h3_ := bn1116 k hk; omega)
          refine L.step (R.assignV (v := .int .i64 er) rfl) rfl ?_
          refine L.nil ?_
          refine C.seq ?_
          refine C.region ?_
          refine L.step (R.loadA (cs := bcells bl) r27 rfl k1137 (List.take_of_length_le (Nat.le_of_eq (bcells64 hbl64))) (bcells64 hbl64)) rfl ?_
          refine L.step (R.loadA (cs := bcells bl) r27 rfl k1138 (List.take_of_length_le (Nat.le_of_eq (bcells64 hbl64))) (bcells64 hbl64)) rfl ?_
          refine L.step (R.neqAV (A := bl) (B := bl) (b := false) Try.underlying27 Try.underlying5 n5 gd27 rfl rfl hbl64 hbl64 (by rw [decide_eq_true rfl]; rfl)) rfl ?_
          refine L.step (R.moveV (v := .bool false) rfl) rfl ?_
          refine L.yes rfl rfl rfl ?_
          refine L.step (R.moveV (v := .int .i64 er) rfl) rfl ?_
          refine L.yes rfl rfl rfl ?_
          refine L.step (R.moveV (v := .int .i64 er) rfl) rfl ?_
          refine L.yes rfl rfl rfl ?_
          refine L.step (R.neqF rfl rfl (rfl)) rfl ?_
          refine L.step (R.pickFV (v := .bool false) rfl rfl) rfl ?_
          refine L.nil ?_
          refine C.condF rfl ?_
          refine C.skip ?_
          refine C.region ?_
          refine L.step (R.add rfl rfl (by omega)) rfl ?_
          refine L.step (R.moveV (v := .int .i64 (((x3.1 : Nat) : Int) + 1)) rfl) rfl ?_
          refine L.nil ?_
          have hsq := (q1140).size
          have hDn : Dn = (Dk.run (m3.take (x3.1 + 1))) := by rw [PD.run_succ ho3, hDn9, hDDf]
          have hXn : Xn = (Xk.run (m3.take (x3.1 + 1))) := by rw [RD.run_succ ho3, hXn9, hXXf]
          refine thenP.mk ⟨(x3.1 + 1, F1043, F1111), ⟨rfl, rfl, rfl, rfl, rfl, rfl, rfl, trivial⟩, ⟨by show x3.1 + 1 ≤ _; omega, q1140, hD1141, by show DiskAt w1133 rc (Dk.run (m3.take (x3.1 + 1))) F1043; rw [← hDn]; exact hD1142, ⟨aSx3, cSx3, aPx3, cPx3, k1134, hR1143⟩, by show (∃ aS cS aP cP, w1133.heap[w602.heap.size]? = some (blk (rcells (.slice aS (Xk.run (m3.take (x3.1 + 1))).safe.length cS) (.slice aP (Xk.run (m3.take (x3.1 + 1))).pend.length cP) (Xk.run (m3.take (x3.1 + 1)))) 43) ∧ RefAt w1133 (.agg (rcells (.slice aS (Xk.run (m3.take (x3.1 + 1))).safe.length cS) (.slice aP (Xk.run (m3.take (x3.1 + 1))).pend.length cP) (Xk.run (m3.take (x3.1 + 1)))).toArray) (Xk.run (m3.take (x3.1 + 1))) F1111); rw [← hXn]; exact ⟨aSi1098, cSi1098, aPi1098, cPi1098, k1135, hR1144⟩, (fun k hk => ⟨by have h0_ := bdd3 k hk; have h1_ := bnd3_0 k hk; have h2_ := bnd3_1 k hk; have h3_ := bn1090 k hk; omega, by have h0_ := bdd3 k hk; have h1_ := bnd3_0 k hk; have h2_ := bnd3_1 k hk; have h3_ := bn1090 k hk; omega, by have h0_ := bdd3 k hk; have h1_ := bnd3_0 k hk; have h2_ := bnd3_1 k hk; have h3_ := bn1090 k hk; omega, by have h0_ := bdd3 k hk; have h1_ := bnd3_0 k hk; have h2_ := bnd3_1 k hk; have h3_ := bn1090 k hk; omega⟩), (fun k hk => ⟨by have h0_ := bd1044 k hk; have h1_ := bn1046 k hk; have h2_ := bn1047 k hk; have h3_ := bn1091 k hk; omega, by have h0_ := bd1044 k hk; have h1_ := bn1046 k hk; have h2_ := bn1047 k hk; have h3_ := bn1091 k hk; omega, by have h0_ := bd1044 k hk; have h1_ := bn1046 k hk; have h2_ := bn1047 k hk; have h3_ := bn1091 k hk; omega, by have h0_ := bd1044 k hk; have h1_ := bn1046 k hk; have h2_ := bn1047 k hk; have h3_ := bn1091 k hk; omega⟩), (fun k hk => ⟨by have h0_ := bdx3 k hk; have h1_ := bnx3_0 k hk; have h2_ := bnx3_1 k hk; have h3_ := bn1092 k hk; omega, by have h0_ := bdx3 k hk; have h1_ := bnx3_0 k hk; have h2_ := bnx3_1 k hk; have h3_ := bn1092 k hk; omega, by have h0_ := bdx3 k hk; have h1_ := bnx3_0 k hk; have h2_ := bnx3_1 k hk; have h3_ := bn1092 k hk; omega, by have h0_ := bdx3 k hk; have h1_ := bnx3_0 k hk; have h2_ := bnx3_1 k hk; have h3_ := bn1092 k hk; omega⟩), (fun k hk => ⟨by have h0_ := bd1112 k hk; have h1_ := bn1114 k hk; have h2_ := bn1115 k hk; have h3_ := bn1116 k hk; omega, by have h0_ := bd1112 k hk; have h1_ := bn1114 k hk; have h2_ := bn1115 k hk; have h3_ := bn1116 k hk; omega, by have h0_ := bd1112 k hk; have h1_ := bn1114 k hk; have h2_ := bn1115 k hk; have h3_ := bn1116 k hk; omega, by have h0_ := bd1112 k hk; have h1_ := bn1114 k hk; have h2_ := bn1115 k hk; have h3_ := bn1116 k hk; omega⟩), hSdx3, (fun k h1 h2 => sp1048 k h2 h1), (fun k h1 h2 => sp1117 k h2 h1), sp1049, (fun k h1 h2 => sp1118 k h2 h1)⟩, by show m3.length - (x3.1 + 1) < m3.length - x3.1; omega⟩
        ·
          refine L.step (R.lssF rfl rfl (Int.not_lt.1 ht1008)) rfl ?_
          refine L.nil ?_
          refine C.seq ?_
          refine C.condF rfl ?_
          refine C.exit ?_
          refine C.seq ?_
          refine C.region ?_
          refine L.step (R.moveV (v := .pointer (some ⟨rd, 0, none⟩)) rfl) rfl ?_
          refine L.step (R.loadA (cs := [.slice aSx3 Xe.safe.length cSx3, .slice aPx3 Xe.pend.length cPx3, .bool Xe.dead, .int .i64 Xe.left, .int .i64 Xe.fails, .int .i64 Xe.ops]) r43 rfl hbx3 rfl rfl) rfl ?_
          refine L.call (E.call2 hb20) rfl (agree_calls hd3 hx3 (by rw [hsim2.safe]) hsim2.dead hsim2.ops hsim2.pend (by omega)) ?_
          rintro _ w1145 ⟨rfl, hk1146⟩
          have k1147 := Kept.old hk1146 hbx3 (fun h => h)
          have k1148 := Kept.old hk1146 hby3 (fun h => h)
          have z1149 := (hk1146).size
          have q1150 := Kept.trans hq3 hk1146 (fun _ _ h => h.elim)
          have hD1151 := DiskAt.kept hd3 hk1146 (fun _ _ h => h)
          have hD1152 := DiskAt.kept hc3 hk1146 (fun _ _ h => h)
          have hR1153 := RefAt.kept hx3 hk1146 (fun _ _ h => h)
          have hR1154 := RefAt.kept hy3 hk1146 (fun _ _ h => h)
          refine L.step (R.moveV (v := .bool true) rfl) rfl ?_
          refine L.yes rfl rfl rfl ?_
          refine L.step (R.moveV (v := .pointer (some ⟨rc, 0, none⟩)) rfl) rfl ?_
          refine L.yes rfl rfl rfl ?_
          refine L.step (R.loadA (cs := [.slice aSy3 Xf.safe.length cSy3, .slice aPy3 Xf.pend.length cPy3, .bool Xf.dead, .int .i64 Xf.left, .int .i64 Xf.fails, .int .i64 Xf.ops]) r43 rfl k1148 rfl rfl) rfl ?_
          refine L.yes rfl rfl rfl ?_
          refine L.call (E.call2 hb20) rfl (agree_calls hD1152 hR1154 (by rw [hsim3.safe]) hsim3.dead hsim3.ops hsim3.pend (by omega)) ?_
          rintro _ w1155 ⟨rfl, hk1156⟩
          have k1157 := Kept.old hk1156 k1147 (fun h => h)
          have k1158 := Kept.old hk1156 k1148 (fun h => h)
          have z1159 := (hk1156).size
          have q1160 := Kept.trans q1150 hk1156 (fun _ _ h => h.elim)
          have hD1161 := DiskAt.kept hD1151 hk1156 (fun _ _ h => h)
          have hD1162 := DiskAt.kept hD1152 hk1156 (fun _ _ h => h)
          have hR1163 := RefAt.kept hR1153 hk1156 (fun _ _ h => h)
          have hR1164 := RefAt.kept hR1154 hk1156 (fun _ _ h => h)
          refine L.step (R.pickTV (v := .bool true) rfl rfl) rfl ?_
          refine L.step (R.assignV (v := .bool true) rfl) rfl ?_
          refine L.nil ?_
          refine C.ret (?_ : RetOk _ _ _ _ _)
          refine RetOk.tV (v := .bool true) rfl rfl ?_
          exact ⟨rfl, q1160⟩
end Go.Proofs.Ytpblppilknkdoaa
