/- want: an op on the reference's disk; agree. -/
import Derived.Test.YtpblppilknkdoaaD23
namespace Go.Proofs.Ytpblppilknkdoaa
open Go Go.Eng Go.Proofs
attribute [local irreducible] Go.Eng.C Go.Eng.L Go.Eng.Ret Go.Eng.Run Go.Eng.Does Go.Eng.Enters Go.Eng.AH Go.Eng.AO Go.Eng.RetOk
def RD.want (X : RD) (o : POp) : RD × Blk × Int :=
  if kindOf o.k = 0 then X.read o.a
  else if kindOf o.k = 1 then ((X.write o.a (fblock o.f)).1, z64, (X.write o.a (fblock o.f)).2)
  else if kindOf o.k = 2 then (X.sync.1, z64, X.sync.2)
  else if kindOf o.k = 3 then ((X.arm o.a).1, z64, (X.arm o.a).2)
  else if kindOf o.k = 5 then ((X.fail o.a).1, z64, (X.fail o.a).2)
  else (X.crash (fun k => o.ks.getD k false), z64, 0)
theorem RefAt.lits {w : World} {x : Value} {X : RD} {G : Nat → Prop} (h : RefAt w x X G) : ∃ aS cS aP cP, x = .agg (rcells (.slice aS X.safe.length cS) (.slice aP X.pend.length cP) X).toArray := by
  obtain ⟨_, sv, pv, h1, h2, h3⟩ := h
  obtain ⟨aS, cS, rfl, _⟩ := h2.shape
  obtain ⟨aP, cP, rfl, _⟩ := h3.shape
  exact ⟨aS, cS, aP, cP, h1⟩
theorem rread_length {X : RD} (h : X.Ok) {i : Int} : (X.read i).2.1.length = 64 := by
  unfold RD.read
  split
  · rfl
  · rename_i hr
    have hrg := RD.asked_range (Classical.not_not.1 hr)
    exact length_holdsN (h.asked i).blocks (fun p hp => ((h.asked i).pends p hp).2) (by rw [show ({ (X.asked i).1 with ops := (X.asked i).1.ops + 1 } : RD).safe = X.safe from RD.asked_safe]; omega) _
theorem RD.arm_safe {X : RD} {n : Int} : (X.arm n).1.safe = X.safe := by unfold RD.arm; split <;> rfl
theorem RD.arm_pend {X : RD} {n : Int} : (X.arm n).1.pend = X.pend := by unfold RD.arm; split <;> rfl
theorem RD.fail_safe {X : RD} {n : Int} : (X.fail n).1.safe = X.safe := by unfold RD.fail; split <;> rfl
theorem RD.fail_pend {X : RD} {n : Int} : (X.fail n).1.pend = X.pend := by unfold RD.fail; split <;> rfl
theorem rarm_ref {w : World} {x : Value} {X : RD} {G : Nat → Prop} {n : Int} (h : RefAt w x X G) (hn : n ≤ 9223372036854775807) :
    Ret Try.prog 37 #[x, .int .i64 n] w fun v w' => ∃ y, v = .tuple #[y, .int .i64 (X.arm n).2] ∧ RefAt w' y (X.arm n).1 (grow G w w') ∧ Kept (fun _ => False) w w' := by
  obtain ⟨hok, sv, pv, rfl, hs, hp⟩ := h
  obtain ⟨aS, cS, rfl, hsc⟩ := hs.shape
  obtain ⟨aP, cP, rfl, hpc⟩ := hp.shape
  refine Ret.weaken rarm_calls ?_
  rintro _ w' ⟨rfl, hk⟩
  exact ⟨_, rfl, ⟨hok.arm hn, _, _, rfl, by rw [RD.arm_safe]; exact (hs.kept hk (fun _ _ h => h)).mono grow_sub, by rw [RD.arm_pend]; exact (hp.kept hk (fun _ _ h => h)).mono grow_sub⟩, hk⟩
theorem rfail_ref {w : World} {x : Value} {X : RD} {G : Nat → Prop} {n : Int} (h : RefAt w x X G) (hn : n ≤ 9223372036854775807) :
    Ret Try.prog 38 #[x, .int .i64 n] w fun v w' => ∃ y, v = .tuple #[y, .int .i64 (X.fail n).2] ∧ RefAt w' y (X.fail n).1 (grow G w w') ∧ Kept (fun _ => False) w w' := by
  obtain ⟨hok, sv, pv, rfl, hs, hp⟩ := h
  obtain ⟨aS, cS, rfl, hsc⟩ := hs.shape
  obtain ⟨aP, cP, rfl, hpc⟩ := hp.shape
  refine Ret.weaken rfail_calls ?_
  rintro _ w' ⟨rfl, hk⟩
  exact ⟨_, rfl, ⟨hok.fail hn, _, _, rfl, by rw [RD.fail_safe]; exact (hs.kept hk (fun _ _ h => h)).mono grow_sub, by rw [RD.fail_pend]; exact (hp.kept hk (fun _ _ h => h)).mono grow_sub⟩, hk⟩
set_option maxHeartbeats 8000000 in
theorem want_calls {w : World} {x kv : Value} {X : RD} {G Gk : Nat → Prop} {o : POp} (h : RefAt w x X G) (hG : ∀ k, G k → k < w.heap.size) (hb : BoolsAt w kv o.ks Gk) (hn : o.ks.length ≤ 140737488351232) (ha : -9223372036854775808 ≤ o.a ∧ o.a ≤ 9223372036854775807)
    (ho : -1000000 ≤ X.ops ∧ X.ops ≤ 1000000) (hn0 : X.safe.length ≤ 1000000) (hm : X.pend.length ≤ 1000000) :
    Ret Try.prog 19 #[x, .agg [.int .i64 o.k, .int .i64 o.a, .int .u8 o.f, kv].toArray] w fun v w' => ∃ y, v = .tuple #[y, bval (X.want o).2.1, .int .i64 (X.want o).2.2] ∧ RefAt w' y (X.want o).1 (grow G w w') ∧ Kept (fun _ => False) w w' := by
  obtain ⟨aS, cS, aP, cP, rfl⟩ := h.lits
  obtain ⟨ka, kc, rfl⟩ := hb.shape
  have hq := Kept.refl (fun _ => False) w
  have h1 : (Value.slice ka o.ks.length kc).oneCell' = true := rfl
  refine Ret.intro [.agg (List.toArray ([.slice aS X.safe.length cS, .slice aP X.pend.length cP, .bool X.dead, .int .i64 X.left, .int .i64 X.fails, .int .i64 X.ops])), .agg (List.toArray ([.int .i64 o.k, .int .i64 o.a, .int .u8 o.f, .slice ka o.ks.length kc]))] Try.func19 rfl rfl ?_
  refine C.seq ?_
  refine C.region ?_
  refine L.stepE (R.boxA (cs := [.slice aS X.safe.length cS, .slice aP X.pend.length cP, .bool X.dead, .int .i64 X.left, .int .i64 X.fails, .int .i64 X.ops]) rfl) rfl fun w502 e501 => ?_
  have k504 := Al.new e501
  have z505 := Al.size e501
  have q506 := Al.kept e501 hq
  refine L.stepE (R.boxA (cs := [.int .i64 o.k, .int .i64 o.a, .int .u8 o.f, .slice ka o.ks.length kc]) rfl) rfl fun w508 e507 => ?_
  have k510 := Al.new e507
  have k511 := Al.old e507 k504
  have z512 := Al.size e507
  have q513 := Al.kept e507 q506
  refine L.stepE (R.alloc z43) rfl fun w515 e514 => ?_
  have k517 := Al.new e514
  have k518 := Al.old e514 k511
  have k519 := Al.old e514 k510
  have z520 := Al.size e514
  have q521 := Al.kept e514 q513
  refine L.stepE (R.alloc z27) rfl fun w523 e522 => ?_
  have k525 := Al.new e522
  have k526 := Al.old e522 k518
  have k527 := Al.old e522 k519
  have k528 := Al.old e522 k517
  have z529 := Al.size e522
  have q530 := Al.kept e522 q521
  refine L.step (R.assignV (v := .int .i64 0) rfl) rfl ?_
  refine L.nil ?_
  refine C.seq ?_
  refine C.region ?_
  refine L.step (R.assignV (v := .int .i64 0) rfl) rfl ?_
  refine L.nil ?_
  refine C.seq ?_
  refine C.seq ?_
  refine C.region ?_
  refine L.step (R.loadA (cs := [.int .i64 o.k, .int .i64 o.a, .int .u8 o.f, .slice ka o.ks.length kc]) r32 rfl k527 rfl rfl) rfl ?_
  refine L.call (E.call1 hb13) rfl (kind_calls h1) ?_
  rintro _ w531 ⟨rfl, hk532⟩
  have k533 := Kept.old hk532 k526 (fun h => h)
  have k534 := Kept.old hk532 k527 (fun h => h)
  have k535 := Kept.old hk532 k528 (fun h => h)
  have k536 := Kept.old hk532 k525 (fun h => h)
  have z537 := (hk532).size
  have q538 := Kept.trans q530 hk532 (fun _ _ h => h.elim)
  refine L.nil ?_
  refine C.block ?_
  refine C.seq ?_
  refine C.region ?_
  rcases Classical.em (kindOf o.k = 0) with hk0 | hk0
  ·
    refine L.step (R.eqlT rfl rfl hk0) rfl ?_
    refine L.step (R.assignV (v := .bool true) rfl) rfl ?_
    refine L.nil ?_
    refine C.condT rfl ?_
    refine C.seq ?_
    refine C.region ?_
    refine L.step (R.loadA (cs := [.slice aS X.safe.length cS, .slice aP X.pend.length cP, .bool X.dead, .int .i64 X.left, .int .i64 X.fails, .int .i64 X.ops]) r43 rfl k533 rfl rfl) rfl ?_
    refine L.step (R.fieldAddrV (o2 := 1) f32_1 rfl rfl) rfl ?_
    refine L.step (R.load1 (v := .int .i64 o.a) c3 rfl k534 rfl) rfl ?_
    have hzk := (q538).size
    obtain ⟨Q, hQ⟩ : ∃ D, D = (X.read o.a).1 := ⟨_, rfl⟩
    refine L.call (E.call2 hb23) rfl (rread_calls (h.kept q538 (fun _ _ h => h)) ho hm) ?_
    rintro _ w539 ⟨y542, rfl, hR541, hk540⟩
    rw [← hQ] at hR541
    simp only [bval]
    have hr64 := rread_length (h.kept q538 (fun _ _ h => h)).ok (i := o.a)
    have k543 := Kept.old hk540 k533 (fun h => h)
    have k544 := Kept.old hk540 k534 (fun h => h)
    have k545 := Kept.old hk540 k535 (fun h => h)
    have k546 := Kept.old hk540 k536 (fun h => h)
    have z547 := (hk540).size
    have q548 := Kept.trans q538 hk540 (fun _ _ h => h.elim)
    obtain ⟨aSq, cSq, aPq, cPq, rfl⟩ := RefAt.lits hR541
    have hRq : RefAt w539 _ Q (grow G w531 w539) := hR541.mono grow_sub
    refine L.step (R.extract (v := .agg (List.toArray ([.slice aSq Q.safe.length cSq, .slice aPq Q.pend.length cPq, .bool Q.dead, .int .i64 Q.left, .int .i64 Q.fails, .int .i64 Q.ops]))) rfl rfl) rfl ?_
    refine L.step (R.extract (v := .agg (List.toArray (bcells (X.read o.a).2.1))) rfl rfl) rfl ?_
    refine L.step (R.extract (v := .int .i64 ((X.read o.a).2.2)) rfl rfl) rfl ?_
    refine L.doesE (R.storeAll (cs := [.slice aSq Q.safe.length cSq, .slice aPq Q.pend.length cPq, .bool Q.dead, .int .i64 Q.left, .int .i64 Q.fails, .int .i64 Q.ops]) r43 rfl rfl rfl (by simp [Value.oneCell']) k545 rfl) fun w550 e549 => ?_
    have k551 := So.old e549 (by omega) k543
    have k552 := So.old e549 (apartE k544 k545 (by decide)) k544
    have k553 := So.hit e549 k545
    have k554 := So.old e549 (apartE k546 k545 (by decide)) k546
    have z555 := So.size e549
    have q556 := So.kept e549 q548 (fun h => absurd h (by omega))
    have kq557 := So.kept e549 (Kept.refl (fun k => w.heap.size ≤ k ∧ k < w531.heap.size) w539) (fun _ => ⟨by omega, by omega⟩)
    refine L.doesE (R.storeAll (cs := bcells (X.read o.a).2.1) r27 rfl rfl (bcells64 hr64) (one_bcells _) k554 (List.length_replicate)) fun w559 e558 => ?_
    have k560 := So.old e558 (apartE k551 k554 (by decide)) k551
    have k561 := So.old e558 (apartE k552 k554 (by decide)) k552
    have k562 := So.old e558 (apartE k553 k554 (by decide)) k553
    have k563 := So.hit e558 k554
    have z564 := So.size e558
    have q565 := So.kept e558 q556 (fun h => absurd h (by omega))
    have kq566 := So.kept e558 kq557 (fun _ => ⟨by omega, by omega⟩)
    refine L.step (R.assignV (v := .int .i64 ((X.read o.a).2.2)) rfl) rfl ?_
    refine L.nil ?_
    refine C.ret (?_ : RetOk _ _ _ _ _)
    refine RetOk.cctV (x := .int .i64 ((X.read o.a).2.2)) rfl rfl (loadVarA (cs := [.slice aSq Q.safe.length cSq, .slice aPq Q.pend.length cPq, .bool Q.dead, .int .i64 Q.left, .int .i64 Q.fails, .int .i64 Q.ops]) r43 k562 rfl rfl) rfl (loadVarA (cs := bcells (X.read o.a).2.1) r27 k563 (List.take_of_length_le (Nat.le_of_eq (bcells64 hr64))) (bcells64 hr64)) rfl ?_
    have hwt : X.want o = X.read o.a := by unfold RD.want; rw [if_pos hk0]
    rw [hwt, ← hQ]
    have hzr := (kq566).size
    exact ⟨_, rfl, (RefAt.kept hRq kq566 (fun k hk hs => hk.elim (fun hg => absurd (hG k hg) (by omega)) (fun h => by omega))).mono (fun k hk => hk.elim (fun h => .inl h) (fun h => .inr ⟨by omega, by omega⟩)), q565⟩
  ·
    refine L.step (R.eqlF rfl rfl hk0) rfl ?_
    refine L.step (R.assignV (v := .bool false) rfl) rfl ?_
    refine L.nil ?_
    refine C.condF rfl ?_
    refine C.seq ?_
    refine C.region ?_
    rcases Classical.em (kindOf o.k = 1) with hk1 | hk1
    ·
      refine L.step (R.eqlT rfl rfl hk1) rfl ?_
      refine L.step (R.assignV (v := .bool true) rfl) rfl ?_
      refine L.nil ?_
      refine C.condT rfl ?_
      refine C.drawE (fun W : World => W.heap[w.heap.size]? = some (blk ([.slice aS X.safe.length cS, .slice aP X.pend.length cP, .bool X.dead, .int .i64 X.left, .int .i64 X.fails, .int .i64 X.ops]) 43) ∧ W.heap[w502.heap.size]? = some (blk ([.int .i64 o.k, .int .i64 o.a, .int .u8 o.f, .slice ka o.ks.length kc]) 32)) (fun j => !(Nat.beq j 8) && !(Nat.beq j 9) && !(Nat.beq j 10) && !(Nat.beq j 11)) mixed fun w567 e568 => ?_
      have k569 := Dr.old e568 k533
      have k570 := Dr.old e568 k534
      have k571 := Dr.old e568 k535
      have k572 := Dr.old e568 k536
      have z573 := Dr.size e568
      have q574 := Dr.kept e568 q538
      refine AH.take 0 rfl (by kernel_rfl) (by kernel_rfl) (by kernel_rfl) (by kernel_rfl) (fun _ _ _ h => h) rfl trivial (fun _ hS => (R.loadA (cs := [.slice aS X.safe.length cS, .slice aP X.pend.length cP, .bool X.dead, .int .i64 X.left, .int .i64 X.fails, .int .i64 X.ops]) r43 rfl hS.1 rfl rfl)) (⟨k569, k570⟩) ?_
      refine AH.take 1 rfl (by kernel_rfl) (by kernel_rfl) (by kernel_rfl) (by kernel_rfl) (fun _ _ _ h => h) rfl trivial (fun _ hS => (R.fieldAddrV (o2 := 1) f32_1 rfl rfl)) (⟨k569, k570⟩) ?_
      refine AH.take 2 rfl (by kernel_rfl) (by kernel_rfl) (by kernel_rfl) (by kernel_rfl) (fun _ _ _ h => h) rfl trivial (fun _ hS => (R.load1 (v := .int .i64 o.a) c3 rfl hS.2 rfl)) (⟨k569, k570⟩) ?_
      refine AH.take 3 rfl (by kernel_rfl) (by kernel_rfl) (by kernel_rfl) (by kernel_rfl) (fun _ _ _ h => h) rfl trivial (fun _ hS => (R.fieldAddrV (o2 := 2) f32_2 rfl rfl)) (⟨k569, k570⟩) ?_
      refine AH.take 4 rfl (by kernel_rfl) (by kernel_rfl) (by kernel_rfl) (by kernel_rfl) (fun _ _ _ h => h) rfl trivial (fun _ hS => (R.load1 (v := .int .u8 o.f) c5 rfl hS.2 rfl)) (⟨k569, k570⟩) ?_
      refine AH.one 5 (by kernel_rfl) (AO.call rfl trivial (E.call1 hb14) rfl (block_calls (x := o.f)) ?_)
      rintro _ w575 ⟨rfl, hk576⟩
      have k577 := Kept.old hk576 k569 (fun h => h)
      have k578 := Kept.old hk576 k570 (fun h => h)
      have k579 := Kept.old hk576 k571 (fun h => h)
      have k580 := Kept.old hk576 k572 (fun h => h)
      have z581 := (hk576).size
      have q582 := Kept.trans q574 hk576 (fun _ _ h => h.elim)
      refine ⟨fun _ => (⟨k577, k578⟩), ?_⟩
      have hzk := (q582).size
      obtain ⟨Q, hQ⟩ : ∃ D, D = (X.write o.a (fblock o.f)).1 := ⟨_, rfl⟩
      refine AH.one 6 (by kernel_rfl) (AO.call rfl trivial (E.call3 hb35) rfl (rwrite_calls (b := fblock o.f) (h.kept q582 (fun _ _ h => h)) (length_fblock _) ho hm) ?_)
      rintro _ w583 ⟨y586, rfl, hR585, hk584⟩
      rw [← hQ] at hR585
      have k587 := Kept.old hk584 k577 (fun h => h)
      have k588 := Kept.old hk584 k578 (fun h => h)
      have k589 := Kept.old hk584 k579 (fun h => h)
      have k590 := Kept.old hk584 k580 (fun h => h)
      have z591 := (hk584).size
      have q592 := Kept.trans q582 hk584 (fun _ _ h => h.elim)
      obtain ⟨aSq, cSq, aPq, cPq, rfl⟩ := RefAt.lits hR585
      have hRq : RefAt w583 _ Q (grow G w575 w583) := hR585
      refine ⟨fun _ => (⟨k587, k588⟩), ?_⟩
      refine AH.take 7 rfl (by kernel_rfl) (by kernel_rfl) (by kernel_rfl) (by kernel_rfl) (fun _ _ _ h => h) rfl trivial (fun _ hS => (R.moveV (v := .tuple #[.agg (List.toArray ([.slice aSq Q.safe.length cSq, .slice aPq Q.pend.length cPq, .bool Q.dead, .int .i64 Q.left, .int .i64 Q.fails, .int .i64 Q.ops])), .int .i64 ((X.write o.a (fblock o.f)).2)]) rfl)) (⟨k587, k588⟩) ?_
      refine AH.all (rs := [8, 9]) (by kernel_rfl) (by decide) (fun i hi => ?_)
      simp only [List.mem_cons, List.not_mem_nil, or_false] at hi
      rcases hi with rfl | rfl
      ·
        refine (AO.step rfl trivial (R.extract (v := .agg (List.toArray ([.slice aSq Q.safe.length cSq, .slice aPq Q.pend.length cPq, .bool Q.dead, .int .i64 Q.left, .int .i64 Q.fails, .int .i64 Q.ops]))) rfl rfl) rfl ?_)
        refine ⟨fun h => absurd h (by decide), ?_⟩
        refine AH.all (rs := [9, 10]) (by kernel_rfl) (by decide) (fun i hi => ?_)
        simp only [List.mem_cons, List.not_mem_nil, or_false] at hi
        rcases hi with rfl | rfl
        ·
          refine (AO.step rfl trivial (R.extract (v := .int .i64 ((X.write o.a (fblock o.f)).2)) rfl rfl) rfl ?_)
          refine ⟨fun h => absurd h (by decide), ?_⟩
          refine AH.one 10 (by kernel_rfl) (AO.doesE rfl trivial (R.storeAll (cs := [.slice aSq Q.safe.length cSq, .slice aPq Q.pend.length cPq, .bool Q.dead, .int .i64 Q.left, .int .i64 Q.fails, .int .i64 Q.ops]) r43 rfl rfl rfl (by simp [Value.oneCell']) k587 rfl) fun w594 e593 => ?_)
          have k595 := So.hit e593 k587
          have k596 := So.old e593 (apartE k588 k587 (by decide)) k588
          have k597 := So.old e593 (by omega) k589
          have k598 := So.old e593 (apartE k590 k587 (by decide)) k590
          have z599 := So.size e593
          have q600 := So.kept e593 q592 (fun h => absurd h (by omega))
          have kq601 := So.kept e593 (Kept.refl (fun k => w.heap.size ≤ k ∧ k < w575.heap.size) w583) (fun _ => ⟨by omega, by omega⟩)
          refine ⟨fun h => absurd h (by decide), ?_⟩
          refine AH.one 11 (by kernel_rfl) (AO.step rfl trivial (R.assignV (v := .int .i64 ((X.write o.a (fblock o.f)).2)) rfl) rfl ?_)
          refine ⟨fun h => absurd h (by decide), ?_⟩
          refine AH.done (by kernel_rfl) ?_
          refine C.seq ?_
          refine C.region ?_
          refine L.step (R.loadA (cs := [.slice aSq Q.safe.length cSq, .slice aPq Q.pend.length cPq, .bool Q.dead, .int .i64 Q.left, .int .i64 Q.fails, .int .i64 Q.ops]) r43 rfl k595 rfl rfl) rfl ?_
          refine L.step build27 rfl ?_
          refine L.step (R.moveV (v := .int .i64 ((X.write o.a (fblock o.f)).2)) rfl) rfl ?_
          refine L.doesE (R.storeAll (cs := [.slice aSq Q.safe.length cSq, .slice aPq Q.pend.length cPq, .bool Q.dead, .int .i64 Q.left, .int .i64 Q.fails, .int .i64 Q.ops]) r43 rfl rfl rfl (by simp [Value.oneCell']) k597 rfl) fun w603 e602 => ?_
          have k604 := So.old e602 (by omega) k595
          have k605 := So.old e602 (apartE k596 k597 (by decide)) k596
          have k606 := So.hit e602 k597
          have k607 := So.old e602 (apartE k598 k597 (by decide)) k598
          have z608 := So.size e602
          have q609 := So.kept e602 q600 (fun h => absurd h (by omega))
          have kq610 := So.kept e602 kq601 (fun _ => ⟨by omega, by omega⟩)
          refine L.doesE (R.storeAll (cs := bcells z64) r27 rfl rfl (bcells64 (b := z64) rfl) (one_bcells _) k607 (List.length_replicate)) fun w612 e611 => ?_
          have k613 := So.old e611 (apartE k604 k607 (by decide)) k604
          have k614 := So.old e611 (apartE k605 k607 (by decide)) k605
          have k615 := So.old e611 (apartE k606 k607 (by decide)) k606
          have k616 := So.hit e611 k607
          have z617 := So.size e611
          have q618 := So.kept e611 q609 (fun h => absurd h (by omega))
          have kq619 := So.kept e611 kq610 (fun _ => ⟨by omega, by omega⟩)
          refine L.step (R.assignV (v := .int .i64 ((X.write o.a (fblock o.f)).2)) rfl) rfl ?_
          refine L.nil ?_
          refine C.ret (?_ : RetOk _ _ _ _ _)
          refine RetOk.cctV (x := .int .i64 ((X.write o.a (fblock o.f)).2)) rfl rfl (loadVarA (cs := [.slice aSq Q.safe.length cSq, .slice aPq Q.pend.length cPq, .bool Q.dead, .int .i64 Q.left, .int .i64 Q.fails, .int .i64 Q.ops]) r43 k615 rfl rfl) rfl (loadVarA (cs := bcells z64) r27 k616 (List.take_of_length_le (Nat.le_of_eq (bcells64 (b := z64) rfl))) (bcells64 (b := z64) rfl)) rfl ?_
          have hwt : X.want o = (Q, z64, (X.write o.a (fblock o.f)).2) := by unfold RD.want; rw [if_neg hk0, if_pos hk1, hQ]
          rw [hwt]
          have hzr := (kq619).size
          exact ⟨_, rfl, (RefAt.kept hRq kq619 (fun k hk hs => hk.elim (fun hg => absurd (hG k hg) (by omega)) (fun h => by omega))).mono (fun k hk => hk.elim (fun h => .inl h) (fun h => .inr ⟨by omega, by omega⟩)), q618⟩
        ·
          refine (AO.doesE rfl trivial (R.storeAll (cs := [.slice aSq Q.safe.length cSq, .slice aPq Q.pend.length cPq, .bool Q.dead, .int .i64 Q.left, .int .i64 Q.fails, .int .i64 Q.ops]) r43 rfl rfl rfl (by simp [Value.oneCell']) k587 rfl) fun w621 e620 => ?_)
          have k622 := So.hit e620 k587
          have k623 := So.old e620 (apartE k588 k587 (by decide)) k588
          have k624 := So.old e620 (by omega) k589
          have k625 := So.old e620 (apartE k590 k587 (by decide)) k590
          have z626 := So.size e620
          have q627 := So.kept e620 q592 (fun h => absurd h (by omega))
          have kq628 := So.kept e620 (Kept.refl (fun k => w.heap.size ≤ k ∧ k < w575.heap.size) w583) (fun _ => ⟨by omega, by omega⟩)
          refine ⟨fun h => absurd h (by decide), ?_⟩
          refine AH.one 9 (by kernel_rfl) (AO.step rfl trivial (R.extract (v := .int .i64 ((X.write o.a (fblock o.f)).2)) rfl rfl) rfl ?_)
          refine ⟨fun h => absurd h (by decide), ?_⟩
          refine AH.one 11 (by kernel_rfl) (AO.step rfl trivial (R.assignV (v := .int .i64 ((X.write o.a (fblock o.f)).2)) rfl) rfl ?_)
          refine ⟨fun h => absurd h (by decide), ?_⟩
          refine AH.done (by kernel_rfl) ?_
          refine C.seq ?_
          refine C.region ?_
          refine L.step (R.loadA (cs := [.slice aSq Q.safe.length cSq, .slice aPq Q.pend.length cPq, .bool Q.dead, .int .i64 Q.left, .int .i64 Q.fails, .int .i64 Q.ops]) r43 rfl k622 rfl rfl) rfl ?_
          refine L.step build27 rfl ?_
          refine L.step (R.moveV (v := .int .i64 ((X.write o.a (fblock o.f)).2)) rfl) rfl ?_
          refine L.doesE (R.storeAll (cs := [.slice aSq Q.safe.length cSq, .slice aPq Q.pend.length cPq, .bool Q.dead, .int .i64 Q.left, .int .i64 Q.fails, .int .i64 Q.ops]) r43 rfl rfl rfl (by simp [Value.oneCell']) k624 rfl) fun w630 e629 => ?_
          have k631 := So.old e629 (by omega) k622
          have k632 := So.old e629 (apartE k623 k624 (by decide)) k623
          have k633 := So.hit e629 k624
          have k634 := So.old e629 (apartE k625 k624 (by decide)) k625
          have z635 := So.size e629
          have q636 := So.kept e629 q627 (fun h => absurd h (by omega))
          have kq637 := So.kept e629 kq628 (fun _ => ⟨by omega, by omega⟩)
          refine L.doesE (R.storeAll (cs := bcells z64) r27 rfl rfl (bcells64 (b := z64) rfl) (one_bcells _) k634 (List.length_replicate)) fun w639 e638 => ?_
          have k640 := So.old e638 (apartE k631 k634 (by decide)) k631
          have k641 := So.old e638 (apartE k632 k634 (by decide)) k632
          have k642 := So.old e638 (apartE k633 k634 (by decide)) k633
          have k643 := So.hit e638 k634
          have z644 := So.size e638
          have q645 := So.kept e638 q636 (fun h => absurd h (by omega))
          have kq646 := So.kept e638 kq637 (fun _ => ⟨by omega, by omega⟩)
          refine L.step (R.assignV (v := .int .i64 ((X.write o.a (fblock o.f)).2)) rfl) rfl ?_
          refine L.nil ?_
          refine C.ret (?_ : RetOk _ _ _ _ _)
          refine RetOk.cctV (x := .int .i64 ((X.write o.a (fblock o.f)).2)) rfl rfl (loadVarA (cs := [.slice aSq Q.safe.length cSq, .slice aPq Q.pend.length cPq, .bool Q.dead, .int .i64 Q.left, .int .i64 Q.fails, .int .i64 Q.ops]) r43 k642 rfl rfl) rfl (loadVarA (cs := bcells z64) r27 k643 (List.take_of_length_le (Nat.le_of_eq (bcells64 (b := z64) rfl))) (bcells64 (b := z64) rfl)) rfl ?_
          have hwt : X.want o = (Q, z64, (X.write o.a (fblock o.f)).2) := by unfold RD.want; rw [if_neg hk0, if_pos hk1, hQ]
          rw [hwt]
          have hzr := (kq646).size
          exact ⟨_, rfl, (RefAt.kept hRq kq646 (fun k hk hs => hk.elim (fun hg => absurd (hG k hg) (by omega)) (fun h => by omega))).mono (fun k hk => hk.elim (fun h => .inl h) (fun h => .inr ⟨by omega, by omega⟩)), q645⟩
      ·
        refine (AO.step rfl trivial (R.extract (v := .int .i64 ((X.write o.a (fblock o.f)).2)) rfl rfl) rfl ?_)
        refine ⟨fun h => absurd h (by decide), ?_⟩
        refine AH.one 8 (by kernel_rfl) (AO.step rfl trivial (R.extract (v := .agg (List.toArray ([.slice aSq Q.safe.length cSq, .slice aPq Q.pend.length cPq, .bool Q.dead, .int .i64 Q.left, .int .i64 Q.fails, .int .i64 Q.ops]))) rfl rfl) rfl ?_)
        refine ⟨fun h => absurd h (by decide), ?_⟩
        refine AH.one 10 (by kernel_rfl) (AO.doesE rfl trivial (R.storeAll (cs := [.slice aSq Q.safe.length cSq, .slice aPq Q.pend.length cPq, .bool Q.dead, .int .i64 Q.left, .int .i64 Q.fails, .int .i64 Q.ops]) r43 rfl rfl rfl (by simp [Value.oneCell']) k587 rfl) fun w648 e647 => ?_)
        have k649 := So.hit e647 k587
        have k650 := So.old e647 (apartE k588 k587 (by decide)) k588
        have k651 := So.old e647 (by omega) k589
        have k652 := So.old e647 (apartE k590 k587 (by decide)) k590
        have z653 := So.size e647
        have q654 := So.kept e647 q592 (fun h => absurd h (by omega))
        have kq655 := So.kept e647 (Kept.refl (fun k => w.heap.size ≤ k ∧ k < w575.heap.size) w583) (fun _ => ⟨by omega, by omega⟩)
        refine ⟨fun h => absurd h (by decide), ?_⟩
        refine AH.one 11 (by kernel_rfl) (AO.step rfl trivial (R.assignV (v := .int .i64 ((X.write o.a (fblock o.f)).2)) rfl) rfl ?_)
        refine ⟨fun h => absurd h (by decide), ?_⟩
        refine AH.done (by kernel_rfl) ?_
        refine C.seq ?_
        refine C.region ?_
        refine L.step (R.loadA (cs := [.slice aSq Q.safe.length cSq, .slice aPq Q.pend.length cPq, .bool Q.dead, .int .i64 Q.left, .int .i64 Q.fails, .int .i64 Q.ops]) r43 rfl k649 rfl rfl) rfl ?_
        refine L.step build27 rfl ?_
        refine L.step (R.moveV (v := .int .i64 ((X.write o.a (fblock o.f)).2)) rfl) rfl ?_
        refine L.doesE (R.storeAll (cs := [.slice aSq Q.safe.length cSq, .slice aPq Q.pend.length cPq, .bool Q.dead, .int .i64 Q.left, .int .i64 Q.fails, .int .i64 Q.ops]) r43 rfl rfl rfl (by simp [Value.oneCell']) k651 rfl) fun w657 e656 => ?_
        have k658 := So.old e656 (by omega) k649
        have k659 := So.old e656 (apartE k650 k651 (by decide)) k650
        have k660 := So.hit e656 k651
        have k661 := So.old e656 (apartE k652 k651 (by decide)) k652
        have z662 := So.size e656
        have q663 := So.kept e656 q654 (fun h => absurd h (by omega))
        have kq664 := So.kept e656 kq655 (fun _ => ⟨by omega, by omega⟩)
        refine L.doesE (R.storeAll (cs := bcells z64) r27 rfl rfl (bcells64 (b := z64) rfl) (one_bcells _) k661 (List.length_replicate)) fun w666 e665 => ?_
        have k667 := So.old e665 (apartE k658 k661 (by decide)) k658
        have k668 := So.old e665 (apartE k659 k661 (by decide)) k659
        have k669 := So.old e665 (apartE k660 k661 (by decide)) k660
        have k670 := So.hit e665 k661
        have z671 := So.size e665
        have q672 := So.kept e665 q663 (fun h => absurd h (by omega))
        have kq673 := So.kept e665 kq664 (fun _ => ⟨by omega, by omega⟩)
        refine L.step (R.assignV (v := .int .i64 ((X.write o.a (fblock o.f)).2)) rfl) rfl ?_
        refine L.nil ?_
        refine C.ret (?_ : RetOk _ _ _ _ _)
        refine RetOk.cctV (x := .int .i64 ((X.write o.a (fblock o.f)).2)) rfl rfl (loadVarA (cs := [.slice aSq Q.safe.length cSq, .slice aPq Q.pend.length cPq, .bool Q.dead, .int .i64 Q.left, .int .i64 Q.fails, .int .i64 Q.ops]) r43 k669 rfl rfl) rfl (loadVarA (cs := bcells z64) r27 k670 (List.take_of_length_le (Nat.le_of_eq (bcells64 (b := z64) rfl))) (bcells64 (b := z64) rfl)) rfl ?_
        have hwt : X.want o = (Q, z64, (X.write o.a (fblock o.f)).2) := by unfold RD.want; rw [if_neg hk0, if_pos hk1, hQ]
        rw [hwt]
        have hzr := (kq673).size
        exact ⟨_, rfl, (RefAt.kept hRq kq673 (fun k hk hs => hk.elim (fun hg => absurd (hG k hg) (by omega)) (fun h => by omega))).mono (fun k hk => hk.elim (fun h => .inl h) (fun h => .inr ⟨by omega, by omega⟩)), q672⟩
    ·
      refine L.step (R.eqlF rfl rfl hk1) rfl ?_
      refine L.step (R.assignV (v := .bool false) rfl) rfl ?_
      refine L.nil ?_
      refine C.condF rfl ?_
      refine C.seq ?_
      refine C.region ?_
      rcases Classical.em (kindOf o.k = 2) with hk2 | hk2
      ·
        refine L.step (R.eqlT rfl rfl hk2) rfl ?_
        refine L.step (R.assignV (v := .bool true) rfl) rfl ?_
        refine L.nil ?_
        refine C.condT rfl ?_
        refine C.region ?_
        refine L.step (R.loadA (cs := [.slice aS X.safe.length cS, .slice aP X.pend.length cP, .bool X.dead, .int .i64 X.left, .int .i64 X.fails, .int .i64 X.ops]) r43 rfl k533 rfl rfl) rfl ?_
        have hzk := (q538).size
        obtain ⟨Q, hQ⟩ : ∃ D, D = X.sync.1 := ⟨_, rfl⟩
        refine L.call (E.call1 hb36) rfl (rsync_calls (h.kept q538 (fun _ _ h => h)) ho hn0 hm) ?_
        rintro _ w674 ⟨y677, rfl, hR676, hk675⟩
        rw [← hQ] at hR676
        have k678 := Kept.old hk675 k533 (fun h => h)
        have k679 := Kept.old hk675 k534 (fun h => h)
        have k680 := Kept.old hk675 k535 (fun h => h)
        have k681 := Kept.old hk675 k536 (fun h => h)
        have z682 := (hk675).size
        have q683 := Kept.trans q538 hk675 (fun _ _ h => h.elim)
        obtain ⟨aSq, cSq, aPq, cPq, rfl⟩ := RefAt.lits hR676
        have hRq : RefAt w674 _ Q (grow G w531 w674) := hR676
        refine L.step (R.moveV (v := .tuple #[.agg (List.toArray ([.slice aSq Q.safe.length cSq, .slice aPq Q.pend.length cPq, .bool Q.dead, .int .i64 Q.left, .int .i64 Q.fails, .int .i64 Q.ops])), .int .i64 X.sync.2]) rfl) rfl ?_
        refine L.step (R.extract (v := .agg (List.toArray ([.slice aSq Q.safe.length cSq, .slice aPq Q.pend.length cPq, .bool Q.dead, .int .i64 Q.left, .int .i64 Q.fails, .int .i64 Q.ops]))) rfl rfl) rfl ?_
        refine L.step (R.extract (v := .int .i64 X.sync.2) rfl rfl) rfl ?_
        refine L.doesE (R.storeAll (cs := [.slice aSq Q.safe.length cSq, .slice aPq Q.pend.length cPq, .bool Q.dead, .int .i64 Q.left, .int .i64 Q.fails, .int .i64 Q.ops]) r43 rfl rfl rfl (by simp [Value.oneCell']) k678 rfl) fun w685 e684 => ?_
        have k686 := So.hit e684 k678
        have k687 := So.old e684 (apartE k679 k678 (by decide)) k679
        have k688 := So.old e684 (by omega) k680
        have k689 := So.old e684 (apartE k681 k678 (by decide)) k681
        have z690 := So.size e684
        have q691 := So.kept e684 q683 (fun h => absurd h (by omega))
        have kq692 := So.kept e684 (Kept.refl (fun k => w.heap.size ≤ k ∧ k < w531.heap.size) w674) (fun _ => ⟨by omega, by omega⟩)
        refine L.step (R.assignV (v := .int .i64 X.sync.2) rfl) rfl ?_
        refine L.nil ?_
        refine C.seq ?_
        refine C.region ?_
        refine L.step (R.loadA (cs := [.slice aSq Q.safe.length cSq, .slice aPq Q.pend.length cPq, .bool Q.dead, .int .i64 Q.left, .int .i64 Q.fails, .int .i64 Q.ops]) r43 rfl k686 rfl rfl) rfl ?_
        refine L.step build27 rfl ?_
        refine L.step (R.moveV (v := .int .i64 X.sync.2) rfl) rfl ?_
        refine L.doesE (R.storeAll (cs := [.slice aSq Q.safe.length cSq, .slice aPq Q.pend.length cPq, .bool Q.dead, .int .i64 Q.left, .int .i64 Q.fails, .int .i64 Q.ops]) r43 rfl rfl rfl (by simp [Value.oneCell']) k688 rfl) fun w694 e693 => ?_
        have k695 := So.old e693 (by omega) k686
        have k696 := So.old e693 (apartE k687 k688 (by decide)) k687
        have k697 := So.hit e693 k688
        have k698 := So.old e693 (apartE k689 k688 (by decide)) k689
        have z699 := So.size e693
        have q700 := So.kept e693 q691 (fun h => absurd h (by omega))
        have kq701 := So.kept e693 kq692 (fun _ => ⟨by omega, by omega⟩)
        refine L.doesE (R.storeAll (cs := bcells z64) r27 rfl rfl (bcells64 (b := z64) rfl) (one_bcells _) k698 (List.length_replicate)) fun w703 e702 => ?_
        have k704 := So.old e702 (apartE k695 k698 (by decide)) k695
        have k705 := So.old e702 (apartE k696 k698 (by decide)) k696
        have k706 := So.old e702 (apartE k697 k698 (by decide)) k697
        have k707 := So.hit e702 k698
        have z708 := So.size e702
        have q709 := So.kept e702 q700 (fun h => absurd h (by omega))
        have kq710 := So.kept e702 kq701 (fun _ => ⟨by omega, by omega⟩)
        refine L.step (R.assignV (v := .int .i64 X.sync.2) rfl) rfl ?_
        refine L.nil ?_
        refine C.ret (?_ : RetOk _ _ _ _ _)
        refine RetOk.cctV (x := .int .i64 X.sync.2) rfl rfl (loadVarA (cs := [.slice aSq Q.safe.length cSq, .slice aPq Q.pend.length cPq, .bool Q.dead, .int .i64 Q.left, .int .i64 Q.fails, .int .i64 Q.ops]) r43 k706 rfl rfl) rfl (loadVarA (cs := bcells z64) r27 k707 (List.take_of_length_le (Nat.le_of_eq (bcells64 (b := z64) rfl))) (bcells64 (b := z64) rfl)) rfl ?_
        have hwt : X.want o = (Q, z64, X.sync.2) := by unfold RD.want; rw [if_neg hk0, if_neg hk1, if_pos hk2, hQ]
        rw [hwt]
        have hzr := (kq710).size
        exact ⟨_, rfl, (RefAt.kept hRq kq710 (fun k hk hs => hk.elim (fun hg => absurd (hG k hg) (by omega)) (fun h => by omega))).mono (fun k hk => hk.elim (fun h => .inl h) (fun h => .inr ⟨by omega, by omega⟩)), q709⟩
      ·
        refine L.step (R.eqlF rfl rfl hk2) rfl ?_
        refine L.step (R.assignV (v := .bool false) rfl) rfl ?_
        refine L.nil ?_
        refine C.condF rfl ?_
        refine C.seq ?_
        refine C.region ?_
        rcases Classical.em (kindOf o.k = 3) with hk3 | hk3
        ·
          refine L.step (R.eqlT rfl rfl hk3) rfl ?_
          refine L.step (R.assignV (v := .bool true) rfl) rfl ?_
          refine L.nil ?_
          refine C.condT rfl ?_
          refine C.region ?_
          refine L.step (R.loadA (cs := [.slice aS X.safe.length cS, .slice aP X.pend.length cP, .bool X.dead, .int .i64 X.left, .int .i64 X.fails, .int .i64 X.ops]) r43 rfl k533 rfl rfl) rfl ?_
          refine L.step (R.fieldAddrV (o2 := 1) f32_1 rfl rfl) rfl ?_
          refine L.step (R.load1 (v := .int .i64 o.a) c3 rfl k534 rfl) rfl ?_
          have hzk := (q538).size
          obtain ⟨Q, hQ⟩ : ∃ D, D = (X.arm o.a).1 := ⟨_, rfl⟩
          refine L.call (E.call2 hb37) rfl (rarm_ref (h.kept q538 (fun _ _ h => h)) ha.2) ?_
          rintro _ w711 ⟨y714, rfl, hR713, hk712⟩
          rw [← hQ] at hR713
          have k715 := Kept.old hk712 k533 (fun h => h)
          have k716 := Kept.old hk712 k534 (fun h => h)
          have k717 := Kept.old hk712 k535 (fun h => h)
          have k718 := Kept.old hk712 k536 (fun h => h)
          have z719 := (hk712).size
          have q720 := Kept.trans q538 hk712 (fun _ _ h => h.elim)
          obtain ⟨aSq, cSq, aPq, cPq, rfl⟩ := RefAt.lits hR713
          have hRq : RefAt w711 _ Q (grow G w531 w711) := hR713
          refine L.step (R.moveV (v := .tuple #[.agg (List.toArray ([.slice aSq Q.safe.length cSq, .slice aPq Q.pend.length cPq, .bool Q.dead, .int .i64 Q.left, .int .i64 Q.fails, .int .i64 Q.ops])), .int .i64 ((X.arm o.a).2)]) rfl) rfl ?_
          refine L.step (R.extract (v := .agg (List.toArray ([.slice aSq Q.safe.length cSq, .slice aPq Q.pend.length cPq, .bool Q.dead, .int .i64 Q.left, .int .i64 Q.fails, .int .i64 Q.ops]))) rfl rfl) rfl ?_
          refine L.step (R.extract (v := .int .i64 ((X.arm o.a).2)) rfl rfl) rfl ?_
          refine L.doesE (R.storeAll (cs := [.slice aSq Q.safe.length cSq, .slice aPq Q.pend.length cPq, .bool Q.dead, .int .i64 Q.left, .int .i64 Q.fails, .int .i64 Q.ops]) r43 rfl rfl rfl (by simp [Value.oneCell']) k715 rfl) fun w722 e721 => ?_
          have k723 := So.hit e721 k715
          have k724 := So.old e721 (apartE k716 k715 (by decide)) k716
          have k725 := So.old e721 (by omega) k717
          have k726 := So.old e721 (apartE k718 k715 (by decide)) k718
          have z727 := So.size e721
          have q728 := So.kept e721 q720 (fun h => absurd h (by omega))
          have kq729 := So.kept e721 (Kept.refl (fun k => w.heap.size ≤ k ∧ k < w531.heap.size) w711) (fun _ => ⟨by omega, by omega⟩)
          refine L.step (R.assignV (v := .int .i64 ((X.arm o.a).2)) rfl) rfl ?_
          refine L.nil ?_
          refine C.seq ?_
          refine C.region ?_
          refine L.step (R.loadA (cs := [.slice aSq Q.safe.length cSq, .slice aPq Q.pend.length cPq, .bool Q.dead, .int .i64 Q.left, .int .i64 Q.fails, .int .i64 Q.ops]) r43 rfl k723 rfl rfl) rfl ?_
          refine L.step build27 rfl ?_
          refine L.step (R.moveV (v := .int .i64 ((X.arm o.a).2)) rfl) rfl ?_
          refine L.doesE (R.storeAll (cs := [.slice aSq Q.safe.length cSq, .slice aPq Q.pend.length cPq, .bool Q.dead, .int .i64 Q.left, .int .i64 Q.fails, .int .i64 Q.ops]) r43 rfl rfl rfl (by simp [Value.oneCell']) k725 rfl) fun w731 e730 => ?_
          have k732 := So.old e730 (by omega) k723
          have k733 := So.old e730 (apartE k724 k725 (by decide)) k724
          have k734 := So.hit e730 k725
          have k735 := So.old e730 (apartE k726 k725 (by decide)) k726
          have z736 := So.size e730
          have q737 := So.kept e730 q728 (fun h => absurd h (by omega))
          have kq738 := So.kept e730 kq729 (fun _ => ⟨by omega, by omega⟩)
          refine L.doesE (R.storeAll (cs := bcells z64) r27 rfl rfl (bcells64 (b := z64) rfl) (one_bcells _) k735 (List.length_replicate)) fun w740 e739 => ?_
          have k741 := So.old e739 (apartE k732 k735 (by decide)) k732
          have k742 := So.old e739 (apartE k733 k735 (by decide)) k733
          have k743 := So.old e739 (apartE k734 k735 (by decide)) k734
          have k744 := So.hit e739 k735
          have z745 := So.size e739
          have q746 := So.kept e739 q737 (fun h => absurd h (by omega))
          have kq747 := So.kept e739 kq738 (fun _ => ⟨by omega, by omega⟩)
          refine L.step (R.assignV (v := .int .i64 ((X.arm o.a).2)) rfl) rfl ?_
          refine L.nil ?_
          refine C.ret (?_ : RetOk _ _ _ _ _)
          refine RetOk.cctV (x := .int .i64 ((X.arm o.a).2)) rfl rfl (loadVarA (cs := [.slice aSq Q.safe.length cSq, .slice aPq Q.pend.length cPq, .bool Q.dead, .int .i64 Q.left, .int .i64 Q.fails, .int .i64 Q.ops]) r43 k743 rfl rfl) rfl (loadVarA (cs := bcells z64) r27 k744 (List.take_of_length_le (Nat.le_of_eq (bcells64 (b := z64) rfl))) (bcells64 (b := z64) rfl)) rfl ?_
          have hwt : X.want o = (Q, z64, (X.arm o.a).2) := by unfold RD.want; rw [if_neg hk0, if_neg hk1, if_neg hk2, if_pos hk3, hQ]
          rw [hwt]
          have hzr := (kq747).size
          exact ⟨_, rfl, (RefAt.kept hRq kq747 (fun k hk hs => hk.elim (fun hg => absurd (hG k hg) (by omega)) (fun h => by omega))).mono (fun k hk => hk.elim (fun h => .inl h) (fun h => .inr ⟨by omega, by omega⟩)), q746⟩
        ·
          refine L.step (R.eqlF rfl rfl hk3) rfl ?_
          refine L.step (R.assignV (v := .bool false) rfl) rfl ?_
          refine L.nil ?_
          refine C.condF rfl ?_
          refine C.seq ?_
          refine C.region ?_
          rcases Classical.em (kindOf o.k = 5) with hk5 | hk5
          ·
            refine L.step (R.eqlT rfl rfl hk5) rfl ?_
            refine L.step (R.assignV (v := .bool true) rfl) rfl ?_
            refine L.nil ?_
            refine C.condT rfl ?_
            refine C.region ?_
            refine L.step (R.loadA (cs := [.slice aS X.safe.length cS, .slice aP X.pend.length cP, .bool X.dead, .int .i64 X.left, .int .i64 X.fails, .int .i64 X.ops]) r43 rfl k533 rfl rfl) rfl ?_
            refine L.step (R.fieldAddrV (o2 := 1) f32_1 rfl rfl) rfl ?_
            refine L.step (R.load1 (v := .int .i64 o.a) c3 rfl k534 rfl) rfl ?_
            have hzk := (q538).size
            obtain ⟨Q, hQ⟩ : ∃ D, D = (X.fail o.a).1 := ⟨_, rfl⟩
            refine L.call (E.call2 hb38) rfl (rfail_ref (h.kept q538 (fun _ _ h => h)) ha.2) ?_
            rintro _ w748 ⟨y751, rfl, hR750, hk749⟩
            rw [← hQ] at hR750
            have k752 := Kept.old hk749 k533 (fun h => h)
            have k753 := Kept.old hk749 k534 (fun h => h)
            have k754 := Kept.old hk749 k535 (fun h => h)
            have k755 := Kept.old hk749 k536 (fun h => h)
            have z756 := (hk749).size
            have q757 := Kept.trans q538 hk749 (fun _ _ h => h.elim)
            obtain ⟨aSq, cSq, aPq, cPq, rfl⟩ := RefAt.lits hR750
            have hRq : RefAt w748 _ Q (grow G w531 w748) := hR750
            refine L.step (R.moveV (v := .tuple #[.agg (List.toArray ([.slice aSq Q.safe.length cSq, .slice aPq Q.pend.length cPq, .bool Q.dead, .int .i64 Q.left, .int .i64 Q.fails, .int .i64 Q.ops])), .int .i64 ((X.fail o.a).2)]) rfl) rfl ?_
            refine L.step (R.extract (v := .agg (List.toArray ([.slice aSq Q.safe.length cSq, .slice aPq Q.pend.length cPq, .bool Q.dead, .int .i64 Q.left, .int .i64 Q.fails, .int .i64 Q.ops]))) rfl rfl) rfl ?_
            refine L.step (R.extract (v := .int .i64 ((X.fail o.a).2)) rfl rfl) rfl ?_
            refine L.doesE (R.storeAll (cs := [.slice aSq Q.safe.length cSq, .slice aPq Q.pend.length cPq, .bool Q.dead, .int .i64 Q.left, .int .i64 Q.fails, .int .i64 Q.ops]) r43 rfl rfl rfl (by simp [Value.oneCell']) k752 rfl) fun w759 e758 => ?_
            have k760 := So.hit e758 k752
            have k761 := So.old e758 (apartE k753 k752 (by decide)) k753
            have k762 := So.old e758 (by omega) k754
            have k763 := So.old e758 (apartE k755 k752 (by decide)) k755
            have z764 := So.size e758
            have q765 := So.kept e758 q757 (fun h => absurd h (by omega))
            have kq766 := So.kept e758 (Kept.refl (fun k => w.heap.size ≤ k ∧ k < w531.heap.size) w748) (fun _ => ⟨by omega, by omega⟩)
            refine L.step (R.assignV (v := .int .i64 ((X.fail o.a).2)) rfl) rfl ?_
            refine L.nil ?_
            refine C.seq ?_
            refine C.region ?_
            refine L.step (R.loadA (cs := [.slice aSq Q.safe.length cSq, .slice aPq Q.pend.length cPq, .bool Q.dead, .int .i64 Q.left, .int .i64 Q.fails, .int .i64 Q.ops]) r43 rfl k760 rfl rfl) rfl ?_
            refine L.step build27 rfl ?_
            refine L.step (R.moveV (v := .int .i64 ((X.fail o.a).2)) rfl) rfl ?_
            refine L.doesE (R.storeAll (cs := [.slice aSq Q.safe.length cSq, .slice aPq Q.pend.length cPq, .bool Q.dead, .int .i64 Q.left, .int .i64 Q.fails, .int .i64 Q.ops]) r43 rfl rfl rfl (by simp [Value.oneCell']) k762 rfl) fun w768 e767 => ?_
            have k769 := So.old e767 (by omega) k760
            have k770 := So.old e767 (apartE k761 k762 (by decide)) k761
            have k771 := So.hit e767 k762
            have k772 := So.old e767 (apartE k763 k762 (by decide)) k763
            have z773 := So.size e767
            have q774 := So.kept e767 q765 (fun h => absurd h (by omega))
            have kq775 := So.kept e767 kq766 (fun _ => ⟨by omega, by omega⟩)
            refine L.doesE (R.storeAll (cs := bcells z64) r27 rfl rfl (bcells64 (b := z64) rfl) (one_bcells _) k772 (List.length_replicate)) fun w777 e776 => ?_
            have k778 := So.old e776 (apartE k769 k772 (by decide)) k769
            have k779 := So.old e776 (apartE k770 k772 (by decide)) k770
            have k780 := So.old e776 (apartE k771 k772 (by decide)) k771
            have k781 := So.hit e776 k772
            have z782 := So.size e776
            have q783 := So.kept e776 q774 (fun h => absurd h (by omega))
            have kq784 := So.kept e776 kq775 (fun _ => ⟨by omega, by omega⟩)
            refine L.step (R.assignV (v := .int .i64 ((X.fail o.a).2)) rfl) rfl ?_
            refine L.nil ?_
            refine C.ret (?_ : RetOk _ _ _ _ _)
            refine RetOk.cctV (x := .int .i64 ((X.fail o.a).2)) rfl rfl (loadVarA (cs := [.slice aSq Q.safe.length cSq, .slice aPq Q.pend.length cPq, .bool Q.dead, .int .i64 Q.left, .int .i64 Q.fails, .int .i64 Q.ops]) r43 k780 rfl rfl) rfl (loadVarA (cs := bcells z64) r27 k781 (List.take_of_length_le (Nat.le_of_eq (bcells64 (b := z64) rfl))) (bcells64 (b := z64) rfl)) rfl ?_
            have hwt : X.want o = (Q, z64, (X.fail o.a).2) := by unfold RD.want; rw [if_neg hk0, if_neg hk1, if_neg hk2, if_neg hk3, if_pos hk5, hQ]
            rw [hwt]
            have hzr := (kq784).size
            exact ⟨_, rfl, (RefAt.kept hRq kq784 (fun k hk hs => hk.elim (fun hg => absurd (hG k hg) (by omega)) (fun h => by omega))).mono (fun k hk => hk.elim (fun h => .inl h) (fun h => .inr ⟨by omega, by omega⟩)), q783⟩
          ·
            refine L.step (R.eqlF rfl rfl hk5) rfl ?_
            refine L.step (R.assignV (v := .bool false) rfl) rfl ?_
            refine L.nil ?_
            refine C.condF rfl ?_
            refine C.region ?_
            refine L.step (R.loadA (cs := [.slice aS X.safe.length cS, .slice aP X.pend.length cP, .bool X.dead, .int .i64 X.left, .int .i64 X.fails, .int .i64 X.ops]) r43 rfl k533 rfl rfl) rfl ?_
            refine L.step (R.fieldAddrV (o2 := 3) f32_3 rfl rfl) rfl ?_
            refine L.step (R.load1 (v := .slice ka o.ks.length kc) c30 rfl k534 rfl) rfl ?_
            have hzk := (q538).size
            obtain ⟨Q, hQ⟩ : ∃ D, D = X.crash fun k => o.ks.getD k false := ⟨_, rfl⟩
            refine L.call (E.call2 hb39) rfl (rcrash_calls (h.kept q538 (fun _ _ h => h)) (hb.kept q538 (fun _ _ h => h)) hn0 hm (by omega)) ?_
            rintro y788 w785 ⟨hR787, hk786⟩
            rw [← hQ] at hR787
            have k789 := Kept.old hk786 k533 (fun h => h)
            have k790 := Kept.old hk786 k534 (fun h => h)
            have k791 := Kept.old hk786 k535 (fun h => h)
            have k792 := Kept.old hk786 k536 (fun h => h)
            have z793 := (hk786).size
            have q794 := Kept.trans q538 hk786 (fun _ _ h => h.elim)
            obtain ⟨aSq, cSq, aPq, cPq, rfl⟩ := RefAt.lits hR787
            have hRq : RefAt w785 _ Q (grow G w531 w785) := hR787.mono (fun k hk => hk.elim (fun h => h.elim) .inr)
            refine L.doesE (R.storeAll (cs := [.slice aSq Q.safe.length cSq, .slice aPq Q.pend.length cPq, .bool Q.dead, .int .i64 Q.left, .int .i64 Q.fails, .int .i64 Q.ops]) r43 rfl rfl rfl (by simp [Value.oneCell']) k789 rfl) fun w796 e795 => ?_
            have k797 := So.hit e795 k789
            have k798 := So.old e795 (apartE k790 k789 (by decide)) k790
            have k799 := So.old e795 (by omega) k791
            have k800 := So.old e795 (apartE k792 k789 (by decide)) k792
            have z801 := So.size e795
            have q802 := So.kept e795 q794 (fun h => absurd h (by omega))
            have kq803 := So.kept e795 (Kept.refl (fun k => w.heap.size ≤ k ∧ k < w531.heap.size) w785) (fun _ => ⟨by omega, by omega⟩)
            refine L.nil ?_
            refine C.seq ?_
            refine C.region ?_
            refine L.step (R.loadA (cs := [.slice aSq Q.safe.length cSq, .slice aPq Q.pend.length cPq, .bool Q.dead, .int .i64 Q.left, .int .i64 Q.fails, .int .i64 Q.ops]) r43 rfl k797 rfl rfl) rfl ?_
            refine L.step build27 rfl ?_
            refine L.step (R.moveV (v := .int .i64 0) rfl) rfl ?_
            refine L.doesE (R.storeAll (cs := [.slice aSq Q.safe.length cSq, .slice aPq Q.pend.length cPq, .bool Q.dead, .int .i64 Q.left, .int .i64 Q.fails, .int .i64 Q.ops]) r43 rfl rfl rfl (by simp [Value.oneCell']) k799 rfl) fun w805 e804 => ?_
            have k806 := So.old e804 (by omega) k797
            have k807 := So.old e804 (apartE k798 k799 (by decide)) k798
            have k808 := So.hit e804 k799
            have k809 := So.old e804 (apartE k800 k799 (by decide)) k800
            have z810 := So.size e804
            have q811 := So.kept e804 q802 (fun h => absurd h (by omega))
            have kq812 := So.kept e804 kq803 (fun _ => ⟨by omega, by omega⟩)
            refine L.doesE (R.storeAll (cs := bcells z64) r27 rfl rfl (bcells64 (b := z64) rfl) (one_bcells _) k809 (List.length_replicate)) fun w814 e813 => ?_
            have k815 := So.old e813 (apartE k806 k809 (by decide)) k806
            have k816 := So.old e813 (apartE k807 k809 (by decide)) k807
            have k817 := So.old e813 (apartE k808 k809 (by decide)) k808
            have k818 := So.hit e813 k809
            have z819 := So.size e813
            have q820 := So.kept e813 q811 (fun h => absurd h (by omega))
            have kq821 := So.kept e813 kq812 (fun _ => ⟨by omega, by omega⟩)
            refine L.step (R.assignV (v := .int .i64 0) rfl) rfl ?_
            refine L.nil ?_
            refine C.ret (?_ : RetOk _ _ _ _ _)
            refine RetOk.cctV (x := .int .i64 0) rfl rfl (loadVarA (cs := [.slice aSq Q.safe.length cSq, .slice aPq Q.pend.length cPq, .bool Q.dead, .int .i64 Q.left, .int .i64 Q.fails, .int .i64 Q.ops]) r43 k817 rfl rfl) rfl (loadVarA (cs := bcells z64) r27 k818 (List.take_of_length_le (Nat.le_of_eq (bcells64 (b := z64) rfl))) (bcells64 (b := z64) rfl)) rfl ?_
            have hwt : X.want o = (Q, z64, 0) := by unfold RD.want; rw [if_neg hk0, if_neg hk1, if_neg hk2, if_neg hk3, if_neg hk5, hQ]
            rw [hwt]
            have hzr := (kq821).size
            exact ⟨_, rfl, (RefAt.kept hRq kq821 (fun k hk hs => hk.elim (fun hg => absurd (hG k hg) (by omega)) (fun h => by omega))).mono (fun k hk => hk.elim (fun h => .inl h) (fun h => .inr ⟨by omega, by omega⟩)), q820⟩
end Go.Proofs.Ytpblppilknkdoaa
