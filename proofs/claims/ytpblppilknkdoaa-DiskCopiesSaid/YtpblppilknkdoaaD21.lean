/- The reference's disk: New, holds, Read. -/
import Derived.Test.YtpblppilknkdoaaD20
namespace Go.Proofs.Ytpblppilknkdoaa
open Go Go.Eng Go.Proofs
attribute [local irreducible] Go.Eng.C Go.Eng.L Go.Eng.Ret Go.Eng.Run Go.Eng.Does Go.Eng.Enters Go.Eng.AH Go.Eng.AO Go.Eng.RetOk
theorem RD.asked_ops {X : RD} {i : Int} : (X.asked i).1.ops = X.ops := by unfold RD.asked; (repeat' split) <;> rfl
def RD.new (n : Nat) : RD := { safe := List.replicate n z64, pend := [], dead := false, left := -1, fails := -1, ops := 0 }
theorem RD.Ok.new (n : Nat) : (RD.new n).Ok := by
  refine ⟨?_, ?_, ?_, ?_⟩ <;> simp [RD.new]
  intro _; rfl
set_option maxHeartbeats 1000000 in
theorem rnew_bad {w : World} {n : Int} (hn : n < 1 ∨ 2048 < n) : Ret Try.prog 17 #[.int .i64 n] w fun v w' => v = .tuple #[.agg (List.toArray ([.slice none 0 0, .slice none 0 0, .bool false, .int .i64 0, .int .i64 0, .int .i64 0])), .int .i64 2] ∧ Kept (fun _ => False) w w' := by
  have hq := Kept.refl (fun _ => False) w
  rcases Classical.em (n < 1) with hlt | hge
  ·
    refine Ret.intro [.int .i64 n] Try.func17 rfl rfl ?_
    refine C.seq ?_
    refine C.region ?_
    refine L.stepE (R.alloc z43) rfl fun w502 e501 => ?_
    have k504 := Al.new e501
    have z505 := Al.size e501
    have q506 := Al.kept e501 hq
    refine L.step (R.assignV (v := .int .i64 0) rfl) rfl ?_
    refine L.nil ?_
    refine C.seq ?_
    refine C.seq ?_
    refine C.region ?_
    refine L.step (R.moveV (v := .int .i64 n) rfl) rfl ?_
    refine L.step (R.lssT rfl rfl (hlt)) rfl ?_
    refine L.step (R.moveV (v := .bool true) rfl) rfl ?_
    refine L.no rfl rfl rfl (.inl rfl) ?_
    refine L.no rfl rfl rfl (.inl rfl) ?_
    refine L.step (R.pickTV (v := .bool true) rfl rfl) rfl ?_
    refine L.nil ?_
    refine C.condT rfl ?_
    refine C.seq ?_
    refine C.region ?_
    refine L.step (R.build0 (v := .agg (List.toArray ([.slice none 0 0, .slice none 0 0, .bool false, .int .i64 0, .int .i64 0, .int .i64 0]))) (run_build0 p43 z43)) rfl ?_
    refine L.doesE (R.storeAll (cs := [.slice none 0 0, .slice none 0 0, .bool false, .int .i64 0, .int .i64 0, .int .i64 0]) r43 rfl rfl rfl (by simp [Value.oneCell']) k504 rfl) fun w508 e507 => ?_
    have k509 := So.hit e507 k504
    have z510 := So.size e507
    have q511 := So.kept e507 q506 (fun h => absurd h (by omega))
    refine L.step (R.assignV (v := .int .i64 2) rfl) rfl ?_
    refine L.nil ?_
    refine C.ret (?_ : RetOk _ _ _ _ _)
    refine RetOk.ctV (u := .int .i64 2) rfl rfl (loadVarA (cs := [.slice none 0 0, .slice none 0 0, .bool false, .int .i64 0, .int .i64 0, .int .i64 0]) r43 k509 rfl rfl) rfl ?_
    exact ⟨rfl, q511⟩
  ·
    refine Ret.intro [.int .i64 n] Try.func17 rfl rfl ?_
    refine C.seq ?_
    refine C.region ?_
    refine L.stepE (R.alloc z43) rfl fun w513 e512 => ?_
    have k515 := Al.new e512
    have z516 := Al.size e512
    have q517 := Al.kept e512 hq
    refine L.step (R.assignV (v := .int .i64 0) rfl) rfl ?_
    refine L.nil ?_
    refine C.seq ?_
    refine C.seq ?_
    refine C.region ?_
    refine L.step (R.moveV (v := .int .i64 n) rfl) rfl ?_
    refine L.step (R.lssF rfl rfl (by omega)) rfl ?_
    refine L.step (R.moveV (v := .bool false) rfl) rfl ?_
    refine L.yes rfl rfl rfl ?_
    refine L.step (R.moveV (v := .int .i64 n) rfl) rfl ?_
    refine L.yes rfl rfl rfl ?_
    refine L.step (R.gtrT rfl rfl (by omega)) rfl ?_
    refine L.step (R.pickFV (v := .bool true) rfl rfl) rfl ?_
    refine L.nil ?_
    refine C.condT rfl ?_
    refine C.seq ?_
    refine C.region ?_
    refine L.step (R.build0 (v := .agg (List.toArray ([.slice none 0 0, .slice none 0 0, .bool false, .int .i64 0, .int .i64 0, .int .i64 0]))) (run_build0 p43 z43)) rfl ?_
    refine L.doesE (R.storeAll (cs := [.slice none 0 0, .slice none 0 0, .bool false, .int .i64 0, .int .i64 0, .int .i64 0]) r43 rfl rfl rfl (by simp [Value.oneCell']) k515 rfl) fun w519 e518 => ?_
    have k520 := So.hit e518 k515
    have z521 := So.size e518
    have q522 := So.kept e518 q517 (fun h => absurd h (by omega))
    refine L.step (R.assignV (v := .int .i64 2) rfl) rfl ?_
    refine L.nil ?_
    refine C.ret (?_ : RetOk _ _ _ _ _)
    refine RetOk.ctV (u := .int .i64 2) rfl rfl (loadVarA (cs := [.slice none 0 0, .slice none 0 0, .bool false, .int .i64 0, .int .i64 0, .int .i64 0]) r43 k520 rfl rfl) rfl ?_
    exact ⟨rfl, q522⟩
set_option maxHeartbeats 1000000 in
theorem rnew_good {w : World} {n : Int} (h1 : 1 ≤ n) (h2 : n ≤ 2048) : Ret Try.prog 17 #[.int .i64 n] w fun v w' => ∃ x, v = .tuple #[x, .int .i64 0] ∧ RefAt w' x (RD.new n.toNat) (grow (fun _ => False) w w') ∧ Kept (fun _ => False) w w' := by
  have hq := Kept.refl (fun _ => False) w
  obtain ⟨m, rfl⟩ := Int.eq_ofNat_of_zero_le (show 0 ≤ n by omega)
  refine Ret.intro [.int .i64 (m : Int)] Try.func17 rfl rfl ?_
  refine C.seq ?_
  refine C.region ?_
  refine L.stepE (R.alloc z43) rfl fun w524 e523 => ?_
  have k526 := Al.new e523
  have z527 := Al.size e523
  have q528 := Al.kept e523 hq
  refine L.step (R.assignV (v := .int .i64 0) rfl) rfl ?_
  refine L.nil ?_
  refine C.seq ?_
  refine C.seq ?_
  refine C.region ?_
  refine L.step (R.moveV (v := .int .i64 (m : Int)) rfl) rfl ?_
  refine L.step (R.lssF rfl rfl (by omega)) rfl ?_
  refine L.step (R.moveV (v := .bool false) rfl) rfl ?_
  refine L.yes rfl rfl rfl ?_
  refine L.step (R.moveV (v := .int .i64 (m : Int)) rfl) rfl ?_
  refine L.yes rfl rfl rfl ?_
  refine L.step (R.gtrF rfl rfl (by omega)) rfl ?_
  refine L.step (R.pickFV (v := .bool false) rfl rfl) rfl ?_
  refine L.nil ?_
  refine C.condF rfl ?_
  refine C.skip ?_
  refine C.seq ?_
  refine C.region ?_
  refine L.step (R.moveV (v := .int .i64 (m : Int)) rfl) rfl ?_
  refine L.stepE (R.makeU (l := m) (m := m) e35 z27 rfl rfl rfl rfl (Nat.le_refl _) (by omega) (by omega)) rfl fun w530 e529 => ?_
  have k532 := Al.new e529
  have k533 := Al.old e529 k526
  have z534 := Al.size e529
  have q535 := Al.kept e529 q528
  refine L.step (R.build3 (v := .agg (List.toArray ([.slice (some ⟨w524.heap.size, 0, none⟩) m m, .slice none 0 0, .bool false, .int .i64 (-1), .int .i64 (-1), .int .i64 0]))) (run_build3 (i := 0) (off := 0) (size := 1) (j := 3) (off' := 3) (size' := 1) (k := 4) (off2 := 4) (size2 := 1) (v := .slice (some ⟨w524.heap.size, 0, none⟩) m m) p43 z43 rfl rfl rfl rfl rfl rfl rfl rfl rfl)) rfl ?_
  refine L.doesE (R.storeAll (cs := [.slice (some ⟨w524.heap.size, 0, none⟩) m m, .slice none 0 0, .bool false, .int .i64 (-1), .int .i64 (-1), .int .i64 0]) r43 rfl rfl rfl (by simp [Value.oneCell']) k533 rfl) fun w537 e536 => ?_
  have k538 := So.hit e536 k533
  have k539 := So.old e536 (apartE k532 k533 (by decide)) k532
  have z540 := So.size e536
  have q541 := So.kept e536 q535 (fun h => absurd h (by omega))
  refine L.step (R.assignV (v := .int .i64 0) rfl) rfl ?_
  refine L.nil ?_
  refine C.ret (?_ : RetOk _ _ _ _ _)
  refine RetOk.ctV (u := .int .i64 0) rfl rfl (loadVarA (cs := [.slice (some ⟨w524.heap.size, 0, none⟩) m m, .slice none 0 0, .bool false, .int .i64 (-1), .int .i64 (-1), .int .i64 0]) r43 k538 rfl rfl) rfl ?_
  refine ⟨_, rfl, ⟨RD.Ok.new _, _, _, rfl, ?_, Row.nil _ _ _ _⟩, q541⟩
  have hm : (m : Int).toNat = m := by omega
  rw [hm]
  have e := new_flat m
  have l : (RD.new m).safe.length = m := by simp [RD.new]
  rw [l]
  show Row _ 27 64 _ m ((List.replicate m z64).flatMap bcells) _
  rw [e]
  exact Row.mk _ _ m (List.replicate (m * 64) (.int .u8 0)) k539 (Nat.le_refl _) (by simp only [maxLen]; omega) (by simp) (List.take_of_length_le (by simp)) (grow_none (by omega) (by omega))
set_option maxHeartbeats 2000000 in
theorem holds_calls {w : World} {x : Value} {X : RD} {G : Nat → Prop} {i : Int} (h : RefAt w x X G) (hi : 0 ≤ i ∧ i < X.safe.length) (hm : X.pend.length ≤ 1000000) :
    Ret Try.prog 43 #[x, .int .i64 i] w fun v w' => v = bval (X.holds i) ∧ Kept (fun _ => False) w w' := by
  obtain ⟨hok, sv, pv, rfl, hs, hp⟩ := h
  obtain ⟨aS, cS, rfl, hsc⟩ := hs.shape
  obtain ⟨aP, cP, rfl, hpc⟩ := hp.shape
  obtain ⟨hi0, hi1⟩ := hi
  obtain ⟨i, rfl⟩ := Int.eq_ofNat_of_zero_le hi0
  have hilt : i < X.safe.length := by omega
  have hq := Kept.refl (fun _ => False) w
  have hplt := hp.lt
  have hsall : ∀ b ∈ X.safe, (bcells b).length = 64 := fun b hb => bcells64 (hok.blocks b hb)
  have hpall : ∀ p ∈ X.pend, (wcells p).length = 65 := fun p hp => wcells65 (hok.pends p hp).2
  have hh64 : ∀ k, (holdsN X.safe X.pend i k).length = 64 := length_holdsN hok.blocks (fun p hp => (hok.pends p hp).2) hilt
  obtain ⟨gs, ls, rfl, hGs, hgs, hns, hcs, hls, hts⟩ := Row.blockA hs (by omega)
  have hgsl := at_lt _ _ hgs
  obtain ⟨b0, hb0⟩ : ∃ b, X.safe[i]? = some b := ⟨_, List.getElem?_eq_getElem hilt⟩
  have hb64 := hok.blocks b0 (List.mem_of_getElem? hb0)
  refine Ret.intro [.agg (List.toArray ([.slice (some ⟨gs, 0, none⟩) X.safe.length cS, .slice aP X.pend.length cP, .bool X.dead, .int .i64 X.left, .int .i64 X.fails, .int .i64 X.ops])), .int .i64 ((i : Nat) : Int)] Try.func43 rfl rfl ?_
  refine C.seq ?_
  refine C.region ?_
  refine L.stepE (R.boxA (cs := [.slice (some ⟨gs, 0, none⟩) X.safe.length cS, .slice aP X.pend.length cP, .bool X.dead, .int .i64 X.left, .int .i64 X.fails, .int .i64 X.ops]) rfl) rfl fun w543 e542 => ?_
  have m544 := Al.row e542 hp
  have k546 := Al.new e542
  have k547 := Al.old e542 hgs
  have z548 := Al.size e542
  have q549 := Al.kept e542 hq
  refine L.stepE (R.alloc z27) rfl fun w551 e550 => ?_
  have m552 := Al.row e550 m544
  have k554 := Al.new e550
  have k555 := Al.old e550 k547
  have k556 := Al.old e550 k546
  have z557 := Al.size e550
  have q558 := Al.kept e550 q549
  refine L.nil ?_
  refine C.seq ?_
  refine C.region ?_
  refine L.step (R.fieldAddrV (o2 := 0) f43_0 rfl rfl) rfl ?_
  refine L.step (R.load1 (v := .slice (some ⟨gs, 0, none⟩) X.safe.length cS) c35 rfl k556 rfl) rfl ?_
  refine L.step (R.moveV (v := .int .i64 ((i : Nat) : Int)) rfl) rfl ?_
  refine L.step (R.indexAddrV (m := i) (o2 := i * 64) s35 rfl rfl rfl (by omega) (by omega)) rfl ?_
  refine L.step (R.loadA (cs := bcells b0) r27 rfl k555 (part_get hsall rfl hts hb0) (bcells64 hb64)) rfl ?_
  refine L.stepE (R.alloc z27) rfl fun w560 e559 => ?_
  have m561 := Al.row e559 m552
  have k563 := Al.new e559
  have k564 := Al.old e559 k555
  have k565 := Al.old e559 k556
  have k566 := Al.old e559 k554
  have z567 := Al.size e559
  have q568 := Al.kept e559 q558
  refine L.doesE (R.storeAll (cs := bcells b0) r27 rfl rfl (bcells64 hb64) (one_bcells _) k563 (by first | exact List.length_replicate | exact bcells64 (hh64 _))) fun w570 e569 => ?_
  have m571 := So.rowE e569 m561 k563 (by decide)
  have k572 := So.old e569 (by omega) k564
  have k573 := So.old e569 (apartE k565 k563 (by decide)) k565
  have k574 := So.old e569 (by omega) k566
  have k575 := So.hit e569 k563
  have z576 := So.size e569
  have q577 := So.kept e569 q568 (fun h => absurd h (by omega))
  refine L.nil ?_
  refine C.seq ?_
  refine C.seq ?_
  refine C.region ?_
  refine L.step (R.fieldAddrV (o2 := 1) f43_1 rfl rfl) rfl ?_
  refine L.step (R.load1 (v := .slice aP X.pend.length cP) c41 rfl k573 rfl) rfl ?_
  refine L.step (R.lenV (v := .int .i64 ((X.pend.length : Nat) : Int)) Try.underlying41 rfl rfl) rfl ?_
  refine L.step (R.moveV (v := .int .i64 0) rfl) rfl ?_
  refine L.nil ?_
  refine C.block ?_
  refine C.loop (α := Nat) (fun k => [(1, .int .i64 ((i : Nat) : Int)), (4, .pointer (some ⟨w543.heap.size, 0, none⟩)), (5, .pointer (some ⟨w551.heap.size, 0, none⟩)), (14, .slice aP X.pend.length cP), (15, .int .i64 ((X.pend.length : Nat) : Int)), (16, .int .i64 ((k : Nat) : Int))]) (fun k W => k ≤ X.pend.length ∧ Kept (fun _ => False) w W ∧ W.heap[w543.heap.size]? = some (blk (List.replicate 64 (.int .u8 0)) 27) ∧ W.heap[w551.heap.size]? = some (blk (bcells (holdsN X.safe X.pend i k)) 27) ∧ Row W 75 65 (.slice aP X.pend.length cP) X.pend.length (X.pend.flatMap wcells) G) (fun k => X.pend.length - k) ⟨0, ⟨rfl, rfl, rfl, rfl, rfl, rfl, trivial⟩, ⟨Nat.zero_le _, q577, k574, by rw [show holdsN X.safe X.pend i 0 = b0 by simp [holdsN, hb0]]; exact k575, m571⟩⟩ ?_
  intro k g579 w578 hI580
  obtain ⟨hk, hq, h4, h5, hp⟩ := hI580
  have hsz := hq.size
  have h4l := at_lt _ _ h4
  have h5l := at_lt _ _ h5
  have hplt := hp.lt
  refine C.seq ?_
  refine C.region ?_
  rcases Classical.em (((k : Nat) : Int) < ((X.pend.length : Nat) : Int)) with ht581 | ht581
  ·
    refine L.step (R.lssT rfl rfl (ht581)) rfl ?_
    refine L.nil ?_
    refine C.seq ?_
    refine C.condT rfl ?_
    refine C.skip ?_
    refine C.seq ?_
    refine C.block ?_
    refine C.seq ?_
    refine C.region ?_
    obtain ⟨gp, lp, rfl, hFp, hgp, hnp, hmp, hlp, htp⟩ := Row.blockA hp (by omega)
    obtain ⟨p, hpk⟩ : ∃ p, X.pend[k]? = some p := ⟨_, List.getElem?_eq_getElem (by omega)⟩
    obtain ⟨hp1, hp2⟩ := hok.pends p (List.mem_of_getElem? hpk)
    have hgplt := at_lt _ _ hgp
    refine L.step (R.indexAddrV (m := k) (o2 := k * 65) s41 rfl rfl rfl (by omega) (by omega)) rfl ?_
    refine L.step (R.loadA (cs := wcells p) r75 rfl hgp (part_get hpall rfl htp hpk) (wcells65 hp2)) rfl ?_
    refine L.stepE (R.alloc z75) rfl fun w583 e582 => ?_
    have m584 := Al.row e582 hp
    have k586 := Al.new e582
    have k587 := Al.old e582 h4
    have k588 := Al.old e582 h5
    have k589 := Al.old e582 hgp
    have z590 := Al.size e582
    have q591 := Al.kept e582 hq
    refine L.doesE (R.storeAll (cs := wcells p) r75 rfl rfl (wcells65 hp2) (one_wcells _) k586 rfl) fun w593 e592 => ?_
    have m594 := So.rowLt e592 m584 hplt (by omega)
    have k595 := So.old e592 (apartE k587 k586 (by decide)) k587
    have k596 := So.old e592 (apartE k588 k586 (by decide)) k588
    have k597 := So.old e592 (by omega) k589
    have k598 := So.hit e592 k586
    have z599 := So.size e592
    have q600 := So.kept e592 q591 (fun h => absurd h (by omega))
    refine L.nil ?_
    refine C.seq ?_
    refine C.region ?_
    refine L.step (R.fieldAddrV (o2 := 0) f75_0 rfl rfl) rfl ?_
    refine L.step (R.load1 (v := .int .i64 (p.1 : Int)) c3 rfl k598 rfl) rfl ?_
    refine L.step (R.moveV (v := .int .i64 ((i : Nat) : Int)) rfl) rfl ?_
    rcases Classical.em (p.1 = i) with hpi | hpi
    ·
      refine L.step (R.eqlT rfl rfl (by omega)) rfl ?_
      refine L.nil ?_
      refine C.condT rfl ?_
      refine C.region ?_
      refine L.step (R.fieldAddrV (o2 := 1) f75_1 rfl rfl) rfl ?_
      refine L.step (R.loadA (cs := bcells p.2) r27 rfl k598 (wcells_tail hp2) (bcells64 hp2)) rfl ?_
      refine L.doesE (R.storeAll (cs := bcells p.2) r27 rfl rfl (bcells64 hp2) (one_bcells _) k596 (by first | exact List.length_replicate | exact bcells64 (hh64 _))) fun w602 e601 => ?_
      have m603 := So.rowE e601 m594 k596 (by decide)
      have k604 := So.old e601 (by omega) k595
      have k605 := So.hit e601 k596
      have k606 := So.old e601 (apartE k597 k596 (by decide)) k597
      have k607 := So.old e601 (apartE k598 k596 (by decide)) k598
      have z608 := So.size e601
      have q609 := So.kept e601 q600 (fun h => absurd h (by omega))
      refine L.nil ?_
      refine C.region ?_
      refine L.step (R.add rfl rfl (by omega)) rfl ?_
      refine L.step (R.moveV (v := .int .i64 (((k : Nat) : Int) + 1)) rfl) rfl ?_
      refine L.nil ?_
      refine thenP.mk ⟨k + 1, ⟨rfl, rfl, rfl, rfl, rfl, rfl, trivial⟩, ⟨by show k + 1 ≤ _; omega, q609, k604, by rw [holdsN_succ hpk, if_pos hpi]; exact k605, m603⟩, by show X.pend.length - (k + 1) < X.pend.length - k; omega⟩
    ·
      refine L.step (R.eqlF rfl rfl (by omega)) rfl ?_
      refine L.nil ?_
      refine C.condF rfl ?_
      refine C.skip ?_
      refine C.region ?_
      refine L.step (R.add rfl rfl (by omega)) rfl ?_
      refine L.step (R.moveV (v := .int .i64 (((k : Nat) : Int) + 1)) rfl) rfl ?_
      refine L.nil ?_
      refine thenP.mk ⟨k + 1, ⟨rfl, rfl, rfl, rfl, rfl, rfl, trivial⟩, ⟨by show k + 1 ≤ _; omega, q600, k595, by rw [holdsN_succ hpk, if_neg hpi]; exact k596, m594⟩, by show X.pend.length - (k + 1) < X.pend.length - k; omega⟩
  ·
    refine L.step (R.lssF rfl rfl (Int.not_lt.1 ht581)) rfl ?_
    refine L.nil ?_
    refine C.seq ?_
    refine C.condF rfl ?_
    refine C.exit ?_
    refine C.seq ?_
    refine C.region ?_
    refine L.step (R.loadA (cs := bcells (holdsN X.safe X.pend i k)) r27 rfl h5 (List.take_of_length_le (Nat.le_of_eq (bcells64 (hh64 k)))) (bcells64 (hh64 k))) rfl ?_
    refine L.doesE (R.storeAll (cs := bcells (holdsN X.safe X.pend i k)) r27 rfl rfl (bcells64 (hh64 k)) (one_bcells _) h4 (by first | exact List.length_replicate | exact bcells64 (hh64 _))) fun w611 e610 => ?_
    have m612 := So.rowE e610 hp h4 (by decide)
    have k613 := So.hit e610 h4
    have k614 := So.old e610 (by omega) h5
    have z615 := So.size e610
    have q616 := So.kept e610 hq (fun h => absurd h (by omega))
    refine L.nil ?_
    refine C.ret (?_ : RetOk _ _ _ _ _)
    refine RetOk.c rfl rfl (loadVarA (cs := bcells (holdsN X.safe X.pend i k)) r27 k613 (List.take_of_length_le (Nat.le_of_eq (bcells64 (hh64 k)))) (bcells64 (hh64 k))) ?_
    have hkk : k = X.pend.length := by omega
    exact ⟨by rw [hkk]; rfl, q616⟩
set_option maxHeartbeats 2000000 in
theorem rread_calls {w : World} {x : Value} {X : RD} {G : Nat → Prop} {i : Int} (h : RefAt w x X G) (ho : -1000000 ≤ X.ops ∧ X.ops ≤ 1000000) (hm : X.pend.length ≤ 1000000) :
    Ret Try.prog 23 #[x, .int .i64 i] w fun v w' => ∃ y, v = .tuple #[y, bval (X.read i).2.1, .int .i64 (X.read i).2.2] ∧ RefAt w' y (X.read i).1 G ∧ Kept (fun _ => False) w w' := by
  obtain ⟨hok, sv, pv, rfl, hs, hp⟩ := h
  obtain ⟨aS, cS, rfl, hsc⟩ := hs.shape
  obtain ⟨aP, cP, rfl, hpc⟩ := hp.shape
  have hq := Kept.refl (fun _ => False) w
  have hslt := hs.lt
  have hplt := hp.lt
  refine Ret.intro [.agg (List.toArray ([.slice aS X.safe.length cS, .slice aP X.pend.length cP, .bool X.dead, .int .i64 X.left, .int .i64 X.fails, .int .i64 X.ops])), .int .i64 i] Try.func23 rfl rfl ?_
  refine C.seq ?_
  refine C.region ?_
  refine L.stepE (R.boxA (cs := [.slice aS X.safe.length cS, .slice aP X.pend.length cP, .bool X.dead, .int .i64 X.left, .int .i64 X.fails, .int .i64 X.ops]) rfl) rfl fun w618 e617 => ?_
  have m619 := Al.row e617 hs
  have m620 := Al.row e617 hp
  have k622 := Al.new e617
  have z623 := Al.size e617
  have q624 := Al.kept e617 hq
  refine L.stepE (R.alloc z43) rfl fun w626 e625 => ?_
  have m627 := Al.row e625 m619
  have m628 := Al.row e625 m620
  have k630 := Al.new e625
  have k631 := Al.old e625 k622
  have z632 := Al.size e625
  have q633 := Al.kept e625 q624
  refine L.stepE (R.alloc z27) rfl fun w635 e634 => ?_
  have m636 := Al.row e634 m627
  have m637 := Al.row e634 m628
  have k639 := Al.new e634
  have k640 := Al.old e634 k631
  have k641 := Al.old e634 k630
  have z642 := Al.size e634
  have q643 := Al.kept e634 q633
  refine L.step (R.assignV (v := .int .i64 0) rfl) rfl ?_
  refine L.nil ?_
  refine C.seq ?_
  refine C.region ?_
  refine L.step (R.loadA (cs := [.slice aS X.safe.length cS, .slice aP X.pend.length cP, .bool X.dead, .int .i64 X.left, .int .i64 X.fails, .int .i64 X.ops]) r43 rfl k640 rfl rfl) rfl ?_
  refine L.step (R.moveV (v := .int .i64 i) rfl) rfl ?_
  obtain ⟨Y, hY⟩ : ∃ D, D = (X.asked i).1 := ⟨_, rfl⟩
  obtain ⟨er, her⟩ : ∃ e, e = (X.asked i).2 := ⟨_, rfl⟩
  have hYok : Y.Ok := by rw [hY]; exact hok.asked _
  have hYs : Y.safe = X.safe := by rw [hY]; exact RD.asked_safe
  have hYp : Y.pend = X.pend := by rw [hY]; exact RD.asked_pend
  have hYo : Y.ops = X.ops := by rw [hY]; exact RD.asked_ops
  refine L.call (E.call2 hb42) rfl (asked_calls (X := X) (i := i) hok) ?_
  rintro _ w644 ⟨rfl, hk645⟩
  rw [← hY, ← her]
  have k646 := Kept.old hk645 k640 (fun h => h)
  have k647 := Kept.old hk645 k641 (fun h => h)
  have k648 := Kept.old hk645 k639 (fun h => h)
  have z649 := (hk645).size
  have q650 := Kept.trans q643 hk645 (fun _ _ h => h.elim)
  have m651 := Row.kept m636 hk645 (fun _ _ h => h)
  have m652 := Row.kept m637 hk645 (fun _ _ h => h)
  refine L.step (R.moveV (v := .tuple #[.agg (List.toArray ([.slice aS X.safe.length cS, .slice aP X.pend.length cP, .bool Y.dead, .int .i64 Y.left, .int .i64 Y.fails, .int .i64 Y.ops])), .int .i64 er]) rfl) rfl ?_
  refine L.step (R.extract (v := .agg (List.toArray ([.slice aS X.safe.length cS, .slice aP X.pend.length cP, .bool Y.dead, .int .i64 Y.left, .int .i64 Y.fails, .int .i64 Y.ops]))) rfl rfl) rfl ?_
  refine L.step (R.extract (v := .int .i64 er) rfl rfl) rfl ?_
  refine L.doesE (R.storeAll (cs := [.slice aS X.safe.length cS, .slice aP X.pend.length cP, .bool Y.dead, .int .i64 Y.left, .int .i64 Y.fails, .int .i64 Y.ops]) r43 rfl rfl rfl (by simp [Value.oneCell']) k646 rfl) fun w654 e653 => ?_
  have m655 := So.rowE e653 m651 k646 (by decide)
  have m656 := So.rowE e653 m652 k646 (by decide)
  have k657 := So.hit e653 k646
  have k658 := So.old e653 (by omega) k647
  have k659 := So.old e653 (apartE k648 k646 (by decide)) k648
  have z660 := So.size e653
  have q661 := So.kept e653 q650 (fun h => absurd h (by omega))
  refine L.step (R.assignV (v := .int .i64 er) rfl) rfl ?_
  refine L.nil ?_
  refine C.seq ?_
  refine C.seq ?_
  refine C.region ?_
  refine L.step (R.moveV (v := .int .i64 er) rfl) rfl ?_
  rcases Classical.em (er = 0) with he | he
  ·
    rw [he] at her
    subst he
    refine L.step (R.neqF rfl rfl rfl) rfl ?_
    refine L.nil ?_
    refine C.condF rfl ?_
    refine C.skip ?_
    refine C.seq ?_
    refine C.region ?_
    refine L.step (R.fieldAddrV (o2 := 5) f43_5 rfl rfl) rfl ?_
    refine L.step (R.load1 (v := .int .i64 Y.ops) c3 rfl k657 rfl) rfl ?_
    refine L.step (R.add rfl rfl (by omega)) rfl ?_
    refine L.step (R.fieldAddrV (o2 := 5) f43_5 rfl rfl) rfl ?_
    refine L.doesE (R.store1 c3 rfl (v := .int .i64 (Y.ops + 1)) rfl rfl k657 rfl) fun w663 e662 => ?_
    have m664 := So.rowE e662 m655 k657 (by decide)
    have m665 := So.rowE e662 m656 k657 (by decide)
    have k666 := So.hit e662 k657
    have k667 := So.old e662 (by omega) k658
    have k668 := So.old e662 (apartE k659 k657 (by decide)) k659
    have z669 := So.size e662
    have q670 := So.kept e662 q661 (fun h => absurd h (by omega))
    refine L.nil ?_
    refine C.seq ?_
    refine C.drawE (fun W : World => W.heap[w.heap.size]? = some (blk ([.slice aS X.safe.length cS, .slice aP X.pend.length cP, .bool Y.dead, .int .i64 Y.left, .int .i64 Y.fails, .int .i64 (Y.ops + 1)]) 43)) (fun _ => true) mixed fun w671 e672 => ?_
    have k673 := Dr.old e672 k666
    have k674 := Dr.old e672 k667
    have k675 := Dr.old e672 k668
    have m676 := Dr.row e672 m664
    have m677 := Dr.row e672 m665
    have z678 := Dr.size e672
    have q679 := Dr.kept e672 q670
    refine AH.take 0 rfl (by kernel_rfl) (by kernel_rfl) (by kernel_rfl) (by kernel_rfl) (fun _ _ _ h => h) rfl trivial (fun _ hS => (R.loadA (cs := [.slice aS X.safe.length cS, .slice aP X.pend.length cP, .bool Y.dead, .int .i64 Y.left, .int .i64 Y.fails, .int .i64 (Y.ops + 1)]) r43 rfl hS rfl rfl)) k673 ?_
    refine AH.take 1 rfl (by kernel_rfl) (by kernel_rfl) (by kernel_rfl) (by kernel_rfl) (fun _ _ _ h => h) rfl trivial (fun _ hS => (R.loadA (cs := [.slice aS X.safe.length cS, .slice aP X.pend.length cP, .bool Y.dead, .int .i64 Y.left, .int .i64 Y.fails, .int .i64 (Y.ops + 1)]) r43 rfl hS rfl rfl)) k673 ?_
    refine AH.take 2 rfl (by kernel_rfl) (by kernel_rfl) (by kernel_rfl) (by kernel_rfl) (fun _ _ _ h => h) rfl trivial (fun _ hS => (R.moveV (v := .int .i64 i) rfl)) k673 ?_
    have hrng : 0 ≤ i ∧ i < X.safe.length := RD.asked_range her.symm
    obtain ⟨Z, hZ⟩ : ∃ Z : RD, Z = { Y with ops := Y.ops + 1 } := ⟨_, rfl⟩
    have hZr : RefAt w671 (.agg (List.toArray ([.slice aS X.safe.length cS, .slice aP X.pend.length cP, .bool Y.dead, .int .i64 Y.left, .int .i64 Y.fails, .int .i64 (Y.ops + 1)]))) Z G := by
      rw [hZ]
      exact ⟨hYok.ops _, _, _, rfl, by show Row _ 27 64 _ Y.safe.length (Y.safe.flatMap bcells) G; rw [hYs]; exact m676, by show Row _ 75 65 _ Y.pend.length (Y.pend.flatMap wcells) G; rw [hYp]; exact m677⟩
    have hZs : Z.safe = X.safe := by rw [hZ]; exact hYs
    have hZp : Z.pend = X.pend := by rw [hZ]; exact hYp
    have hZ64 : (Z.holds i).length = 64 := length_holdsN hZr.ok.blocks (fun p hp => (hZr.ok.pends p hp).2) (by rw [hZs]; omega) _
    refine AH.one 3 (by kernel_rfl) (AO.call rfl trivial (E.call2 hb43) rfl (holds_calls hZr (by rw [hZs]; exact hrng) (by rw [hZp]; exact hm)) ?_)
    rintro _ w680 ⟨rfl, hk681⟩
    simp only [bval]
    have k682 := Kept.old hk681 k673 (fun h => h)
    have k683 := Kept.old hk681 k674 (fun h => h)
    have k684 := Kept.old hk681 k675 (fun h => h)
    have z685 := (hk681).size
    have q686 := Kept.trans q679 hk681 (fun _ _ h => h.elim)
    have m687 := Row.kept m676 hk681 (fun _ _ h => h)
    have m688 := Row.kept m677 hk681 (fun _ _ h => h)
    refine ⟨fun _ => k682, ?_⟩
    refine AH.one 4 (by kernel_rfl) (AO.doesE rfl trivial (R.storeAll (cs := [.slice aS X.safe.length cS, .slice aP X.pend.length cP, .bool Y.dead, .int .i64 Y.left, .int .i64 Y.fails, .int .i64 (Y.ops + 1)]) r43 rfl rfl rfl (by simp [Value.oneCell']) k683 rfl) fun w690 e689 => ?_)
    have m691 := So.rowE e689 m687 k683 (by decide)
    have m692 := So.rowE e689 m688 k683 (by decide)
    have k693 := So.old e689 (by omega) k682
    have k694 := So.hit e689 k683
    have k695 := So.old e689 (apartE k684 k683 (by decide)) k684
    have z696 := So.size e689
    have q697 := So.kept e689 q686 (fun h => absurd h (by omega))
    refine ⟨fun _ => k693, ?_⟩
    refine AH.one 5 (by kernel_rfl) (AO.doesE rfl trivial (R.storeAll (cs := bcells (Z.holds i)) r27 rfl rfl (bcells64 hZ64) (one_bcells _) k695 (List.length_replicate)) fun w699 e698 => ?_)
    have m700 := So.rowLt e698 m691 hslt (by omega)
    have m701 := So.rowE e698 m692 k695 (by decide)
    have k702 := So.old e698 (apartE k693 k695 (by decide)) k693
    have k703 := So.old e698 (apartE k694 k695 (by decide)) k694
    have k704 := So.hit e698 k695
    have z705 := So.size e698
    have q706 := So.kept e698 q697 (fun h => absurd h (by omega))
    refine ⟨fun _ => k702, ?_⟩
    refine AH.take 6 rfl (by kernel_rfl) (by kernel_rfl) (by kernel_rfl) (by kernel_rfl) (fun _ _ _ h => h) rfl trivial (fun _ hS => (R.assignV (v := .int .i64 0) rfl)) k702 ?_
    refine AH.done (by kernel_rfl) ?_
    refine C.ret (?_ : RetOk _ _ _ _ _)
    refine RetOk.cctV (x := .int .i64 0) rfl rfl (loadVarA (cs := [.slice aS X.safe.length cS, .slice aP X.pend.length cP, .bool Y.dead, .int .i64 Y.left, .int .i64 Y.fails, .int .i64 (Y.ops + 1)]) r43 k703 rfl rfl) rfl (loadVarA (cs := bcells (Z.holds i)) r27 k704 (List.take_of_length_le (Nat.le_of_eq (bcells64 hZ64))) (bcells64 hZ64)) rfl ?_
    have hrd : X.read i = (Z, Z.holds i, 0) := by unfold RD.read; rw [← her, if_neg (by decide), ← hY, ← hZ]
    rw [hrd]
    exact ⟨_, rfl, ⟨hZr.ok, _, _, by rw [hZ], by rw [hZs]; exact m700, by rw [hZp]; exact m701⟩, q706⟩
  ·
    refine L.step (R.neqT rfl rfl he) rfl ?_
    refine L.nil ?_
    refine C.condT rfl ?_
    refine C.seq ?_
    refine C.region ?_
    refine L.step (R.loadA (cs := [.slice aS X.safe.length cS, .slice aP X.pend.length cP, .bool Y.dead, .int .i64 Y.left, .int .i64 Y.fails, .int .i64 Y.ops]) r43 rfl k657 rfl rfl) rfl ?_
    refine L.step build27 rfl ?_
    refine L.step (R.moveV (v := .int .i64 er) rfl) rfl ?_
    refine L.doesE (R.storeAll (cs := [.slice aS X.safe.length cS, .slice aP X.pend.length cP, .bool Y.dead, .int .i64 Y.left, .int .i64 Y.fails, .int .i64 Y.ops]) r43 rfl rfl rfl (by simp [Value.oneCell']) k658 rfl) fun w708 e707 => ?_
    have m709 := So.rowE e707 m655 k658 (by decide)
    have m710 := So.rowE e707 m656 k658 (by decide)
    have k711 := So.old e707 (by omega) k657
    have k712 := So.hit e707 k658
    have k713 := So.old e707 (apartE k659 k658 (by decide)) k659
    have z714 := So.size e707
    have q715 := So.kept e707 q661 (fun h => absurd h (by omega))
    refine L.doesE (R.storeAll (cs := bcells z64) r27 rfl rfl (bcells64 (b := z64) rfl) (one_bcells _) k713 (List.length_replicate)) fun w717 e716 => ?_
    have m718 := So.rowLt e716 m709 hslt (by omega)
    have m719 := So.rowE e716 m710 k713 (by decide)
    have k720 := So.old e716 (apartE k711 k713 (by decide)) k711
    have k721 := So.old e716 (apartE k712 k713 (by decide)) k712
    have k722 := So.hit e716 k713
    have z723 := So.size e716
    have q724 := So.kept e716 q715 (fun h => absurd h (by omega))
    refine L.step (R.assignV (v := .int .i64 er) rfl) rfl ?_
    refine L.nil ?_
    refine C.ret (?_ : RetOk _ _ _ _ _)
    refine RetOk.cctV (x := .int .i64 er) rfl rfl (loadVarA (cs := [.slice aS X.safe.length cS, .slice aP X.pend.length cP, .bool Y.dead, .int .i64 Y.left, .int .i64 Y.fails, .int .i64 Y.ops]) r43 k721 rfl rfl) rfl (loadVarA (cs := bcells z64) r27 k722 (List.take_of_length_le (Nat.le_of_eq (bcells64 (b := z64) rfl))) (bcells64 (b := z64) rfl)) rfl ?_
    have hrd : X.read i = (Y, z64, er) := by unfold RD.read; rw [← her, if_pos he, ← hY]
    rw [hrd]
    exact ⟨_, rfl, ⟨hYok, ⟨_, _, rfl, by show Row _ 27 64 _ Y.safe.length (Y.safe.flatMap bcells) G; rw [hYs]; exact m718, by show Row _ 75 65 _ Y.pend.length (Y.pend.flatMap wcells) G; rw [hYp]; exact m719⟩⟩, q724⟩
end Go.Proofs.Ytpblppilknkdoaa
