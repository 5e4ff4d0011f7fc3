/- The reference's disk: asked, done, Arm, Fail. -/
import Derived.Test.YtpblppilknkdoaaRef
namespace Go.Proofs.Ytpblppilknkdoaa
open Go Go.Eng Go.Proofs
attribute [local irreducible] Go.Eng.C Go.Eng.L Go.Eng.Ret Go.Eng.Run Go.Eng.Does Go.Eng.Enters Go.Eng.AH Go.Eng.AO Go.Eng.RetOk
set_option maxHeartbeats 1000000 in
theorem asked_calls {w : World} {X : RD} {aS aP : Option Addr} {cS cP : Nat} {i : Int} (hok : X.Ok) :
    Ret Try.prog 42 #[.agg (rcells (.slice aS X.safe.length cS) (.slice aP X.pend.length cP) X).toArray, .int .i64 i] w fun v w' => v = .tuple #[.agg (rcells (.slice aS X.safe.length cS) (.slice aP X.pend.length cP) (X.asked i).1).toArray, .int .i64 (X.asked i).2] ∧ Kept (fun _ => False) w w' := by
  have hq := Kept.refl (fun _ => False) w
  have hf1 := hok.fails
  refine Ret.intro [.agg (List.toArray ([.slice aS X.safe.length cS, .slice aP X.pend.length cP, .bool X.dead, .int .i64 X.left, .int .i64 X.fails, .int .i64 X.ops])), .int .i64 i] Try.func42 rfl rfl ?_
  refine C.seq ?_
  refine C.region ?_
  refine L.stepE (R.boxA (cs := [.slice aS X.safe.length cS, .slice aP X.pend.length cP, .bool X.dead, .int .i64 X.left, .int .i64 X.fails, .int .i64 X.ops]) rfl) rfl fun w502 e501 => ?_
  have k504 := Al.new e501
  have z505 := Al.size e501
  have q506 := Al.kept e501 hq
  refine L.stepE (R.alloc z43) rfl fun w508 e507 => ?_
  have k510 := Al.new e507
  have k511 := Al.old e507 k504
  have z512 := Al.size e507
  have q513 := Al.kept e507 q506
  refine L.step (R.assignV (v := .int .i64 0) rfl) rfl ?_
  refine L.nil ?_
  refine C.seq ?_
  refine C.block ?_
  refine C.seq ?_
  refine C.region ?_
  refine L.step (R.fieldAddrV (o2 := 2) f43_2 rfl rfl) rfl ?_
  refine L.step (R.load1 (v := .bool X.dead) c4 rfl k511 rfl) rfl ?_
  refine L.step (R.assignV (v := .bool X.dead) rfl) rfl ?_
  refine L.nil ?_
  refine C.cond rfl (fun hc514 => ?_) (fun hc514 => ?_)
  ·
    refine C.seq ?_
    refine C.region ?_
    refine L.step (R.loadA (cs := [.slice aS X.safe.length cS, .slice aP X.pend.length cP, .bool X.dead, .int .i64 X.left, .int .i64 X.fails, .int .i64 X.ops]) r43 rfl k511 rfl rfl) rfl ?_
    refine L.doesE (R.storeAll (cs := [.slice aS X.safe.length cS, .slice aP X.pend.length cP, .bool X.dead, .int .i64 X.left, .int .i64 X.fails, .int .i64 X.ops]) r43 rfl rfl rfl (by simp [Value.oneCell']) k510 rfl) fun w516 e515 => ?_
    have k517 := So.old e515 (by omega) k511
    have k518 := So.hit e515 k510
    have z519 := So.size e515
    have q520 := So.kept e515 q513 (fun h => absurd h (by omega))
    refine L.step (R.assignV (v := .int .i64 9) rfl) rfl ?_
    refine L.nil ?_
    refine C.ret (?_ : RetOk _ _ _ _ _)
    refine RetOk.ctV (u := .int .i64 9) rfl rfl (loadVarA (cs := [.slice aS X.safe.length cS, .slice aP X.pend.length cP, .bool X.dead, .int .i64 X.left, .int .i64 X.fails, .int .i64 X.ops]) r43 k518 rfl rfl) rfl ?_
    exact ⟨by unfold RD.asked; (repeat' split) <;> first | rfl | (exfalso; omega) | (exfalso; simp_all; done) | (exfalso; simp_all; omega), q520⟩
  ·
    refine C.seq ?_
    refine C.region ?_
    refine L.step (R.moveV (v := .int .i64 i) rfl) rfl ?_
    rcases Classical.em (i < 0) with ht521 | ht521
    ·
      refine L.step (R.lssT rfl rfl (ht521)) rfl ?_
      refine L.step (R.moveV (v := .bool true) rfl) rfl ?_
      refine L.no rfl rfl rfl (.inl rfl) ?_
      refine L.no rfl rfl rfl (.inl rfl) ?_
      refine L.no rfl rfl rfl (.inl rfl) ?_
      refine L.no rfl rfl rfl (.inl rfl) ?_
      refine L.no rfl rfl rfl (.inl rfl) ?_
      refine L.step (R.pickTV (v := .bool true) rfl rfl) rfl ?_
      refine L.step (R.assignV (v := .bool true) rfl) rfl ?_
      refine L.nil ?_
      refine C.condT rfl ?_
      refine C.seq ?_
      refine C.region ?_
      refine L.step (R.loadA (cs := [.slice aS X.safe.length cS, .slice aP X.pend.length cP, .bool X.dead, .int .i64 X.left, .int .i64 X.fails, .int .i64 X.ops]) r43 rfl k511 rfl rfl) rfl ?_
      refine L.doesE (R.storeAll (cs := [.slice aS X.safe.length cS, .slice aP X.pend.length cP, .bool X.dead, .int .i64 X.left, .int .i64 X.fails, .int .i64 X.ops]) r43 rfl rfl rfl (by simp [Value.oneCell']) k510 rfl) fun w523 e522 => ?_
      have k524 := So.old e522 (by omega) k511
      have k525 := So.hit e522 k510
      have z526 := So.size e522
      have q527 := So.kept e522 q513 (fun h => absurd h (by omega))
      refine L.step (R.assignV (v := .int .i64 2) rfl) rfl ?_
      refine L.nil ?_
      refine C.ret (?_ : RetOk _ _ _ _ _)
      refine RetOk.ctV (u := .int .i64 2) rfl rfl (loadVarA (cs := [.slice aS X.safe.length cS, .slice aP X.pend.length cP, .bool X.dead, .int .i64 X.left, .int .i64 X.fails, .int .i64 X.ops]) r43 k525 rfl rfl) rfl ?_
      exact ⟨by unfold RD.asked; (repeat' split) <;> first | rfl | (exfalso; omega) | (exfalso; simp_all; done) | (exfalso; simp_all; omega), q527⟩
    ·
      refine L.step (R.lssF rfl rfl (Int.not_lt.1 ht521)) rfl ?_
      refine L.step (R.moveV (v := .bool false) rfl) rfl ?_
      refine L.yes rfl rfl rfl ?_
      refine L.step (R.moveV (v := .int .i64 i) rfl) rfl ?_
      refine L.yes rfl rfl rfl ?_
      refine L.step (R.fieldAddrV (o2 := 0) f43_0 rfl rfl) rfl ?_
      refine L.yes rfl rfl rfl ?_
      refine L.step (R.load1 (v := .slice aS X.safe.length cS) c35 rfl k511 rfl) rfl ?_
      refine L.yes rfl rfl rfl ?_
      refine L.step (R.lenV (v := .int .i64 ((X.safe.length : Nat) : Int)) Try.underlying35 rfl rfl) rfl ?_
      refine L.yes rfl rfl rfl ?_
      rcases Classical.em (((X.safe.length : Nat) : Int) ≤ i) with ht528 | ht528
      ·
        refine L.step (R.geqT rfl rfl (ht528)) rfl ?_
        refine L.step (R.pickFV (v := .bool true) rfl rfl) rfl ?_
        refine L.step (R.assignV (v := .bool true) rfl) rfl ?_
        refine L.nil ?_
        refine C.condT rfl ?_
        refine C.seq ?_
        refine C.region ?_
        refine L.step (R.loadA (cs := [.slice aS X.safe.length cS, .slice aP X.pend.length cP, .bool X.dead, .int .i64 X.left, .int .i64 X.fails, .int .i64 X.ops]) r43 rfl k511 rfl rfl) rfl ?_
        refine L.doesE (R.storeAll (cs := [.slice aS X.safe.length cS, .slice aP X.pend.length cP, .bool X.dead, .int .i64 X.left, .int .i64 X.fails, .int .i64 X.ops]) r43 rfl rfl rfl (by simp [Value.oneCell']) k510 rfl) fun w530 e529 => ?_
        have k531 := So.old e529 (by omega) k511
        have k532 := So.hit e529 k510
        have z533 := So.size e529
        have q534 := So.kept e529 q513 (fun h => absurd h (by omega))
        refine L.step (R.assignV (v := .int .i64 2) rfl) rfl ?_
        refine L.nil ?_
        refine C.ret (?_ : RetOk _ _ _ _ _)
        refine RetOk.ctV (u := .int .i64 2) rfl rfl (loadVarA (cs := [.slice aS X.safe.length cS, .slice aP X.pend.length cP, .bool X.dead, .int .i64 X.left, .int .i64 X.fails, .int .i64 X.ops]) r43 k532 rfl rfl) rfl ?_
        exact ⟨by unfold RD.asked; (repeat' split) <;> first | rfl | (exfalso; omega) | (exfalso; simp_all; done) | (exfalso; simp_all; omega), q534⟩
      ·
        refine L.step (R.geqF rfl rfl (Int.not_le.1 ht528)) rfl ?_
        refine L.step (R.pickFV (v := .bool false) rfl rfl) rfl ?_
        refine L.step (R.assignV (v := .bool false) rfl) rfl ?_
        refine L.nil ?_
        refine C.condF rfl ?_
        refine C.seq ?_
        refine C.region ?_
        refine L.step (R.fieldAddrV (o2 := 4) f43_4 rfl rfl) rfl ?_
        refine L.step (R.load1 (v := .int .i64 X.fails) c3 rfl k511 rfl) rfl ?_
        rcases Classical.em (X.fails = 0) with ht535 | ht535
        ·
          refine L.step (R.eqlT rfl rfl (ht535)) rfl ?_
          refine L.step (R.assignV (v := .bool true) rfl) rfl ?_
          refine L.nil ?_
          refine C.condT rfl ?_
          refine C.seq ?_
          refine C.region ?_
          refine L.step (R.fieldAddrV (o2 := 4) f43_4 rfl rfl) rfl ?_
          refine L.doesE (R.store1 c3 rfl (v := .int .i64 (-1)) rfl rfl k511 rfl) fun w537 e536 => ?_
          have k538 := So.hit e536 k511
          have k539 := So.old e536 (by omega) k510
          have z540 := So.size e536
          have q541 := So.kept e536 q513 (fun h => absurd h (by omega))
          refine L.nil ?_
          refine C.seq ?_
          refine C.region ?_
          refine L.step (R.loadA (cs := [.slice aS X.safe.length cS, .slice aP X.pend.length cP, .bool X.dead, .int .i64 X.left, .int .i64 (-1), .int .i64 X.ops]) r43 rfl k538 rfl rfl) rfl ?_
          refine L.doesE (R.storeAll (cs := [.slice aS X.safe.length cS, .slice aP X.pend.length cP, .bool X.dead, .int .i64 X.left, .int .i64 (-1), .int .i64 X.ops]) r43 rfl rfl rfl (by simp [Value.oneCell']) k539 rfl) fun w543 e542 => ?_
          have k544 := So.old e542 (by omega) k538
          have k545 := So.hit e542 k539
          have z546 := So.size e542
          have q547 := So.kept e542 q541 (fun h => absurd h (by omega))
          refine L.step (R.assignV (v := .int .i64 8) rfl) rfl ?_
          refine L.nil ?_
          refine C.ret (?_ : RetOk _ _ _ _ _)
          refine RetOk.ctV (u := .int .i64 8) rfl rfl (loadVarA (cs := [.slice aS X.safe.length cS, .slice aP X.pend.length cP, .bool X.dead, .int .i64 X.left, .int .i64 (-1), .int .i64 X.ops]) r43 k545 rfl rfl) rfl ?_
          exact ⟨by unfold RD.asked; (repeat' split) <;> first | rfl | (exfalso; omega) | (exfalso; simp_all; done) | (exfalso; simp_all; omega), q547⟩
        ·
          refine L.step (R.eqlF rfl rfl (ht535)) rfl ?_
          refine L.step (R.assignV (v := .bool false) rfl) rfl ?_
          refine L.nil ?_
          refine C.condF rfl ?_
          refine C.seq ?_
          refine C.region ?_
          refine L.step (R.fieldAddrV (o2 := 4) f43_4 rfl rfl) rfl ?_
          refine L.step (R.load1 (v := .int .i64 X.fails) c3 rfl k511 rfl) rfl ?_
          rcases Classical.em (0 < X.fails) with ht548 | ht548
          ·
            refine L.step (R.gtrT rfl rfl (ht548)) rfl ?_
            refine L.step (R.assignV (v := .bool true) rfl) rfl ?_
            refine L.nil ?_
            refine C.condT rfl ?_
            refine C.region ?_
            refine L.step (R.fieldAddrV (o2 := 4) f43_4 rfl rfl) rfl ?_
            refine L.step (R.load1 (v := .int .i64 X.fails) c3 rfl k511 rfl) rfl ?_
            refine L.step (R.sub rfl rfl (by omega)) rfl ?_
            refine L.step (R.fieldAddrV (o2 := 4) f43_4 rfl rfl) rfl ?_
            refine L.doesE (R.store1 c3 rfl (v := .int .i64 (X.fails - 1)) rfl rfl k511 rfl) fun w550 e549 => ?_
            have k551 := So.hit e549 k511
            have k552 := So.old e549 (by omega) k510
            have z553 := So.size e549
            have q554 := So.kept e549 q513 (fun h => absurd h (by omega))
            refine L.nil ?_
            refine C.seq ?_
            refine C.region ?_
            refine L.step (R.loadA (cs := [.slice aS X.safe.length cS, .slice aP X.pend.length cP, .bool X.dead, .int .i64 X.left, .int .i64 (X.fails - 1), .int .i64 X.ops]) r43 rfl k551 rfl rfl) rfl ?_
            refine L.doesE (R.storeAll (cs := [.slice aS X.safe.length cS, .slice aP X.pend.length cP, .bool X.dead, .int .i64 X.left, .int .i64 (X.fails - 1), .int .i64 X.ops]) r43 rfl rfl rfl (by simp [Value.oneCell']) k552 rfl) fun w556 e555 => ?_
            have k557 := So.old e555 (by omega) k551
            have k558 := So.hit e555 k552
            have z559 := So.size e555
            have q560 := So.kept e555 q554 (fun h => absurd h (by omega))
            refine L.step (R.assignV (v := .int .i64 0) rfl) rfl ?_
            refine L.nil ?_
            refine C.ret (?_ : RetOk _ _ _ _ _)
            refine RetOk.ctV (u := .int .i64 0) rfl rfl (loadVarA (cs := [.slice aS X.safe.length cS, .slice aP X.pend.length cP, .bool X.dead, .int .i64 X.left, .int .i64 (X.fails - 1), .int .i64 X.ops]) r43 k558 rfl rfl) rfl ?_
            exact ⟨by unfold RD.asked; (repeat' split) <;> first | rfl | (exfalso; omega) | (exfalso; simp_all; done) | (exfalso; simp_all; omega), q560⟩
          ·
            refine L.step (R.gtrF rfl rfl (Int.not_lt.1 ht548)) rfl ?_
            refine L.step (R.assignV (v := .bool false) rfl) rfl ?_
            refine L.nil ?_
            refine C.condF rfl ?_
            refine C.skip ?_
            refine C.seq ?_
            refine C.region ?_
            refine L.step (R.loadA (cs := [.slice aS X.safe.length cS, .slice aP X.pend.length cP, .bool X.dead, .int .i64 X.left, .int .i64 X.fails, .int .i64 X.ops]) r43 rfl k511 rfl rfl) rfl ?_
            refine L.doesE (R.storeAll (cs := [.slice aS X.safe.length cS, .slice aP X.pend.length cP, .bool X.dead, .int .i64 X.left, .int .i64 X.fails, .int .i64 X.ops]) r43 rfl rfl rfl (by simp [Value.oneCell']) k510 rfl) fun w562 e561 => ?_
            have k563 := So.old e561 (by omega) k511
            have k564 := So.hit e561 k510
            have z565 := So.size e561
            have q566 := So.kept e561 q513 (fun h => absurd h (by omega))
            refine L.step (R.assignV (v := .int .i64 0) rfl) rfl ?_
            refine L.nil ?_
            refine C.ret (?_ : RetOk _ _ _ _ _)
            refine RetOk.ctV (u := .int .i64 0) rfl rfl (loadVarA (cs := [.slice aS X.safe.length cS, .slice aP X.pend.length cP, .bool X.dead, .int .i64 X.left, .int .i64 X.fails, .int .i64 X.ops]) r43 k564 rfl rfl) rfl ?_
            exact ⟨by unfold RD.asked; (repeat' split) <;> first | rfl | (exfalso; omega) | (exfalso; simp_all; done) | (exfalso; simp_all; omega), q566⟩
set_option maxHeartbeats 1000000 in
theorem done_calls {w : World} {X : RD} {aS aP : Option Addr} {cS cP : Nat} (hok : X.Ok) (ho : -1000000 ≤ X.ops ∧ X.ops ≤ 1000000) :
    Ret Try.prog 53 #[.agg (rcells (.slice aS X.safe.length cS) (.slice aP X.pend.length cP) X).toArray] w fun v w' => v = .tuple #[.agg (rcells (.slice aS X.safe.length cS) (.slice aP X.pend.length cP) X.done.1).toArray, .bool X.done.2] ∧ Kept (fun _ => False) w w' := by
  have hq := Kept.refl (fun _ => False) w
  have hf1 := hok.left
  refine Ret.intro [.agg (List.toArray ([.slice aS X.safe.length cS, .slice aP X.pend.length cP, .bool X.dead, .int .i64 X.left, .int .i64 X.fails, .int .i64 X.ops]))] Try.func53 rfl rfl ?_
  refine C.seq ?_
  refine C.region ?_
  refine L.stepE (R.boxA (cs := [.slice aS X.safe.length cS, .slice aP X.pend.length cP, .bool X.dead, .int .i64 X.left, .int .i64 X.fails, .int .i64 X.ops]) rfl) rfl fun w568 e567 => ?_
  have k570 := Al.new e567
  have z571 := Al.size e567
  have q572 := Al.kept e567 hq
  refine L.stepE (R.alloc z43) rfl fun w574 e573 => ?_
  have k576 := Al.new e573
  have k577 := Al.old e573 k570
  have z578 := Al.size e573
  have q579 := Al.kept e573 q572
  refine L.step (R.assignV (v := .bool false) rfl) rfl ?_
  refine L.nil ?_
  refine C.seq ?_
  refine C.seq ?_
  refine C.region ?_
  refine L.step (R.fieldAddrV (o2 := 3) f43_3 rfl rfl) rfl ?_
  refine L.step (R.load1 (v := .int .i64 X.left) c3 rfl k577 rfl) rfl ?_
  rcases Classical.em (X.left = 0) with ht580 | ht580
  ·
    refine L.step (R.eqlT rfl rfl (ht580)) rfl ?_
    refine L.nil ?_
    refine C.condT rfl ?_
    refine C.seq ?_
    refine C.region ?_
    refine L.step (R.fieldAddrV (o2 := 2) f43_2 rfl rfl) rfl ?_
    refine L.doesE (R.store1 c4 rfl (v := .bool true) rfl rfl k577 rfl) fun w582 e581 => ?_
    have k583 := So.hit e581 k577
    have k584 := So.old e581 (by omega) k576
    have z585 := So.size e581
    have q586 := So.kept e581 q579 (fun h => absurd h (by omega))
    refine L.nil ?_
    refine C.seq ?_
    refine C.region ?_
    refine L.step (R.loadA (cs := [.slice aS X.safe.length cS, .slice aP X.pend.length cP, .bool true, .int .i64 X.left, .int .i64 X.fails, .int .i64 X.ops]) r43 rfl k583 rfl rfl) rfl ?_
    refine L.doesE (R.storeAll (cs := [.slice aS X.safe.length cS, .slice aP X.pend.length cP, .bool true, .int .i64 X.left, .int .i64 X.fails, .int .i64 X.ops]) r43 rfl rfl rfl (by simp [Value.oneCell']) k584 rfl) fun w588 e587 => ?_
    have k589 := So.old e587 (by omega) k583
    have k590 := So.hit e587 k584
    have z591 := So.size e587
    have q592 := So.kept e587 q586 (fun h => absurd h (by omega))
    refine L.step (R.assignV (v := .bool false) rfl) rfl ?_
    refine L.nil ?_
    refine C.ret (?_ : RetOk _ _ _ _ _)
    refine RetOk.ctV (u := .bool false) rfl rfl (loadVarA (cs := [.slice aS X.safe.length cS, .slice aP X.pend.length cP, .bool true, .int .i64 X.left, .int .i64 X.fails, .int .i64 X.ops]) r43 k590 rfl rfl) rfl ?_
    exact ⟨by unfold RD.done; (repeat' split) <;> first | rfl | (exfalso; omega) | (exfalso; simp_all; done) | (exfalso; simp_all; omega), q592⟩
  ·
    refine L.step (R.eqlF rfl rfl (ht580)) rfl ?_
    refine L.nil ?_
    refine C.condF rfl ?_
    refine C.skip ?_
    refine C.seq ?_
    refine C.seq ?_
    refine C.region ?_
    refine L.step (R.fieldAddrV (o2 := 3) f43_3 rfl rfl) rfl ?_
    refine L.step (R.load1 (v := .int .i64 X.left) c3 rfl k577 rfl) rfl ?_
    rcases Classical.em (0 < X.left) with ht593 | ht593
    ·
      refine L.step (R.gtrT rfl rfl (ht593)) rfl ?_
      refine L.nil ?_
      refine C.condT rfl ?_
      refine C.region ?_
      refine L.step (R.fieldAddrV (o2 := 3) f43_3 rfl rfl) rfl ?_
      refine L.step (R.load1 (v := .int .i64 X.left) c3 rfl k577 rfl) rfl ?_
      refine L.step (R.sub rfl rfl (by omega)) rfl ?_
      refine L.step (R.fieldAddrV (o2 := 3) f43_3 rfl rfl) rfl ?_
      refine L.doesE (R.store1 c3 rfl (v := .int .i64 (X.left - 1)) rfl rfl k577 rfl) fun w595 e594 => ?_
      have k596 := So.hit e594 k577
      have k597 := So.old e594 (by omega) k576
      have z598 := So.size e594
      have q599 := So.kept e594 q579 (fun h => absurd h (by omega))
      refine L.nil ?_
      refine C.seq ?_
      refine C.region ?_
      refine L.step (R.fieldAddrV (o2 := 5) f43_5 rfl rfl) rfl ?_
      refine L.step (R.load1 (v := .int .i64 X.ops) c3 rfl k596 rfl) rfl ?_
      refine L.step (R.add rfl rfl (by omega)) rfl ?_
      refine L.step (R.fieldAddrV (o2 := 5) f43_5 rfl rfl) rfl ?_
      refine L.doesE (R.store1 c3 rfl (v := .int .i64 (X.ops + 1)) rfl rfl k596 rfl) fun w601 e600 => ?_
      have k602 := So.hit e600 k596
      have k603 := So.old e600 (by omega) k597
      have z604 := So.size e600
      have q605 := So.kept e600 q599 (fun h => absurd h (by omega))
      refine L.nil ?_
      refine C.seq ?_
      refine C.region ?_
      refine L.step (R.loadA (cs := [.slice aS X.safe.length cS, .slice aP X.pend.length cP, .bool X.dead, .int .i64 (X.left - 1), .int .i64 X.fails, .int .i64 (X.ops + 1)]) r43 rfl k602 rfl rfl) rfl ?_
      refine L.doesE (R.storeAll (cs := [.slice aS X.safe.length cS, .slice aP X.pend.length cP, .bool X.dead, .int .i64 (X.left - 1), .int .i64 X.fails, .int .i64 (X.ops + 1)]) r43 rfl rfl rfl (by simp [Value.oneCell']) k603 rfl) fun w607 e606 => ?_
      have k608 := So.old e606 (by omega) k602
      have k609 := So.hit e606 k603
      have z610 := So.size e606
      have q611 := So.kept e606 q605 (fun h => absurd h (by omega))
      refine L.step (R.assignV (v := .bool true) rfl) rfl ?_
      refine L.nil ?_
      refine C.ret (?_ : RetOk _ _ _ _ _)
      refine RetOk.ctV (u := .bool true) rfl rfl (loadVarA (cs := [.slice aS X.safe.length cS, .slice aP X.pend.length cP, .bool X.dead, .int .i64 (X.left - 1), .int .i64 X.fails, .int .i64 (X.ops + 1)]) r43 k609 rfl rfl) rfl ?_
      exact ⟨by unfold RD.done; (repeat' split) <;> first | rfl | (exfalso; omega) | (exfalso; simp_all; done) | (exfalso; simp_all; omega), q611⟩
    ·
      refine L.step (R.gtrF rfl rfl (Int.not_lt.1 ht593)) rfl ?_
      refine L.nil ?_
      refine C.condF rfl ?_
      refine C.skip ?_
      refine C.seq ?_
      refine C.region ?_
      refine L.step (R.fieldAddrV (o2 := 5) f43_5 rfl rfl) rfl ?_
      refine L.step (R.load1 (v := .int .i64 X.ops) c3 rfl k577 rfl) rfl ?_
      refine L.step (R.add rfl rfl (by omega)) rfl ?_
      refine L.step (R.fieldAddrV (o2 := 5) f43_5 rfl rfl) rfl ?_
      refine L.doesE (R.store1 c3 rfl (v := .int .i64 (X.ops + 1)) rfl rfl k577 rfl) fun w613 e612 => ?_
      have k614 := So.hit e612 k577
      have k615 := So.old e612 (by omega) k576
      have z616 := So.size e612
      have q617 := So.kept e612 q579 (fun h => absurd h (by omega))
      refine L.nil ?_
      refine C.seq ?_
      refine C.region ?_
      refine L.step (R.loadA (cs := [.slice aS X.safe.length cS, .slice aP X.pend.length cP, .bool X.dead, .int .i64 X.left, .int .i64 X.fails, .int .i64 (X.ops + 1)]) r43 rfl k614 rfl rfl) rfl ?_
      refine L.doesE (R.storeAll (cs := [.slice aS X.safe.length cS, .slice aP X.pend.length cP, .bool X.dead, .int .i64 X.left, .int .i64 X.fails, .int .i64 (X.ops + 1)]) r43 rfl rfl rfl (by simp [Value.oneCell']) k615 rfl) fun w619 e618 => ?_
      have k620 := So.old e618 (by omega) k614
      have k621 := So.hit e618 k615
      have z622 := So.size e618
      have q623 := So.kept e618 q617 (fun h => absurd h (by omega))
      refine L.step (R.assignV (v := .bool true) rfl) rfl ?_
      refine L.nil ?_
      refine C.ret (?_ : RetOk _ _ _ _ _)
      refine RetOk.ctV (u := .bool true) rfl rfl (loadVarA (cs := [.slice aS X.safe.length cS, .slice aP X.pend.length cP, .bool X.dead, .int .i64 X.left, .int .i64 X.fails, .int .i64 (X.ops + 1)]) r43 k621 rfl rfl) rfl ?_
      exact ⟨by unfold RD.done; (repeat' split) <;> first | rfl | (exfalso; omega) | (exfalso; simp_all; done) | (exfalso; simp_all; omega), q623⟩
set_option maxHeartbeats 1000000 in
theorem rarm_calls {w : World} {X : RD} {aS aP : Option Addr} {cS cP : Nat} {i : Int} :
    Ret Try.prog 37 #[.agg (rcells (.slice aS X.safe.length cS) (.slice aP X.pend.length cP) X).toArray, .int .i64 i] w fun v w' => v = .tuple #[.agg (rcells (.slice aS X.safe.length cS) (.slice aP X.pend.length cP) (X.arm i).1).toArray, .int .i64 (X.arm i).2] ∧ Kept (fun _ => False) w w' := by
  have hq := Kept.refl (fun _ => False) w
  refine Ret.intro [.agg (List.toArray ([.slice aS X.safe.length cS, .slice aP X.pend.length cP, .bool X.dead, .int .i64 X.left, .int .i64 X.fails, .int .i64 X.ops])), .int .i64 i] Try.func37 rfl rfl ?_
  refine C.seq ?_
  refine C.region ?_
  refine L.stepE (R.boxA (cs := [.slice aS X.safe.length cS, .slice aP X.pend.length cP, .bool X.dead, .int .i64 X.left, .int .i64 X.fails, .int .i64 X.ops]) rfl) rfl fun w625 e624 => ?_
  have k627 := Al.new e624
  have z628 := Al.size e624
  have q629 := Al.kept e624 hq
  refine L.stepE (R.alloc z43) rfl fun w631 e630 => ?_
  have k633 := Al.new e630
  have k634 := Al.old e630 k627
  have z635 := Al.size e630
  have q636 := Al.kept e630 q629
  refine L.step (R.assignV (v := .int .i64 0) rfl) rfl ?_
  refine L.nil ?_
  refine C.seq ?_
  refine C.seq ?_
  refine C.region ?_
  refine L.step (R.fieldAddrV (o2 := 2) f43_2 rfl rfl) rfl ?_
  refine L.step (R.load1 (v := .bool X.dead) c4 rfl k634 rfl) rfl ?_
  refine L.nil ?_
  refine C.cond rfl (fun hc637 => ?_) (fun hc637 => ?_)
  ·
    refine C.seq ?_
    refine C.region ?_
    refine L.step (R.loadA (cs := [.slice aS X.safe.length cS, .slice aP X.pend.length cP, .bool X.dead, .int .i64 X.left, .int .i64 X.fails, .int .i64 X.ops]) r43 rfl k634 rfl rfl) rfl ?_
    refine L.doesE (R.storeAll (cs := [.slice aS X.safe.length cS, .slice aP X.pend.length cP, .bool X.dead, .int .i64 X.left, .int .i64 X.fails, .int .i64 X.ops]) r43 rfl rfl rfl (by simp [Value.oneCell']) k633 rfl) fun w639 e638 => ?_
    have k640 := So.old e638 (by omega) k634
    have k641 := So.hit e638 k633
    have z642 := So.size e638
    have q643 := So.kept e638 q636 (fun h => absurd h (by omega))
    refine L.step (R.assignV (v := .int .i64 9) rfl) rfl ?_
    refine L.nil ?_
    refine C.ret (?_ : RetOk _ _ _ _ _)
    refine RetOk.ctV (u := .int .i64 9) rfl rfl (loadVarA (cs := [.slice aS X.safe.length cS, .slice aP X.pend.length cP, .bool X.dead, .int .i64 X.left, .int .i64 X.fails, .int .i64 X.ops]) r43 k641 rfl rfl) rfl ?_
    exact ⟨by unfold RD.arm; (repeat' split) <;> first | rfl | (exfalso; omega) | (exfalso; simp_all; done) | (exfalso; simp_all; omega), q643⟩
  ·
    refine C.skip ?_
    refine C.seq ?_
    refine C.region ?_
    refine L.step (R.moveV (v := .int .i64 i) rfl) rfl ?_
    refine L.step (R.max2V (v := .int .i64 (max1 i)) rfl rfl rfl) rfl ?_
    refine L.step (R.fieldAddrV (o2 := 3) f43_3 rfl rfl) rfl ?_
    refine L.doesE (R.store1 c3 rfl (v := .int .i64 (max1 i)) rfl rfl k634 rfl) fun w645 e644 => ?_
    have k646 := So.hit e644 k634
    have k647 := So.old e644 (by omega) k633
    have z648 := So.size e644
    have q649 := So.kept e644 q636 (fun h => absurd h (by omega))
    refine L.nil ?_
    refine C.seq ?_
    refine C.region ?_
    refine L.step (R.loadA (cs := [.slice aS X.safe.length cS, .slice aP X.pend.length cP, .bool X.dead, .int .i64 (max1 i), .int .i64 X.fails, .int .i64 X.ops]) r43 rfl k646 rfl rfl) rfl ?_
    refine L.doesE (R.storeAll (cs := [.slice aS X.safe.length cS, .slice aP X.pend.length cP, .bool X.dead, .int .i64 (max1 i), .int .i64 X.fails, .int .i64 X.ops]) r43 rfl rfl rfl (by simp [Value.oneCell']) k647 rfl) fun w651 e650 => ?_
    have k652 := So.old e650 (by omega) k646
    have k653 := So.hit e650 k647
    have z654 := So.size e650
    have q655 := So.kept e650 q649 (fun h => absurd h (by omega))
    refine L.step (R.assignV (v := .int .i64 0) rfl) rfl ?_
    refine L.nil ?_
    refine C.ret (?_ : RetOk _ _ _ _ _)
    refine RetOk.ctV (u := .int .i64 0) rfl rfl (loadVarA (cs := [.slice aS X.safe.length cS, .slice aP X.pend.length cP, .bool X.dead, .int .i64 (max1 i), .int .i64 X.fails, .int .i64 X.ops]) r43 k653 rfl rfl) rfl ?_
    exact ⟨by unfold RD.arm; (repeat' split) <;> first | rfl | (exfalso; omega) | (exfalso; simp_all; done) | (exfalso; simp_all; omega), q655⟩
set_option maxHeartbeats 1000000 in
theorem rfail_calls {w : World} {X : RD} {aS aP : Option Addr} {cS cP : Nat} {i : Int} :
    Ret Try.prog 38 #[.agg (rcells (.slice aS X.safe.length cS) (.slice aP X.pend.length cP) X).toArray, .int .i64 i] w fun v w' => v = .tuple #[.agg (rcells (.slice aS X.safe.length cS) (.slice aP X.pend.length cP) (X.fail i).1).toArray, .int .i64 (X.fail i).2] ∧ Kept (fun _ => False) w w' := by
  have hq := Kept.refl (fun _ => False) w
  refine Ret.intro [.agg (List.toArray ([.slice aS X.safe.length cS, .slice aP X.pend.length cP, .bool X.dead, .int .i64 X.left, .int .i64 X.fails, .int .i64 X.ops])), .int .i64 i] Try.func38 rfl rfl ?_
  refine C.seq ?_
  refine C.region ?_
  refine L.stepE (R.boxA (cs := [.slice aS X.safe.length cS, .slice aP X.pend.length cP, .bool X.dead, .int .i64 X.left, .int .i64 X.fails, .int .i64 X.ops]) rfl) rfl fun w657 e656 => ?_
  have k659 := Al.new e656
  have z660 := Al.size e656
  have q661 := Al.kept e656 hq
  refine L.stepE (R.alloc z43) rfl fun w663 e662 => ?_
  have k665 := Al.new e662
  have k666 := Al.old e662 k659
  have z667 := Al.size e662
  have q668 := Al.kept e662 q661
  refine L.step (R.assignV (v := .int .i64 0) rfl) rfl ?_
  refine L.nil ?_
  refine C.seq ?_
  refine C.seq ?_
  refine C.region ?_
  refine L.step (R.fieldAddrV (o2 := 2) f43_2 rfl rfl) rfl ?_
  refine L.step (R.load1 (v := .bool X.dead) c4 rfl k666 rfl) rfl ?_
  refine L.nil ?_
  refine C.cond rfl (fun hc669 => ?_) (fun hc669 => ?_)
  ·
    refine C.seq ?_
    refine C.region ?_
    refine L.step (R.loadA (cs := [.slice aS X.safe.length cS, .slice aP X.pend.length cP, .bool X.dead, .int .i64 X.left, .int .i64 X.fails, .int .i64 X.ops]) r43 rfl k666 rfl rfl) rfl ?_
    refine L.doesE (R.storeAll (cs := [.slice aS X.safe.length cS, .slice aP X.pend.length cP, .bool X.dead, .int .i64 X.left, .int .i64 X.fails, .int .i64 X.ops]) r43 rfl rfl rfl (by simp [Value.oneCell']) k665 rfl) fun w671 e670 => ?_
    have k672 := So.old e670 (by omega) k666
    have k673 := So.hit e670 k665
    have z674 := So.size e670
    have q675 := So.kept e670 q668 (fun h => absurd h (by omega))
    refine L.step (R.assignV (v := .int .i64 9) rfl) rfl ?_
    refine L.nil ?_
    refine C.ret (?_ : RetOk _ _ _ _ _)
    refine RetOk.ctV (u := .int .i64 9) rfl rfl (loadVarA (cs := [.slice aS X.safe.length cS, .slice aP X.pend.length cP, .bool X.dead, .int .i64 X.left, .int .i64 X.fails, .int .i64 X.ops]) r43 k673 rfl rfl) rfl ?_
    exact ⟨by unfold RD.fail; (repeat' split) <;> first | rfl | (exfalso; omega) | (exfalso; simp_all; done) | (exfalso; simp_all; omega), q675⟩
  ·
    refine C.skip ?_
    refine C.seq ?_
    refine C.region ?_
    refine L.step (R.moveV (v := .int .i64 i) rfl) rfl ?_
    refine L.step (R.max2V (v := .int .i64 (max1 i)) rfl rfl rfl) rfl ?_
    refine L.step (R.fieldAddrV (o2 := 4) f43_4 rfl rfl) rfl ?_
    refine L.doesE (R.store1 c3 rfl (v := .int .i64 (max1 i)) rfl rfl k666 rfl) fun w677 e676 => ?_
    have k678 := So.hit e676 k666
    have k679 := So.old e676 (by omega) k665
    have z680 := So.size e676
    have q681 := So.kept e676 q668 (fun h => absurd h (by omega))
    refine L.nil ?_
    refine C.seq ?_
    refine C.region ?_
    refine L.step (R.loadA (cs := [.slice aS X.safe.length cS, .slice aP X.pend.length cP, .bool X.dead, .int .i64 X.left, .int .i64 (max1 i), .int .i64 X.ops]) r43 rfl k678 rfl rfl) rfl ?_
    refine L.doesE (R.storeAll (cs := [.slice aS X.safe.length cS, .slice aP X.pend.length cP, .bool X.dead, .int .i64 X.left, .int .i64 (max1 i), .int .i64 X.ops]) r43 rfl rfl rfl (by simp [Value.oneCell']) k679 rfl) fun w683 e682 => ?_
    have k684 := So.old e682 (by omega) k678
    have k685 := So.hit e682 k679
    have z686 := So.size e682
    have q687 := So.kept e682 q681 (fun h => absurd h (by omega))
    refine L.step (R.assignV (v := .int .i64 0) rfl) rfl ?_
    refine L.nil ?_
    refine C.ret (?_ : RetOk _ _ _ _ _)
    refine RetOk.ctV (u := .int .i64 0) rfl rfl (loadVarA (cs := [.slice aS X.safe.length cS, .slice aP X.pend.length cP, .bool X.dead, .int .i64 X.left, .int .i64 (max1 i), .int .i64 X.ops]) r43 k685 rfl rfl) rfl ?_
    exact ⟨by unfold RD.fail; (repeat' split) <;> first | rfl | (exfalso; omega) | (exfalso; simp_all; done) | (exfalso; simp_all; omega), q687⟩
end Go.Proofs.Ytpblppilknkdoaa
