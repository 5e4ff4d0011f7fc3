/- The reference's disk: Sync, Write. -/
import Derived.Test.YtpblppilknkdoaaD22
namespace Go.Proofs.Ytpblppilknkdoaa
open Go Go.Eng Go.Proofs
attribute [local irreducible] Go.Eng.C Go.Eng.L Go.Eng.Ret Go.Eng.Run Go.Eng.Does Go.Eng.Enters Go.Eng.AH Go.Eng.AO Go.Eng.RetOk
theorem done_calls2 {w : World} {X : RD} {aS aP : Option Addr} {nS cS nP cP : Nat} (hS : nS = X.safe.length) (hP : nP = X.pend.length) (hok : X.Ok) (ho : -1000000 ≤ X.ops ∧ X.ops ≤ 1000000) :
    Ret Try.prog 53 #[.agg (rcells (.slice aS nS cS) (.slice aP nP cP) X).toArray] w fun v w' => v = .tuple #[.agg (rcells (.slice aS nS cS) (.slice aP nP cP) X.done.1).toArray, .bool X.done.2] ∧ Kept (fun _ => False) w w' := by
  subst hS; subst hP; exact done_calls hok ho
theorem all_calls2 {w : World} {X : RD} {aS aP : Option Addr} {nS cS nP cP : Nat} (hS : nS = X.safe.length) (hP : nP = X.pend.length) (hm : X.pend.length ≤ 1000000) :
    Ret Try.prog 55 #[.agg (rcells (.slice aS nS cS) (.slice aP nP cP) X).toArray] w fun v w' => BoolsAt w' v (List.replicate X.pend.length true) (fun k => w.heap.size ≤ k ∧ k < w'.heap.size) ∧ Kept (fun _ => False) w w' := by
  subst hS; subst hP; exact all_calls hm
theorem settleN_cong {safe : List Blk} {pend : List (Nat × Blk)} {f g : Nat → Bool} : ∀ k, (∀ j, j < k → f j = g j) → settleN safe pend f k = settleN safe pend g k
  | 0, _ => rfl
  | k + 1, h => by
    simp only [settleN]
    rw [settleN_cong k (fun j hj => h j (by omega)), h k (by omega)]
theorem live_all (X : RD) : X.live (fun k => (List.replicate X.pend.length true).getD k false) = X.live fun _ => true := by
  unfold RD.live
  rw [settleN_cong _ (fun j hj => getDT hj)]
theorem grow_w0 {G : Nat → Prop} {w w0 w1 w' : World} (h : w.heap.size ≤ w0.heap.size) (h' : w1.heap.size ≤ w'.heap.size) : ∀ k, grow (fun _ => False) w0 w1 k → grow G w w' k := fun k hk => hk.elim (fun h => h.elim) (fun ⟨h1, h2⟩ => .inr ⟨by omega, by omega⟩)
set_option maxHeartbeats 4000000 in
theorem rsync_calls {w : World} {x : Value} {X : RD} {G : Nat → Prop} (h : RefAt w x X G) (ho : -1000000 ≤ X.ops ∧ X.ops ≤ 1000000) (hn0 : X.safe.length ≤ 1000000) (hm : X.pend.length ≤ 1000000) :
    Ret Try.prog 36 #[x] w fun v w' => ∃ y, v = .tuple #[y, .int .i64 X.sync.2] ∧ RefAt w' y X.sync.1 (grow G w w') ∧ Kept (fun _ => False) w w' := by
  obtain ⟨hok, sv, pv, rfl, hs, hp⟩ := h
  obtain ⟨aS, cS, rfl, hsc⟩ := hs.shape
  obtain ⟨aP, cP, rfl, hpc⟩ := hp.shape
  have hq := Kept.refl (fun _ => False) w
  have hslt := hs.lt
  have hplt := hp.lt
  refine Ret.intro [.agg (List.toArray ([.slice aS X.safe.length cS, .slice aP X.pend.length cP, .bool X.dead, .int .i64 X.left, .int .i64 X.fails, .int .i64 X.ops]))] Try.func36 rfl rfl ?_
  refine C.seq ?_
  refine C.region ?_
  refine L.stepE (R.boxA (cs := [.slice aS X.safe.length cS, .slice aP X.pend.length cP, .bool X.dead, .int .i64 X.left, .int .i64 X.fails, .int .i64 X.ops]) rfl) rfl fun w502 e501 => ?_
  have m503 := Al.row e501 hs
  have m504 := Al.row e501 hp
  have k506 := Al.new e501
  have z507 := Al.size e501
  have q508 := Al.kept e501 hq
  refine L.stepE (R.alloc z43) rfl fun w510 e509 => ?_
  have m511 := Al.row e509 m503
  have m512 := Al.row e509 m504
  have k514 := Al.new e509
  have k515 := Al.old e509 k506
  have z516 := Al.size e509
  have q517 := Al.kept e509 q508
  refine L.step (R.assignV (v := .int .i64 0) rfl) rfl ?_
  refine L.nil ?_
  refine C.seq ?_
  refine C.region ?_
  refine L.step (R.loadA (cs := [.slice aS X.safe.length cS, .slice aP X.pend.length cP, .bool X.dead, .int .i64 X.left, .int .i64 X.fails, .int .i64 X.ops]) r43 rfl k515 rfl rfl) rfl ?_
  obtain ⟨Y, hY⟩ : ∃ D, D = (X.asked 0).1 := ⟨_, rfl⟩
  obtain ⟨er, her⟩ : ∃ e, e = (X.asked 0).2 := ⟨_, rfl⟩
  have hYok : Y.Ok := by rw [hY]; exact hok.asked _
  have hYs : Y.safe = X.safe := by rw [hY]; exact RD.asked_safe
  have hYp : Y.pend = X.pend := by rw [hY]; exact RD.asked_pend
  have hYo : Y.ops = X.ops := by rw [hY]; exact RD.asked_ops
  refine L.call (E.call2 hb42) rfl (asked_calls (X := X) (i := 0) hok) ?_
  rintro _ w518 ⟨rfl, hk519⟩
  rw [← hY, ← her]
  have k520 := Kept.old hk519 k515 (fun h => h)
  have k521 := Kept.old hk519 k514 (fun h => h)
  have z522 := (hk519).size
  have q523 := Kept.trans q517 hk519 (fun _ _ h => h.elim)
  have m524 := Row.kept m511 hk519 (fun _ _ h => h)
  have m525 := Row.kept m512 hk519 (fun _ _ h => h)
  refine L.step (R.moveV (v := .tuple #[.agg (List.toArray ([.slice aS X.safe.length cS, .slice aP X.pend.length cP, .bool Y.dead, .int .i64 Y.left, .int .i64 Y.fails, .int .i64 Y.ops])), .int .i64 er]) rfl) rfl ?_
  refine L.step (R.extract (v := .agg (List.toArray ([.slice aS X.safe.length cS, .slice aP X.pend.length cP, .bool Y.dead, .int .i64 Y.left, .int .i64 Y.fails, .int .i64 Y.ops]))) rfl rfl) rfl ?_
  refine L.step (R.extract (v := .int .i64 er) rfl rfl) rfl ?_
  refine L.doesE (R.storeAll (cs := [.slice aS X.safe.length cS, .slice aP X.pend.length cP, .bool Y.dead, .int .i64 Y.left, .int .i64 Y.fails, .int .i64 Y.ops]) r43 rfl rfl rfl (by simp [Value.oneCell']) k520 rfl) fun w527 e526 => ?_
  have m528 := So.rowE e526 m524 k520 (by decide)
  have m529 := So.rowE e526 m525 k520 (by decide)
  have k530 := So.hit e526 k520
  have k531 := So.old e526 (by omega) k521
  have z532 := So.size e526
  have q533 := So.kept e526 q523 (fun h => absurd h (by omega))
  refine L.step (R.assignV (v := .int .i64 er) rfl) rfl ?_
  refine L.nil ?_
  refine C.seq ?_
  refine C.seq ?_
  refine C.region ?_
  refine L.step (R.moveV (v := .int .i64 er) rfl) rfl ?_
  rcases Classical.em (er = 0) with he | he
  ·
    rw [he] at her
    subst he
    refine L.step (R.neqF rfl rfl rfl) rfl ?_
    refine L.nil ?_
    refine C.condF rfl ?_
    refine C.skip ?_
    refine C.seq ?_
    refine C.region ?_
    refine L.step (R.loadA (cs := [.slice aS X.safe.length cS, .slice aP X.pend.length cP, .bool Y.dead, .int .i64 Y.left, .int .i64 Y.fails, .int .i64 Y.ops]) r43 rfl k530 rfl rfl) rfl ?_
    obtain ⟨Z, hZ⟩ : ∃ D, D = Y.done.1 := ⟨_, rfl⟩
    have hZok : Z.Ok := by rw [hZ]; exact hYok.done
    have hZs : Z.safe = X.safe := by rw [hZ, RD.done_safe, hYs]
    have hZp : Z.pend = X.pend := by rw [hZ, RD.done_pend, hYp]
    refine L.call (E.call1 hb53) rfl (done_calls2 (X := Y) (by rw [hYs]) (by rw [hYp]) hYok (by rw [hYo]; exact ho)) ?_
    rintro _ w534 ⟨rfl, hk535⟩
    rw [← hZ]
    have k536 := Kept.old hk535 k530 (fun h => h)
    have k537 := Kept.old hk535 k531 (fun h => h)
    have z538 := (hk535).size
    have q539 := Kept.trans q533 hk535 (fun _ _ h => h.elim)
    have m540 := Row.kept m528 hk535 (fun _ _ h => h)
    have m541 := Row.kept m529 hk535 (fun _ _ h => h)
    rcases Bool.eq_false_or_eq_true Y.done.2 with hd | hd
    ·
      rw [hd]
      refine L.step (R.moveV (v := .tuple #[.agg (List.toArray ([.slice aS X.safe.length cS, .slice aP X.pend.length cP, .bool Z.dead, .int .i64 Z.left, .int .i64 Z.fails, .int .i64 Z.ops])), .bool true]) rfl) rfl ?_
      refine L.step (R.extract (v := .agg (List.toArray ([.slice aS X.safe.length cS, .slice aP X.pend.length cP, .bool Z.dead, .int .i64 Z.left, .int .i64 Z.fails, .int .i64 Z.ops]))) rfl rfl) rfl ?_
      refine L.step (R.extract (v := .bool true) rfl rfl) rfl ?_
      refine L.doesE (R.storeAll (cs := [.slice aS X.safe.length cS, .slice aP X.pend.length cP, .bool Z.dead, .int .i64 Z.left, .int .i64 Z.fails, .int .i64 Z.ops]) r43 rfl rfl rfl (by simp [Value.oneCell']) k536 rfl) fun w543 e542 => ?_
      have m544 := So.rowE e542 m540 k536 (by decide)
      have m545 := So.rowE e542 m541 k536 (by decide)
      have k546 := So.hit e542 k536
      have k547 := So.old e542 (by omega) k537
      have z548 := So.size e542
      have q549 := So.kept e542 q539 (fun h => absurd h (by omega))
      refine L.step (R.assignV (v := .bool true) rfl) rfl ?_
      refine L.nil ?_
      refine C.seq ?_
      refine C.seq ?_
      refine C.region ?_
      refine L.step (R.moveV (v := .bool true) rfl) rfl ?_
      refine L.step (R.notV (v := .bool false) rfl rfl) rfl ?_
      refine L.nil ?_
      refine C.condF rfl ?_
      refine C.skip ?_
      refine C.seq ?_
      refine C.drawE (fun W : World => W.heap[w.heap.size]? = some (blk ([.slice aS X.safe.length cS, .slice aP X.pend.length cP, .bool Z.dead, .int .i64 Z.left, .int .i64 Z.fails, .int .i64 Z.ops]) 43)) (fun _ => true) mixed fun w550 e551 => ?_
      have k552 := Dr.old e551 k546
      have k553 := Dr.old e551 k547
      have m554 := Dr.row e551 m544
      have m555 := Dr.row e551 m545
      have z556 := Dr.size e551
      have q557 := Dr.kept e551 q549
      refine AH.take 0 rfl (by kernel_rfl) (by kernel_rfl) (by kernel_rfl) (by kernel_rfl) (fun _ _ _ h => h) rfl trivial (fun _ hS => (R.loadA (cs := [.slice aS X.safe.length cS, .slice aP X.pend.length cP, .bool Z.dead, .int .i64 Z.left, .int .i64 Z.fails, .int .i64 Z.ops]) r43 rfl hS rfl rfl)) k552 ?_
      refine AH.take 1 rfl (by kernel_rfl) (by kernel_rfl) (by kernel_rfl) (by kernel_rfl) (fun _ _ _ h => h) rfl trivial (fun _ hS => (R.loadA (cs := [.slice aS X.safe.length cS, .slice aP X.pend.length cP, .bool Z.dead, .int .i64 Z.left, .int .i64 Z.fails, .int .i64 Z.ops]) r43 rfl hS rfl rfl)) k552 ?_
      refine AH.one 2 (by kernel_rfl) (AO.call rfl trivial (E.call1 hb55) rfl (all_calls2 (X := Z) (by rw [hZs]) (by rw [hZp]) (by rw [hZp]; exact hm)) ?_)
      rintro v560 w558 ⟨hB561, hk559⟩
      have k562 := Kept.old hk559 k552 (fun h => h)
      have k563 := Kept.old hk559 k553 (fun h => h)
      have z564 := (hk559).size
      have q565 := Kept.trans q557 hk559 (fun _ _ h => h.elim)
      have m566 := Row.kept m554 hk559 (fun _ _ h => h)
      have m567 := Row.kept m555 hk559 (fun _ _ h => h)
      refine ⟨fun _ => k562, ?_⟩
      obtain ⟨U, hU⟩ : ∃ D, D = Z.live fun _ => true := ⟨_, rfl⟩
      have hzk := (q565).size
      refine AH.one 3 (by kernel_rfl) (AO.call rfl trivial (E.call2 hb54) rfl (live_calls (X := Z) (G := G) ⟨hZok, _, _, rfl, by rw [hZs]; exact m566, by rw [hZp]; exact m567⟩ hB561 (by rw [hZs]; exact hn0) (by rw [hZp]; exact hm) (by rw [List.length_replicate, hZp]; omega)) ?_)
      rintro v571 w568 ⟨hR570, hk569⟩
      rw [live_all, ← hU] at hR570
      obtain ⟨zok, svz, pvz, rfl, hsz, hpz⟩ := hR570
      obtain ⟨aSz, cSz, rfl, _⟩ := hsz.shape
      obtain ⟨aPz, cPz, rfl, _⟩ := hpz.shape
      have k572 := Kept.old hk569 k562 (fun h => h)
      have k573 := Kept.old hk569 k563 (fun h => h)
      have z574 := (hk569).size
      have q575 := Kept.trans q565 hk569 (fun _ _ h => h.elim)
      have m576 := Row.kept m566 hk569 (fun _ _ h => h)
      have m577 := Row.kept m567 hk569 (fun _ _ h => h)
      have hsltz := hsz.lt
      have hpltz := hpz.lt
      refine ⟨fun _ => k572, ?_⟩
      refine AH.one 4 (by kernel_rfl) (AO.doesE rfl trivial (R.storeAll (cs := [.slice aSz U.safe.length cSz, .slice aPz U.pend.length cPz, .bool U.dead, .int .i64 U.left, .int .i64 U.fails, .int .i64 U.ops]) r43 rfl rfl rfl (by simp [Value.oneCell']) k573 rfl) fun w579 e578 => ?_)
      have m580 := So.rowE e578 hsz k573 (by decide)
      have m581 := So.rowE e578 hpz k573 (by decide)
      have k582 := So.old e578 (by omega) k572
      have k583 := So.hit e578 k573
      have z584 := So.size e578
      have q585 := So.kept e578 q575 (fun h => absurd h (by omega))
      refine ⟨fun _ => k582, ?_⟩
      refine AH.take 5 rfl (by kernel_rfl) (by kernel_rfl) (by kernel_rfl) (by kernel_rfl) (fun _ _ _ h => h) rfl trivial (fun _ hS => (R.assignV (v := .int .i64 0) rfl)) k582 ?_
      refine AH.done (by kernel_rfl) ?_
      refine C.ret (?_ : RetOk _ _ _ _ _)
      refine RetOk.ctV (u := .int .i64 0) rfl rfl (loadVarA (cs := [.slice aSz U.safe.length cSz, .slice aPz U.pend.length cPz, .bool U.dead, .int .i64 U.left, .int .i64 U.fails, .int .i64 U.ops]) r43 k583 rfl rfl) rfl ?_
      have hsy : X.sync = (U, 0) := by unfold RD.sync; rw [← her, if_neg (by decide), ← hY, if_neg (by rw [hd]; decide), ← hZ, ← hU]
      rw [hsy]
      exact ⟨_, rfl, ⟨zok, _, _, rfl, Row.mono m580 (grow_w0 hzk (by omega)), Row.mono m581 (grow_w0 hzk (by omega))⟩, q585⟩
    ·
      rw [hd]
      refine L.step (R.moveV (v := .tuple #[.agg (List.toArray ([.slice aS X.safe.length cS, .slice aP X.pend.length cP, .bool Z.dead, .int .i64 Z.left, .int .i64 Z.fails, .int .i64 Z.ops])), .bool false]) rfl) rfl ?_
      refine L.step (R.extract (v := .agg (List.toArray ([.slice aS X.safe.length cS, .slice aP X.pend.length cP, .bool Z.dead, .int .i64 Z.left, .int .i64 Z.fails, .int .i64 Z.ops]))) rfl rfl) rfl ?_
      refine L.step (R.extract (v := .bool false) rfl rfl) rfl ?_
      refine L.doesE (R.storeAll (cs := [.slice aS X.safe.length cS, .slice aP X.pend.length cP, .bool Z.dead, .int .i64 Z.left, .int .i64 Z.fails, .int .i64 Z.ops]) r43 rfl rfl rfl (by simp [Value.oneCell']) k536 rfl) fun w587 e586 => ?_
      have m588 := So.rowE e586 m540 k536 (by decide)
      have m589 := So.rowE e586 m541 k536 (by decide)
      have k590 := So.hit e586 k536
      have k591 := So.old e586 (by omega) k537
      have z592 := So.size e586
      have q593 := So.kept e586 q539 (fun h => absurd h (by omega))
      refine L.step (R.assignV (v := .bool false) rfl) rfl ?_
      refine L.nil ?_
      refine C.seq ?_
      refine C.seq ?_
      refine C.region ?_
      refine L.step (R.moveV (v := .bool false) rfl) rfl ?_
      refine L.step (R.notV (v := .bool true) rfl rfl) rfl ?_
      refine L.nil ?_
      refine C.condT rfl ?_
      refine C.seq ?_
      refine C.region ?_
      refine L.step (R.loadA (cs := [.slice aS X.safe.length cS, .slice aP X.pend.length cP, .bool Z.dead, .int .i64 Z.left, .int .i64 Z.fails, .int .i64 Z.ops]) r43 rfl k590 rfl rfl) rfl ?_
      refine L.doesE (R.storeAll (cs := [.slice aS X.safe.length cS, .slice aP X.pend.length cP, .bool Z.dead, .int .i64 Z.left, .int .i64 Z.fails, .int .i64 Z.ops]) r43 rfl rfl rfl (by simp [Value.oneCell']) k591 rfl) fun w595 e594 => ?_
      have m596 := So.rowE e594 m588 k591 (by decide)
      have m597 := So.rowE e594 m589 k591 (by decide)
      have k598 := So.old e594 (by omega) k590
      have k599 := So.hit e594 k591
      have z600 := So.size e594
      have q601 := So.kept e594 q593 (fun h => absurd h (by omega))
      refine L.step (R.assignV (v := .int .i64 9) rfl) rfl ?_
      refine L.nil ?_
      refine C.ret (?_ : RetOk _ _ _ _ _)
      refine RetOk.ctV (u := .int .i64 9) rfl rfl (loadVarA (cs := [.slice aS X.safe.length cS, .slice aP X.pend.length cP, .bool Z.dead, .int .i64 Z.left, .int .i64 Z.fails, .int .i64 Z.ops]) r43 k599 rfl rfl) rfl ?_
      have hsy : X.sync = (Z, 9) := by unfold RD.sync; rw [← her, if_neg (by decide), ← hY, if_pos hd, ← hZ]
      rw [hsy]
      exact ⟨_, rfl, ⟨hZok, _, _, rfl, by show Row _ 27 64 _ Z.safe.length (Z.safe.flatMap bcells) _; rw [hZs]; exact m596.mono grow_sub, by show Row _ 75 65 _ Z.pend.length (Z.pend.flatMap wcells) _; rw [hZp]; exact m597.mono grow_sub⟩, q601⟩
  ·
    refine L.step (R.neqT rfl rfl he) rfl ?_
    refine L.nil ?_
    refine C.condT rfl ?_
    refine C.seq ?_
    refine C.region ?_
    refine L.step (R.loadA (cs := [.slice aS X.safe.length cS, .slice aP X.pend.length cP, .bool Y.dead, .int .i64 Y.left, .int .i64 Y.fails, .int .i64 Y.ops]) r43 rfl k530 rfl rfl) rfl ?_
    refine L.step (R.moveV (v := .int .i64 er) rfl) rfl ?_
    refine L.doesE (R.storeAll (cs := [.slice aS X.safe.length cS, .slice aP X.pend.length cP, .bool Y.dead, .int .i64 Y.left, .int .i64 Y.fails, .int .i64 Y.ops]) r43 rfl rfl rfl (by simp [Value.oneCell']) k531 rfl) fun w603 e602 => ?_
    have m604 := So.rowE e602 m528 k531 (by decide)
    have m605 := So.rowE e602 m529 k531 (by decide)
    have k606 := So.old e602 (by omega) k530
    have k607 := So.hit e602 k531
    have z608 := So.size e602
    have q609 := So.kept e602 q533 (fun h => absurd h (by omega))
    refine L.step (R.assignV (v := .int .i64 er) rfl) rfl ?_
    refine L.nil ?_
    refine C.ret (?_ : RetOk _ _ _ _ _)
    refine RetOk.ctV (u := .int .i64 er) rfl rfl (loadVarA (cs := [.slice aS X.safe.length cS, .slice aP X.pend.length cP, .bool Y.dead, .int .i64 Y.left, .int .i64 Y.fails, .int .i64 Y.ops]) r43 k607 rfl rfl) rfl ?_
    have hsy : X.sync = (Y, er) := by unfold RD.sync; rw [← her, if_pos he]; exact Prod.ext hY.symm her.symm
    rw [hsy]
    exact ⟨_, rfl, ⟨hYok, _, _, rfl, by show Row _ 27 64 _ Y.safe.length (Y.safe.flatMap bcells) _; rw [hYs]; exact m604.mono grow_sub, by show Row _ 75 65 _ Y.pend.length (Y.pend.flatMap wcells) _; rw [hYp]; exact m605.mono grow_sub⟩, q609⟩
theorem build75I {σ : Env} {w : World} {ty : TypeId} {x y : Operand} {i : Int} {b : Blk} (hi : 0 ≤ i) (hx : ev σ x = .int .i64 i) (hy : ev σ y = .agg (bcells b).toArray) (hb : b.length = 64) : Run Try.prog σ w (.build 75 #[(0, x), (1, y)]) ty (.agg (wcells (i.toNat, b)).toArray) w :=
  build75 (by rw [hx, Int.toNat_of_nonneg hi]) hy hb
set_option maxHeartbeats 8000000 in
theorem rwrite_calls {w : World} {x : Value} {X : RD} {G : Nat → Prop} {i : Int} {b : Blk} (h : RefAt w x X G) (hb : b.length = 64) (ho : -1000000 ≤ X.ops ∧ X.ops ≤ 1000000) (hm : X.pend.length ≤ 1000000) :
    Ret Try.prog 35 #[x, .int .i64 i, bval b] w fun v w' => ∃ y, v = .tuple #[y, .int .i64 (X.write i b).2] ∧ RefAt w' y (X.write i b).1 (grow G w w') ∧ Kept (fun _ => False) w w' := by
  obtain ⟨hok, sv, pv, rfl, hs, hp⟩ := h
  obtain ⟨aS, cS, rfl, hsc⟩ := hs.shape
  obtain ⟨aP, cP, rfl, hpc⟩ := hp.shape
  have hq := Kept.refl (fun _ => False) w
  have hslt := hs.lt
  have hplt := hp.lt
  refine Ret.intro [.agg (List.toArray ([.slice aS X.safe.length cS, .slice aP X.pend.length cP, .bool X.dead, .int .i64 X.left, .int .i64 X.fails, .int .i64 X.ops])), .int .i64 i, .agg (List.toArray (bcells b))] Try.func35 rfl rfl ?_
  refine C.seq ?_
  refine C.region ?_
  refine L.stepE (R.boxA (cs := [.slice aS X.safe.length cS, .slice aP X.pend.length cP, .bool X.dead, .int .i64 X.left, .int .i64 X.fails, .int .i64 X.ops]) rfl) rfl fun w611 e610 => ?_
  have m612 := Al.row e610 hs
  have m613 := Al.row e610 hp
  have k615 := Al.new e610
  have z616 := Al.size e610
  have q617 := Al.kept e610 hq
  refine L.stepE (R.boxA (cs := bcells b) rfl) rfl fun w619 e618 => ?_
  have m620 := Al.row e618 m612
  have m621 := Al.row e618 m613
  have k623 := Al.new e618
  have k624 := Al.old e618 k615
  have z625 := Al.size e618
  have q626 := Al.kept e618 q617
  refine L.stepE (R.alloc z43) rfl fun w628 e627 => ?_
  have m629 := Al.row e627 m620
  have m630 := Al.row e627 m621
  have k632 := Al.new e627
  have k633 := Al.old e627 k624
  have k634 := Al.old e627 k623
  have z635 := Al.size e627
  have q636 := Al.kept e627 q626
  refine L.step (R.assignV (v := .int .i64 0) rfl) rfl ?_
  refine L.nil ?_
  refine C.seq ?_
  refine C.region ?_
  refine L.step (R.loadA (cs := [.slice aS X.safe.length cS, .slice aP X.pend.length cP, .bool X.dead, .int .i64 X.left, .int .i64 X.fails, .int .i64 X.ops]) r43 rfl k633 rfl rfl) rfl ?_
  refine L.step (R.moveV (v := .int .i64 i) rfl) rfl ?_
  obtain ⟨Y, hY⟩ : ∃ D, D = (X.asked i).1 := ⟨_, rfl⟩
  obtain ⟨er, her⟩ : ∃ e, e = (X.asked i).2 := ⟨_, rfl⟩
  have hYok : Y.Ok := by rw [hY]; exact hok.asked _
  have hYs : Y.safe = X.safe := by rw [hY]; exact RD.asked_safe
  have hYp : Y.pend = X.pend := by rw [hY]; exact RD.asked_pend
  have hYo : Y.ops = X.ops := by rw [hY]; exact RD.asked_ops
  refine L.call (E.call2 hb42) rfl (asked_calls (X := X) (i := i) hok) ?_
  rintro _ w637 ⟨rfl, hk638⟩
  rw [← hY, ← her]
  have k639 := Kept.old hk638 k633 (fun h => h)
  have k640 := Kept.old hk638 k634 (fun h => h)
  have k641 := Kept.old hk638 k632 (fun h => h)
  have z642 := (hk638).size
  have q643 := Kept.trans q636 hk638 (fun _ _ h => h.elim)
  have m644 := Row.kept m629 hk638 (fun _ _ h => h)
  have m645 := Row.kept m630 hk638 (fun _ _ h => h)
  refine L.step (R.moveV (v := .tuple #[.agg (List.toArray ([.slice aS X.safe.length cS, .slice aP X.pend.length cP, .bool Y.dead, .int .i64 Y.left, .int .i64 Y.fails, .int .i64 Y.ops])), .int .i64 er]) rfl) rfl ?_
  refine L.step (R.extract (v := .agg (List.toArray ([.slice aS X.safe.length cS, .slice aP X.pend.length cP, .bool Y.dead, .int .i64 Y.left, .int .i64 Y.fails, .int .i64 Y.ops]))) rfl rfl) rfl ?_
  refine L.step (R.extract (v := .int .i64 er) rfl rfl) rfl ?_
  refine L.doesE (R.storeAll (cs := [.slice aS X.safe.length cS, .slice aP X.pend.length cP, .bool Y.dead, .int .i64 Y.left, .int .i64 Y.fails, .int .i64 Y.ops]) r43 rfl rfl rfl (by simp [Value.oneCell']) k639 rfl) fun w647 e646 => ?_
  have m648 := So.rowE e646 m644 k639 (by decide)
  have m649 := So.rowE e646 m645 k639 (by decide)
  have k650 := So.hit e646 k639
  have k651 := So.old e646 (apartE k640 k639 (by decide)) k640
  have k652 := So.old e646 (by omega) k641
  have z653 := So.size e646
  have q654 := So.kept e646 q643 (fun h => absurd h (by omega))
  refine L.step (R.assignV (v := .int .i64 er) rfl) rfl ?_
  refine L.nil ?_
  refine C.seq ?_
  refine C.seq ?_
  refine C.region ?_
  refine L.step (R.moveV (v := .int .i64 er) rfl) rfl ?_
  rcases Classical.em (er = 0) with he | he
  ·
    rw [he] at her
    subst he
    refine L.step (R.neqF rfl rfl rfl) rfl ?_
    refine L.nil ?_
    refine C.condF rfl ?_
    refine C.skip ?_
    refine C.seq ?_
    refine C.region ?_
    refine L.step (R.loadA (cs := [.slice aS X.safe.length cS, .slice aP X.pend.length cP, .bool Y.dead, .int .i64 Y.left, .int .i64 Y.fails, .int .i64 Y.ops]) r43 rfl k650 rfl rfl) rfl ?_
    obtain ⟨Z, hZ⟩ : ∃ D, D = Y.done.1 := ⟨_, rfl⟩
    have hZok : Z.Ok := by rw [hZ]; exact hYok.done
    have hZs : Z.safe = X.safe := by rw [hZ, RD.done_safe, hYs]
    have hZp : Z.pend = X.pend := by rw [hZ, RD.done_pend, hYp]
    refine L.call (E.call1 hb53) rfl (done_calls2 (X := Y) (by rw [hYs]) (by rw [hYp]) hYok (by rw [hYo]; exact ho)) ?_
    rintro _ w655 ⟨rfl, hk656⟩
    rw [← hZ]
    have k657 := Kept.old hk656 k650 (fun h => h)
    have k658 := Kept.old hk656 k651 (fun h => h)
    have k659 := Kept.old hk656 k652 (fun h => h)
    have z660 := (hk656).size
    have q661 := Kept.trans q654 hk656 (fun _ _ h => h.elim)
    have m662 := Row.kept m648 hk656 (fun _ _ h => h)
    have m663 := Row.kept m649 hk656 (fun _ _ h => h)
    rcases Bool.eq_false_or_eq_true Y.done.2 with hd | hd
    ·
      rw [hd]
      refine L.step (R.moveV (v := .tuple #[.agg (List.toArray ([.slice aS X.safe.length cS, .slice aP X.pend.length cP, .bool Z.dead, .int .i64 Z.left, .int .i64 Z.fails, .int .i64 Z.ops])), .bool true]) rfl) rfl ?_
      refine L.step (R.extract (v := .agg (List.toArray ([.slice aS X.safe.length cS, .slice aP X.pend.length cP, .bool Z.dead, .int .i64 Z.left, .int .i64 Z.fails, .int .i64 Z.ops]))) rfl rfl) rfl ?_
      refine L.step (R.extract (v := .bool true) rfl rfl) rfl ?_
      refine L.doesE (R.storeAll (cs := [.slice aS X.safe.length cS, .slice aP X.pend.length cP, .bool Z.dead, .int .i64 Z.left, .int .i64 Z.fails, .int .i64 Z.ops]) r43 rfl rfl rfl (by simp [Value.oneCell']) k657 rfl) fun w665 e664 => ?_
      have m666 := So.rowE e664 m662 k657 (by decide)
      have m667 := So.rowE e664 m663 k657 (by decide)
      have k668 := So.hit e664 k657
      have k669 := So.old e664 (apartE k658 k657 (by decide)) k658
      have k670 := So.old e664 (by omega) k659
      have z671 := So.size e664
      have q672 := So.kept e664 q661 (fun h => absurd h (by omega))
      refine L.step (R.assignV (v := .bool true) rfl) rfl ?_
      refine L.nil ?_
      refine C.seq ?_
      refine C.seq ?_
      refine C.region ?_
      refine L.step (R.moveV (v := .bool true) rfl) rfl ?_
      refine L.step (R.notV (v := .bool false) rfl rfl) rfl ?_
      refine L.nil ?_
      refine C.condF rfl ?_
      refine C.skip ?_
      refine C.seq ?_
      have hrng : 0 ≤ i ∧ i < X.safe.length := RD.asked_range her.symm
      refine C.drawE (fun W : World => W.heap[w.heap.size]? = some (blk ([.slice aS X.safe.length cS, .slice aP X.pend.length cP, .bool Z.dead, .int .i64 Z.left, .int .i64 Z.fails, .int .i64 Z.ops]) 43) ∧ W.heap[w611.heap.size]? = some (blk (bcells b) 27)) (fun j => !(Nat.beq j 10)) mixed fun w673 e674 => ?_
      have k675 := Dr.old e674 k668
      have k676 := Dr.old e674 k669
      have k677 := Dr.old e674 k670
      have m678 := Dr.row e674 m666
      have m679 := Dr.row e674 m667
      have z680 := Dr.size e674
      have q681 := Dr.kept e674 q672
      refine AH.take 1 rfl (by kernel_rfl) (by kernel_rfl) (by kernel_rfl) (by kernel_rfl) (fun _ _ _ h => h) rfl trivial (fun _ hS => (R.fieldAddrV (o2 := 1) f43_1 rfl rfl)) (⟨k675, k676⟩) ?_
      refine AH.take 2 rfl (by kernel_rfl) (by kernel_rfl) (by kernel_rfl) (by kernel_rfl) (fun _ _ _ h => h) rfl trivial (fun _ hS => (R.load1 (v := .slice aP X.pend.length cP) c41 rfl hS.1 rfl)) (⟨k675, k676⟩) ?_
      refine AH.take 4 rfl (by kernel_rfl) (by kernel_rfl) (by kernel_rfl) (by kernel_rfl) (fun _ _ _ h => h) rfl trivial (fun _ hS => (R.moveV (v := .int .i64 i) rfl)) (⟨k675, k676⟩) ?_
      refine AH.take 5 rfl (by kernel_rfl) (by kernel_rfl) (by kernel_rfl) (by kernel_rfl) (fun _ _ _ h => h) rfl trivial (fun _ hS => (R.loadA (cs := bcells b) r27 rfl hS.2 (List.take_of_length_le (Nat.le_of_eq (bcells64 hb))) (bcells64 hb))) (⟨k675, k676⟩) ?_
      refine AH.take 6 rfl (by kernel_rfl) (by kernel_rfl) (by kernel_rfl) (by kernel_rfl) (fun _ _ _ h => h) rfl trivial (fun _ hS => (build75I (b := b) hrng.1 rfl rfl hb)) (⟨k675, k676⟩) ?_
      refine AH.all (rs := [0, 7]) (by kernel_rfl) (by decide) (fun i hi => ?_)
      simp only [List.mem_cons, List.not_mem_nil, or_false] at hi
      rcases hi with rfl | rfl
      ·
        refine (AO.stepE rfl trivial (R.slice0 s41) rfl fun w683 e682 => ?_)
        have m684 := Al.row e682 m678
        have m685 := Al.row e682 m679
        have k687 := Al.new e682
        have k688 := Al.old e682 k675
        have k689 := Al.old e682 k676
        have k690 := Al.old e682 k677
        have z691 := Al.size e682
        have q692 := Al.kept e682 q681
        refine ⟨fun _ => (⟨k688, k689⟩), ?_⟩
        refine AH.all (rs := [3, 7]) (by kernel_rfl) (by decide) (fun i hi => ?_)
        simp only [List.mem_cons, List.not_mem_nil, or_false] at hi
        rcases hi with rfl | rfl
        ·
          have hrow : Row w683 75 65 (.slice (some ⟨w673.heap.size, 0, none⟩) 0 0) 0 [] (fun k => k = w673.heap.size) := Row.mk _ _ 0 [] k687 (Nat.le_refl _) (Nat.zero_le _) rfl rfl rfl
          refine (AO.bind rfl trivial (R.appendR e41 rfl hrow rfl m685 (oneCell_flat one_wcells _) (by simp only [maxLen]; omega) (by omega)) rfl ?_)
          rintro v693 w694 ⟨hr695, hk696⟩
          have hz1 := (hk696).size
          have hzk := (q692).size
          obtain ⟨a31, c31, rfl, _⟩ := hr695.shape
          simp only [Nat.zero_add, List.nil_append] at hr695 ⊢
          have hr31 : Row w694 75 65 (.slice a31 X.pend.length c31) X.pend.length (X.pend.flatMap wcells) (fun k => w.heap.size ≤ k) := hr695.mono (fun k hk => by rcases hk with hk | hk <;> omega)
          have q697 : Kept (fun _ => False) w w694 := Kept.trans q692 hk696 (fun k hlt hk => by have hk : k = w673.heap.size := hk; omega)
          have k698 := Kept.old hk696 k688 (fun hk => by have hk : _ = w673.heap.size := hk; omega)
          have k699 := Kept.old hk696 k689 (fun hk => by have hk : _ = w673.heap.size := hk; omega)
          have k700 := Kept.old hk696 k690 (fun hk => by have hk : _ = w673.heap.size := hk; omega)
          have m701 := Row.keptOwn m684 hk696 (fun g9 hg9 e9 => by have e9 : g9 = w673.heap.size := e9; have := hslt g9 hg9; omega)
          have m702 := Row.keptOwn m685 hk696 (fun g9 hg9 e9 => by have e9 : g9 = w673.heap.size := e9; have := hplt g9 hg9; omega)
          have hlt31 := hr31.lt
          refine ⟨fun _ => (⟨k698, k699⟩), ?_⟩
          refine AH.one 7 (by kernel_rfl) (AO.stepE rfl trivial (R.slice1 s41 ⟨_, z75, rfl⟩ rfl rfl (v := .agg (wcells (i.toNat, b)).toArray) rfl (wcells65 (p := (i.toNat, b)) hb)) rfl fun w704 e703 => ?_)
          have m705 := Al.row e703 m701
          have m706 := Al.row e703 m702
          have m707 := Al.row e703 hr31
          have k709 := Al.new e703
          have k710 := Al.old e703 k698
          have k711 := Al.old e703 k699
          have k712 := Al.old e703 k700
          have z713 := Al.size e703
          have q714 := Al.kept e703 q697
          refine ⟨fun _ => (⟨k710, k711⟩), ?_⟩
          have hzk8 := (q714).size
          refine AH.one 8 (by kernel_rfl) (AO.bind rfl trivial (R.append e41 (v := .slice a31 X.pend.length c31) rfl (Row.own m707) rfl (news := wcells (i.toNat, b)) (wcells65 (p := (i.toNat, b)) hb) (news_at k709) (one_wcells _) (by simp only [maxLen]; omega) (by omega)) rfl ?_)
          rintro v715 w716 ⟨hr717, hk718, _, _⟩
          have hz8 := (hk718).size
          obtain ⟨a36, c36, rfl, _⟩ := hr717.shape
          have hr36 : Row w716 75 65 (.slice a36 (X.pend.length + 1) c36) (X.pend.length + 1) ((X.pend ++ [(i.toNat, b)]).flatMap wcells) (fun k => w.heap.size ≤ k) := by
            simp only [List.flatMap_append, List.flatMap_cons, List.flatMap_nil, List.append_nil]
            exact hr717.mono (fun k hk => by rcases hk with hk | hk; exact m707.2 k hk; omega)
          have q719 : Kept (fun _ => False) w w716 := Kept.trans q714 hk718 (fun k hlt hk => absurd (m707.2 k hk) (by omega))
          have k720 := Kept.old hk718 k710 (Row.apart m707 k710 (by decide))
          have k721 := Kept.old hk718 k711 (Row.apart m707 k711 (by decide))
          have k722 := Kept.old hk718 k712 (Row.apart m707 k712 (by decide))
          have m723 := Row.keptOwn m705 hk718 (fun g9 hg9 e9 => absurd (m707.2 g9 e9) (by have := hslt g9 hg9; omega))
          have m724 := Row.keptOwn m706 hk718 (fun g9 hg9 e9 => absurd (m707.2 g9 e9) (by have := hplt g9 hg9; omega))
          have hlt36 := hr36.lt
          refine ⟨fun _ => (⟨k720, k721⟩), ?_⟩
          refine AH.take 9 rfl (by kernel_rfl) (by kernel_rfl) (by kernel_rfl) (by kernel_rfl) (fun _ _ _ h => h) rfl trivial (fun _ hS => (R.fieldAddrV (o2 := 1) f43_1 rfl rfl)) (⟨k720, k721⟩) ?_
          refine AH.one 10 (by kernel_rfl) (AO.doesE rfl trivial (R.store1 c41 rfl (v := .slice a36 (X.pend.length + 1) c36) rfl rfl k720 rfl) fun w726 e725 => ?_)
          have m727 := So.rowE e725 m723 k720 (by decide)
          have m728 := So.rowE e725 m724 k720 (by decide)
          have m729 := So.rowE e725 hr36 k720 (by decide)
          have k730 := So.hit e725 k720
          have k731 := So.old e725 (apartE k721 k720 (by decide)) k721
          have k732 := So.old e725 (by omega) k722
          have z733 := So.size e725
          have q734 := So.kept e725 q719 (fun h => absurd h (by omega))
          refine ⟨fun h => absurd h (by decide), ?_⟩
          refine AH.done (by kernel_rfl) ?_
          refine C.seq ?_
          refine C.region ?_
          refine L.step (R.loadA (cs := [.slice aS X.safe.length cS, .slice a36 (X.pend.length + 1) c36, .bool Z.dead, .int .i64 Z.left, .int .i64 Z.fails, .int .i64 Z.ops]) r43 rfl k730 rfl rfl) rfl ?_
          refine L.doesE (R.storeAll (cs := [.slice aS X.safe.length cS, .slice a36 (X.pend.length + 1) c36, .bool Z.dead, .int .i64 Z.left, .int .i64 Z.fails, .int .i64 Z.ops]) r43 rfl rfl rfl (by simp [Value.oneCell']) k732 rfl) fun w736 e735 => ?_
          have m737 := So.rowE e735 m727 k732 (by decide)
          have m738 := So.rowE e735 m728 k732 (by decide)
          have m739 := So.rowE e735 m729 k732 (by decide)
          have k740 := So.old e735 (by omega) k730
          have k741 := So.old e735 (apartE k731 k732 (by decide)) k731
          have k742 := So.hit e735 k732
          have z743 := So.size e735
          have q744 := So.kept e735 q734 (fun h => absurd h (by omega))
          refine L.step (R.assignV (v := .int .i64 0) rfl) rfl ?_
          refine L.nil ?_
          refine C.ret (?_ : RetOk _ _ _ _ _)
          refine RetOk.ctV (u := .int .i64 0) rfl rfl (loadVarA (cs := [.slice aS X.safe.length cS, .slice a36 (X.pend.length + 1) c36, .bool Z.dead, .int .i64 Z.left, .int .i64 Z.fails, .int .i64 Z.ops]) r43 k742 rfl rfl) rfl ?_
          have hsy : X.write i b = ({ Z with pend := Z.pend ++ [(i.toNat, b)] }, 0) := by unfold RD.write; rw [← her, if_neg (by decide), ← hY, if_neg (by rw [hd]; decide), ← hZ]
          rw [hsy]
          have hl9 : (Z.pend ++ [(i.toNat, b)]).length = X.pend.length + 1 := by rw [hZp]; simp
          exact ⟨_, rfl, ⟨hZok.push (by rw [hZs]; omega) hb, _, _, rfl, by show Row _ 27 64 _ Z.safe.length (Z.safe.flatMap bcells) _; rw [hZs]; exact m737.mono grow_sub, by
            show Row _ 75 65 _ (Z.pend ++ [(i.toNat, b)]).length ((Z.pend ++ [(i.toNat, b)]).flatMap wcells) _
            rw [hl9, hZp]
            have hlt9 := m739.lt
            exact ⟨m739.1, fun k9 hk9 => .inr ⟨m739.2 k9 hk9, hlt9 k9 hk9⟩⟩⟩, q744⟩
        ·
          refine (AO.stepE rfl trivial (R.slice1 s41 ⟨_, z75, rfl⟩ rfl rfl (v := .agg (wcells (i.toNat, b)).toArray) rfl (wcells65 (p := (i.toNat, b)) hb)) rfl fun w746 e745 => ?_)
          have m747 := Al.row e745 m684
          have m748 := Al.row e745 m685
          have k750 := Al.new e745
          have k751 := Al.old e745 k688
          have k752 := Al.old e745 k689
          have k753 := Al.old e745 k690
          have k754 := Al.old e745 k687
          have z755 := Al.size e745
          have q756 := Al.kept e745 q692
          refine ⟨fun _ => (⟨k751, k752⟩), ?_⟩
          have hrow : Row w746 75 65 (.slice (some ⟨w673.heap.size, 0, none⟩) 0 0) 0 [] (fun k => k = w673.heap.size) := Row.mk _ _ 0 [] k754 (Nat.le_refl _) (Nat.zero_le _) rfl rfl rfl
          refine AH.one 3 (by kernel_rfl) (AO.bind rfl trivial (R.appendR e41 rfl hrow rfl m748 (oneCell_flat one_wcells _) (by simp only [maxLen]; omega) (by omega)) rfl ?_)
          rintro v757 w758 ⟨hr759, hk760⟩
          have hz1 := (hk760).size
          have hzk := (q756).size
          obtain ⟨a31, c31, rfl, _⟩ := hr759.shape
          simp only [Nat.zero_add, List.nil_append] at hr759 ⊢
          have hr31 : Row w758 75 65 (.slice a31 X.pend.length c31) X.pend.length (X.pend.flatMap wcells) (fun k => w.heap.size ≤ k) := hr759.mono (fun k hk => by rcases hk with hk | hk <;> omega)
          have q761 : Kept (fun _ => False) w w758 := Kept.trans q756 hk760 (fun k hlt hk => by have hk : k = w673.heap.size := hk; omega)
          have k762 := Kept.old hk760 k751 (fun hk => by have hk : _ = w673.heap.size := hk; omega)
          have k763 := Kept.old hk760 k752 (fun hk => by have hk : _ = w673.heap.size := hk; omega)
          have k764 := Kept.old hk760 k753 (fun hk => by have hk : _ = w673.heap.size := hk; omega)
          have k765 := Kept.old hk760 k750 (fun hk => by have hk : _ = w673.heap.size := hk; omega)
          have m766 := Row.keptOwn m747 hk760 (fun g9 hg9 e9 => by have e9 : g9 = w673.heap.size := e9; have := hslt g9 hg9; omega)
          have m767 := Row.keptOwn m748 hk760 (fun g9 hg9 e9 => by have e9 : g9 = w673.heap.size := e9; have := hplt g9 hg9; omega)
          have hlt31 := hr31.lt
          refine ⟨fun _ => (⟨k762, k763⟩), ?_⟩
          have hzk8 := (q761).size
          refine AH.one 8 (by kernel_rfl) (AO.bind rfl trivial (R.append e41 (v := .slice a31 X.pend.length c31) rfl (Row.own hr31) rfl (news := wcells (i.toNat, b)) (wcells65 (p := (i.toNat, b)) hb) (news_at k765) (one_wcells _) (by simp only [maxLen]; omega) (by omega)) rfl ?_)
          rintro v768 w769 ⟨hr770, hk771, _, _⟩
          have hz8 := (hk771).size
          obtain ⟨a36, c36, rfl, _⟩ := hr770.shape
          have hr36 : Row w769 75 65 (.slice a36 (X.pend.length + 1) c36) (X.pend.length + 1) ((X.pend ++ [(i.toNat, b)]).flatMap wcells) (fun k => w.heap.size ≤ k) := by
            simp only [List.flatMap_append, List.flatMap_cons, List.flatMap_nil, List.append_nil]
            exact hr770.mono (fun k hk => by rcases hk with hk | hk; exact hr31.2 k hk; omega)
          have q772 : Kept (fun _ => False) w w769 := Kept.trans q761 hk771 (fun k hlt hk => absurd (hr31.2 k hk) (by omega))
          have k773 := Kept.old hk771 k762 (Row.apart hr31 k762 (by decide))
          have k774 := Kept.old hk771 k763 (Row.apart hr31 k763 (by decide))
          have k775 := Kept.old hk771 k764 (Row.apart hr31 k764 (by decide))
          have m776 := Row.keptOwn m766 hk771 (fun g9 hg9 e9 => absurd (hr31.2 g9 e9) (by have := hslt g9 hg9; omega))
          have m777 := Row.keptOwn m767 hk771 (fun g9 hg9 e9 => absurd (hr31.2 g9 e9) (by have := hplt g9 hg9; omega))
          have hlt36 := hr36.lt
          refine ⟨fun _ => (⟨k773, k774⟩), ?_⟩
          refine AH.take 9 rfl (by kernel_rfl) (by kernel_rfl) (by kernel_rfl) (by kernel_rfl) (fun _ _ _ h => h) rfl trivial (fun _ hS => (R.fieldAddrV (o2 := 1) f43_1 rfl rfl)) (⟨k773, k774⟩) ?_
          refine AH.one 10 (by kernel_rfl) (AO.doesE rfl trivial (R.store1 c41 rfl (v := .slice a36 (X.pend.length + 1) c36) rfl rfl k773 rfl) fun w779 e778 => ?_)
          have m780 := So.rowE e778 m776 k773 (by decide)
          have m781 := So.rowE e778 m777 k773 (by decide)
          have m782 := So.rowE e778 hr36 k773 (by decide)
          have k783 := So.hit e778 k773
          have k784 := So.old e778 (apartE k774 k773 (by decide)) k774
          have k785 := So.old e778 (by omega) k775
          have z786 := So.size e778
          have q787 := So.kept e778 q772 (fun h => absurd h (by omega))
          refine ⟨fun h => absurd h (by decide), ?_⟩
          refine AH.done (by kernel_rfl) ?_
          refine C.seq ?_
          refine C.region ?_
          refine L.step (R.loadA (cs := [.slice aS X.safe.length cS, .slice a36 (X.pend.length + 1) c36, .bool Z.dead, .int .i64 Z.left, .int .i64 Z.fails, .int .i64 Z.ops]) r43 rfl k783 rfl rfl) rfl ?_
          refine L.doesE (R.storeAll (cs := [.slice aS X.safe.length cS, .slice a36 (X.pend.length + 1) c36, .bool Z.dead, .int .i64 Z.left, .int .i64 Z.fails, .int .i64 Z.ops]) r43 rfl rfl rfl (by simp [Value.oneCell']) k785 rfl) fun w789 e788 => ?_
          have m790 := So.rowE e788 m780 k785 (by decide)
          have m791 := So.rowE e788 m781 k785 (by decide)
          have m792 := So.rowE e788 m782 k785 (by decide)
          have k793 := So.old e788 (by omega) k783
          have k794 := So.old e788 (apartE k784 k785 (by decide)) k784
          have k795 := So.hit e788 k785
          have z796 := So.size e788
          have q797 := So.kept e788 q787 (fun h => absurd h (by omega))
          refine L.step (R.assignV (v := .int .i64 0) rfl) rfl ?_
          refine L.nil ?_
          refine C.ret (?_ : RetOk _ _ _ _ _)
          refine RetOk.ctV (u := .int .i64 0) rfl rfl (loadVarA (cs := [.slice aS X.safe.length cS, .slice a36 (X.pend.length + 1) c36, .bool Z.dead, .int .i64 Z.left, .int .i64 Z.fails, .int .i64 Z.ops]) r43 k795 rfl rfl) rfl ?_
          have hsy : X.write i b = ({ Z with pend := Z.pend ++ [(i.toNat, b)] }, 0) := by unfold RD.write; rw [← her, if_neg (by decide), ← hY, if_neg (by rw [hd]; decide), ← hZ]
          rw [hsy]
          have hl9 : (Z.pend ++ [(i.toNat, b)]).length = X.pend.length + 1 := by rw [hZp]; simp
          exact ⟨_, rfl, ⟨hZok.push (by rw [hZs]; omega) hb, _, _, rfl, by show Row _ 27 64 _ Z.safe.length (Z.safe.flatMap bcells) _; rw [hZs]; exact m790.mono grow_sub, by
            show Row _ 75 65 _ (Z.pend ++ [(i.toNat, b)]).length ((Z.pend ++ [(i.toNat, b)]).flatMap wcells) _
            rw [hl9, hZp]
            have hlt9 := m792.lt
            exact ⟨m792.1, fun k9 hk9 => .inr ⟨m792.2 k9 hk9, hlt9 k9 hk9⟩⟩⟩, q797⟩
      ·
        refine (AO.stepE rfl trivial (R.slice1 s41 ⟨_, z75, rfl⟩ rfl rfl (v := .agg (wcells (i.toNat, b)).toArray) rfl (wcells65 (p := (i.toNat, b)) hb)) rfl fun w799 e798 => ?_)
        have m800 := Al.row e798 m678
        have m801 := Al.row e798 m679
        have k803 := Al.new e798
        have k804 := Al.old e798 k675
        have k805 := Al.old e798 k676
        have k806 := Al.old e798 k677
        have z807 := Al.size e798
        have q808 := Al.kept e798 q681
        refine ⟨fun _ => (⟨k804, k805⟩), ?_⟩
        refine AH.one 0 (by kernel_rfl) (AO.stepE rfl trivial (R.slice0 s41) rfl fun w810 e809 => ?_)
        have m811 := Al.row e809 m800
        have m812 := Al.row e809 m801
        have k814 := Al.new e809
        have k815 := Al.old e809 k804
        have k816 := Al.old e809 k805
        have k817 := Al.old e809 k806
        have k818 := Al.old e809 k803
        have z819 := Al.size e809
        have q820 := Al.kept e809 q808
        refine ⟨fun _ => (⟨k815, k816⟩), ?_⟩
        have hrow : Row w810 75 65 (.slice (some ⟨w799.heap.size, 0, none⟩) 0 0) 0 [] (fun k => k = w799.heap.size) := Row.mk _ _ 0 [] k814 (Nat.le_refl _) (Nat.zero_le _) rfl rfl rfl
        refine AH.one 3 (by kernel_rfl) (AO.bind rfl trivial (R.appendR e41 rfl hrow rfl m812 (oneCell_flat one_wcells _) (by simp only [maxLen]; omega) (by omega)) rfl ?_)
        rintro v821 w822 ⟨hr823, hk824⟩
        have hz1 := (hk824).size
        have hzk := (q820).size
        obtain ⟨a31, c31, rfl, _⟩ := hr823.shape
        simp only [Nat.zero_add, List.nil_append] at hr823 ⊢
        have hr31 : Row w822 75 65 (.slice a31 X.pend.length c31) X.pend.length (X.pend.flatMap wcells) (fun k => w.heap.size ≤ k) := hr823.mono (fun k hk => by rcases hk with hk | hk <;> omega)
        have q825 : Kept (fun _ => False) w w822 := Kept.trans q820 hk824 (fun k hlt hk => by have hk : k = w799.heap.size := hk; omega)
        have k826 := Kept.old hk824 k815 (fun hk => by have hk : _ = w799.heap.size := hk; omega)
        have k827 := Kept.old hk824 k816 (fun hk => by have hk : _ = w799.heap.size := hk; omega)
        have k828 := Kept.old hk824 k817 (fun hk => by have hk : _ = w799.heap.size := hk; omega)
        have k829 := Kept.old hk824 k818 (fun hk => by have hk : _ = w799.heap.size := hk; omega)
        have m830 := Row.keptOwn m811 hk824 (fun g9 hg9 e9 => by have e9 : g9 = w799.heap.size := e9; have := hslt g9 hg9; omega)
        have m831 := Row.keptOwn m812 hk824 (fun g9 hg9 e9 => by have e9 : g9 = w799.heap.size := e9; have := hplt g9 hg9; omega)
        have hlt31 := hr31.lt
        refine ⟨fun _ => (⟨k826, k827⟩), ?_⟩
        have hzk8 := (q825).size
        refine AH.one 8 (by kernel_rfl) (AO.bind rfl trivial (R.append e41 (v := .slice a31 X.pend.length c31) rfl (Row.own hr31) rfl (news := wcells (i.toNat, b)) (wcells65 (p := (i.toNat, b)) hb) (news_at k829) (one_wcells _) (by simp only [maxLen]; omega) (by omega)) rfl ?_)
        rintro v832 w833 ⟨hr834, hk835, _, _⟩
        have hz8 := (hk835).size
        obtain ⟨a36, c36, rfl, _⟩ := hr834.shape
        have hr36 : Row w833 75 65 (.slice a36 (X.pend.length + 1) c36) (X.pend.length + 1) ((X.pend ++ [(i.toNat, b)]).flatMap wcells) (fun k => w.heap.size ≤ k) := by
          simp only [List.flatMap_append, List.flatMap_cons, List.flatMap_nil, List.append_nil]
          exact hr834.mono (fun k hk => by rcases hk with hk | hk; exact hr31.2 k hk; omega)
        have q836 : Kept (fun _ => False) w w833 := Kept.trans q825 hk835 (fun k hlt hk => absurd (hr31.2 k hk) (by omega))
        have k837 := Kept.old hk835 k826 (Row.apart hr31 k826 (by decide))
        have k838 := Kept.old hk835 k827 (Row.apart hr31 k827 (by decide))
        have k839 := Kept.old hk835 k828 (Row.apart hr31 k828 (by decide))
        have m840 := Row.keptOwn m830 hk835 (fun g9 hg9 e9 => absurd (hr31.2 g9 e9) (by have := hslt g9 hg9; omega))
        have m841 := Row.keptOwn m831 hk835 (fun g9 hg9 e9 => absurd (hr31.2 g9 e9) (by have := hplt g9 hg9; omega))
        have hlt36 := hr36.lt
        refine ⟨fun _ => (⟨k837, k838⟩), ?_⟩
        refine AH.take 9 rfl (by kernel_rfl) (by kernel_rfl) (by kernel_rfl) (by kernel_rfl) (fun _ _ _ h => h) rfl trivial (fun _ hS => (R.fieldAddrV (o2 := 1) f43_1 rfl rfl)) (⟨k837, k838⟩) ?_
        refine AH.one 10 (by kernel_rfl) (AO.doesE rfl trivial (R.store1 c41 rfl (v := .slice a36 (X.pend.length + 1) c36) rfl rfl k837 rfl) fun w843 e842 => ?_)
        have m844 := So.rowE e842 m840 k837 (by decide)
        have m845 := So.rowE e842 m841 k837 (by decide)
        have m846 := So.rowE e842 hr36 k837 (by decide)
        have k847 := So.hit e842 k837
        have k848 := So.old e842 (apartE k838 k837 (by decide)) k838
        have k849 := So.old e842 (by omega) k839
        have z850 := So.size e842
        have q851 := So.kept e842 q836 (fun h => absurd h (by omega))
        refine ⟨fun h => absurd h (by decide), ?_⟩
        refine AH.done (by kernel_rfl) ?_
        refine C.seq ?_
        refine C.region ?_
        refine L.step (R.loadA (cs := [.slice aS X.safe.length cS, .slice a36 (X.pend.length + 1) c36, .bool Z.dead, .int .i64 Z.left, .int .i64 Z.fails, .int .i64 Z.ops]) r43 rfl k847 rfl rfl) rfl ?_
        refine L.doesE (R.storeAll (cs := [.slice aS X.safe.length cS, .slice a36 (X.pend.length + 1) c36, .bool Z.dead, .int .i64 Z.left, .int .i64 Z.fails, .int .i64 Z.ops]) r43 rfl rfl rfl (by simp [Value.oneCell']) k849 rfl) fun w853 e852 => ?_
        have m854 := So.rowE e852 m844 k849 (by decide)
        have m855 := So.rowE e852 m845 k849 (by decide)
        have m856 := So.rowE e852 m846 k849 (by decide)
        have k857 := So.old e852 (by omega) k847
        have k858 := So.old e852 (apartE k848 k849 (by decide)) k848
        have k859 := So.hit e852 k849
        have z860 := So.size e852
        have q861 := So.kept e852 q851 (fun h => absurd h (by omega))
        refine L.step (R.assignV (v := .int .i64 0) rfl) rfl ?_
        refine L.nil ?_
        refine C.ret (?_ : RetOk _ _ _ _ _)
        refine RetOk.ctV (u := .int .i64 0) rfl rfl (loadVarA (cs := [.slice aS X.safe.length cS, .slice a36 (X.pend.length + 1) c36, .bool Z.dead, .int .i64 Z.left, .int .i64 Z.fails, .int .i64 Z.ops]) r43 k859 rfl rfl) rfl ?_
        have hsy : X.write i b = ({ Z with pend := Z.pend ++ [(i.toNat, b)] }, 0) := by unfold RD.write; rw [← her, if_neg (by decide), ← hY, if_neg (by rw [hd]; decide), ← hZ]
        rw [hsy]
        have hl9 : (Z.pend ++ [(i.toNat, b)]).length = X.pend.length + 1 := by rw [hZp]; simp
        exact ⟨_, rfl, ⟨hZok.push (by rw [hZs]; omega) hb, _, _, rfl, by show Row _ 27 64 _ Z.safe.length (Z.safe.flatMap bcells) _; rw [hZs]; exact m854.mono grow_sub, by
          show Row _ 75 65 _ (Z.pend ++ [(i.toNat, b)]).length ((Z.pend ++ [(i.toNat, b)]).flatMap wcells) _
          rw [hl9, hZp]
          have hlt9 := m856.lt
          exact ⟨m856.1, fun k9 hk9 => .inr ⟨m856.2 k9 hk9, hlt9 k9 hk9⟩⟩⟩, q861⟩
    ·
      rw [hd]
      refine L.step (R.moveV (v := .tuple #[.agg (List.toArray ([.slice aS X.safe.length cS, .slice aP X.pend.length cP, .bool Z.dead, .int .i64 Z.left, .int .i64 Z.fails, .int .i64 Z.ops])), .bool false]) rfl) rfl ?_
      refine L.step (R.extract (v := .agg (List.toArray ([.slice aS X.safe.length cS, .slice aP X.pend.length cP, .bool Z.dead, .int .i64 Z.left, .int .i64 Z.fails, .int .i64 Z.ops]))) rfl rfl) rfl ?_
      refine L.step (R.extract (v := .bool false) rfl rfl) rfl ?_
      refine L.doesE (R.storeAll (cs := [.slice aS X.safe.length cS, .slice aP X.pend.length cP, .bool Z.dead, .int .i64 Z.left, .int .i64 Z.fails, .int .i64 Z.ops]) r43 rfl rfl rfl (by simp [Value.oneCell']) k657 rfl) fun w863 e862 => ?_
      have m864 := So.rowE e862 m662 k657 (by decide)
      have m865 := So.rowE e862 m663 k657 (by decide)
      have k866 := So.hit e862 k657
      have k867 := So.old e862 (apartE k658 k657 (by decide)) k658
      have k868 := So.old e862 (by omega) k659
      have z869 := So.size e862
      have q870 := So.kept e862 q661 (fun h => absurd h (by omega))
      refine L.step (R.assignV (v := .bool false) rfl) rfl ?_
      refine L.nil ?_
      refine C.seq ?_
      refine C.seq ?_
      refine C.region ?_
      refine L.step (R.moveV (v := .bool false) rfl) rfl ?_
      refine L.step (R.notV (v := .bool true) rfl rfl) rfl ?_
      refine L.nil ?_
      refine C.condT rfl ?_
      refine C.seq ?_
      refine C.region ?_
      refine L.step (R.loadA (cs := [.slice aS X.safe.length cS, .slice aP X.pend.length cP, .bool Z.dead, .int .i64 Z.left, .int .i64 Z.fails, .int .i64 Z.ops]) r43 rfl k866 rfl rfl) rfl ?_
      refine L.doesE (R.storeAll (cs := [.slice aS X.safe.length cS, .slice aP X.pend.length cP, .bool Z.dead, .int .i64 Z.left, .int .i64 Z.fails, .int .i64 Z.ops]) r43 rfl rfl rfl (by simp [Value.oneCell']) k868 rfl) fun w872 e871 => ?_
      have m873 := So.rowE e871 m864 k868 (by decide)
      have m874 := So.rowE e871 m865 k868 (by decide)
      have k875 := So.old e871 (by omega) k866
      have k876 := So.old e871 (apartE k867 k868 (by decide)) k867
      have k877 := So.hit e871 k868
      have z878 := So.size e871
      have q879 := So.kept e871 q870 (fun h => absurd h (by omega))
      refine L.step (R.assignV (v := .int .i64 9) rfl) rfl ?_
      refine L.nil ?_
      refine C.ret (?_ : RetOk _ _ _ _ _)
      refine RetOk.ctV (u := .int .i64 9) rfl rfl (loadVarA (cs := [.slice aS X.safe.length cS, .slice aP X.pend.length cP, .bool Z.dead, .int .i64 Z.left, .int .i64 Z.fails, .int .i64 Z.ops]) r43 k877 rfl rfl) rfl ?_
      have hsy : X.write i b = (Z, 9) := by unfold RD.write; rw [← her, if_neg (by decide), ← hY, if_pos hd, ← hZ]
      rw [hsy]
      exact ⟨_, rfl, ⟨hZok, _, _, rfl, by show Row _ 27 64 _ Z.safe.length (Z.safe.flatMap bcells) _; rw [hZs]; exact m873.mono grow_sub, by show Row _ 75 65 _ Z.pend.length (Z.pend.flatMap wcells) _; rw [hZp]; exact m874.mono grow_sub⟩, q879⟩
  ·
    refine L.step (R.neqT rfl rfl he) rfl ?_
    refine L.nil ?_
    refine C.condT rfl ?_
    refine C.seq ?_
    refine C.region ?_
    refine L.step (R.loadA (cs := [.slice aS X.safe.length cS, .slice aP X.pend.length cP, .bool Y.dead, .int .i64 Y.left, .int .i64 Y.fails, .int .i64 Y.ops]) r43 rfl k650 rfl rfl) rfl ?_
    refine L.step (R.moveV (v := .int .i64 er) rfl) rfl ?_
    refine L.doesE (R.storeAll (cs := [.slice aS X.safe.length cS, .slice aP X.pend.length cP, .bool Y.dead, .int .i64 Y.left, .int .i64 Y.fails, .int .i64 Y.ops]) r43 rfl rfl rfl (by simp [Value.oneCell']) k652 rfl) fun w881 e880 => ?_
    have m882 := So.rowE e880 m648 k652 (by decide)
    have m883 := So.rowE e880 m649 k652 (by decide)
    have k884 := So.old e880 (by omega) k650
    have k885 := So.old e880 (apartE k651 k652 (by decide)) k651
    have k886 := So.hit e880 k652
    have z887 := So.size e880
    have q888 := So.kept e880 q654 (fun h => absurd h (by omega))
    refine L.step (R.assignV (v := .int .i64 er) rfl) rfl ?_
    refine L.nil ?_
    refine C.ret (?_ : RetOk _ _ _ _ _)
    refine RetOk.ctV (u := .int .i64 er) rfl rfl (loadVarA (cs := [.slice aS X.safe.length cS, .slice aP X.pend.length cP, .bool Y.dead, .int .i64 Y.left, .int .i64 Y.fails, .int .i64 Y.ops]) r43 k886 rfl rfl) rfl ?_
    have hsy : X.write i b = (Y, er) := by unfold RD.write; rw [← her, if_pos he]; exact Prod.ext hY.symm her.symm
    rw [hsy]
    exact ⟨_, rfl, ⟨hYok, _, _, rfl, by show Row _ 27 64 _ Y.safe.length (Y.safe.flatMap bcells) _; rw [hYs]; exact m882.mono grow_sub, by show Row _ 75 65 _ Y.pend.length (Y.pend.flatMap wcells) _; rw [hYp]; exact m883.mono grow_sub⟩, q888⟩
end Go.Proofs.Ytpblppilknkdoaa
