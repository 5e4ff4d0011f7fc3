/- The reference's disk: all, live, Crash. -/
import Derived.Test.YtpblppilknkdoaaD21
namespace Go.Proofs.Ytpblppilknkdoaa
open Go Go.Eng Go.Proofs
attribute [local irreducible] Go.Eng.C Go.Eng.L Go.Eng.Ret Go.Eng.Run Go.Eng.Does Go.Eng.Enters Go.Eng.AH Go.Eng.AO Go.Eng.RetOk
theorem fillT {j n : Nat} (h : j < n) : (List.replicate j (Value.bool true) ++ List.replicate (n - j) (Value.bool false)).set j (.bool true) = List.replicate (j + 1) (.bool true) ++ List.replicate (n - (j + 1)) (.bool false) := by
  obtain ⟨d, rfl⟩ := Nat.exists_eq_add_of_lt h
  rw [show j + d + 1 - j = d + 1 by omega, show j + d + 1 - (j + 1) = d by omega, List.set_append_right _ _ (by simp), List.length_replicate, Nat.sub_self, List.replicate_succ, List.set_cons_zero, List.replicate_succ', List.append_assoc]
  rfl
theorem boolsT {w : World} {b n c : Nat} (h : w.heap[b]? = some (blk (List.replicate n (.bool true)) 4)) : BoolsAt w (.slice (some ⟨b, 0, none⟩) n c) (List.replicate n true) (fun k => k = b) := by
  refine .inr ⟨b, 0, c, by simp, rfl, fun k x hx => ?_⟩
  have hk : k < n := by simpa using (List.getElem?_eq_some_iff.1 hx).1
  have hx' : x = true := by rw [List.getElem?_replicate, if_pos hk] at hx; exact (Option.some.inj hx).symm
  rw [cell_at h, Nat.zero_add, List.getElem?_replicate, if_pos hk, hx']
theorem getDT {n k : Nat} (h : k < n) : (List.replicate n true).getD k false = true := by rw [List.getD_eq_getElem?_getD, List.getElem?_replicate, if_pos h]; rfl
theorem R.appendR {P : Program} {σ : Env} {w : World} {ty t e : TypeId} {sz bytes : Nat} {x y : Operand} {v u : Value} {m k : Nat} {xs news : List Value} {F G : Nat → Prop} (hT : ElemT P t e sz bytes) (hx : ev σ x = v) (hrow : Row w e sz v m xs F) (hy : ev σ y = u) (hsrc : Row w e sz u k news G)
    (h1 : ∀ u ∈ news, u.oneCell' = true) (h63 : m + k ≤ maxLen) (hby : (m + k) * bytes ≤ 140737488355328) :
    ∃ v' w', Run P σ w (.call { callee := .builtin .append, args := #[x, y], argTypes := #[t, t] }) ty v' w' ∧ (Row w' e sz v' (m + k) (xs ++ news) (grow F w w') ∧ Kept F w w') := by
  rcases hsrc.any with ⟨rfl, rfl, rfl⟩ | ⟨g, cap, l, rfl, hF, hg, hnc, hl, ht⟩
  · obtain ⟨v', w', hr, h2, h3⟩ := R.append0 (ty := ty) hT hx hrow hy (by omega) (by simpa using hby)
    exact ⟨v', w', hr, by simpa using h2, h3⟩
  · obtain ⟨v', w', hr, h2, h3, _⟩ := R.append (ty := ty) hT hx hrow hy hsrc.length (fun j u hu => by rw [Nat.zero_add]; exact hsrc.cells rfl j u hu) h1 h63 hby
    exact ⟨v', w', hr, h2, h3⟩
set_option maxHeartbeats 1000000 in
theorem all_calls {w : World} {X : RD} {aS aP : Option Addr} {cS cP : Nat} (hm : X.pend.length ≤ 1000000) :
    Ret Try.prog 55 #[.agg (rcells (.slice aS X.safe.length cS) (.slice aP X.pend.length cP) X).toArray] w fun v w' => BoolsAt w' v (List.replicate X.pend.length true) (fun k => w.heap.size ≤ k ∧ k < w'.heap.size) ∧ Kept (fun _ => False) w w' := by
  have hq := Kept.refl (fun _ => False) w
  refine Ret.intro [.agg (List.toArray ([.slice aS X.safe.length cS, .slice aP X.pend.length cP, .bool X.dead, .int .i64 X.left, .int .i64 X.fails, .int .i64 X.ops]))] Try.func55 rfl rfl ?_
  refine C.seq ?_
  refine C.region ?_
  refine L.stepE (R.boxA (cs := [.slice aS X.safe.length cS, .slice aP X.pend.length cP, .bool X.dead, .int .i64 X.left, .int .i64 X.fails, .int .i64 X.ops]) rfl) rfl fun w502 e501 => ?_
  have k504 := Al.new e501
  have z505 := Al.size e501
  have q506 := Al.kept e501 hq
  refine L.step (R.assignV (v := .slice none 0 0) rfl) rfl ?_
  refine L.nil ?_
  refine C.seq ?_
  refine C.region ?_
  refine L.step (R.fieldAddrV (o2 := 1) f43_1 rfl rfl) rfl ?_
  refine L.step (R.load1 (v := .slice aP X.pend.length cP) c41 rfl k504 rfl) rfl ?_
  refine L.step (R.lenV (v := .int .i64 ((X.pend.length : Nat) : Int)) Try.underlying41 rfl rfl) rfl ?_
  refine L.stepE (R.makeU (l := X.pend.length) (m := X.pend.length) e30 z4 rfl rfl rfl rfl (Nat.le_refl _) (by omega) (by omega)) rfl fun w508 e507 => ?_
  have k510 := Al.new e507
  have k511 := Al.old e507 k504
  have z512 := Al.size e507
  have q513 := Al.kept e507 q506
  refine L.step (R.assignV (v := .slice (some ⟨w502.heap.size, 0, none⟩) X.pend.length X.pend.length) rfl) rfl ?_
  refine L.nil ?_
  refine C.seq ?_
  refine C.seq ?_
  refine C.region ?_
  refine L.step (R.moveV (v := .slice (some ⟨w502.heap.size, 0, none⟩) X.pend.length X.pend.length) rfl) rfl ?_
  refine L.step (R.lenV (v := .int .i64 ((X.pend.length : Nat) : Int)) Try.underlying30 rfl rfl) rfl ?_
  refine L.step (R.moveV (v := .int .i64 0) rfl) rfl ?_
  refine L.nil ?_
  refine C.block ?_
  refine C.loop (α := Nat) (fun j => [(3, .slice (some ⟨w502.heap.size, 0, none⟩) X.pend.length X.pend.length), (10, .int .i64 ((X.pend.length : Nat) : Int)), (11, .int .i64 ((j : Nat) : Int))]) (fun j W => j ≤ X.pend.length ∧ Kept (fun _ => False) w W ∧ W.heap[w502.heap.size]? = some (blk (List.replicate j (.bool true) ++ List.replicate (X.pend.length - j) (.bool false)) 4)) (fun j => X.pend.length - j) ⟨0, ⟨rfl, rfl, rfl, trivial⟩, ⟨Nat.zero_le _, q513, by simpa using k510⟩⟩ ?_
  intro j g515 w514 hI516
  obtain ⟨hj, hq, hbk⟩ := hI516
  have hsz := hq.size
  have hbkl := at_lt _ _ hbk
  refine C.seq ?_
  refine C.region ?_
  rcases Classical.em (((j : Nat) : Int) < ((X.pend.length : Nat) : Int)) with ht517 | ht517
  ·
    refine L.step (R.lssT rfl rfl (ht517)) rfl ?_
    refine L.nil ?_
    refine C.seq ?_
    refine C.condT rfl ?_
    refine C.skip ?_
    refine C.seq ?_
    refine C.block ?_
    refine C.seq ?_
    refine C.region ?_
    refine L.step (R.moveV (v := .int .i64 ((j : Nat) : Int)) rfl) rfl ?_
    refine L.step (R.assignV (v := .int .i64 ((j : Nat) : Int)) rfl) rfl ?_
    refine L.nil ?_
    refine C.region ?_
    refine L.step (R.moveV (v := .slice (some ⟨w502.heap.size, 0, none⟩) X.pend.length X.pend.length) rfl) rfl ?_
    refine L.step (R.moveV (v := .int .i64 ((j : Nat) : Int)) rfl) rfl ?_
    refine L.step (R.indexAddrV (m := j) (o2 := j) s30 rfl rfl rfl (by omega) (by omega)) rfl ?_
    refine L.doesE (R.store1 c4 rfl (v := .bool true) rfl rfl hbk (by rw [Nat.blt_eq, List.length_append, List.length_replicate, List.length_replicate]; omega)) fun w519 e518 => ?_
    rw [fillT (by omega)] at e518
    have k520 := So.hit e518 hbk
    have z521 := So.size e518
    have q522 := So.kept e518 hq (fun h => absurd h (by omega))
    refine L.nil ?_
    refine C.region ?_
    refine L.step (R.add rfl rfl (by omega)) rfl ?_
    refine L.step (R.moveV (v := .int .i64 (((j : Nat) : Int) + 1)) rfl) rfl ?_
    refine L.nil ?_
    refine thenP.mk ⟨j + 1, ⟨rfl, rfl, rfl, trivial⟩, ⟨by show j + 1 ≤ _; omega, q522, k520⟩, by show X.pend.length - (j + 1) < X.pend.length - j; omega⟩
  ·
    refine L.step (R.lssF rfl rfl (Int.not_lt.1 ht517)) rfl ?_
    refine L.nil ?_
    refine C.seq ?_
    refine C.condF rfl ?_
    refine C.exit ?_
    refine C.seq ?_
    refine C.region ?_
    refine L.step (R.moveV (v := .slice (some ⟨w502.heap.size, 0, none⟩) X.pend.length X.pend.length) rfl) rfl ?_
    refine L.step (R.assignV (v := .slice (some ⟨w502.heap.size, 0, none⟩) X.pend.length X.pend.length) rfl) rfl ?_
    refine L.nil ?_
    refine C.ret (?_ : RetOk _ _ _ _ _)
    refine RetOk.tV (v := .slice (some ⟨w502.heap.size, 0, none⟩) X.pend.length X.pend.length) rfl rfl ?_
    have hbt := hbk
    rw [show j = X.pend.length by omega, Nat.sub_self, List.replicate_zero, List.append_nil] at hbt
    exact ⟨(boolsT hbt).mono (fun k hk => by have e9 : k = w502.heap.size := hk; omega), hq⟩
set_option maxHeartbeats 4000000 in
theorem live_calls {w : World} {x kv : Value} {X : RD} {G Gk : Nat → Prop} {ks : List Bool} (h : RefAt w x X G) (hk : BoolsAt w kv ks Gk) (hn0 : X.safe.length ≤ 1000000) (hm : X.pend.length ≤ 1000000) (hkb : ks.length ≤ 9223372036854775807) :
    Ret Try.prog 54 #[x, kv] w fun v w' => RefAt w' v (X.live fun k => ks.getD k false) (grow (fun _ => False) w w') ∧ Kept (fun _ => False) w w' := by
  obtain ⟨hok, sv, pv, rfl, hs, hp⟩ := h
  obtain ⟨aS, cS, rfl, hsc⟩ := hs.shape
  obtain ⟨aP, cP, rfl, hpc⟩ := hp.shape
  obtain ⟨ka, kc, rfl⟩ := hk.shape
  have hq := Kept.refl (fun _ => False) w
  have hsall : ∀ b ∈ X.safe, (bcells b).length = 64 := fun b hb => bcells64 (hok.blocks b hb)
  have hpall : ∀ p ∈ X.pend, (wcells p).length = 65 := fun p hp => wcells65 (hok.pends p hp).2
  have hslt := hs.lt
  have hplt := hp.lt
  refine Ret.intro [.agg (List.toArray ([.slice aS X.safe.length cS, .slice aP X.pend.length cP, .bool X.dead, .int .i64 X.left, .int .i64 X.fails, .int .i64 X.ops])), .slice ka ks.length kc] Try.func54 rfl rfl ?_
  refine C.seq ?_
  refine C.region ?_
  refine L.stepE (R.boxA (cs := [.slice aS X.safe.length cS, .slice aP X.pend.length cP, .bool X.dead, .int .i64 X.left, .int .i64 X.fails, .int .i64 X.ops]) rfl) rfl fun w524 e523 => ?_
  have m525 := Al.row e523 hs
  have m526 := Al.row e523 hp
  have k528 := Al.new e523
  have z529 := Al.size e523
  have q530 := Al.kept e523 hq
  refine L.stepE (R.alloc z43) rfl fun w532 e531 => ?_
  have m533 := Al.row e531 m525
  have m534 := Al.row e531 m526
  have k536 := Al.new e531
  have k537 := Al.old e531 k528
  have z538 := Al.size e531
  have q539 := Al.kept e531 q530
  refine L.nil ?_
  refine C.seq ?_
  refine C.region ?_
  refine L.stepE (R.slice0 s35) rfl fun w541 e540 => ?_
  have m542 := Al.row e540 m533
  have m543 := Al.row e540 m534
  have k545 := Al.new e540
  have k546 := Al.old e540 k537
  have k547 := Al.old e540 k536
  have z548 := Al.size e540
  have q549 := Al.kept e540 q539
  refine L.step (R.fieldAddrV (o2 := 0) f43_0 rfl rfl) rfl ?_
  refine L.step (R.load1 (v := .slice aS X.safe.length cS) c35 rfl k546 rfl) rfl ?_
  have hrow : Row w541 27 64 (.slice (some ⟨w532.heap.size, 0, none⟩) 0 0) 0 [] (fun k => k = w532.heap.size) := Row.mk _ _ 0 [] k545 (Nat.le_refl _) (Nat.zero_le _) rfl rfl rfl
  refine L.bind (R.appendR e35 rfl hrow rfl m542 (oneCell_flat (fun b => one_bcells b) _) (by simp only [maxLen]; omega) (by omega)) rfl ?_
  rintro v550 w551 ⟨hr552, hk553⟩
  have hz1 := (hk553).size
  have hzk := (q549).size
  obtain ⟨a5, c5, rfl, _⟩ := hr552.shape
  simp only [Nat.zero_add, List.nil_append] at hr552 ⊢
  have hrH : Row w551 27 64 (.slice a5 X.safe.length c5) X.safe.length ((settleN X.safe X.pend (fun k => ks.getD k false) 0).flatMap bcells) (fun k => w.heap.size ≤ k) := hr552.mono (fun k hk => by rcases hk with hk | hk <;> omega)
  have q554 : Kept (fun _ => False) w w551 := Kept.trans q549 hk553 (fun k hlt hk => by have hk : k = w532.heap.size := hk; omega)
  have k555 := Kept.old hk553 k546 (fun hk => by have hk : _ = w532.heap.size := hk; omega)
  have k556 := Kept.old hk553 k547 (fun hk => by have hk : _ = w532.heap.size := hk; omega)
  have m557 := Row.keptOwn m543 hk553 (fun g9 hg9 e9 => by have e9 : g9 = w532.heap.size := e9; have := hplt g9 hg9; omega)
  refine L.step (R.assignV (v := .slice a5 X.safe.length c5) rfl) rfl ?_
  refine L.nil ?_
  refine C.seq ?_
  refine C.seq ?_
  refine C.region ?_
  refine L.step (R.fieldAddrV (o2 := 1) f43_1 rfl rfl) rfl ?_
  refine L.step (R.load1 (v := .slice aP X.pend.length cP) c41 rfl k555 rfl) rfl ?_
  refine L.step (R.lenV (v := .int .i64 ((X.pend.length : Nat) : Int)) Try.underlying41 rfl rfl) rfl ?_
  refine L.step (R.moveV (v := .int .i64 0) rfl) rfl ?_
  refine L.nil ?_
  refine C.block ?_
  refine C.loop (α := Nat) (fun k => [(1, .slice ka ks.length kc), (2, .pointer (some ⟨w.heap.size, 0, none⟩)), (4, .pointer (some ⟨w524.heap.size, 0, none⟩)), (5, .slice a5 X.safe.length c5), (13, .slice aP X.pend.length cP), (14, .int .i64 ((X.pend.length : Nat) : Int)), (15, .int .i64 ((k : Nat) : Int))]) (fun k W => k ≤ X.pend.length ∧ Kept (fun _ => False) w W ∧ W.heap[w.heap.size]? = some (blk ([.slice aS X.safe.length cS, .slice aP X.pend.length cP, .bool X.dead, .int .i64 X.left, .int .i64 X.fails, .int .i64 X.ops]) 43) ∧ W.heap[w524.heap.size]? = some (blk ([.slice none 0 0, .slice none 0 0, .bool false, .int .i64 0, .int .i64 0, .int .i64 0]) 43) ∧ Row W 27 64 (.slice a5 X.safe.length c5) X.safe.length ((settleN X.safe X.pend (fun k => ks.getD k false) k).flatMap bcells) (fun k => w.heap.size ≤ k) ∧ Row W 75 65 (.slice aP X.pend.length cP) X.pend.length (X.pend.flatMap wcells) G) (fun k => X.pend.length - k) ⟨0, ⟨rfl, rfl, rfl, rfl, rfl, rfl, rfl, trivial⟩, ⟨Nat.zero_le _, q554, k555, k556, hrH, m557⟩⟩ ?_
  intro k g559 w558 hI560
  obtain ⟨hkk, hq, h2, h4, hs, hp⟩ := hI560
  have hsz := hq.size
  have h2l := at_lt _ _ h2
  have h4l := at_lt _ _ h4
  have hplt := hp.lt
  refine C.seq ?_
  refine C.region ?_
  rcases Classical.em (((k : Nat) : Int) < ((X.pend.length : Nat) : Int)) with ht561 | ht561
  ·
    refine L.step (R.lssT rfl rfl (ht561)) rfl ?_
    refine L.nil ?_
    refine C.seq ?_
    refine C.condT rfl ?_
    refine C.skip ?_
    refine C.seq ?_
    refine C.block ?_
    refine C.seq ?_
    refine C.region ?_
    refine L.step (R.moveV (v := .int .i64 ((k : Nat) : Int)) rfl) rfl ?_
    obtain ⟨gp, lp, rfl, hFp, hgp, hnp, hmp, hlp, htp⟩ := Row.blockA hp (by omega)
    obtain ⟨p, hpk⟩ : ∃ p, X.pend[k]? = some p := ⟨_, List.getElem?_eq_getElem (by omega)⟩
    obtain ⟨hp1, hp2⟩ := hok.pends p (List.mem_of_getElem? hpk)
    have hgplt := at_lt _ _ hgp
    refine L.step (R.indexAddrV (m := k) (o2 := k * 65) s41 rfl rfl rfl (by omega) (by omega)) rfl ?_
    refine L.step (R.loadA (cs := wcells p) r75 rfl hgp (part_get hpall rfl htp hpk) (wcells65 hp2)) rfl ?_
    refine L.stepE (R.alloc z75) rfl fun w563 e562 => ?_
    have m564 := Al.row e562 hs
    have m565 := Al.row e562 hp
    have k567 := Al.new e562
    have k568 := Al.old e562 h2
    have k569 := Al.old e562 h4
    have k570 := Al.old e562 hgp
    have z571 := Al.size e562
    have q572 := Al.kept e562 hq
    refine L.step (R.assignV (v := .int .i64 ((k : Nat) : Int)) rfl) rfl ?_
    refine L.doesE (R.storeAll (cs := wcells p) r75 rfl rfl (wcells65 hp2) (one_wcells _) k567 rfl) fun w574 e573 => ?_
    have m575 := So.rowE e573 m564 k567 (by decide)
    have m576 := So.rowLt e573 m565 hplt (by omega)
    have k577 := So.old e573 (apartE k568 k567 (by decide)) k568
    have k578 := So.old e573 (apartE k569 k567 (by decide)) k569
    have k579 := So.old e573 (by omega) k570
    have k580 := So.hit e573 k567
    have z581 := So.size e573
    have q582 := So.kept e573 q572 (fun h => absurd h (by omega))
    refine L.nil ?_
    refine C.seq ?_
    refine C.region ?_
    refine L.step (R.moveV (v := .int .i64 ((k : Nat) : Int)) rfl) rfl ?_
    refine L.step (R.moveV (v := .slice ka ks.length kc) rfl) rfl ?_
    refine L.step (R.lenV (v := .int .i64 ((ks.length : Nat) : Int)) Try.underlying30 rfl rfl) rfl ?_
    rcases Classical.em (k < ks.length) with hkl | hkl
    ·
      refine L.step (R.lssT rfl rfl (by omega)) rfl ?_
      refine L.step (R.moveV (v := .bool true) rfl) rfl ?_
      refine L.yes rfl rfl rfl ?_
      refine L.step (R.moveV (v := .slice ka ks.length kc) rfl) rfl ?_
      refine L.yes rfl rfl rfl ?_
      refine L.step (R.moveV (v := .int .i64 ((k : Nat) : Int)) rfl) rfl ?_
      refine L.yes rfl rfl rfl ?_
      obtain ⟨b9, ob, hka, hG9, hcell⟩ := (hk.kept q582 (fun _ _ h => h)).blockA (by omega)
      obtain ⟨y, hy⟩ : ∃ x, ks[k]? = some x := ⟨_, List.getElem?_eq_getElem hkl⟩
      have hyk : ks.getD k false = y := by simp [List.getD, hy]
      refine L.step (R.indexAddrV (b := b9) (o := ob) (len := ks.length) (cap := kc) (m := k) (o2 := ob + k) s30 (by show Value.slice ka ks.length kc = _; rw [hka]) rfl rfl hkl (by omega)) rfl ?_
      refine L.yes rfl rfl rfl ?_
      refine L.step (R.loadC (v := .bool (ks.getD k false)) c4 rfl (by rw [hyk]; exact hcell k y hy)) rfl ?_
      refine L.step (R.pickTV (v := .bool (ks.getD k false)) rfl rfl) rfl ?_
      refine L.nil ?_
      refine C.cond rfl (fun hc583 => ?_) (fun hc583 => ?_)
      ·
        refine C.region ?_
        refine L.step (R.moveV (v := .slice a5 X.safe.length c5) rfl) rfl ?_
        refine L.step (R.fieldAddrV (o2 := 0) f75_0 rfl rfl) rfl ?_
        refine L.step (R.load1 (v := .int .i64 (p.1 : Int)) c3 rfl k580 rfl) rfl ?_
        refine L.step (R.fieldAddrV (o2 := 1) f75_1 rfl rfl) rfl ?_
        refine L.step (R.loadA (cs := bcells p.2) r27 rfl k580 (wcells_tail hp2) (bcells64 hp2)) rfl ?_
        obtain ⟨gs, ls, rfl, hFs, hgs, hns, hms, hls, hts⟩ := Row.blockA m575 (by omega)
        refine L.step (R.indexAddrV (m := p.1) (o2 := p.1 * 64) s35 rfl rfl rfl hp1 (by omega)) rfl ?_
        have hsall9 := fun b hb => bcells64 (all_settleN (f := fun k => ks.getD k false) hok.blocks hok.pends k b hb)
        have hroom : p.1 * 64 + 64 ≤ ls.length := by rw [hls]; omega
        refine L.doesE (R.storeA (cs := bcells p.2) r27 rfl rfl (bcells64 hp2) (one_bcells _) hgs hroom) fun w585 e584 => ?_
        have m587 := So.rowE e584 m576 hgs (by decide)
        have k588 := So.old e584 (apartE k577 hgs (by decide)) k577
        have k589 := So.old e584 (apartE k578 hgs (by decide)) k578
        have k590 := So.old e584 (apartE k579 hgs (by decide)) k579
        have k591 := So.old e584 (apartE k580 hgs (by decide)) k580
        have k592 := So.hit e584 hgs
        have z593 := So.size e584
        have q594 := So.kept e584 q582 (fun h => absurd hFs (by show ¬ w.heap.size ≤ gs; omega))
        have m595 : Row w585 27 64 (.slice (some ⟨gs, 0, none⟩) X.safe.length c5) X.safe.length ((settleN X.safe X.pend (fun k => ks.getD k false) (k + 1)).flatMap bcells) (fun k => w.heap.size ≤ k) := Row.mk w585 gs c5 _ k592 hns hms (by rw [length_splice, hls]) (by
            rw [settleN_yes hpk hc583, ← length_settleN (safe := X.safe) (pend := X.pend) (f := (fun k => ks.getD k false)) k] 
            exact part_set hsall9 (by rw [length_settleN]; exact hts) (by rw [length_settleN]; exact hp1) p.2 (bcells64 hp2)) hFs
        refine L.nil ?_
        refine C.region ?_
        refine L.step (R.add rfl rfl (by omega)) rfl ?_
        refine L.step (R.moveV (v := .int .i64 (((k : Nat) : Int) + 1)) rfl) rfl ?_
        refine L.nil ?_
        refine thenP.mk ⟨k + 1, ⟨rfl, rfl, rfl, rfl, rfl, rfl, rfl, trivial⟩, ⟨by show k + 1 ≤ _; omega, q594, k588, k589, m595, m587⟩, by show X.pend.length - (k + 1) < X.pend.length - k; omega⟩
      ·
        refine C.skip ?_
        refine C.region ?_
        refine L.step (R.add rfl rfl (by omega)) rfl ?_
        refine L.step (R.moveV (v := .int .i64 (((k : Nat) : Int) + 1)) rfl) rfl ?_
        refine L.nil ?_
        refine thenP.mk ⟨k + 1, ⟨rfl, rfl, rfl, rfl, rfl, rfl, rfl, trivial⟩, ⟨by show k + 1 ≤ _; omega, q582, k577, k578, (by rw [settleN_no hc583]; exact m575), m576⟩, by show X.pend.length - (k + 1) < X.pend.length - k; omega⟩
    ·
      refine L.step (R.lssF rfl rfl (by omega)) rfl ?_
      have hkf : ks.getD k false = false := by rw [List.getD, List.getElem?_eq_none (by omega)]; rfl
      refine L.step (R.moveV (v := .bool false) rfl) rfl ?_
      refine L.no rfl rfl rfl (.inl rfl) ?_
      refine L.no rfl rfl rfl (.inl rfl) ?_
      refine L.no rfl rfl rfl (.inl rfl) ?_
      refine L.no rfl rfl rfl (.inl rfl) ?_
      refine L.step (R.pickFV (v := .bool false) rfl rfl) rfl ?_
      refine L.nil ?_
      refine C.condF rfl ?_
      refine C.skip ?_
      refine C.region ?_
      refine L.step (R.add rfl rfl (by omega)) rfl ?_
      refine L.step (R.moveV (v := .int .i64 (((k : Nat) : Int) + 1)) rfl) rfl ?_
      refine L.nil ?_
      refine thenP.mk ⟨k + 1, ⟨rfl, rfl, rfl, rfl, rfl, rfl, rfl, trivial⟩, ⟨by show k + 1 ≤ _; omega, q582, k577, k578, (by rw [settleN_no hkf]; exact m575), m576⟩, by show X.pend.length - (k + 1) < X.pend.length - k; omega⟩
  ·
    refine L.step (R.lssF rfl rfl (Int.not_lt.1 ht561)) rfl ?_
    refine L.nil ?_
    refine C.seq ?_
    refine C.condF rfl ?_
    refine C.exit ?_
    refine C.seq ?_
    refine C.region ?_
    refine L.step (R.moveV (v := .slice a5 X.safe.length c5) rfl) rfl ?_
    refine L.step (R.fieldAddrV (o2 := 0) f43_0 rfl rfl) rfl ?_
    refine L.doesE (R.store1 c35 rfl (v := .slice a5 X.safe.length c5) rfl rfl h2 rfl) fun w597 e596 => ?_
    have m598 := So.rowE e596 hs h2 (by decide)
    have m599 := So.rowE e596 hp h2 (by decide)
    have k600 := So.hit e596 h2
    have k601 := So.old e596 (by omega) h4
    have z602 := So.size e596
    have q603 := So.kept e596 hq (fun h => absurd h (by omega))
    refine L.step (R.fieldAddrV (o2 := 1) f43_1 rfl rfl) rfl ?_
    refine L.doesE (R.store1 c41 rfl (v := .slice none 0 0) rfl rfl k600 rfl) fun w605 e604 => ?_
    have m606 := So.rowE e604 m598 k600 (by decide)
    have m607 := So.rowE e604 m599 k600 (by decide)
    have k608 := So.hit e604 k600
    have k609 := So.old e604 (by omega) k601
    have z610 := So.size e604
    have q611 := So.kept e604 q603 (fun h => absurd h (by omega))
    refine L.nil ?_
    refine C.seq ?_
    refine C.region ?_
    refine L.step (R.loadA (cs := [.slice a5 X.safe.length c5, .slice none 0 0, .bool X.dead, .int .i64 X.left, .int .i64 X.fails, .int .i64 X.ops]) r43 rfl k608 rfl rfl) rfl ?_
    refine L.doesE (R.storeAll (cs := [.slice a5 X.safe.length c5, .slice none 0 0, .bool X.dead, .int .i64 X.left, .int .i64 X.fails, .int .i64 X.ops]) r43 rfl rfl rfl (by simp [Value.oneCell']) k609 rfl) fun w613 e612 => ?_
    have m614 := So.rowE e612 m606 k609 (by decide)
    have m615 := So.rowE e612 m607 k609 (by decide)
    have k616 := So.old e612 (by omega) k608
    have k617 := So.hit e612 k609
    have z618 := So.size e612
    have q619 := So.kept e612 q611 (fun h => absurd h (by omega))
    refine L.nil ?_
    refine C.ret (?_ : RetOk _ _ _ _ _)
    refine RetOk.c rfl rfl (loadVarA (cs := [.slice a5 X.safe.length c5, .slice none 0 0, .bool X.dead, .int .i64 X.left, .int .i64 X.fails, .int .i64 X.ops]) r43 k617 rfl rfl) ?_
    have hkn : k = X.pend.length := by omega
    have hsr := m614
    rw [hkn] at hsr
    refine ⟨⟨hok.live _, _, _, rfl, ?_, Row.nil _ _ _ _⟩, q619⟩
    have hl : (X.live (fun k => ks.getD k false)).safe.length = X.safe.length := length_settleN _
    rw [hl]
    have hlt9 := hsr.lt
    exact ⟨hsr.1, fun k9 hk9 => .inr ⟨hsr.2 k9 hk9, by have := hlt9 k9 hk9; omega⟩⟩
set_option maxHeartbeats 2000000 in
theorem rcrash_calls {w : World} {x kv : Value} {X : RD} {G Gk : Nat → Prop} {ks : List Bool} (h : RefAt w x X G) (hk : BoolsAt w kv ks Gk) (hn0 : X.safe.length ≤ 1000000) (hm : X.pend.length ≤ 1000000) (hkb : ks.length ≤ 9223372036854775807) :
    Ret Try.prog 39 #[x, kv] w fun v w' => RefAt w' v (X.crash fun k => ks.getD k false) (grow (fun _ => False) w w') ∧ Kept (fun _ => False) w w' := by
  obtain ⟨hok, sv, pv, rfl, hs, hp⟩ := h
  obtain ⟨aS, cS, rfl, hsc⟩ := hs.shape
  obtain ⟨aP, cP, rfl, hpc⟩ := hp.shape
  obtain ⟨ka, kc, rfl⟩ := hk.shape
  have hq := Kept.refl (fun _ => False) w
  have hslt := hs.lt
  have hplt := hp.lt
  refine Ret.intro [.agg (List.toArray ([.slice aS X.safe.length cS, .slice aP X.pend.length cP, .bool X.dead, .int .i64 X.left, .int .i64 X.fails, .int .i64 X.ops])), .slice ka ks.length kc] Try.func39 rfl rfl ?_
  refine C.seq ?_
  refine C.region ?_
  refine L.stepE (R.boxA (cs := [.slice aS X.safe.length cS, .slice aP X.pend.length cP, .bool X.dead, .int .i64 X.left, .int .i64 X.fails, .int .i64 X.ops]) rfl) rfl fun w621 e620 => ?_
  have m622 := Al.row e620 hs
  have m623 := Al.row e620 hp
  have k625 := Al.new e620
  have z626 := Al.size e620
  have q627 := Al.kept e620 hq
  refine L.stepE (R.alloc z43) rfl fun w629 e628 => ?_
  have m630 := Al.row e628 m622
  have m631 := Al.row e628 m623
  have k633 := Al.new e628
  have k634 := Al.old e628 k625
  have z635 := Al.size e628
  have q636 := Al.kept e628 q627
  refine L.nil ?_
  refine C.seq ?_
  refine C.region ?_
  refine L.step (R.loadA (cs := [.slice aS X.safe.length cS, .slice aP X.pend.length cP, .bool X.dead, .int .i64 X.left, .int .i64 X.fails, .int .i64 X.ops]) r43 rfl k634 rfl rfl) rfl ?_
  refine L.step (R.moveV (v := .slice ka ks.length kc) rfl) rfl ?_
  obtain ⟨Z, hZ⟩ : ∃ Z, Z = X.live fun k => ks.getD k false := ⟨_, rfl⟩
  refine L.call (E.call2 hb54) rfl (live_calls ⟨hok, _, _, rfl, m630, m631⟩ (hk.kept q636 (fun _ _ h => h)) hn0 hm hkb) ?_
  rintro v640 w637 ⟨hR639, hk638⟩
  rw [← hZ] at hR639
  have hzk := (q636).size
  obtain ⟨zok, svz, pvz, rfl, hsz, hpz⟩ := hR639
  obtain ⟨aSz, cSz, rfl, _⟩ := hsz.shape
  obtain ⟨aPz, cPz, rfl, _⟩ := hpz.shape
  have k641 := Kept.old hk638 k634 (fun h => h)
  have k642 := Kept.old hk638 k633 (fun h => h)
  have z643 := (hk638).size
  have q644 := Kept.trans q636 hk638 (fun _ _ h => h.elim)
  have m645 := Row.kept m630 hk638 (fun _ _ h => h)
  have m646 := Row.kept m631 hk638 (fun _ _ h => h)
  have hsltz := hsz.lt
  have hpltz := hpz.lt
  refine L.doesE (R.storeAll (cs := [.slice aSz Z.safe.length cSz, .slice aPz Z.pend.length cPz, .bool Z.dead, .int .i64 Z.left, .int .i64 Z.fails, .int .i64 Z.ops]) r43 rfl rfl rfl (by simp [Value.oneCell']) k641 rfl) fun w648 e647 => ?_
  have m649 := So.rowE e647 hsz k641 (by decide)
  have m650 := So.rowE e647 hpz k641 (by decide)
  have k651 := So.hit e647 k641
  have k652 := So.old e647 (by omega) k642
  have z653 := So.size e647
  have q654 := So.kept e647 q644 (fun h => absurd h (by omega))
  refine L.nil ?_
  refine C.seq ?_
  refine C.region ?_
  refine L.step (R.fieldAddrV (o2 := 2) f43_2 rfl rfl) rfl ?_
  refine L.doesE (R.store1 c4 rfl (v := .bool false) rfl rfl k651 rfl) fun w656 e655 => ?_
  have m657 := So.rowE e655 m649 k651 (by decide)
  have m658 := So.rowE e655 m650 k651 (by decide)
  have k659 := So.hit e655 k651
  have k660 := So.old e655 (by omega) k652
  have z661 := So.size e655
  have q662 := So.kept e655 q654 (fun h => absurd h (by omega))
  refine L.step (R.fieldAddrV (o2 := 3) f43_3 rfl rfl) rfl ?_
  refine L.doesE (R.store1 c3 rfl (v := .int .i64 (-1)) rfl rfl k659 rfl) fun w664 e663 => ?_
  have m665 := So.rowE e663 m657 k659 (by decide)
  have m666 := So.rowE e663 m658 k659 (by decide)
  have k667 := So.hit e663 k659
  have k668 := So.old e663 (by omega) k660
  have z669 := So.size e663
  have q670 := So.kept e663 q662 (fun h => absurd h (by omega))
  refine L.step (R.fieldAddrV (o2 := 4) f43_4 rfl rfl) rfl ?_
  refine L.doesE (R.store1 c3 rfl (v := .int .i64 (-1)) rfl rfl k667 rfl) fun w672 e671 => ?_
  have m673 := So.rowE e671 m665 k667 (by decide)
  have m674 := So.rowE e671 m666 k667 (by decide)
  have k675 := So.hit e671 k667
  have k676 := So.old e671 (by omega) k668
  have z677 := So.size e671
  have q678 := So.kept e671 q670 (fun h => absurd h (by omega))
  refine L.nil ?_
  refine C.seq ?_
  refine C.region ?_
  refine L.step (R.loadA (cs := [.slice aSz Z.safe.length cSz, .slice aPz Z.pend.length cPz, .bool false, .int .i64 (-1), .int .i64 (-1), .int .i64 Z.ops]) r43 rfl k675 rfl rfl) rfl ?_
  refine L.doesE (R.storeAll (cs := [.slice aSz Z.safe.length cSz, .slice aPz Z.pend.length cPz, .bool false, .int .i64 (-1), .int .i64 (-1), .int .i64 Z.ops]) r43 rfl rfl rfl (by simp [Value.oneCell']) k676 rfl) fun w680 e679 => ?_
  have m681 := So.rowE e679 m673 k676 (by decide)
  have m682 := So.rowE e679 m674 k676 (by decide)
  have k683 := So.old e679 (by omega) k675
  have k684 := So.hit e679 k676
  have z685 := So.size e679
  have q686 := So.kept e679 q678 (fun h => absurd h (by omega))
  refine L.nil ?_
  refine C.ret (?_ : RetOk _ _ _ _ _)
  refine RetOk.c rfl rfl (loadVarA (cs := [.slice aSz Z.safe.length cSz, .slice aPz Z.pend.length cPz, .bool false, .int .i64 (-1), .int .i64 (-1), .int .i64 Z.ops]) r43 k684 rfl rfl) ?_
  have hcr : X.crash (fun k => ks.getD k false) = { Z with dead := false, left := -1, fails := -1 } := by rw [hZ]; rfl
  have hcrok := hok.crash (fun k => ks.getD k false)
  rw [hcr] at hcrok ⊢
  exact ⟨⟨hcrok, _, _, rfl, Row.mono m681 (fun k9 hk9 => hk9.elim (fun h => .inl h) (fun h => .inr (by omega))), Row.mono m682 (fun k9 hk9 => hk9.elim (fun h => .inl h) (fun h => .inr (by omega)))⟩, q686⟩
end Go.Proofs.Ytpblppilknkdoaa
