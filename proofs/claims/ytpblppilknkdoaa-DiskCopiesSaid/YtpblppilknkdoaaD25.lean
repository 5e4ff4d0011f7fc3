/- agree: the program's disk and the reference's. -/
import Derived.Test.YtpblppilknkdoaaD24
namespace Go.Proofs.Ytpblppilknkdoaa
open Go Go.Eng Go.Proofs
attribute [local irreducible] Go.Eng.C Go.Eng.L Go.Eng.Ret Go.Eng.Run Go.Eng.Does Go.Eng.Enters Go.Eng.AH Go.Eng.AO Go.Eng.RetOk
theorem neqBF {P : Program} {σ : Env} {w : World} {ty t u : TypeId} {x y : Operand} {a b : Bool} (hu : P.underlying t = some .bool) (hx : ev σ x = .bool a) (hy : ev σ y = .bool b) (h : a = b) : Run P σ w (.binOp .neq t x y u) ty (.bool false) w := by
  have := R.neqB (w := w) (ty := ty) (u := u) hu hx hy
  subst h
  simpa using this
theorem struck_at {ys l : List Value} {k n : Nat} {a v : Value} (ht : l.take (n * 1) = List.replicate k a ++ ys.drop k) (hv : ys[k]? = some v) (hk : k < n) : l[k * 1]? = some v := by
  have h : (l.take (n * 1))[k]? = some v := by
    rw [ht, List.getElem?_append_right (by simp), List.length_replicate, Nat.sub_self, List.getElem?_drop, Nat.add_zero, hv]
  rw [List.getElem?_take, if_pos (by omega)] at h
  rw [Nat.mul_one]; exact h
theorem struck_set {ys l : List Value} {k n : Nat} {a : Value} (ht : l.take (n * 1) = List.replicate k a ++ ys.drop k) (hy : ys.length = n) (hk : k < n) : (l.set (k * 1) a).take (n * 1) = List.replicate (k + 1) a ++ ys.drop (k + 1) := by
  rw [List.take_set, ht, Nat.mul_one, List.set_append_right _ _ (by simp), List.length_replicate, Nat.sub_self, List.drop_eq_getElem_cons (by omega), List.set_cons_zero, List.replicate_succ', List.append_assoc]
  rfl
set_option maxHeartbeats 4000000 in
theorem agree_calls {w : World} {r : Nat} {D : PD} {F : Nat → Prop} {x : Value} {X : RD} {G : Nat → Prop} (hD : DiskAt w r D F) (h : RefAt w x X G) (h1 : D.safe.length = X.safe.length) (h2 : D.dead = X.dead) (h3 : D.ops = X.ops) (h4 : D.pend = X.pend) (hm : X.pend.length ≤ 1000000) :
    Ret Try.prog 20 #[.pointer (some ⟨r, 0, none⟩), x] w fun v w' => v = .bool true ∧ Kept (fun _ => False) w w' := by
  obtain ⟨hok, sv, pv, rfl, hs, hp⟩ := h
  obtain ⟨aS, cS, rfl, hsc⟩ := hs.shape
  obtain ⟨aP, cP, rfl, hpc⟩ := hp.shape
  have hq := Kept.refl (fun _ => False) w
  have hpall : ∀ p ∈ X.pend, (wcells p).length = 65 := fun p hp => wcells65 (hok.pends p hp).2
  have hslt := hs.lt
  have hplt := hp.lt
  refine Ret.intro [.pointer (some ⟨r, 0, none⟩), .agg (List.toArray ([.slice aS X.safe.length cS, .slice aP X.pend.length cP, .bool X.dead, .int .i64 X.left, .int .i64 X.fails, .int .i64 X.ops]))] Try.func20 rfl rfl ?_
  refine C.seq ?_
  refine C.region ?_
  refine L.stepE (R.boxA (cs := [.slice aS X.safe.length cS, .slice aP X.pend.length cP, .bool X.dead, .int .i64 X.left, .int .i64 X.fails, .int .i64 X.ops]) rfl) rfl fun w502 e501 => ?_
  have m503 := Al.row e501 hs
  have m504 := Al.row e501 hp
  have k506 := Al.new e501
  have z507 := Al.size e501
  have q508 := Al.kept e501 hq
  refine L.step (R.assignV (v := .bool false) rfl) rfl ?_
  refine L.nil ?_
  refine C.seq ?_
  refine C.seq ?_
  refine C.drawE (fun W : World => W.heap[w.heap.size]? = some (blk ([.slice aS X.safe.length cS, .slice aP X.pend.length cP, .bool X.dead, .int .i64 X.left, .int .i64 X.fails, .int .i64 X.ops]) 43)) (fun _ => true) mixed fun w509 e510 => ?_
  have k511 := Dr.old e510 k506
  have m512 := Dr.row e510 m503
  have m513 := Dr.row e510 m504
  have z514 := Dr.size e510
  have q515 := Dr.kept e510 q508
  refine AH.take 0 rfl (by kernel_rfl) (by kernel_rfl) (by kernel_rfl) (by kernel_rfl) (fun _ _ _ h => h) rfl trivial (fun _ hS => (R.moveV (v := .pointer (some ⟨r, 0, none⟩)) rfl)) k511 ?_
  refine AH.take 2 rfl (by kernel_rfl) (by kernel_rfl) (by kernel_rfl) (by kernel_rfl) (fun _ _ _ h => h) rfl trivial (fun _ hS => (R.fieldAddrV (o2 := 0) f43_0 rfl rfl)) k511 ?_
  refine AH.take 3 rfl (by kernel_rfl) (by kernel_rfl) (by kernel_rfl) (by kernel_rfl) (fun _ _ _ h => h) rfl trivial (fun _ hS => (R.load1 (v := .slice aS X.safe.length cS) c35 rfl hS rfl)) k511 ?_
  refine AH.take 4 rfl (by kernel_rfl) (by kernel_rfl) (by kernel_rfl) (by kernel_rfl) (fun _ _ _ h => h) rfl trivial (fun _ hS => (R.lenV (v := .int .i64 ((X.safe.length : Nat) : Int)) Try.underlying35 rfl rfl)) k511 ?_
  refine AH.one 1 (by kernel_rfl) (AO.call rfl trivial (E.call1 hb21) rfl (len_disk (hD.kept q515 (fun _ _ h => h))) ?_)
  rintro _ w516 ⟨rfl, ew⟩
  obtain rfl := ew.symm
  refine ⟨fun _ => k511, ?_⟩
  refine AH.take 5 rfl (by kernel_rfl) (by kernel_rfl) (by kernel_rfl) (by kernel_rfl) (fun _ _ _ h => h) rfl trivial (fun _ hS => (R.neqF rfl rfl (by rw [h1]))) k511 ?_
  refine AH.take 6 rfl (by kernel_rfl) (by kernel_rfl) (by kernel_rfl) (by kernel_rfl) (fun _ _ _ h => h) rfl trivial (fun _ hS => (R.moveV (v := .bool false) rfl)) k511 ?_
  refine AH.take 7 rfl (by kernel_rfl) (by kernel_rfl) (by kernel_rfl) (by kernel_rfl) (fun _ _ _ h => h) rfl ⟨_, rfl, rfl, rfl⟩ (fun _ hS => (R.moveV (v := .pointer (some ⟨r, 0, none⟩)) rfl)) k511 ?_
  refine AH.take 9 rfl (by kernel_rfl) (by kernel_rfl) (by kernel_rfl) (by kernel_rfl) (fun _ _ _ h => h) rfl ⟨_, rfl, rfl, rfl⟩ (fun _ hS => (R.fieldAddrV (o2 := 2) f43_2 rfl rfl)) k511 ?_
  refine AH.take 10 rfl (by kernel_rfl) (by kernel_rfl) (by kernel_rfl) (by kernel_rfl) (fun _ _ _ h => h) rfl ⟨_, rfl, rfl, rfl⟩ (fun _ hS => (R.load1 (v := .bool X.dead) c4 rfl hS rfl)) k511 ?_
  refine AH.one 8 (by kernel_rfl) (AO.call rfl ⟨_, rfl, rfl, rfl⟩ (E.call1 hb25) rfl (dead_disk (hD.kept q515 (fun _ _ h => h))) ?_)
  rintro _ w517 ⟨rfl, ew⟩
  obtain rfl := ew.symm
  refine ⟨fun _ => k511, ?_⟩
  refine AH.take 11 rfl (by kernel_rfl) (by kernel_rfl) (by kernel_rfl) (by kernel_rfl) (fun _ _ _ h => h) rfl ⟨_, rfl, rfl, rfl⟩ (fun _ hS => (neqBF Try.underlying4 rfl rfl h2)) k511 ?_
  refine AH.take 12 rfl (by kernel_rfl) (by kernel_rfl) (by kernel_rfl) (by kernel_rfl) (fun _ _ _ h => h) rfl trivial (fun _ hS => (R.pickFV (v := .bool false) rfl rfl)) k511 ?_
  refine AH.take 13 rfl (by kernel_rfl) (by kernel_rfl) (by kernel_rfl) (by kernel_rfl) (fun _ _ _ h => h) rfl trivial (fun _ hS => (R.moveV (v := .bool false) rfl)) k511 ?_
  refine AH.take 14 rfl (by kernel_rfl) (by kernel_rfl) (by kernel_rfl) (by kernel_rfl) (fun _ _ _ h => h) rfl ⟨_, rfl, rfl, rfl⟩ (fun _ hS => (R.moveV (v := .pointer (some ⟨r, 0, none⟩)) rfl)) k511 ?_
  refine AH.take 16 rfl (by kernel_rfl) (by kernel_rfl) (by kernel_rfl) (by kernel_rfl) (fun _ _ _ h => h) rfl ⟨_, rfl, rfl, rfl⟩ (fun _ hS => (R.fieldAddrV (o2 := 5) f43_5 rfl rfl)) k511 ?_
  refine AH.take 17 rfl (by kernel_rfl) (by kernel_rfl) (by kernel_rfl) (by kernel_rfl) (fun _ _ _ h => h) rfl ⟨_, rfl, rfl, rfl⟩ (fun _ hS => (R.load1 (v := .int .i64 X.ops) c3 rfl hS rfl)) k511 ?_
  refine AH.one 15 (by kernel_rfl) (AO.call rfl ⟨_, rfl, rfl, rfl⟩ (E.call1 hb31) rfl (ops_disk (hD.kept q515 (fun _ _ h => h))) ?_)
  rintro _ w518 ⟨rfl, ew⟩
  obtain rfl := ew.symm
  refine ⟨fun _ => k511, ?_⟩
  refine AH.take 18 rfl (by kernel_rfl) (by kernel_rfl) (by kernel_rfl) (by kernel_rfl) (fun _ _ _ h => h) rfl ⟨_, rfl, rfl, rfl⟩ (fun _ hS => (R.neqF rfl rfl (h3))) k511 ?_
  refine AH.take 19 rfl (by kernel_rfl) (by kernel_rfl) (by kernel_rfl) (by kernel_rfl) (fun _ _ _ h => h) rfl trivial (fun _ hS => (R.pickFV (v := .bool false) rfl rfl)) k511 ?_
  refine AH.done (by kernel_rfl) ?_
  refine C.condF rfl ?_
  refine C.skip ?_
  refine C.seq ?_
  refine C.region ?_
  refine L.step (R.moveV (v := .pointer (some ⟨r, 0, none⟩)) rfl) rfl ?_
  have hzk := (q515).size
  refine L.call (E.call1 hb28) rfl (pending_calls (hD.kept q515 (fun _ _ h => h)) (by rw [h4]; exact hm)) ?_
  rintro v521 w519 ⟨hr522, hk520⟩
  rw [h4] at hr522
  obtain ⟨a5, c5, rfl, _⟩ := hr522.shape
  have hr5 : Row w519 3 1 (.slice a5 X.pend.length c5) X.pend.length (List.replicate 0 (.int .i64 (-1)) ++ (X.pend.map fun p => Value.int .i64 (p.1 : Int)).drop 0) (fun k => w.heap.size ≤ k) := hr522.mono (fun k hk => hk.elim (fun h => h.elim) (fun h => by omega))
  have k523 := Kept.old hk520 k511 (fun h => h)
  have z524 := (hk520).size
  have q525 := Kept.trans q515 hk520 (fun _ _ h => h.elim)
  have m526 := Row.kept m512 hk520 (fun _ _ h => h)
  have m527 := Row.kept m513 hk520 (fun _ _ h => h)
  refine L.step (R.assignV (v := .slice a5 X.pend.length c5) rfl) rfl ?_
  refine L.nil ?_
  refine C.seq ?_
  refine C.seq ?_
  refine C.region ?_
  refine L.step (R.moveV (v := .slice a5 X.pend.length c5) rfl) rfl ?_
  refine L.step (R.lenV (v := .int .i64 ((X.pend.length : Nat) : Int)) Try.underlying56 rfl rfl) rfl ?_
  refine L.step (R.fieldAddrV (o2 := 1) f43_1 rfl rfl) rfl ?_
  refine L.step (R.load1 (v := .slice aP X.pend.length cP) c41 rfl k523 rfl) rfl ?_
  refine L.step (R.lenV (v := .int .i64 ((X.pend.length : Nat) : Int)) Try.underlying41 rfl rfl) rfl ?_
  refine L.step (R.neqF rfl rfl (rfl)) rfl ?_
  refine L.nil ?_
  refine C.condF rfl ?_
  refine C.skip ?_
  refine C.seq ?_
  refine C.seq ?_
  refine C.region ?_
  refine L.step (R.moveV (v := .slice a5 X.pend.length c5) rfl) rfl ?_
  refine L.step (R.lenV (v := .int .i64 ((X.pend.length : Nat) : Int)) Try.underlying56 rfl rfl) rfl ?_
  refine L.step (R.moveV (v := .int .i64 0) rfl) rfl ?_
  refine L.nil ?_
  refine C.block ?_
  refine C.loop (α := Nat) (fun k => [(3, .pointer (some ⟨w.heap.size, 0, none⟩)), (5, .slice a5 X.pend.length c5), (36, .int .i64 ((X.pend.length : Nat) : Int)), (37, .int .i64 ((k : Nat) : Int))]) (fun k W => k ≤ X.pend.length ∧ Kept (fun _ => False) w W ∧ W.heap[w.heap.size]? = some (blk ([.slice aS X.safe.length cS, .slice aP X.pend.length cP, .bool X.dead, .int .i64 X.left, .int .i64 X.fails, .int .i64 X.ops]) 43) ∧ Row W 3 1 (.slice a5 X.pend.length c5) X.pend.length (List.replicate k (.int .i64 (-1)) ++ (X.pend.map fun p => Value.int .i64 (p.1 : Int)).drop k) (fun k => w.heap.size ≤ k) ∧ Row W 75 65 (.slice aP X.pend.length cP) X.pend.length (X.pend.flatMap wcells) G) (fun k => X.pend.length - k) ⟨0, ⟨rfl, rfl, rfl, rfl, trivial⟩, ⟨Nat.zero_le _, q525, k523, hr5, m527⟩⟩ ?_
  intro k g529 w528 hI530
  obtain ⟨hkk, hq, hb3, hr5, hp⟩ := hI530
  have hsz := hq.size
  have hb3l := at_lt _ _ hb3
  have hplt := hp.lt
  refine C.seq ?_
  refine C.region ?_
  rcases Classical.em (((k : Nat) : Int) < ((X.pend.length : Nat) : Int)) with ht531 | ht531
  ·
    refine L.step (R.lssT rfl rfl (ht531)) rfl ?_
    refine L.nil ?_
    refine C.seq ?_
    refine C.condT rfl ?_
    refine C.skip ?_
    refine C.seq ?_
    refine C.block ?_
    refine C.seq ?_
    refine C.region ?_
    refine L.step (R.moveV (v := .int .i64 ((k : Nat) : Int)) rfl) rfl ?_
    refine L.step (R.assignV (v := .int .i64 ((k : Nat) : Int)) rfl) rfl ?_
    refine L.nil ?_
    refine C.seq ?_
    refine C.seq ?_
    obtain ⟨gp, lp, rfl, hFp, hgp, hnp, hmp, hlp, htp⟩ := Row.blockA hp (by omega)
    obtain ⟨g5, l5, rfl, hF5, hg5, hn5, hm5, hl5, ht5⟩ := Row.blockA hr5 (by omega)
    obtain ⟨p, hpk⟩ : ∃ p, X.pend[k]? = some p := ⟨_, List.getElem?_eq_getElem (by omega)⟩
    obtain ⟨hp1, hp2⟩ := hok.pends p (List.mem_of_getElem? hpk)
    have hmk : (X.pend.map fun p => Value.int .i64 (p.1 : Int))[k]? = some (.int .i64 (p.1 : Int)) := by rw [List.getElem?_map, hpk]; rfl
    refine C.drawE (fun W : World => W.heap[w.heap.size]? = some (blk ([.slice aS X.safe.length cS, .slice (some ⟨gp, 0, none⟩) X.pend.length cP, .bool X.dead, .int .i64 X.left, .int .i64 X.fails, .int .i64 X.ops]) 43) ∧ W.heap[gp]? = some (blk (lp) 75) ∧ W.heap[g5]? = some (blk (l5) 3)) (fun _ => true) mixed fun w532 e533 => ?_
    have k534 := Dr.old e533 hb3
    have k535 := Dr.old e533 hgp
    have k536 := Dr.old e533 hg5
    have m537 := Dr.row e533 hp
    have z538 := Dr.size e533
    have q539 := Dr.kept e533 hq
    refine AH.take 0 rfl (by kernel_rfl) (by kernel_rfl) (by kernel_rfl) (by kernel_rfl) (fun _ _ _ h => h) rfl trivial (fun _ hS => (R.moveV (v := .slice (some ⟨g5, 0, none⟩) X.pend.length c5) rfl)) (⟨k534, k535, k536⟩) ?_
    refine AH.take 1 rfl (by kernel_rfl) (by kernel_rfl) (by kernel_rfl) (by kernel_rfl) (fun _ _ _ h => h) rfl trivial (fun _ hS => (R.moveV (v := .int .i64 ((k : Nat) : Int)) rfl)) (⟨k534, k535, k536⟩) ?_
    refine AH.take 2 rfl (by kernel_rfl) (by kernel_rfl) (by kernel_rfl) (by kernel_rfl) (fun _ _ _ h => h) rfl trivial (fun _ hS => (R.indexAddrV (m := k) (o2 := k * 1) s56 rfl rfl rfl (by omega) (by omega))) (⟨k534, k535, k536⟩) ?_
    refine AH.take 3 rfl (by kernel_rfl) (by kernel_rfl) (by kernel_rfl) (by kernel_rfl) (fun _ _ _ h => h) rfl trivial (fun _ hS => (R.load1 (v := .int .i64 (p.1 : Int)) c3 rfl hS.2.2 (struck_at ht5 hmk (by omega)))) (⟨k534, k535, k536⟩) ?_
    refine AH.take 4 rfl (by kernel_rfl) (by kernel_rfl) (by kernel_rfl) (by kernel_rfl) (fun _ _ _ h => h) rfl trivial (fun _ hS => (R.fieldAddrV (o2 := 1) f43_1 rfl rfl)) (⟨k534, k535, k536⟩) ?_
    refine AH.take 5 rfl (by kernel_rfl) (by kernel_rfl) (by kernel_rfl) (by kernel_rfl) (fun _ _ _ h => h) rfl trivial (fun _ hS => (R.load1 (v := .slice (some ⟨gp, 0, none⟩) X.pend.length cP) c41 rfl hS.1 rfl)) (⟨k534, k535, k536⟩) ?_
    refine AH.take 6 rfl (by kernel_rfl) (by kernel_rfl) (by kernel_rfl) (by kernel_rfl) (fun _ _ _ h => h) rfl trivial (fun _ hS => (R.moveV (v := .int .i64 ((k : Nat) : Int)) rfl)) (⟨k534, k535, k536⟩) ?_
    refine AH.take 7 rfl (by kernel_rfl) (by kernel_rfl) (by kernel_rfl) (by kernel_rfl) (fun _ _ _ h => h) rfl trivial (fun _ hS => (R.indexAddrV (m := k) (o2 := k * 65) s41 rfl rfl rfl (by omega) (by omega))) (⟨k534, k535, k536⟩) ?_
    refine AH.take 8 rfl (by kernel_rfl) (by kernel_rfl) (by kernel_rfl) (by kernel_rfl) (fun _ _ _ h => h) rfl trivial (fun _ hS => (R.fieldAddrV (o2 := k * 65) f75_0 rfl (by omega))) (⟨k534, k535, k536⟩) ?_
    refine AH.take 9 rfl (by kernel_rfl) (by kernel_rfl) (by kernel_rfl) (by kernel_rfl) (fun _ _ _ h => h) rfl trivial (fun _ hS => (R.load1 (v := .int .i64 (p.1 : Int)) c3 rfl hS.2.1 ((cell_get hpall rfl htp hpk (j := 0) (by decide) (by omega)).trans rfl))) (⟨k534, k535, k536⟩) ?_
    refine AH.take 10 rfl (by kernel_rfl) (by kernel_rfl) (by kernel_rfl) (by kernel_rfl) (fun _ _ _ h => h) rfl trivial (fun _ hS => (R.neqF rfl rfl (rfl))) (⟨k534, k535, k536⟩) ?_
    refine AH.done (by kernel_rfl) ?_
    refine C.condF rfl ?_
    refine C.skip ?_
    refine C.region ?_
    refine L.step (R.moveV (v := .slice (some ⟨g5, 0, none⟩) X.pend.length c5) rfl) rfl ?_
    refine L.step (R.moveV (v := .int .i64 ((k : Nat) : Int)) rfl) rfl ?_
    refine L.step (R.indexAddrV (m := k) (o2 := k * 1) s56 rfl rfl rfl (by omega) (by omega)) rfl ?_
    refine L.doesE (R.store1 c3 rfl (v := .int .i64 (-1)) rfl rfl k536 (by rw [Nat.blt_eq, hl5]; omega)) fun w541 e540 => ?_
    have m542 := So.rowE e540 m537 k536 (by decide)
    have k543 := So.old e540 (apartE k534 k536 (by decide)) k534
    have k544 := So.old e540 (apartE k535 k536 (by decide)) k535
    have k545 := So.hit e540 k536
    have z546 := So.size e540
    have q547 := So.kept e540 q539 (fun h => absurd hF5 (by show ¬ w.heap.size ≤ g5; omega))
    have m548 : Row w541 3 1 (.slice (some ⟨g5, 0, none⟩) X.pend.length c5) X.pend.length (List.replicate (k + 1) (.int .i64 (-1)) ++ (X.pend.map fun p => Value.int .i64 (p.1 : Int)).drop (k + 1)) (fun k => w.heap.size ≤ k) := Row.mk w541 g5 c5 _ k545 hn5 hm5 (by rw [List.length_set, hl5]) (struck_set ht5 (by simp) (by omega)) hF5
    refine L.nil ?_
    refine C.region ?_
    refine L.step (R.add rfl rfl (by omega)) rfl ?_
    refine L.step (R.moveV (v := .int .i64 (((k : Nat) : Int) + 1)) rfl) rfl ?_
    refine L.nil ?_
    refine thenP.mk ⟨k + 1, ⟨rfl, rfl, rfl, rfl, trivial⟩, ⟨by show k + 1 ≤ _; omega, q547, k543, m548, m542⟩, by show X.pend.length - (k + 1) < X.pend.length - k; omega⟩
  ·
    refine L.step (R.lssF rfl rfl (Int.not_lt.1 ht531)) rfl ?_
    refine L.nil ?_
    refine C.seq ?_
    refine C.condF rfl ?_
    refine C.exit ?_
    refine C.seq ?_
    refine C.region ?_
    refine L.step (R.assignV (v := .bool true) rfl) rfl ?_
    refine L.nil ?_
    refine C.ret (?_ : RetOk _ _ _ _ _)
    refine RetOk.tV (v := .bool true) rfl rfl ?_
    exact ⟨rfl, hq⟩
end Go.Proofs.Ytpblppilknkdoaa
