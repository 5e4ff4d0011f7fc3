/- Pending, Copy. -/
import Derived.Test.YtpblppilknkdoaaD8
namespace Go.Proofs.Ytpblppilknkdoaa
open Go Go.Eng Go.Proofs
attribute [local irreducible] Go.Eng.C Go.Eng.L Go.Eng.Ret Go.Eng.Run Go.Eng.Does Go.Eng.Enters Go.Eng.AH Go.Eng.AO Go.Eng.RetOk
theorem pend_take {α : Type} {f : α → Value} {xs : List α} {k : Nat} {x : α} (h : xs[k]? = some x) : ((xs.take (k + 1)).map f) = (xs.take k).map f ++ [f x] := by
  rw [List.take_add_one, h]; simp
set_option maxHeartbeats 1000000 in
theorem pending_calls {w : World} {r : Nat} {D : PD} {F : Nat → Prop} (hD : DiskAt w r D F) (hm : D.pend.length ≤ 1000000) :
    Ret Try.prog 28 #[.pointer (some ⟨r, 0, none⟩)] w fun v w' => Row w' 3 1 v D.pend.length (D.pend.map fun p => .int .i64 (p.1 : Int)) (grow (fun _ => False) w w') ∧ Kept (fun _ => False) w w' := by
  obtain ⟨hF, hok, sv, pv, h, hs, hp⟩ := hD
  obtain ⟨ap, cp, rfl, hpc⟩ := hp.shape
  have hall : ∀ p ∈ D.pend, (wcells p).length = 65 := fun p hp => wcells65 (hok.pends p hp).2
  have hq := Kept.refl (fun _ => False) w
  have hrlt := at_lt _ _ h
  have hplt := hp.lt
  refine Ret.intro [.pointer (some ⟨r, 0, none⟩)] Try.func28 rfl rfl ?_
  refine C.seq ?_
  refine C.region ?_
  refine L.step (R.assignV (v := .slice none 0 0) rfl) rfl ?_
  refine L.nil ?_
  refine C.seq ?_
  refine C.seq ?_
  refine C.region ?_
  refine L.step (R.moveV (v := .pointer (some ⟨r, 0, none⟩)) rfl) rfl ?_
  refine L.step (R.eqlP Try.underlying24 rfl rfl) rfl ?_
  refine L.nil ?_
  refine C.condF rfl ?_
  refine C.skip ?_
  refine C.seq ?_
  refine C.region ?_
  refine L.step (R.assignV (v := .slice none 0 0) rfl) rfl ?_
  refine L.nil ?_
  refine C.seq ?_
  refine C.seq ?_
  refine C.region ?_
  refine L.step (R.moveV (v := .pointer (some ⟨r, 0, none⟩)) rfl) rfl ?_
  refine L.step (R.nilCheck rfl) rfl ?_
  refine L.step (R.fieldAddrV (o2 := 1) f69_1 rfl rfl) rfl ?_
  refine L.step (R.load1 (v := .slice ap D.pend.length cp) c67 rfl h rfl) rfl ?_
  refine L.step (R.lenV (v := .int .i64 ((D.pend.length : Nat) : Int)) Try.underlying67 rfl rfl) rfl ?_
  refine L.step (R.moveV (v := .int .i64 0) rfl) rfl ?_
  refine L.nil ?_
  refine C.block ?_
  refine C.loop (α := Nat × Value) (fun x => [(0, .pointer (some ⟨r, 0, none⟩)), (3, x.2), (11, .slice ap D.pend.length cp), (12, .int .i64 ((D.pend.length : Nat) : Int)), (13, .int .i64 ((x.1 : Nat) : Int))]) (fun x W => x.1 ≤ D.pend.length ∧ Kept (fun _ => False) w W ∧ Row W 3 1 x.2 x.1 ((D.pend.take x.1).map fun p => Value.int .i64 (p.1 : Int)) (grow (fun _ => False) w W)) (fun x => D.pend.length - x.1) ⟨(0, .slice none 0 0), ⟨rfl, rfl, rfl, rfl, rfl, trivial⟩, ⟨Nat.zero_le _, hq, Row.nil _ _ _ _⟩⟩ ?_
  intro x g2 w1 hI3
  obtain ⟨hk, hq, hv⟩ := hI3
  have h := Kept.old hq h (fun h => h)
  have hp := Row.kept hp hq (fun _ _ h => h)
  have hsz := hq.size
  refine C.seq ?_
  refine C.region ?_
  rcases Classical.em (((x.1 : Nat) : Int) < ((D.pend.length : Nat) : Int)) with ht4 | ht4
  ·
    refine L.step (R.lssT rfl rfl (ht4)) rfl ?_
    refine L.nil ?_
    refine C.seq ?_
    refine C.condT rfl ?_
    refine C.skip ?_
    refine C.seq ?_
    refine C.block ?_
    refine C.seq ?_
    refine C.region ?_
    have hkl : x.1 < D.pend.length := by omega
    obtain ⟨gp, lp, rfl, hFp, hgp, hnp, hmp, hlp, htp⟩ := Row.blockA hp (by omega)
    obtain ⟨p, hpk⟩ : ∃ p, D.pend[x.1]? = some p := ⟨_, List.getElem?_eq_getElem hkl⟩
    obtain ⟨hp1, hp2⟩ := hok.pends p (List.mem_of_getElem? hpk)
    have hgplt := at_lt _ _ hgp
    refine L.step (R.indexAddrV (m := x.1) (o2 := x.1 * 65) s67 rfl rfl rfl (by omega) (by omega)) rfl ?_
    refine L.step (R.loadA (cs := wcells p) r80 rfl hgp (part_get hall rfl htp hpk) (wcells65 hp2)) rfl ?_
    refine L.stepE (R.alloc z80) rfl fun w6 e5 => ?_
    have m7 := Al.row e5 hp
    have m8 := Al.row e5 hv
    have k10 := Al.new e5
    have k11 := Al.old e5 h
    have k12 := Al.old e5 hgp
    have z13 := Al.size e5
    have q14 := Al.kept e5 hq
    refine L.doesE (R.storeAll (cs := wcells p) r80 rfl rfl (wcells65 hp2) (one_wcells _) k10 rfl) fun w16 e15 => ?_
    have m17 := So.rowE e15 m8 k10 (by decide)
    have k18 := So.old e15 (apartE k11 k10 (by decide)) k11
    have k19 := So.old e15 (by omega) k12
    have k20 := So.hit e15 k10
    have z21 := So.size e15
    have q22 := So.kept e15 q14 (fun h => absurd h (by omega))
    refine L.nil ?_
    refine C.region ?_
    refine L.step (R.moveV (v := x.2) rfl) rfl ?_
    refine L.step (R.fieldAddrV (o2 := 0) f80_0 rfl rfl) rfl ?_
    refine L.step (R.load1 (v := .int .i64 (p.1 : Int)) c3 rfl k20 rfl) rfl ?_
    refine L.stepE (R.slice1 s56 ⟨_, z3, rfl⟩ rfl rfl (v := .int .i64 (p.1 : Int)) rfl rfl) rfl fun w24 e23 => ?_
    have m25 := Al.row e23 m17
    have k27 := Al.new e23
    have k28 := Al.old e23 k18
    have k29 := Al.old e23 k19
    have k30 := Al.old e23 k20
    have z31 := Al.size e23
    have q32 := Al.kept e23 q22
    have hz0 := (q32).size
    refine L.bind (R.append e56 (v := x.2) rfl (Row.own m25) rfl (news := [.int .i64 (p.1 : Int)]) rfl (news_at k27) (by simp [Value.oneCell']) (by simp only [maxLen]; omega) (by omega)) rfl ?_
    rintro v33 w34 ⟨hr35, hk36, _, _⟩
    have hz1 := (hk36).size
    have q37 : Kept (fun _ => False) w w34 := Kept.trans q32 hk36 (fun k hlt hk => (hv.2 k hk).elim (fun h => h) (fun h => absurd hlt (by omega)))
    have hv38 : Row w34 3 1 v33 (x.1 + 1) ((D.pend.take (x.1 + 1)).map fun p => Value.int .i64 (p.1 : Int)) (grow (fun _ => False) w w34) := by
      rw [pend_take hpk]
      refine hr35.mono (fun k hk => ?_)
      rcases hk with hk | hk
      · rcases hv.2 k hk with h | h
        · exact .inl h
        · exact .inr (by omega)
      · exact .inr (by omega)
    refine L.step (R.assignV (v := v33) rfl) rfl ?_
    refine L.nil ?_
    refine C.region ?_
    refine L.step (R.add rfl rfl (by omega)) rfl ?_
    refine L.step (R.moveV (v := .int .i64 (((x.1 : Nat) : Int) + 1)) rfl) rfl ?_
    refine L.nil ?_
    refine thenP.mk ⟨(x.1 + 1, v33), ⟨rfl, rfl, rfl, rfl, rfl, trivial⟩, ⟨by show x.1 + 1 ≤ _; omega, q37, hv38⟩, by show D.pend.length - (x.1 + 1) < D.pend.length - x.1; omega⟩
  ·
    refine L.step (R.lssF rfl rfl (Int.not_lt.1 ht4)) rfl ?_
    refine L.nil ?_
    refine C.seq ?_
    refine C.condF rfl ?_
    refine C.exit ?_
    refine C.seq ?_
    refine C.region ?_
    refine L.step (R.moveV (v := x.2) rfl) rfl ?_
    refine L.step (R.assignV (v := x.2) rfl) rfl ?_
    refine L.nil ?_
    refine C.ret (?_ : RetOk _ _ _ _ _)
    refine RetOk.tV (v := x.2) rfl rfl ?_
    have hxk : x.1 = D.pend.length := by omega
    rw [hxk, List.take_length] at hv
    exact ⟨hv, hq⟩
theorem pending_nil {w : World} : Ret Try.prog 28 #[.pointer none] w fun v w' => v = .slice none 0 0 ∧ w' = w := by
  refine Ret.intro [.pointer none] Try.func28 rfl rfl ?_
  refine C.seq ?_
  refine C.region ?_
  refine L.step (R.assignV (v := .slice none 0 0) rfl) rfl ?_
  refine L.nil ?_
  refine C.seq ?_
  refine C.seq ?_
  refine C.region ?_
  refine L.step (R.moveV (v := .pointer none) rfl) rfl ?_
  refine L.step (R.eqlP Try.underlying24 rfl rfl) rfl ?_
  refine L.nil ?_
  refine C.condT rfl ?_
  refine C.seq ?_
  refine C.region ?_
  refine L.step (R.assignV (v := .slice none 0 0) rfl) rfl ?_
  refine L.nil ?_
  refine C.ret (?_ : RetOk _ _ _ _ _)
  refine RetOk.tV (v := .slice none 0 0) rfl rfl ?_
  exact ⟨rfl, rfl⟩
theorem copy_nil {w : World} : Ret Try.prog 32 #[.pointer none] w fun v w' => v = .pointer none ∧ w' = w := by
  refine Ret.intro [.pointer none] Try.func32 rfl rfl ?_
  refine C.seq ?_
  refine C.region ?_
  refine L.step (R.assignV (v := .pointer none) rfl) rfl ?_
  refine L.nil ?_
  refine C.seq ?_
  refine C.seq ?_
  refine C.region ?_
  refine L.step (R.moveV (v := .pointer none) rfl) rfl ?_
  refine L.step (R.eqlP Try.underlying24 rfl rfl) rfl ?_
  refine L.nil ?_
  refine C.condT rfl ?_
  refine C.seq ?_
  refine C.region ?_
  refine L.step (R.assignV (v := .pointer none) rfl) rfl ?_
  refine L.nil ?_
  refine C.ret (?_ : RetOk _ _ _ _ _)
  refine RetOk.tV (v := .pointer none) rfl rfl ?_
  exact ⟨rfl, rfl⟩
set_option maxHeartbeats 1000000 in
theorem copy_calls {w : World} {r : Nat} {D : PD} {F : Nat → Prop} (hD : DiskAt w r D F) (hm : D.pend.length ≤ 1000000) (hms : D.safe.length ≤ 1000000) :
    Ret Try.prog 32 #[.pointer (some ⟨r, 0, none⟩)] w fun v w' => ∃ r', v = .pointer (some ⟨r', 0, none⟩) ∧ w.heap.size ≤ r' ∧ DiskAt w' r' D (grow (fun _ => False) w w') ∧ Kept (fun _ => False) w w' := by
  obtain ⟨hF, hok, sv, pv, h, hs, hp⟩ := hD
  obtain ⟨aS, cs, rfl, hsc⟩ := hs.shape
  obtain ⟨ap, cp, rfl, hpc⟩ := hp.shape
  have hrlt := at_lt _ _ h
  refine Ret.intro [.pointer (some ⟨r, 0, none⟩)] Try.func32 rfl rfl ?_
  refine C.seq ?_
  refine C.region ?_
  refine L.step (R.assignV (v := .pointer none) rfl) rfl ?_
  refine L.nil ?_
  refine C.seq ?_
  refine C.seq ?_
  refine C.region ?_
  refine L.step (R.moveV (v := .pointer (some ⟨r, 0, none⟩)) rfl) rfl ?_
  refine L.step (R.eqlP Try.underlying24 rfl rfl) rfl ?_
  refine L.nil ?_
  refine C.condF rfl ?_
  refine C.skip ?_
  refine C.seq ?_
  refine C.region ?_
  refine L.step (R.moveV (v := .pointer (some ⟨r, 0, none⟩)) rfl) rfl ?_
  refine L.step (R.nilCheck rfl) rfl ?_
  refine L.step (R.loadA (cs := [.slice aS D.safe.length cs, .slice ap D.pend.length cp, .bool D.dead, .bool D.armed, .int .i64 D.left, .int .i64 D.fails, .int .i64 D.ops]) r69 rfl h rfl rfl) rfl ?_
  refine L.stepE (R.alloc z69) rfl fun w40 e39 => ?_
  have m41 := Al.row e39 hs
  have m42 := Al.row e39 hp
  have k44 := Al.new e39
  have k45 := Al.old e39 h
  have z46 := Al.size e39
  have q47 := Al.kept e39 (Kept.refl (fun _ => False) w)
  refine L.doesE (R.storeAll (cs := [.slice aS D.safe.length cs, .slice ap D.pend.length cp, .bool D.dead, .bool D.armed, .int .i64 D.left, .int .i64 D.fails, .int .i64 D.ops]) r69 rfl rfl rfl (by simp [Value.oneCell']) k44 rfl) fun w49 e48 => ?_
  have m50 := So.rowE e48 m41 k44 (by decide)
  have m51 := So.rowE e48 m42 k44 (by decide)
  have k52 := So.old e48 (by omega) k45
  have k53 := So.hit e48 k44
  have z54 := So.size e48
  have q55 := So.kept e48 q47 (fun h => absurd h (by omega))
  refine L.nil ?_
  refine C.seq ?_
  refine C.drawE (fun W : World => W.heap[r]? = some (blk ([.slice aS D.safe.length cs, .slice ap D.pend.length cp, .bool D.dead, .bool D.armed, .int .i64 D.left, .int .i64 D.fails, .int .i64 D.ops]) 69)) (fun _ => true) mixed fun w56 e57 => ?_
  have k58 := Dr.old e57 k52
  have k59 := Dr.old e57 k53
  have m60 := Dr.row e57 m50
  have m61 := Dr.row e57 m51
  have z62 := Dr.size e57
  have q63 := Dr.kept e57 q55
  refine AH.take 0 rfl (by kernel_rfl) (by kernel_rfl) (by kernel_rfl) (by kernel_rfl) (fun _ _ _ h => h) rfl trivial (fun _ hS => (R.moveV (v := .pointer (some ⟨r, 0, none⟩)) rfl)) k58 ?_
  refine AH.take 1 rfl (by kernel_rfl) (by kernel_rfl) (by kernel_rfl) (by kernel_rfl) (fun _ _ _ h => h) rfl trivial (fun _ hS => (R.nilCheck rfl)) k58 ?_
  refine AH.take 2 rfl (by kernel_rfl) (by kernel_rfl) (by kernel_rfl) (by kernel_rfl) (fun _ _ _ h => h) rfl trivial (fun _ hS => (R.fieldAddrV (o2 := 0) f69_0 rfl rfl)) k58 ?_
  refine AH.take 3 rfl (by kernel_rfl) (by kernel_rfl) (by kernel_rfl) (by kernel_rfl) (fun _ _ _ h => h) rfl trivial (fun _ hS => (R.load1 (v := .slice aS D.safe.length cs) c35 rfl hS rfl)) k58 ?_
  refine AH.take 5 rfl (by kernel_rfl) (by kernel_rfl) (by kernel_rfl) (by kernel_rfl) (fun _ _ _ h => h) rfl trivial (fun _ hS => (R.moveV (v := .pointer (some ⟨r, 0, none⟩)) rfl)) k58 ?_
  refine AH.take 6 rfl (by kernel_rfl) (by kernel_rfl) (by kernel_rfl) (by kernel_rfl) (fun _ _ _ h => h) rfl trivial (fun _ hS => (R.nilCheck rfl)) k58 ?_
  refine AH.take 7 rfl (by kernel_rfl) (by kernel_rfl) (by kernel_rfl) (by kernel_rfl) (fun _ _ _ h => h) rfl trivial (fun _ hS => (R.fieldAddrV (o2 := 1) f69_1 rfl rfl)) k58 ?_
  refine AH.take 8 rfl (by kernel_rfl) (by kernel_rfl) (by kernel_rfl) (by kernel_rfl) (fun _ _ _ h => h) rfl trivial (fun _ hS => (R.load1 (v := .slice ap D.pend.length cp) c67 rfl hS rfl)) k58 ?_
  refine AH.one 4 (by kernel_rfl) (AO.call rfl trivial (E.call1 hb50) rfl (clone50_calls m60 hms (oneCell_flat one_bcells _)) ?_)
  rintro v64 w65 ⟨hr66, hk67⟩
  obtain ⟨a68, c69, rfl, _⟩ := hr66.shape
  have k70 := Kept.old hk67 k58 (fun h => h)
  have k71 := Kept.old hk67 k59 (fun h => h)
  have m72 := Row.kept m60 hk67 (fun _ _ h => h)
  have m73 := Row.kept m61 hk67 (fun _ _ h => h)
  have q74 := Kept.trans q63 hk67 (fun _ _ h => h)
  have z75 := (hk67).size
  have z76 := (q63).size
  have n77 := hr66.mono (F' := fun k => w.heap.size < k) (fun k hk => by rcases hk with hk | hk; exact hk.elim; have hk1 := hk.1; show w.heap.size < k; omega)
  refine ⟨fun _ => k70, ?_⟩
  refine AH.one 9 (by kernel_rfl) (AO.call rfl trivial (E.call1 hb51) rfl (clone51_calls m73 hm (oneCell_flat one_wcells _)) ?_)
  rintro v78 w79 ⟨hr80, hk81⟩
  obtain ⟨a82, c83, rfl, _⟩ := hr80.shape
  have k84 := Kept.old hk81 k70 (fun h => h)
  have k85 := Kept.old hk81 k71 (fun h => h)
  have m86 := Row.kept m72 hk81 (fun _ _ h => h)
  have m87 := Row.kept m73 hk81 (fun _ _ h => h)
  have m88 := Row.kept n77 hk81 (fun _ _ h => h)
  have q89 := Kept.trans q74 hk81 (fun _ _ h => h)
  have z90 := (hk81).size
  have z91 := (q74).size
  have n92 := hr80.mono (F' := fun k => w.heap.size < k) (fun k hk => by rcases hk with hk | hk; exact hk.elim; have hk1 := hk.1; show w.heap.size < k; omega)
  refine ⟨fun _ => k84, ?_⟩
  refine AH.take 10 rfl (by kernel_rfl) (by kernel_rfl) (by kernel_rfl) (by kernel_rfl) (fun _ _ _ h => h) rfl trivial (fun _ hS => (R.fieldAddrV (o2 := 0) f69_0 rfl rfl)) k84 ?_
  refine AH.one 11 (by kernel_rfl) (AO.doesE rfl trivial (R.store1 c35 rfl (v := .slice a68 D.safe.length c69) rfl rfl k85 rfl) fun w94 e93 => ?_)
  have m95 := So.rowE e93 m88 k85 (by decide)
  have m96 := So.rowE e93 n92 k85 (by decide)
  have m97 := So.rowE e93 m86 k85 (by decide)
  have m98 := So.rowE e93 m87 k85 (by decide)
  have k99 := So.old e93 (by omega) k84
  have k100 := So.hit e93 k85
  have z101 := So.size e93
  have q102 := So.kept e93 q89 (fun h => absurd h (by omega))
  refine ⟨fun _ => k99, ?_⟩
  refine AH.take 12 rfl (by kernel_rfl) (by kernel_rfl) (by kernel_rfl) (by kernel_rfl) (fun _ _ _ h => h) rfl trivial (fun _ hS => (R.fieldAddrV (o2 := 1) f69_1 rfl rfl)) k99 ?_
  refine AH.one 13 (by kernel_rfl) (AO.doesE rfl trivial (R.store1 c67 rfl (v := .slice a82 D.pend.length c83) rfl rfl k100 rfl) fun w104 e103 => ?_)
  have m105 := So.rowE e103 m95 k100 (by decide)
  have m106 := So.rowE e103 m96 k100 (by decide)
  have m107 := So.rowE e103 m97 k100 (by decide)
  have m108 := So.rowE e103 m98 k100 (by decide)
  have k109 := So.old e103 (by omega) k99
  have k110 := So.hit e103 k100
  have z111 := So.size e103
  have q112 := So.kept e103 q102 (fun h => absurd h (by omega))
  refine ⟨fun _ => k109, ?_⟩
  refine AH.done (by kernel_rfl) ?_
  refine C.seq ?_
  refine C.region ?_
  refine L.step (R.assignV (v := .pointer (some ⟨w.heap.size, 0, none⟩)) rfl) rfl ?_
  refine L.nil ?_
  refine C.ret (?_ : RetOk _ _ _ _ _)
  refine RetOk.tV (v := .pointer (some ⟨w.heap.size, 0, none⟩)) rfl rfl ?_
  have hzz := (q112).size
  exact ⟨_, rfl, Nat.le_refl _, ⟨grow_none (Nat.le_refl _) (at_lt _ _ k110), hok, _, _, k110, Row.inGrow m105, Row.inGrow m106⟩, q112⟩
end Go.Proofs.Ytpblppilknkdoaa
