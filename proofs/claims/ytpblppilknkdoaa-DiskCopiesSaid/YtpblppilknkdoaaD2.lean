/- Settling the pending writes; the closures. -/
import Derived.Test.YtpblppilknkdoaaD1
namespace Go.Proofs.Ytpblppilknkdoaa
open Go Go.Eng Go.Proofs
attribute [local irreducible] Go.Eng.C Go.Eng.L Go.Eng.Ret Go.Eng.Run Go.Eng.Does Go.Eng.Enters Go.Eng.AH Go.Eng.AO Go.Eng.RetOk
theorem always_calls {w : World} {k : Int} : Ret Try.prog 48 #[.int .i64 k] w fun v w' => v = .bool true ∧ w' = w := by
  refine Ret.intro [.int .i64 k] Try.func48 rfl rfl ?_
  refine C.seq ?_
  refine C.region ?_
  refine L.step (R.assignV (v := .bool false) rfl) rfl ?_
  refine L.nil ?_
  refine C.seq ?_
  refine C.region ?_
  refine L.step (R.assignV (v := .bool true) rfl) rfl ?_
  refine L.nil ?_
  refine C.ret (?_ : RetOk _ _ _ _ _)
  refine RetOk.tV (v := .bool true) rfl rfl ?_
  exact ⟨rfl, rfl⟩
set_option maxHeartbeats 1000000 in
theorem settle_calls {w : World} {r : Nat} {D : PD} {F : Nat → Prop} (hD : DiskAt w r D F) (gf : Nat) (caps : Array Value) (f : Nat → Bool) (hgf : HasBody Try.prog gf)
    (hlive : ∀ (k : Nat) W, k < D.pend.length → Kept F w W → Ret Try.prog gf (#[.int .i64 (k : Int)] ++ caps) W fun v w' => v = .bool (f k) ∧ w' = W) :
    Ret Try.prog 47 #[.pointer (some ⟨r, 0, none⟩), .func (.func gf) #[] caps] w fun v w' => v = .tuple #[] ∧ DiskAt w' r (D.settle f) F ∧ Kept F w w' := by
  obtain ⟨hF, hok, sv, pv, h, hs, hp⟩ := hD
  obtain ⟨aS, cs, rfl, hsc⟩ := hs.shape
  obtain ⟨ap, cp, rfl, hpc⟩ := hp.shape
  have hall : ∀ p ∈ D.pend, (wcells p).length = 65 := fun p hp => wcells65 (hok.pends p hp).2
  have hq := Kept.refl F w
  have hplt := hp.lt
  refine Ret.intro [.pointer (some ⟨r, 0, none⟩), .func (.func gf) #[] caps] Try.func47 rfl rfl ?_
  refine C.seq ?_
  refine C.seq ?_
  refine C.region ?_
  refine L.step (R.moveV (v := .pointer (some ⟨r, 0, none⟩)) rfl) rfl ?_
  refine L.step (R.nilCheck rfl) rfl ?_
  refine L.step (R.fieldAddrV (o2 := 1) f69_1 rfl rfl) rfl ?_
  refine L.step (R.load1 (v := .slice ap D.pend.length cp) c67 rfl h rfl) rfl ?_
  refine L.step (R.lenV (v := .int .i64 ((D.pend.length : Nat) : Int)) Try.underlying67 rfl rfl) rfl ?_
  refine L.step (R.moveV (v := .int .i64 0) rfl) rfl ?_
  refine L.nil ?_
  refine C.block ?_
  refine C.loop (α := Nat) (fun k => [(0, .pointer (some ⟨r, 0, none⟩)), (1, .func (.func gf) #[] caps), (9, .slice ap D.pend.length cp), (10, .int .i64 ((D.pend.length : Nat) : Int)), (11, .int .i64 ((k : Nat) : Int))]) (fun k W => k ≤ D.pend.length ∧ Kept F w W ∧ W.heap[r]? = some (blk (D.cells (.slice aS D.safe.length cs) (.slice ap D.pend.length cp)) 69) ∧ Row W 27 64 (.slice aS D.safe.length cs) D.safe.length ((settleN D.safe D.pend f k).flatMap bcells) F ∧ Row W 80 65 (.slice ap D.pend.length cp) D.pend.length (D.pend.flatMap wcells) F) (fun k => D.pend.length - k) ⟨0, ⟨rfl, rfl, rfl, rfl, rfl, trivial⟩, ⟨Nat.zero_le _, hq, h, hs, hp⟩⟩ ?_
  intro k g2 w1 hI3
  obtain ⟨hk, hq, h, hs, hp⟩ := hI3
  have hsz := hq.size
  refine C.seq ?_
  refine C.region ?_
  rcases Classical.em (((k : Nat) : Int) < ((D.pend.length : Nat) : Int)) with ht4 | ht4
  ·
    refine L.step (R.lssT rfl rfl (ht4)) rfl ?_
    refine L.nil ?_
    refine C.seq ?_
    refine C.condT rfl ?_
    refine C.skip ?_
    refine C.seq ?_
    refine C.block ?_
    refine C.seq ?_
    refine C.region ?_
    refine L.step (R.moveV (v := .int .i64 ((k : Nat) : Int)) rfl) rfl ?_
    have hkl : k < D.pend.length := by omega
    obtain ⟨gp, lp, rfl, hFp, hgp, hnp, hmp, hlp, htp⟩ := Row.blockA hp (by omega)
    have hbig : D.pend.length ≤ 9223372036854775807 := by simp only [maxLen] at hmp; omega
    obtain ⟨p, hpk⟩ : ∃ p, D.pend[k]? = some p := ⟨_, List.getElem?_eq_getElem hkl⟩
    obtain ⟨hp1, hp2⟩ := hok.pends p (List.mem_of_getElem? hpk)
    have hgplt := at_lt _ _ hgp
    refine L.step (R.indexAddrV (m := k) (o2 := k * 65) s67 rfl rfl rfl (by omega) (by omega)) rfl ?_
    refine L.step (R.loadA (cs := wcells p) r80 rfl hgp (part_get hall rfl htp hpk) (wcells65 hp2)) rfl ?_
    refine L.stepE (R.alloc z80) rfl fun w6 e5 => ?_
    have m7 := Al.row e5 hs
    have m8 := Al.row e5 hp
    have k10 := Al.new e5
    have k11 := Al.old e5 h
    have k12 := Al.old e5 hgp
    have z13 := Al.size e5
    have q14 := Al.kept e5 hq
    refine L.step (R.assignV (v := .int .i64 ((k : Nat) : Int)) rfl) rfl ?_
    refine L.doesE (R.storeAll (cs := wcells p) r80 rfl rfl (wcells65 hp2) (one_wcells _) k10 rfl) fun w16 e15 => ?_
    have m17 := So.rowE e15 m7 k10 (by decide)
    have m18 := So.rowLt e15 m8 hplt (by omega)
    have k19 := So.old e15 (apartE k11 k10 (by decide)) k11
    have k20 := So.old e15 (by omega) k12
    have k21 := So.hit e15 k10
    have z22 := So.size e15
    have q23 := So.kept e15 q14 (fun h => absurd h (by omega))
    refine L.nil ?_
    refine C.seq ?_
    refine C.region ?_
    refine L.step (R.moveV (v := .func (.func gf) #[] caps) rfl) rfl ?_
    refine L.step (R.moveV (v := .int .i64 ((k : Nat) : Int)) rfl) rfl ?_
    refine L.call (E.fun1 hgf rfl) rfl (hlive k _ hkl q23) ?_
    rintro _ _ ⟨rfl, rfl⟩
    refine L.nil ?_
    refine C.cond rfl (fun hc24 => ?_) (fun hc24 => ?_)
    ·
      refine C.drawE (fun W : World => W.heap[r]? = some (blk ([.slice aS D.safe.length cs, .slice (some ⟨gp, 0, none⟩) D.pend.length cp, .bool D.dead, .bool D.armed, .int .i64 D.left, .int .i64 D.fails, .int .i64 D.ops]) 69) ∧ W.heap[w1.heap.size]? = some (blk (wcells p) 80)) (fun _ => true) mixed fun w25 e26 => ?_
      have k27 := Dr.old e26 k19
      have k28 := Dr.old e26 k20
      have k29 := Dr.old e26 k21
      have m30 := Dr.row e26 m17
      have m31 := Dr.row e26 m18
      have z32 := Dr.size e26
      have q33 := Dr.kept e26 q23
      refine AH.take 0 rfl (by kernel_rfl) (by kernel_rfl) (by kernel_rfl) (by kernel_rfl) (fun _ _ _ h => h) rfl trivial (fun _ hS => (R.moveV (v := .pointer (some ⟨r, 0, none⟩)) rfl)) (⟨k27, k29⟩) ?_
      refine AH.take 1 rfl (by kernel_rfl) (by kernel_rfl) (by kernel_rfl) (by kernel_rfl) (fun _ _ _ h => h) rfl trivial (fun _ hS => (R.nilCheck rfl)) (⟨k27, k29⟩) ?_
      refine AH.take 2 rfl (by kernel_rfl) (by kernel_rfl) (by kernel_rfl) (by kernel_rfl) (fun _ _ _ h => h) rfl trivial (fun _ hS => (R.fieldAddrV (o2 := 0) f69_0 rfl rfl)) (⟨k27, k29⟩) ?_
      refine AH.take 3 rfl (by kernel_rfl) (by kernel_rfl) (by kernel_rfl) (by kernel_rfl) (fun _ _ _ h => h) rfl trivial (fun _ hS => (R.load1 (v := .slice aS D.safe.length cs) c35 rfl hS.1 rfl)) (⟨k27, k29⟩) ?_
      refine AH.take 4 rfl (by kernel_rfl) (by kernel_rfl) (by kernel_rfl) (by kernel_rfl) (fun _ _ _ h => h) rfl trivial (fun _ hS => (R.fieldAddrV (o2 := 0) f80_0 rfl rfl)) (⟨k27, k29⟩) ?_
      refine AH.take 5 rfl (by kernel_rfl) (by kernel_rfl) (by kernel_rfl) (by kernel_rfl) (fun _ _ _ h => h) rfl trivial (fun _ hS => (R.load1 (v := .int .i64 (p.1 : Int)) c3 rfl hS.2 rfl)) (⟨k27, k29⟩) ?_
      refine AH.take 6 rfl (by kernel_rfl) (by kernel_rfl) (by kernel_rfl) (by kernel_rfl) (fun _ _ _ h => h) rfl trivial (fun _ hS => (R.fieldAddrV (o2 := 1) f80_1 rfl rfl)) (⟨k27, k29⟩) ?_
      refine AH.take 7 rfl (by kernel_rfl) (by kernel_rfl) (by kernel_rfl) (by kernel_rfl) (fun _ _ _ h => h) rfl trivial (fun _ hS => (R.loadA (cs := bcells p.2) r27 rfl hS.2 (wcells_tail hp2) (bcells64 hp2))) (⟨k27, k29⟩) ?_
      obtain ⟨gs, ls, rfl, hFs, hgs, hns, hms, hls, hts⟩ := Row.blockA m30 (by omega)
      refine AH.take 8 rfl (by kernel_rfl) (by kernel_rfl) (by kernel_rfl) (by kernel_rfl) (fun _ _ _ h => h) rfl trivial (fun _ hS => (R.indexAddrV (m := p.1) (o2 := p.1 * 64) s35 rfl rfl rfl hp1 (by omega))) (⟨k27, k29⟩) ?_
      have hsall := fun b hb => bcells64 (all_settleN (f := f) hok.blocks hok.pends k b hb)
      have hroom : p.1 * 64 + 64 ≤ ls.length := by rw [hls]; omega
      refine AH.one 9 (by kernel_rfl) (AO.doesE rfl trivial (R.storeA (cs := bcells p.2) r27 rfl rfl (bcells64 hp2) (one_bcells _) hgs hroom) fun w35 e34 => ?_)
      have m37 := So.rowE e34 m31 hgs (by decide)
      have k38 := So.old e34 (apartE k27 hgs (by decide)) k27
      have k39 := So.old e34 (apartE k28 hgs (by decide)) k28
      have k40 := So.old e34 (apartE k29 hgs (by decide)) k29
      have k41 := So.hit e34 hgs
      have z42 := So.size e34
      have q43 := So.kept e34 q33 (fun _ => hFs)
      have m44 : Row w35 27 64 (.slice (some ⟨gs, 0, none⟩) D.safe.length cs) D.safe.length ((settleN D.safe D.pend f (k + 1)).flatMap bcells) F := Row.mk w35 gs cs _ k41 hns hms (by rw [length_splice, hls]) (by
          rw [settleN_yes hpk hc24, ← length_settleN (safe := D.safe) (pend := D.pend) (f := f) k] 
          exact part_set hsall (by rw [length_settleN]; exact hts) (by rw [length_settleN]; exact hp1) p.2 (bcells64 hp2)) hFs
      refine ⟨fun _ => (⟨k38, k40⟩), ?_⟩
      refine AH.done (by kernel_rfl) ?_
      refine C.region ?_
      refine L.step (R.add rfl rfl (by omega)) rfl ?_
      refine L.step (R.moveV (v := .int .i64 (((k : Nat) : Int) + 1)) rfl) rfl ?_
      refine L.nil ?_
      refine thenP.mk ⟨k + 1, ⟨rfl, rfl, rfl, rfl, rfl, trivial⟩, ⟨by omega, q43, k38, m44, m37⟩, by show D.pend.length - (k + 1) < D.pend.length - k; omega⟩
    ·
      refine C.skip ?_
      refine C.region ?_
      refine L.step (R.add rfl rfl (by omega)) rfl ?_
      refine L.step (R.moveV (v := .int .i64 (((k : Nat) : Int) + 1)) rfl) rfl ?_
      refine L.nil ?_
      refine thenP.mk ⟨k + 1, ⟨rfl, rfl, rfl, rfl, rfl, trivial⟩, ⟨by omega, q23, k19, (by rw [settleN_no hc24]; exact m17), m18⟩, by show D.pend.length - (k + 1) < D.pend.length - k; omega⟩
  ·
    refine L.step (R.lssF rfl rfl (Int.not_lt.1 ht4)) rfl ?_
    refine L.nil ?_
    refine C.seq ?_
    refine C.condF rfl ?_
    refine C.exit ?_
    refine C.region ?_
    refine L.step (R.moveV (v := .pointer (some ⟨r, 0, none⟩)) rfl) rfl ?_
    refine L.step (R.nilCheck rfl) rfl ?_
    refine L.step (R.fieldAddrV (o2 := 1) f69_1 rfl rfl) rfl ?_
    refine L.doesE (R.store1 c67 rfl (v := .slice none 0 0) rfl rfl h rfl) fun w46 e45 => ?_
    have m47 := So.rowE e45 hs h (by decide)
    have m48 := So.rowE e45 hp h (by decide)
    have k49 := So.hit e45 h
    have z50 := So.size e45
    have q51 := So.kept e45 hq (fun _ => hF)
    refine L.nil ?_
    refine (?_ : RetOk _ _ _ _ _)
    refine RetOk.r0 rfl ?_
    refine ⟨rfl, ⟨hF, hok.settle f, .slice aS D.safe.length cs, .slice none 0 0, k49, ?_, Row.nil _ _ _ _⟩, q51⟩
    obtain rfl : k = D.pend.length := by omega
    have hl : (D.settle f).safe.length = D.safe.length := length_settleN _
    rw [hl]; exact m47
end Go.Proofs.Ytpblppilknkdoaa
