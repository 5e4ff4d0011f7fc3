/- Read. -/
import Derived.Test.YtpblppilknkdoaaD6
namespace Go.Proofs.Ytpblppilknkdoaa
open Go Go.Eng Go.Proofs Go.RowKit
attribute [local irreducible] Go.Eng.C Go.Eng.L Go.Eng.Ret Go.Eng.Run Go.Eng.Does Go.Eng.Enters Go.Eng.AH Go.Eng.AO Go.Eng.RetOk Go.Eng.CI Go.Eng.LI Go.Eng.CA
set_option maxHeartbeats 1000000 in
theorem read_calls {w : World} {r : Nat} {D : PD} {F : Nat → Prop} (hD : DiskAt w r D F) (hops : D.ops ≤ 1000000) (hm : D.pend.length ≤ 1000000) {i : Int} :
    Ret Try.prog 22 #[.pointer (some ⟨r, 0, none⟩), .int .i64 i] w fun v w' => v = .tuple #[bval (D.read i).2.1, .int .i64 (D.read i).2.2] ∧ DiskAt w' r (D.read i).1 F ∧ Kept F w w' := by
  obtain ⟨hF, hok, sv, pv, h, hs, hp⟩ := hD
  obtain ⟨aS, cs, rfl, hsc⟩ := hs.shape
  have hq := Kept.refl F w
  have hslt := hs.lt
  have hplt := hp.lt
  refine Ret.introA [.pointer (some ⟨r, 0, none⟩), .int .i64 i] Try.func22 rfl rfl ?_
  refine CA.seq ?_
  refine C.region ?_
  refine L.stepE (R.box1 (v := .pointer (some ⟨r, 0, none⟩)) rfl rfl) rfl fun w2 e1 => ?_
  have m3 := Al.row e1 hs
  have m4 := Al.row e1 hp
  have k6 := Al.new e1
  have k7 := Al.old e1 h
  have z8 := Al.size e1
  have q9 := Al.kept e1 hq
  refine L.stepE (R.box1 (v := .int .i64 i) rfl rfl) rfl fun w11 e10 => ?_
  have m12 := Al.row e10 m3
  have m13 := Al.row e10 m4
  have k15 := Al.new e10
  have k16 := Al.old e10 k7
  have k17 := Al.old e10 k6
  have z18 := Al.size e10
  have q19 := Al.kept e10 q9
  refine L.stepE (R.alloc z27) rfl fun w21 e20 => ?_
  have m22 := Al.row e20 m12
  have m23 := Al.row e20 m13
  have k25 := Al.new e20
  have k26 := Al.old e20 k16
  have k27 := Al.old e20 k17
  have k28 := Al.old e20 k15
  have z29 := Al.size e20
  have q30 := Al.kept e20 q19
  refine L.stepE (R.alloc z38) rfl fun w32 e31 => ?_
  have m33 := Al.row e31 m22
  have m34 := Al.row e31 m23
  have k36 := Al.new e31
  have k37 := Al.old e31 k26
  have k38 := Al.old e31 k27
  have k39 := Al.old e31 k28
  have k40 := Al.old e31 k25
  have z41 := Al.size e31
  have q42 := Al.kept e31 q30
  refine L.nil ?_
  refine CA.seq ?_
  refine C.seq ?_
  refine C.region ?_
  refine L.step (R.load1 (v := .pointer (some ⟨r, 0, none⟩)) c24 rfl k38 rfl) rfl ?_
  refine L.step (R.load1 (v := .int .i64 i) c3 rfl k39 rfl) rfl ?_
  obtain ⟨D1, hD1⟩ : ∃ D1, D1 = (D.ready i).1 := ⟨_, rfl⟩
  obtain ⟨er, her⟩ : ∃ er, er = (D.ready i).2 := ⟨_, rfl⟩
  have hok1 : D1.Ok := by rw [hD1]; exact hok.ready _
  have hs1 : D1.safe = D.safe := by rw [hD1]; exact PD.ready_safe
  have hp1 : D1.pend = D.pend := by rw [hD1]; exact PD.ready_pend
  have ho1 : D1.ops = D.ops := by rw [hD1]; exact PD.ready_ops
  refine L.call (E.call2 hb40) rfl (ready_calls (D := D) k37 rfl hok i) ?_
  rintro _ w43 ⟨rfl, e44⟩
  have e44 := e44.symm
  rw [← hD1] at e44
  rw [← her]
  have m45 := So.rowE e44 m33 k37 (by decide)
  have m46 := So.rowE e44 m34 k37 (by decide)
  have k47 := So.hit e44 k37
  have k48 := So.old e44 (apartE k38 k37 (by decide)) k38
  have k49 := So.old e44 (apartE k39 k37 (by decide)) k39
  have k50 := So.old e44 (apartE k40 k37 (by decide)) k40
  have k51 := So.old e44 (apartE k36 k37 (by decide)) k36
  have z52 := So.size e44
  have q53 := So.kept e44 q42 (fun _ => hF)
  refine L.step (R.assignV (v := .int .i64 er) rfl) rfl ?_
  refine L.nil ?_
  refine C.seq ?_
  refine C.region ?_
  refine L.step (R.moveV (v := .int .i64 er) rfl) rfl ?_
  rcases Classical.em (er = 0) with hne | hne
  ·
    refine L.step (R.neqF rfl rfl hne) rfl ?_
    refine L.nil ?_
    refine C.condF rfl ?_
    refine C.skip ?_
    obtain ⟨_, hi0, hi1⟩ := PD.ready_range (D := D) (i := i) (by rw [← her]; exact hne)
    obtain ⟨k, rfl⟩ := Int.eq_ofNat_of_zero_le hi0
    have hops1 := hok1.ops
    obtain ⟨ap, cp, rfl, hpc⟩ := m46.shape
    refine CA.seqA ?_
    refine CA.seq ?_
    refine C.region ?_
    refine L.step (R.load1 (v := .pointer (some ⟨r, 0, none⟩)) c24 rfl k48 rfl) rfl ?_
    refine L.step (R.nilCheck rfl) rfl ?_
    refine L.step (R.fieldAddrV (o2 := 1) f69_1 rfl rfl) rfl ?_
    refine L.step (R.load1 (v := .slice ap D.pend.length cp) c67 rfl k47 rfl) rfl ?_
    refine L.call (E.call1 hb41) rfl backward_calls ?_
    rintro _ w54 ⟨rfl, e55⟩
    have e55 := e55.symm
    have m56 := Al.row e55 m45
    have m57 := Al.row e55 m46
    have k59 := Al.new e55
    have k60 := Al.old e55 k47
    have k61 := Al.old e55 k48
    have k62 := Al.old e55 k49
    have k63 := Al.old e55 k50
    have k64 := Al.old e55 k51
    have z65 := Al.size e55
    have q66 := Al.kept e55 q53
    refine L.nil ?_
    have hlr := at_lt _ _ k60
    have hl24 := at_lt _ _ k61
    have hl3 := at_lt _ _ k62
    have hl27 := at_lt _ _ k63
    have hl38 := at_lt _ _ k64
    obtain ⟨wR, hwR⟩ : ∃ wR : Blk → World, wR = fun b => setO (setO (setO w54 r (blk [.slice aS D.safe.length cs, .slice ap D.pend.length cp, .bool D1.dead, .bool D1.armed, .int .i64 D1.left, .int .i64 D1.fails, .int .i64 (D1.ops + 1)] 69)) (w11.heap.size) (blk (bcells b) 27)) (w21.heap.size) (blk [.int .i64 0] 38) := ⟨_, rfl⟩
    have hwRs : ∀ b, (wR b).heap.size = w54.heap.size := fun b => by rw [hwR]; simp
    refine CA.range (N := D.pend.length) (S := fun xs => xs = downTo D.pend D.pend.length) (Sp := fun pre => ∃ k, k ≤ D.pend.length ∧ pre = downTo D.pend k) (e1 := e1w) (e2 := e2w) (gf := 56) (lb := #[.pointer (some ⟨w43.heap.size, 0, none⟩)]) rfl hb56 rfl rfl
      (backward1_stops k59 m57 (fun p hp => (hok.pends p hp).2) hm)
      (fun pre W => (∀ y ∈ pre, (y.2.1 : Int) ≠ (k : Int)) ∧ Below w54.heap.size w54 W)
      (fun pre W => ∃ pre' x, (pre = pre' ++ [x] ∧ (∀ y ∈ pre', (y.2.1 : Int) ≠ (k : Int)) ∧ (x.2.1 : Int) = (k : Int)) ∧ Below w54.heap.size (wR (fix x.2.2)) W)
      (fun x τ W => ∃ b, (w54.heap.size ≤ b ∧ ∃ g, τ = upds [(2, .pointer (some ⟨w.heap.size, 0, none⟩)), (3, .pointer (some ⟨w2.heap.size, 0, none⟩)), (4, .pointer (some ⟨w11.heap.size, 0, none⟩)), (5, .pointer (some ⟨w21.heap.size, 0, none⟩)), (8, .pointer (some ⟨b, 0, none⟩))] g) ∧ W.heap[b]? = some (blk (wcells (x.2.1, fix x.2.2)) 80))
      (ownFrom_of_below (Nat.le_refl _) _)
      (fun s X Y row hs hg hr => by
        obtain ⟨pre', x, h1, h2⟩ := hs
        exact ⟨pre', x, h1, ownFrom_below (β := Unit) (Nat.le_of_eq (hwRs _).symm) (Nat.le_refl _) () X Y row h2 hg hr⟩)
      (fun x τ s X Y row hs hg hr => by
        obtain ⟨b, h1, h2⟩ := hs
        exact ⟨b, h1, ownFrom_blk (β := Unit) () X Y row h2 hg hr⟩)
      ⟨by simp, Below.refl _ _⟩ ?_ ?_ ?_ ?_
    · rintro l pre x W ⟨hpre, hB⟩
      have hWs := hB.size
      refine CI.region ?_
      refine LI.stepE (R.alloc z80) rfl fun w5 e5 => ?_
      refine LI.doesE (R.storeAll (cs := wcells (x.2.1, fix x.2.2)) r80 rfl rfl (wcells65 (length_fix _)) (one_wcells _) (Al.new e5) rfl) fun w6 e6 => ?_
      have hkf : KeepsFrom w54.heap.size W w6 := by
        rw [← e6]
        exact KeepsFrom.trans (by rw [← e5]; exact keepsFrom_alloc) (keepsFrom_setOC (Al.new e5))
      have hbl : Below w54.heap.size W w6 := by
        rw [← e6]
        exact Below.trans (by rw [← e5]; exact (Below.refl _ W).alloc hWs _) (Below.setOAbove hWs)
      refine LI.nil ⟨rfl, hkf, hbl, ⟨hpre, hB.trans hbl⟩, ⟨W.heap.size, ⟨hWs, _, (upds_self [(2, .pointer (some ⟨w.heap.size, 0, none⟩)), (3, .pointer (some ⟨w2.heap.size, 0, none⟩)), (4, .pointer (some ⟨w11.heap.size, 0, none⟩)), (5, .pointer (some ⟨w21.heap.size, 0, none⟩)), (8, .pointer (some ⟨W.heap.size, 0, none⟩))] _ ⟨rfl, rfl, rfl, rfl, rfl, trivial⟩).symm⟩, So.hit e6 (Al.new e5)⟩⟩
    ·
      rintro l pre x τ W ⟨hpre, hB⟩ ⟨b, ⟨hbl, g0, rfl⟩, hb⟩
      have k67 := Below.at hB k60 (by omega)
      have k68 := Below.at hB k61 (by omega)
      have k69 := Below.at hB k62 (by omega)
      have k70 := Below.at hB k63 (by omega)
      have k71 := Below.at hB k64 (by omega)
      refine CI.block ?_
      refine CI.seq ?_
      refine CI.region ?_
      refine LI.step (R.fieldAddrV (o2 := 0) f80_0 rfl rfl) rfl ?_
      refine LI.step (R.load1 (v := .int .i64 ((x.2.1, fix x.2.2).1 : Int)) c3 rfl hb rfl) rfl ?_
      refine LI.step (R.load1 (v := .int .i64 (k : Int)) c3 rfl k69 rfl) rfl ?_
      rcases Classical.em ((x.2.1 : Int) = (k : Int)) with ht72 | ht72
      ·
        refine LI.step (R.eqlT rfl rfl ht72) rfl ?_
        refine LI.nil ?_
        refine CI.condT rfl ?_
        refine CI.seq ?_
        refine CI.region ?_
        refine LI.step (R.load1 (v := .pointer (some ⟨r, 0, none⟩)) c24 rfl k68 rfl) rfl ?_
        refine LI.step (R.nilCheck rfl) rfl ?_
        refine LI.step (R.fieldAddrV (o2 := 6) f69_6 rfl rfl) rfl ?_
        refine LI.step (R.load1 (v := .int .i64 D1.ops) c3 rfl k67 rfl) rfl ?_
        refine LI.step (R.add rfl rfl (by omega)) rfl ?_
        refine LI.step (R.nilCheck rfl) rfl ?_
        refine LI.step (R.fieldAddrV (o2 := 6) f69_6 rfl rfl) rfl ?_
        refine LI.doesE (R.store1 c3 rfl (v := .int .i64 (D1.ops + 1)) rfl rfl k67 rfl) fun w74 e73 => ?_
        have k75 := So.hit e73 k67
        have k76 := So.old e73 (apartE k68 k67 (by decide)) k68
        have k77 := So.old e73 (apartE k69 k67 (by decide)) k69
        have k78 := So.old e73 (apartE k70 k67 (by decide)) k70
        have k79 := So.old e73 (apartE k71 k67 (by decide)) k71
        have k80 := So.old e73 (apartE hb k67 (by decide)) hb
        have z81 := So.size e73
        refine LI.nil ?_
        refine CI.seq ?_
        refine CI.region ?_
        refine LI.step (R.fieldAddrV (o2 := 1) f80_1 rfl rfl) rfl ?_
        refine LI.step (R.loadA (cs := bcells (x.2.1, fix x.2.2).2) r27 rfl k80 (wcells_tail (length_fix x.2.2)) (bcells64 (length_fix x.2.2))) rfl ?_
        refine LI.doesE (R.storeAll (cs := bcells (x.2.1, fix x.2.2).2) r27 rfl rfl (bcells64 (length_fix x.2.2)) (one_bcells _) k78 (List.length_replicate)) fun w83 e82 => ?_
        have k84 := So.old e82 (apartE k75 k78 (by decide)) k75
        have k85 := So.old e82 (apartE k76 k78 (by decide)) k76
        have k86 := So.old e82 (apartE k77 k78 (by decide)) k77
        have k87 := So.hit e82 k78
        have k88 := So.old e82 (apartE k79 k78 (by decide)) k79
        have k89 := So.old e82 (apartE k80 k78 (by decide)) k80
        have z90 := So.size e82
        refine LI.doesE (R.store1 c38 rfl (v := .int .i64 0) rfl rfl k88 rfl) fun w92 e91 => ?_
        have k93 := So.old e91 (apartE k84 k88 (by decide)) k84
        have k94 := So.old e91 (apartE k85 k88 (by decide)) k85
        have k95 := So.old e91 (apartE k86 k88 (by decide)) k86
        have k96 := So.old e91 (apartE k87 k88 (by decide)) k87
        have k97 := So.hit e91 k88
        have k98 := So.old e91 (apartE k89 k88 (by decide)) k89
        have z99 := So.size e91
        refine LI.nil ?_
        refine CI.ret ?_
        show _ ∧ _
        refine ⟨KeepsFrom.trans (KeepsFrom.trans (show KeepsFrom _ W w74 by rw [← e73]; exact keepsFrom_setOC k67) (show KeepsFrom _ w74 w83 by rw [← e82]; exact keepsFrom_setOC k78)) (show KeepsFrom _ w83 w92 by rw [← e91]; exact keepsFrom_setOC k88), .inr ⟨rfl, pre, x, ⟨rfl, hpre, ht72⟩, ?_⟩⟩
        rw [hwR, ← e91, ← e82, ← e73]
        exact Below.setO2 (Below.setO2 (Below.setO2 hB _ _ (by omega)) _ _ (by omega)) _ _ (by omega)
      ·
        refine LI.step (R.eqlF rfl rfl ht72) rfl ?_
        refine LI.nil ?_
        refine CI.condF rfl ?_
        refine CI.skip ?_
        show _ ∧ _
        refine ⟨KeepsFrom.refl _ _, .inl ⟨rfl, Below.refl _ _, ⟨fun y hy => ?_, hB⟩⟩⟩
        rcases List.mem_append.1 hy with h | h
        · exact hpre y h
        · obtain rfl := List.mem_singleton.1 h; exact ht72
    ·
      rintro D9 xs W hD9 rfl ⟨hmiss, hB⟩ hd9
      refine CA.use (CA.ofC ?_)
      have hK9 := Below.toKept hB (Nat.le_refl _)
      have k100 := Kept.old hK9 k60 (fun h => h)
      have k101 := Kept.old hK9 k61 (fun h => h)
      have k102 := Kept.old hK9 k62 (fun h => h)
      have k103 := Kept.old hK9 k63 (fun h => h)
      have k104 := Kept.old hK9 k64 (fun h => h)
      have m105 := Row.kept m56 hK9 (fun _ _ h => h)
      have m106 := Row.kept m57 hK9 (fun _ _ h => h)
      have q107 := Kept.trans q66 hK9 (fun _ _ h => h.elim)
      have z108 := (hK9).size
      obtain ⟨gs, ls, rfl, hFs, hgs, hns, hms, hls, hts⟩ := Row.blockA m105 (by omega)
      have hgslt := hslt gs rfl
      have hbig : D.safe.length ≤ 9223372036854775807 := by simp only [maxLen] at hms; omega
      obtain ⟨b0, hb0⟩ : ∃ b, D.safe[k]? = some b := ⟨_, List.getElem?_eq_getElem (by omega)⟩
      have hb64 := hok.blocks b0 (List.mem_of_getElem? hb0)
      have hall : ∀ b ∈ D.safe, (bcells b).length = 64 := fun b hb => bcells64 (hok.blocks b hb)
      refine C.seq ?_
      refine C.region ?_
      refine L.step (R.load1 (v := .pointer (some ⟨r, 0, none⟩)) c24 rfl k101 rfl) rfl ?_
      refine L.step (R.nilCheck rfl) rfl ?_
      refine L.step (R.fieldAddrV (o2 := 6) f69_6 rfl rfl) rfl ?_
      refine L.step (R.load1 (v := .int .i64 D1.ops) c3 rfl k100 rfl) rfl ?_
      refine L.step (R.add rfl rfl (by omega)) rfl ?_
      refine L.step (R.nilCheck rfl) rfl ?_
      refine L.step (R.fieldAddrV (o2 := 6) f69_6 rfl rfl) rfl ?_
      refine L.doesE (R.store1 c3 rfl (v := .int .i64 (D1.ops + 1)) rfl rfl k100 rfl) fun w110 e109 => ?_
      have m111 := So.rowE e109 m105 k100 (by decide)
      have m112 := So.rowE e109 m106 k100 (by decide)
      have k113 := So.hit e109 k100
      have k114 := So.old e109 (apartE k101 k100 (by decide)) k101
      have k115 := So.old e109 (apartE k102 k100 (by decide)) k102
      have k116 := So.old e109 (apartE k103 k100 (by decide)) k103
      have k117 := So.old e109 (apartE k104 k100 (by decide)) k104
      have k118 := So.old e109 (by omega) hd9
      have k119 := So.old e109 (apartE hgs k100 (by decide)) hgs
      have z120 := So.size e109
      have q121 := So.kept e109 q107 (fun _ => hF)
      refine L.nil ?_
      refine C.seq ?_
      refine C.drawE (fun W : World => W.heap[r]? = some (blk ([.slice (some ⟨gs, 0, none⟩) D.safe.length cs, .slice ap D.pend.length cp, .bool D1.dead, .bool D1.armed, .int .i64 D1.left, .int .i64 D1.fails, .int .i64 (D1.ops + 1)]) 69) ∧ W.heap[w.heap.size]? = some (blk ([.pointer (some ⟨r, 0, none⟩)]) 24) ∧ W.heap[w2.heap.size]? = some (blk ([.int .i64 (k : Int)]) 3) ∧ W.heap[gs]? = some (blk (ls) 27)) (fun j => !(Nat.beq j 8)) mixed fun w122 e123 => ?_
      have k124 := Dr.old e123 k113
      have k125 := Dr.old e123 k114
      have k126 := Dr.old e123 k115
      have k127 := Dr.old e123 k116
      have k128 := Dr.old e123 k117
      have k129 := Dr.old e123 k118
      have k130 := Dr.old e123 k119
      have m131 := Dr.row e123 m111
      have m132 := Dr.row e123 m112
      have z133 := Dr.size e123
      have q134 := Dr.kept e123 q121
      refine AH.take 0 rfl (by kernel_rfl) (by kernel_rfl) (by kernel_rfl) (by kernel_rfl) (fun _ _ _ h => h) rfl trivial (fun _ hS => (R.load1 (v := .pointer (some ⟨r, 0, none⟩)) c24 rfl hS.2.1 rfl)) (⟨k124, k125, k126, k130⟩) ?_
      refine AH.take 1 rfl (by kernel_rfl) (by kernel_rfl) (by kernel_rfl) (by kernel_rfl) (fun _ _ _ h => h) rfl trivial (fun _ hS => (R.nilCheck rfl)) (⟨k124, k125, k126, k130⟩) ?_
      refine AH.take 2 rfl (by kernel_rfl) (by kernel_rfl) (by kernel_rfl) (by kernel_rfl) (fun _ _ _ h => h) rfl trivial (fun _ hS => (R.fieldAddrV (o2 := 0) f69_0 rfl rfl)) (⟨k124, k125, k126, k130⟩) ?_
      refine AH.take 3 rfl (by kernel_rfl) (by kernel_rfl) (by kernel_rfl) (by kernel_rfl) (fun _ _ _ h => h) rfl trivial (fun _ hS => (R.load1 (v := .slice (some ⟨gs, 0, none⟩) D.safe.length cs) c35 rfl hS.1 rfl)) (⟨k124, k125, k126, k130⟩) ?_
      refine AH.take 4 rfl (by kernel_rfl) (by kernel_rfl) (by kernel_rfl) (by kernel_rfl) (fun _ _ _ h => h) rfl trivial (fun _ hS => (R.load1 (v := .int .i64 (k : Int)) c3 rfl hS.2.2.1 rfl)) (⟨k124, k125, k126, k130⟩) ?_
      refine AH.take 5 rfl (by kernel_rfl) (by kernel_rfl) (by kernel_rfl) (by kernel_rfl) (fun _ _ _ h => h) rfl trivial (fun _ hS => (R.indexAddrV (m := k) (o2 := k * 64) s35 rfl rfl rfl (by omega) (by omega))) (⟨k124, k125, k126, k130⟩) ?_
      refine AH.take 6 rfl (by kernel_rfl) (by kernel_rfl) (by kernel_rfl) (by kernel_rfl) (fun _ _ _ h => h) rfl trivial (fun _ hS => (R.loadA (cs := bcells b0) r27 rfl hS.2.2.2 (part_get hall rfl hts hb0) (bcells64 hb64))) (⟨k124, k125, k126, k130⟩) ?_
      refine AH.one 7 (by kernel_rfl) (AO.doesE rfl trivial (R.storeAll (cs := bcells b0) r27 rfl rfl (bcells64 hb64) (one_bcells _) k127 (List.length_replicate)) fun w136 e135 => ?_)
      have m137 := So.rowLt e135 m131 hslt (by omega)
      have m138 := So.rowE e135 m132 k127 (by decide)
      have k139 := So.old e135 (apartE k124 k127 (by decide)) k124
      have k140 := So.old e135 (apartE k125 k127 (by decide)) k125
      have k141 := So.old e135 (apartE k126 k127 (by decide)) k126
      have k142 := So.hit e135 k127
      have k143 := So.old e135 (apartE k128 k127 (by decide)) k128
      have k144 := So.old e135 (by omega) k129
      have k145 := So.old e135 (by omega) k130
      have z146 := So.size e135
      have q147 := So.kept e135 q134 (fun h => absurd h (by omega))
      refine ⟨fun _ => (⟨k139, k140, k141, k145⟩), ?_⟩
      refine AH.one 8 (by kernel_rfl) (AO.doesE rfl trivial (R.store1 c38 rfl (v := .int .i64 0) rfl rfl k143 rfl) fun w149 e148 => ?_)
      have m150 := So.rowE e148 m137 k143 (by decide)
      have m151 := So.rowE e148 m138 k143 (by decide)
      have k152 := So.old e148 (apartE k139 k143 (by decide)) k139
      have k153 := So.old e148 (apartE k140 k143 (by decide)) k140
      have k154 := So.old e148 (apartE k141 k143 (by decide)) k141
      have k155 := So.old e148 (apartE k142 k143 (by decide)) k142
      have k156 := So.hit e148 k143
      have k157 := So.old e148 (by omega) k144
      have k158 := So.old e148 (apartE k145 k143 (by decide)) k145
      have z159 := So.size e148
      have q160 := So.kept e148 q147 (fun h => absurd h (by omega))
      refine ⟨fun h => absurd h (by decide), ?_⟩
      refine AH.done (by kernel_rfl) ?_
      --
      obtain ⟨wG, eG⟩ : ∃ W, setO w149 D9 (.deferred none) = W := ⟨_, rfl⟩
      refine C.ret (actRetD k157 eG ?_)
      have k161 := So.old eG (by omega) k152
      have k162 := So.old eG (by omega) k153
      have k163 := So.old eG (by omega) k154
      have k164 := So.old eG (by omega) k155
      have k165 := So.old eG (by omega) k156
      have k166 := So.old eG (by omega) k158
      have m167 := So.rowLt eG m150 hslt (by omega)
      have m168 := So.rowLt eG m151 hplt (by omega)
      have q169 := So.kept eG q160 (fun h => absurd h (by omega))
      refine RetOk.cc rfl rfl (loadVarA (cs := bcells b0) r27 k164 (List.take_of_length_le (Nat.le_of_eq (bcells64 hb64))) (bcells64 hb64)) rfl (loadVar1 (v := .int .i64 0) c38 k165 rfl) ?_
      have hr : D.read (k : Int) = ({ D1 with ops := D1.ops + 1 }, b0, 0) := by
        unfold PD.read; rw [if_neg (by rw [← her]; exact fun h => h hne), ← hD1, PD.look_miss hmiss]; simp [hb0]
      rw [hr]
      exact ⟨rfl, ⟨hF, (⟨hok1.blocks, hok1.pends, hok1.left, hok1.armed, hok1.fails, by show 0 ≤ D1.ops + 1; omega⟩ : PD.Ok { D1 with ops := D1.ops + 1 }), _, _, k161, by rw [show ({ D1 with ops := D1.ops + 1 } : PD).safe = D.safe from hs1]; exact m167, by rw [show ({ D1 with ops := D1.ops + 1 } : PD).pend = D.pend from hp1]; exact m168⟩, q169⟩
    ·
      rintro D9 _ W hD9 ⟨kk, hkk, hpk⟩ ⟨pre, x, ⟨rfl, hpre, hx⟩, hB⟩ hd9
      have h64 : x.2.2.length = 64 := (hok.pends x.2 (mem_downTo hkk (by rw [← hpk]; simp))).2
      rw [fix_eq h64] at hB
      obtain ⟨w170, e171⟩ : ∃ W, setO w54 (r) (blk [.slice aS D.safe.length cs, .slice ap D.pend.length cp, .bool D1.dead, .bool D1.armed, .int .i64 D1.left, .int .i64 D1.fails, .int .i64 (D1.ops + 1)] 69) = W := ⟨_, rfl⟩
      have m172 := So.rowE e171 m56 k60 (by decide)
      have m173 := So.rowE e171 m57 k60 (by decide)
      have k174 := So.hit e171 k60
      have k175 := So.old e171 (apartE k61 k60 (by decide)) k61
      have k176 := So.old e171 (apartE k62 k60 (by decide)) k62
      have k177 := So.old e171 (apartE k63 k60 (by decide)) k63
      have k178 := So.old e171 (apartE k64 k60 (by decide)) k64
      have z179 := So.size e171
      have q180 := So.kept e171 q66 (fun _ => hF)
      obtain ⟨w181, e182⟩ : ∃ W, setO w170 (w11.heap.size) (blk (bcells x.2.2) 27) = W := ⟨_, rfl⟩
      have m183 := So.rowLt e182 m172 hslt (by omega)
      have m184 := So.rowE e182 m173 k177 (by decide)
      have k185 := So.old e182 (apartE k174 k177 (by decide)) k174
      have k186 := So.old e182 (apartE k175 k177 (by decide)) k175
      have k187 := So.old e182 (apartE k176 k177 (by decide)) k176
      have k188 := So.hit e182 k177
      have k189 := So.old e182 (apartE k178 k177 (by decide)) k178
      have z190 := So.size e182
      have q191 := So.kept e182 q180 (fun h => absurd h (by omega))
      obtain ⟨w192, e193⟩ : ∃ W, setO w181 (w21.heap.size) (blk [.int .i64 0] 38) = W := ⟨_, rfl⟩
      have m194 := So.rowE e193 m183 k189 (by decide)
      have m195 := So.rowE e193 m184 k189 (by decide)
      have k196 := So.old e193 (apartE k185 k189 (by decide)) k185
      have k197 := So.old e193 (apartE k186 k189 (by decide)) k186
      have k198 := So.old e193 (apartE k187 k189 (by decide)) k187
      have k199 := So.old e193 (apartE k188 k189 (by decide)) k188
      have k200 := So.hit e193 k189
      have z201 := So.size e193
      have q202 := So.kept e193 q191 (fun h => absurd h (by omega))
      have hRC : wR x.2.2 = w192 := by rw [hwR, ← e193, ← e182, ← e171]
      rw [hRC] at hB
      have hK9 := Below.toKept hB (by omega)
      have k203 := Kept.old hK9 k196 (fun h => h)
      have k204 := Kept.old hK9 k197 (fun h => h)
      have k205 := Kept.old hK9 k198 (fun h => h)
      have k206 := Kept.old hK9 k199 (fun h => h)
      have k207 := Kept.old hK9 k200 (fun h => h)
      have m208 := Row.kept m194 hK9 (fun _ _ h => h)
      have m209 := Row.kept m195 hK9 (fun _ _ h => h)
      have q210 := Kept.trans q202 hK9 (fun _ _ h => h.elim)
      have z211 := (hK9).size
      obtain ⟨wG, eG⟩ : ∃ X, setO W D9 (.deferred none) = X := ⟨_, rfl⟩
      refine actStop hd9 eG ?_
      have k212 := So.old eG (by omega) k203
      have k213 := So.old eG (by omega) k204
      have k214 := So.old eG (by omega) k205
      have k215 := So.old eG (by omega) k206
      have k216 := So.old eG (by omega) k207
      have m217 := So.rowLt eG m208 hslt (by omega)
      have m218 := So.rowLt eG m209 hplt (by omega)
      have q219 := So.kept eG q210 (fun h => absurd h (by omega))
      refine RetOk.cc rfl rfl (loadVarA (cs := bcells x.2.2) r27 k215 (List.take_of_length_le (Nat.le_of_eq (bcells64 h64))) (bcells64 h64)) rfl (loadVar1 (v := .int .i64 0) c38 k216 rfl) ?_
      have hr : D.read (k : Int) = ({ D1 with ops := D1.ops + 1 }, x.2.2, 0) := by
        unfold PD.read; rw [if_neg (by rw [← her]; exact fun h => h hne), ← hD1, PD.look_hit hkk hpk hpre hx]
      rw [hr]
      exact ⟨rfl, ⟨hF, (⟨hok1.blocks, hok1.pends, hok1.left, hok1.armed, hok1.fails, by show 0 ≤ D1.ops + 1; omega⟩ : PD.Ok { D1 with ops := D1.ops + 1 }), _, _, k212, by rw [show ({ D1 with ops := D1.ops + 1 } : PD).safe = D.safe from hs1]; exact m217, by rw [show ({ D1 with ops := D1.ops + 1 } : PD).pend = D.pend from hp1]; exact m218⟩, q219⟩
  ·
    refine L.step (R.neqT rfl rfl hne) rfl ?_
    refine L.nil ?_
    refine C.condT rfl ?_
    refine C.seq ?_
    refine C.region ?_
    refine L.step build27 rfl ?_
    refine L.step (R.moveV (v := .int .i64 er) rfl) rfl ?_
    refine L.doesE (R.storeAll (cs := bcells z64) r27 rfl rfl (bcells64 rfl) (one_bcells _) k50 (List.length_replicate)) fun w221 e220 => ?_
    have m222 := So.rowLt e220 m45 hslt (by omega)
    have m223 := So.rowE e220 m46 k50 (by decide)
    have k224 := So.old e220 (apartE k47 k50 (by decide)) k47
    have k225 := So.old e220 (apartE k48 k50 (by decide)) k48
    have k226 := So.old e220 (apartE k49 k50 (by decide)) k49
    have k227 := So.hit e220 k50
    have k228 := So.old e220 (apartE k51 k50 (by decide)) k51
    have z229 := So.size e220
    have q230 := So.kept e220 q53 (fun h => absurd h (by omega))
    refine L.doesE (R.store1 c38 rfl (v := .int .i64 er) rfl rfl k228 rfl) fun w232 e231 => ?_
    have m233 := So.rowE e231 m222 k228 (by decide)
    have m234 := So.rowE e231 m223 k228 (by decide)
    have k235 := So.old e231 (apartE k224 k228 (by decide)) k224
    have k236 := So.old e231 (apartE k225 k228 (by decide)) k225
    have k237 := So.old e231 (apartE k226 k228 (by decide)) k226
    have k238 := So.old e231 (apartE k227 k228 (by decide)) k227
    have k239 := So.hit e231 k228
    have z240 := So.size e231
    have q241 := So.kept e231 q230 (fun h => absurd h (by omega))
    refine L.nil ?_
    refine C.ret (actRet ?_)
    refine RetOk.cc rfl rfl (loadVarA (cs := bcells z64) r27 k238 (List.take_of_length_le (Nat.le_of_eq (bcells64 rfl))) (bcells64 rfl)) rfl (loadVar1 (v := .int .i64 er) c38 k239 rfl) ?_
    have hr : D.read i = (D1, z64, er) := by
      unfold PD.read; rw [if_pos (by rw [← her]; exact hne), ← hD1, ← her]
    rw [hr]
    exact ⟨rfl, ⟨hF, hok1, _, _, k235, by rw [show (D1 : PD).safe = D.safe from hs1]; exact m233, by rw [show (D1 : PD).pend = D.pend from hp1]; exact m234⟩, q241⟩
end Go.Proofs.Ytpblppilknkdoaa
