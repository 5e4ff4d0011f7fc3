/- Sync, Crash and Write. -/
import Derived.Test.YtpblppilknkdoaaD4
namespace Go.Proofs.Ytpblppilknkdoaa
open Go Go.Eng Go.Proofs
attribute [local irreducible] Go.Eng.C Go.Eng.L Go.Eng.Ret Go.Eng.Run Go.Eng.Does Go.Eng.Enters Go.Eng.AH Go.Eng.AO Go.Eng.RetOk
theorem sync_calls {w : World} {r : Nat} {D : PD} {F : Nat → Prop} (hD : DiskAt w r D F) (hops : D.ops ≤ 1000000) :
    Ret Try.prog 26 #[.pointer (some ⟨r, 0, none⟩)] w fun v w' => v = .int .i64 D.sync.2 ∧ DiskAt w' r D.sync.1 F ∧ Kept F w w' := by
  obtain ⟨hF, hok, sv, pv, h, hs, hp⟩ := hD
  obtain ⟨aS, cs, rfl, hsc⟩ := hs.shape
  have hq := Kept.refl F w
  refine Ret.intro [.pointer (some ⟨r, 0, none⟩)] Try.func26 rfl rfl ?_
  refine C.seq ?_
  refine C.region ?_
  refine L.stepE (R.box1 (v := .pointer (some ⟨r, 0, none⟩)) rfl rfl) rfl fun w2 e1 => ?_
  have m3 := Al.row e1 hs
  have m4 := Al.row e1 hp
  have k6 := Al.new e1
  have k7 := Al.old e1 h
  have z8 := Al.size e1
  have q9 := Al.kept e1 hq
  refine L.step (R.assignV (v := .int .i64 0) rfl) rfl ?_
  refine L.nil ?_
  refine C.seq ?_
  refine C.seq ?_
  refine C.region ?_
  refine L.step (R.load1 (v := .pointer (some ⟨r, 0, none⟩)) c24 rfl k6 rfl) rfl ?_
  obtain ⟨D1, hD1⟩ : ∃ D1, D1 = (D.ready 0).1 := ⟨_, rfl⟩
  obtain ⟨er, her⟩ : ∃ er, er = (D.ready 0).2 := ⟨_, rfl⟩
  have hok1 : D1.Ok := by rw [hD1]; exact hok.ready _
  have hs1 : D1.safe = D.safe := by rw [hD1]; exact PD.ready_safe
  have hp1 : D1.pend = D.pend := by rw [hD1]; exact PD.ready_pend
  have ho1 : D1.ops = D.ops := by rw [hD1]; exact PD.ready_ops
  refine L.call (E.call2 hb40) rfl (ready_calls (D := D) k7 rfl hok 0) ?_
  rintro _ w10 ⟨rfl, e11⟩
  have e11 := e11.symm
  rw [← hD1] at e11
  rw [← her]
  have m12 := So.rowE e11 m3 k7 (by decide)
  have m13 := So.rowE e11 m4 k7 (by decide)
  have k14 := So.hit e11 k7
  have k15 := So.old e11 (apartE k6 k7 (by decide)) k6
  have z16 := So.size e11
  have q17 := So.kept e11 q9 (fun _ => hF)
  refine L.step (R.assignV (v := .int .i64 er) rfl) rfl ?_
  refine L.nil ?_
  refine C.seq ?_
  refine C.region ?_
  refine L.step (R.moveV (v := .int .i64 er) rfl) rfl ?_
  rcases Classical.em (er = 0) with hne | hne
  ·
    refine L.step (R.neqF rfl rfl hne) rfl ?_
    refine L.nil ?_
    refine C.condF rfl ?_
    refine C.skip ?_
    refine C.seq ?_
    refine C.region ?_
    refine L.step (R.load1 (v := .pointer (some ⟨r, 0, none⟩)) c24 rfl k15 rfl) rfl ?_
    refine L.step (R.makeFunc1V (v := .func (.func 46) #[] #[.pointer (some ⟨w.heap.size, 0, none⟩)]) rfl) rfl ?_
    rcases Classical.em D1.stops with hst18 | hst18
    ·
      refine L.call (E.call2 hb45) rfl (do_dead (D := D1) k14 hst18) ?_
      rintro _ w19 ⟨rfl, e20⟩
      have e20 := e20.symm
      have m21 := So.rowE e20 m12 k14 (by decide)
      have m22 := So.rowE e20 m13 k14 (by decide)
      have k23 := So.hit e20 k14
      have k24 := So.old e20 (apartE k15 k14 (by decide)) k15
      have z25 := So.size e20
      have q26 := So.kept e20 q17 (fun _ => hF)
      refine L.step (R.assignV (v := .int .i64 9) rfl) rfl ?_
      refine L.nil ?_
      refine C.ret (?_ : RetOk _ _ _ _ _)
      refine RetOk.tV (v := .int .i64 9) rfl rfl ?_
      have hr : D.sync = (D1.die, 9) := by
        unfold PD.sync; rw [if_neg (by rw [← her]; exact fun h => h hne), ← hD1, if_pos hst18]
      rw [hr]
      exact ⟨rfl, ⟨hF, hok1.die, _, _, k23, by rw [show (D1.die).safe = D.safe from hs1]; exact m21, by rw [show (D1.die).pend = D.pend from hp1]; exact m22⟩, q26⟩
    ·
      obtain ⟨W29, e30⟩ : ∃ W, setO w10 r (blk (D1.pre.cells (.slice aS D.safe.length cs) pv) 69) = W := ⟨_, rfl⟩
      have m31 := So.rowE e30 m12 k14 (by decide)
      have m32 := So.rowE e30 m13 k14 (by decide)
      have k33 := So.hit e30 k14
      have k34 := So.old e30 (apartE k15 k14 (by decide)) k15
      have z35 := So.size e30
      have q36 := So.kept e30 q17 (fun _ => hF)
      have hDp : DiskAt W29 r D1.pre F := ⟨hF, hok1.pre hst18, _, _, k33, by show Row W29 27 64 _ D1.safe.length (D1.safe.flatMap bcells) F; rw [hs1]; exact m31, by show Row W29 80 65 _ D1.pend.length (D1.pend.flatMap wcells) F; rw [hp1]; exact m32⟩
      refine L.call (E.call2 hb45) rfl (do_run (D := D1) k14 hst18 hok1 (by omega) hb46 (by rw [e30]; exact (sync1_calls hDp k34))) ?_
      rintro _ w27 ⟨rfl, u9, hD9, hk9⟩
      have q37 := Kept.trans q36 hk9 (fun k _ h => h)
      refine L.step (R.assignV (v := .int .i64 0) rfl) rfl ?_
      refine L.nil ?_
      refine C.ret (?_ : RetOk _ _ _ _ _)
      refine RetOk.tV (v := .int .i64 0) rfl rfl ?_
      have hr : D.sync = (D1.pre.settle (fun _ => true), 0) := by
        unfold PD.sync; rw [if_neg (by rw [← her]; exact fun h => h hne), ← hD1, if_neg hst18]
      rw [hr]
      exact ⟨rfl, hD9, q37⟩
  ·
    refine L.step (R.neqT rfl rfl hne) rfl ?_
    refine L.nil ?_
    refine C.condT rfl ?_
    refine C.seq ?_
    refine C.region ?_
    refine L.step (R.moveV (v := .int .i64 er) rfl) rfl ?_
    refine L.step (R.assignV (v := .int .i64 er) rfl) rfl ?_
    refine L.nil ?_
    refine C.ret (?_ : RetOk _ _ _ _ _)
    refine RetOk.tV (v := .int .i64 er) rfl rfl ?_
    have hr : D.sync = (D1, er) := by
      unfold PD.sync; rw [if_pos (by rw [← her]; exact hne)]; exact Prod.ext hD1.symm her.symm
    rw [hr]
    exact ⟨rfl, ⟨hF, hok1, _, _, k14, by rw [show (D1).safe = D.safe from hs1]; exact m12, by rw [show (D1).pend = D.pend from hp1]; exact m13⟩, q17⟩
theorem write_calls {w : World} {r : Nat} {D : PD} {F : Nat → Prop} (hD : DiskAt w r D F) (hops : D.ops ≤ 1000000) (hm : D.pend.length ≤ 1000000) {i : Int} {b : Blk} (hb : b.length = 64) :
    Ret Try.prog 33 #[.pointer (some ⟨r, 0, none⟩), .int .i64 i, .agg (bcells b).toArray] w fun v w' => v = .int .i64 (D.write i b).2 ∧ DiskAt w' r (D.write i b).1 (grow F w w') ∧ Kept F w w' := by
  obtain ⟨hF, hok, sv, pv, h, hs, hp⟩ := hD
  obtain ⟨aS, cs, rfl, hsc⟩ := hs.shape
  have hq := Kept.refl F w
  refine Ret.intro [.pointer (some ⟨r, 0, none⟩), .int .i64 i, .agg (List.toArray (bcells b))] Try.func33 rfl rfl ?_
  refine C.seq ?_
  refine C.region ?_
  refine L.stepE (R.box1 (v := .pointer (some ⟨r, 0, none⟩)) rfl rfl) rfl fun w39 e38 => ?_
  have m40 := Al.row e38 hs
  have m41 := Al.row e38 hp
  have k43 := Al.new e38
  have k44 := Al.old e38 h
  have z45 := Al.size e38
  have q46 := Al.kept e38 hq
  refine L.stepE (R.box1 (v := .int .i64 i) rfl rfl) rfl fun w48 e47 => ?_
  have m49 := Al.row e47 m40
  have m50 := Al.row e47 m41
  have k52 := Al.new e47
  have k53 := Al.old e47 k44
  have k54 := Al.old e47 k43
  have z55 := Al.size e47
  have q56 := Al.kept e47 q46
  refine L.stepE (R.boxA (cs := bcells b) rfl) rfl fun w58 e57 => ?_
  have m59 := Al.row e57 m49
  have m60 := Al.row e57 m50
  have k62 := Al.new e57
  have k63 := Al.old e57 k53
  have k64 := Al.old e57 k54
  have k65 := Al.old e57 k52
  have z66 := Al.size e57
  have q67 := Al.kept e57 q56
  have hsz := q67.size
  refine L.step (R.assignV (v := .int .i64 0) rfl) rfl ?_
  refine L.nil ?_
  refine C.seq ?_
  refine C.seq ?_
  refine C.region ?_
  refine L.step (R.load1 (v := .pointer (some ⟨r, 0, none⟩)) c24 rfl k64 rfl) rfl ?_
  refine L.step (R.load1 (v := .int .i64 i) c3 rfl k65 rfl) rfl ?_
  obtain ⟨D1, hD1⟩ : ∃ D1, D1 = (D.ready i).1 := ⟨_, rfl⟩
  obtain ⟨er, her⟩ : ∃ er, er = (D.ready i).2 := ⟨_, rfl⟩
  have hok1 : D1.Ok := by rw [hD1]; exact hok.ready _
  have hs1 : D1.safe = D.safe := by rw [hD1]; exact PD.ready_safe
  have hp1 : D1.pend = D.pend := by rw [hD1]; exact PD.ready_pend
  have ho1 : D1.ops = D.ops := by rw [hD1]; exact PD.ready_ops
  refine L.call (E.call2 hb40) rfl (ready_calls (D := D) k63 rfl hok i) ?_
  rintro _ w68 ⟨rfl, e69⟩
  have e69 := e69.symm
  rw [← hD1] at e69
  rw [← her]
  have m70 := So.rowE e69 m59 k63 (by decide)
  have m71 := So.rowE e69 m60 k63 (by decide)
  have k72 := So.hit e69 k63
  have k73 := So.old e69 (apartE k64 k63 (by decide)) k64
  have k74 := So.old e69 (apartE k65 k63 (by decide)) k65
  have k75 := So.old e69 (apartE k62 k63 (by decide)) k62
  have z76 := So.size e69
  have q77 := So.kept e69 q67 (fun _ => hF)
  refine L.step (R.assignV (v := .int .i64 er) rfl) rfl ?_
  refine L.nil ?_
  refine C.seq ?_
  refine C.region ?_
  refine L.step (R.moveV (v := .int .i64 er) rfl) rfl ?_
  rcases Classical.em (er = 0) with hne | hne
  ·
    refine L.step (R.neqF rfl rfl hne) rfl ?_
    refine L.nil ?_
    refine C.condF rfl ?_
    refine C.skip ?_
    refine C.seq ?_
    refine C.region ?_
    refine L.step (R.load1 (v := .pointer (some ⟨r, 0, none⟩)) c24 rfl k73 rfl) rfl ?_
    refine L.step (R.makeFunc3V (v := .func (.func 52) #[] #[.pointer (some ⟨w.heap.size, 0, none⟩), .pointer (some ⟨w39.heap.size, 0, none⟩), .pointer (some ⟨w48.heap.size, 0, none⟩)]) rfl) rfl ?_
    rcases Classical.em D1.stops with hst78 | hst78
    ·
      refine L.call (E.call2 hb45) rfl (do_dead (D := D1) k72 hst78) ?_
      rintro _ w79 ⟨rfl, e80⟩
      have e80 := e80.symm
      have m81 := So.rowE e80 m70 k72 (by decide)
      have m82 := So.rowE e80 m71 k72 (by decide)
      have k83 := So.hit e80 k72
      have k84 := So.old e80 (apartE k73 k72 (by decide)) k73
      have k85 := So.old e80 (apartE k74 k72 (by decide)) k74
      have k86 := So.old e80 (apartE k75 k72 (by decide)) k75
      have z87 := So.size e80
      have q88 := So.kept e80 q77 (fun _ => hF)
      refine L.step (R.assignV (v := .int .i64 9) rfl) rfl ?_
      refine L.nil ?_
      refine C.ret (?_ : RetOk _ _ _ _ _)
      refine RetOk.tV (v := .int .i64 9) rfl rfl ?_
      have hr : D.write i b = (D1.die, 9) := by
        unfold PD.write; rw [if_neg (by rw [← her]; exact fun h => h hne), ← hD1, if_pos hst78]
      rw [hr]
      exact ⟨rfl, ⟨.inl hF, hok1.die, _, _, k83, by rw [show (D1.die).safe = D.safe from hs1]; exact m81.mono grow_sub, by rw [show (D1.die).pend = D.pend from hp1]; exact m82.mono grow_sub⟩, q88⟩
    ·
      obtain ⟨W91, e92⟩ : ∃ W, setO w68 r (blk (D1.pre.cells (.slice aS D.safe.length cs) pv) 69) = W := ⟨_, rfl⟩
      have m93 := So.rowE e92 m70 k72 (by decide)
      have m94 := So.rowE e92 m71 k72 (by decide)
      have k95 := So.hit e92 k72
      have k96 := So.old e92 (apartE k73 k72 (by decide)) k73
      have k97 := So.old e92 (apartE k74 k72 (by decide)) k74
      have k98 := So.old e92 (apartE k75 k72 (by decide)) k75
      have z99 := So.size e92
      have q100 := So.kept e92 q77 (fun _ => hF)
      have hDp : DiskAt W91 r D1.pre F := ⟨hF, hok1.pre hst78, _, _, k95, by show Row W91 27 64 _ D1.safe.length (D1.safe.flatMap bcells) F; rw [hs1]; exact m93, by show Row W91 80 65 _ D1.pend.length (D1.pend.flatMap wcells) F; rw [hp1]; exact m94⟩
      obtain ⟨_, hi0, hi1⟩ := PD.ready_range (D := D) (i := i) (by rw [← her]; exact hne)
      obtain ⟨k, rfl⟩ := Int.eq_ofNat_of_zero_le hi0
      refine L.call (E.call2 hb45) rfl (do_run (D := D1) k72 hst78 hok1 (by omega) hb52 (by rw [e92]; exact (write1_calls (k := k) (b := b) hDp k96 k97 k98 (by show k < D1.safe.length; rw [hs1]; omega) hb (by show D1.pend.length ≤ 1000000; rw [hp1]; exact hm)))) ?_
      rintro _ w89 ⟨rfl, u9, hD9, hk9⟩
      have hz9 := q100.size
      have q101 := Kept.trans q100 hk9 (fun k _ h => h)
      refine L.step (R.assignV (v := .int .i64 0) rfl) rfl ?_
      refine L.nil ?_
      refine C.ret (?_ : RetOk _ _ _ _ _)
      refine RetOk.tV (v := .int .i64 0) rfl rfl ?_
      have hr : D.write k b = ({ D1.pre with pend := D1.pend ++ [(k, b)] }, 0) := by
        unfold PD.write; rw [if_neg (by rw [← her]; exact fun h => h hne), ← hD1, if_neg hst78, hp1]; rfl
      rw [hr]
      exact ⟨rfl, hD9.mono (grow_mono (fun _ h => h) hz9 (Nat.le_refl _)), q101⟩
  ·
    refine L.step (R.neqT rfl rfl hne) rfl ?_
    refine L.nil ?_
    refine C.condT rfl ?_
    refine C.seq ?_
    refine C.region ?_
    refine L.step (R.moveV (v := .int .i64 er) rfl) rfl ?_
    refine L.step (R.assignV (v := .int .i64 er) rfl) rfl ?_
    refine L.nil ?_
    refine C.ret (?_ : RetOk _ _ _ _ _)
    refine RetOk.tV (v := .int .i64 er) rfl rfl ?_
    have hr : D.write i b = (D1, er) := by
      unfold PD.write; rw [if_pos (by rw [← her]; exact hne)]; exact Prod.ext hD1.symm her.symm
    rw [hr]
    exact ⟨rfl, ⟨.inl hF, hok1, _, _, k72, by rw [show (D1).safe = D.safe from hs1]; exact m70.mono grow_sub, by rw [show (D1).pend = D.pend from hp1]; exact m71.mono grow_sub⟩, q77⟩
theorem crash_calls {w : World} {r : Nat} {D : PD} {F G : Nat → Prop} (hD : DiskAt w r D F) {kv : Value} {ks : List Bool} (hk : BoolsAt w kv ks G) (hFG : ∀ k, F k → ¬ G k) (hFw : ∀ k, F k → k < w.heap.size) (hm : D.pend.length ≤ 1000000) :
    Ret Try.prog 29 #[.pointer (some ⟨r, 0, none⟩), kv] w fun v w' => v = .int .i64 0 ∧ DiskAt w' r (D.crash fun k => ks.getD k false) F ∧ Kept F w w' := by
  obtain ⟨ka, kc, rfl⟩ := hk.shape
  refine Ret.intro [.pointer (some ⟨r, 0, none⟩), .slice ka ks.length kc] Try.func29 rfl rfl ?_
  refine C.seq ?_
  refine C.region ?_
  refine L.stepE (R.box1 (v := .slice ka ks.length kc) rfl rfl) rfl fun w103 e102 => ?_
  have k105 := Al.new e102
  have z106 := Al.size e102
  have q107 := Al.kept e102 (Kept.refl F w)
  refine L.step (R.assignV (v := .int .i64 0) rfl) rfl ?_
  refine L.nil ?_
  refine C.seq ?_
  refine C.seq ?_
  refine C.region ?_
  refine L.step (R.moveV (v := .pointer (some ⟨r, 0, none⟩)) rfl) rfl ?_
  refine L.step (R.eqlP Try.underlying24 rfl rfl) rfl ?_
  refine L.nil ?_
  refine C.condF rfl ?_
  refine C.skip ?_
  refine C.seq ?_
  refine C.region ?_
  refine L.step (R.moveV (v := .pointer (some ⟨r, 0, none⟩)) rfl) rfl ?_
  refine L.step (R.makeFunc1V (v := .func (.func 49) #[] #[.pointer (some ⟨w.heap.size, 0, none⟩)]) rfl) rfl ?_
  have hD1 : DiskAt w103 r D F := hD.kept (S := fun _ => False) (Al.kept e102 (Kept.refl _ w)) (fun _ _ h => h)
  have hk1 : BoolsAt w103 _ ks G := hk.kept (S := fun _ => False) (Al.kept e102 (Kept.refl _ w)) (fun _ _ h => h)
  refine L.call (E.call2 hb47) rfl (settle_calls hD1 49 #[.pointer (some ⟨w.heap.size, 0, none⟩)] (fun k => ks.getD k false) hb49 (fun k W hlt hW => keepOf_calls (hW.old k105 (fun h => Nat.lt_irrefl _ (hFw _ h))) (hk1.kept hW (fun k hG hF => hFG k hF hG)) k (by omega))) ?_
  rintro _ w9 ⟨rfl, hD9, hk9⟩
  have q108 := Kept.trans q107 hk9 (fun k _ h => h)
  obtain ⟨hF, hok, sv, pv, h, hs, hp⟩ := hD9
  refine L.nil ?_
  refine C.seq ?_
  refine C.region ?_
  refine L.step (R.moveV (v := .pointer (some ⟨r, 0, none⟩)) rfl) rfl ?_
  refine L.step (R.moveV (v := .pointer (some ⟨r, 0, none⟩)) rfl) rfl ?_
  refine L.step (R.moveV (v := .pointer (some ⟨r, 0, none⟩)) rfl) rfl ?_
  refine L.step (R.nilCheck rfl) rfl ?_
  refine L.step (R.fieldAddrV (o2 := 2) f69_2 rfl rfl) rfl ?_
  refine L.doesE (R.store1 c4 rfl (v := .bool false) rfl rfl h rfl) fun w110 e109 => ?_
  have m111 := So.rowE e109 hs h (by decide)
  have m112 := So.rowE e109 hp h (by decide)
  have k113 := So.hit e109 h
  have z114 := So.size e109
  have q115 := So.kept e109 q108 (fun _ => hF)
  refine L.step (R.nilCheck rfl) rfl ?_
  refine L.step (R.fieldAddrV (o2 := 3) f69_3 rfl rfl) rfl ?_
  refine L.doesE (R.store1 c4 rfl (v := .bool false) rfl rfl k113 rfl) fun w117 e116 => ?_
  have m118 := So.rowE e116 m111 k113 (by decide)
  have m119 := So.rowE e116 m112 k113 (by decide)
  have k120 := So.hit e116 k113
  have z121 := So.size e116
  have q122 := So.kept e116 q115 (fun _ => hF)
  refine L.step (R.nilCheck rfl) rfl ?_
  refine L.step (R.fieldAddrV (o2 := 5) f69_5 rfl rfl) rfl ?_
  refine L.doesE (R.store1 c3 rfl (v := .int .i64 0) rfl rfl k120 rfl) fun w124 e123 => ?_
  have m125 := So.rowE e123 m118 k120 (by decide)
  have m126 := So.rowE e123 m119 k120 (by decide)
  have k127 := So.hit e123 k120
  have z128 := So.size e123
  have q129 := So.kept e123 q122 (fun _ => hF)
  refine L.nil ?_
  refine C.seq ?_
  refine C.region ?_
  refine L.step (R.assignV (v := .int .i64 0) rfl) rfl ?_
  refine L.nil ?_
  refine C.ret (?_ : RetOk _ _ _ _ _)
  refine RetOk.tV (v := .int .i64 0) rfl rfl ?_
  exact ⟨rfl, ⟨hF, ⟨hok.blocks, hok.pends, hok.left, by simp [PD.crash], by simp [PD.crash], hok.ops⟩, sv, pv, k127, m125, m126⟩, q129⟩
theorem crash_nil {w : World} {kv : Value} (h1 : kv.oneCell' = true) : Ret Try.prog 29 #[.pointer none, kv] w fun v w' => v = .int .i64 1 ∧ Kept (fun _ => False) w w' := by
  refine Ret.intro [.pointer none, kv] Try.func29 rfl rfl ?_
  refine C.seq ?_
  refine C.region ?_
  refine L.stepE (R.box1 (v := kv) rfl h1) rfl fun w131 e130 => ?_
  have k133 := Al.new e130
  have z134 := Al.size e130
  have q135 := Al.kept e130 (Kept.refl (fun _ => False) w)
  refine L.step (R.assignV (v := .int .i64 0) rfl) rfl ?_
  refine L.nil ?_
  refine C.seq ?_
  refine C.seq ?_
  refine C.region ?_
  refine L.step (R.moveV (v := .pointer none) rfl) rfl ?_
  refine L.step (R.eqlP Try.underlying24 rfl rfl) rfl ?_
  refine L.nil ?_
  refine C.condT rfl ?_
  refine C.seq ?_
  refine C.region ?_
  refine L.step (R.assignV (v := .int .i64 1) rfl) rfl ?_
  refine L.nil ?_
  refine C.ret (?_ : RetOk _ _ _ _ _)
  refine RetOk.tV (v := .int .i64 1) rfl rfl ?_
  exact ⟨rfl, q135⟩
theorem ready_nil {w : World} {i : Int} : Ret Try.prog 40 #[.pointer none, .int .i64 i] w fun v w' => v = .int .i64 1 ∧ w' = w := by
  refine Ret.intro [.pointer none, .int .i64 i] Try.func40 rfl rfl ?_
  refine C.seq ?_
  refine C.region ?_
  refine L.step (R.assignV (v := .int .i64 0) rfl) rfl ?_
  refine L.nil ?_
  refine C.seq ?_
  refine C.seq ?_
  refine C.region ?_
  refine L.step (R.moveV (v := .pointer none) rfl) rfl ?_
  refine L.call (E.call1 hb44) rfl power_nil ?_
  rintro _ _ ⟨rfl, rfl⟩
  refine L.step (R.assignV (v := .int .i64 1) rfl) rfl ?_
  refine L.nil ?_
  refine C.seq ?_
  refine C.region ?_
  refine L.step (R.moveV (v := .int .i64 1) rfl) rfl ?_
  refine L.step (R.neqT rfl rfl (by omega)) rfl ?_
  refine L.nil ?_
  refine C.condT rfl ?_
  refine C.seq ?_
  refine C.region ?_
  refine L.step (R.moveV (v := .int .i64 1) rfl) rfl ?_
  refine L.step (R.assignV (v := .int .i64 1) rfl) rfl ?_
  refine L.nil ?_
  refine C.ret (?_ : RetOk _ _ _ _ _)
  refine RetOk.tV (v := .int .i64 1) rfl rfl ?_
  exact ⟨rfl, rfl⟩
theorem sync_nil {w : World} : Ret Try.prog 26 #[.pointer none] w fun v w' => v = .int .i64 1 ∧ Kept (fun _ => False) w w' := by
  refine Ret.intro [.pointer none] Try.func26 rfl rfl ?_
  refine C.seq ?_
  refine C.region ?_
  refine L.stepE (R.box1 (v := .pointer none) rfl rfl) rfl fun w137 e136 => ?_
  have k139 := Al.new e136
  have z140 := Al.size e136
  have q141 := Al.kept e136 (Kept.refl (fun _ => False) w)
  refine L.step (R.assignV (v := .int .i64 0) rfl) rfl ?_
  refine L.nil ?_
  refine C.seq ?_
  refine C.seq ?_
  refine C.region ?_
  refine L.step (R.load1 (v := .pointer none) c24 rfl k139 rfl) rfl ?_
  refine L.call (E.call2 hb40) rfl ready_nil ?_
  rintro _ _ ⟨rfl, rfl⟩
  refine L.step (R.assignV (v := .int .i64 1) rfl) rfl ?_
  refine L.nil ?_
  refine C.seq ?_
  refine C.region ?_
  refine L.step (R.moveV (v := .int .i64 1) rfl) rfl ?_
  refine L.step (R.neqT rfl rfl (by omega)) rfl ?_
  refine L.nil ?_
  refine C.condT rfl ?_
  refine C.seq ?_
  refine C.region ?_
  refine L.step (R.moveV (v := .int .i64 1) rfl) rfl ?_
  refine L.step (R.assignV (v := .int .i64 1) rfl) rfl ?_
  refine L.nil ?_
  refine C.ret (?_ : RetOk _ _ _ _ _)
  refine RetOk.tV (v := .int .i64 1) rfl rfl ?_
  exact ⟨rfl, q141⟩
theorem write_nil {w : World} {i : Int} {b : Blk} (hb : b.length = 64) : Ret Try.prog 33 #[.pointer none, .int .i64 i, .agg (bcells b).toArray] w fun v w' => v = .int .i64 1 ∧ Kept (fun _ => False) w w' := by
  refine Ret.intro [.pointer none, .int .i64 i, .agg (List.toArray (bcells b))] Try.func33 rfl rfl ?_
  refine C.seq ?_
  refine C.region ?_
  refine L.stepE (R.box1 (v := .pointer none) rfl rfl) rfl fun w143 e142 => ?_
  have k145 := Al.new e142
  have z146 := Al.size e142
  have q147 := Al.kept e142 (Kept.refl (fun _ => False) w)
  refine L.stepE (R.box1 (v := .int .i64 i) rfl rfl) rfl fun w149 e148 => ?_
  have k151 := Al.new e148
  have k152 := Al.old e148 k145
  have z153 := Al.size e148
  have q154 := Al.kept e148 q147
  refine L.stepE (R.boxA (cs := bcells b) rfl) rfl fun w156 e155 => ?_
  have k158 := Al.new e155
  have k159 := Al.old e155 k152
  have k160 := Al.old e155 k151
  have z161 := Al.size e155
  have q162 := Al.kept e155 q154
  refine L.step (R.assignV (v := .int .i64 0) rfl) rfl ?_
  refine L.nil ?_
  refine C.seq ?_
  refine C.seq ?_
  refine C.region ?_
  refine L.step (R.load1 (v := .pointer none) c24 rfl k159 rfl) rfl ?_
  refine L.step (R.load1 (v := .int .i64 i) c3 rfl k160 rfl) rfl ?_
  refine L.call (E.call2 hb40) rfl ready_nil ?_
  rintro _ _ ⟨rfl, rfl⟩
  refine L.step (R.assignV (v := .int .i64 1) rfl) rfl ?_
  refine L.nil ?_
  refine C.seq ?_
  refine C.region ?_
  refine L.step (R.moveV (v := .int .i64 1) rfl) rfl ?_
  refine L.step (R.neqT rfl rfl (by omega)) rfl ?_
  refine L.nil ?_
  refine C.condT rfl ?_
  refine C.seq ?_
  refine C.region ?_
  refine L.step (R.moveV (v := .int .i64 1) rfl) rfl ?_
  refine L.step (R.assignV (v := .int .i64 1) rfl) rfl ?_
  refine L.nil ?_
  refine C.ret (?_ : RetOk _ _ _ _ _)
  refine RetOk.tV (v := .int .i64 1) rfl rfl ?_
  exact ⟨rfl, q162⟩
end Go.Proofs.Ytpblppilknkdoaa
