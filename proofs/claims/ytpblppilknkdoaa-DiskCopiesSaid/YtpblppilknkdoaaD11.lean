/- does: an op on the program's disk. -/
import Derived.Test.YtpblppilknkdoaaD10
namespace Go.Proofs.Ytpblppilknkdoaa
open Go Go.Eng Go.Proofs
attribute [local irreducible] Go.Eng.C Go.Eng.L Go.Eng.Ret Go.Eng.Run Go.Eng.Does Go.Eng.Enters Go.Eng.AH Go.Eng.AO Go.Eng.RetOk
theorem look_length {D : PD} (h : D.Ok) {i : Int} (h1 : 0 ≤ i ∧ i < D.safe.length) : (D.look i).length = 64 := by
  unfold PD.look
  cases hf : (downTo D.pend D.pend.length).find? fun y => decide ((y.2.1 : Int) = i) with
  | some y => exact (h.pends _ (mem_downTo (Nat.le_refl _) (List.mem_of_find?_eq_some hf))).2
  | none =>
    simp only [Option.map_none, Option.getD_none]
    rw [List.getD_eq_getElem?_getD, List.getElem?_eq_getElem (by omega)]
    exact h.blocks _ (List.getElem_mem _)
theorem read_length {D : PD} (h : D.Ok) {i : Int} : (D.read i).2.1.length = 64 := by
  unfold PD.read
  split
  · rfl
  · rename_i hr
    exact look_length h (PD.ready_range (Classical.not_not.1 hr)).2
theorem read_nil {w : World} {i : Int} : Ret Try.prog 22 #[.pointer none, .int .i64 i] w fun v w' => v = .tuple #[bval z64, .int .i64 1] ∧ Kept (fun _ => False) w w' := by
  refine Ret.intro [.pointer none, .int .i64 i] Try.func22 rfl rfl ?_
  refine C.seq ?_
  refine C.region ?_
  refine L.stepE (R.box1 (v := .pointer none) rfl rfl) rfl fun w2 e1 => ?_
  have k4 := Al.new e1
  have z5 := Al.size e1
  have q6 := Al.kept e1 (Kept.refl (fun _ => False) w)
  refine L.stepE (R.box1 (v := .int .i64 i) rfl rfl) rfl fun w8 e7 => ?_
  have k10 := Al.new e7
  have k11 := Al.old e7 k4
  have z12 := Al.size e7
  have q13 := Al.kept e7 q6
  refine L.stepE (R.alloc z27) rfl fun w15 e14 => ?_
  have k17 := Al.new e14
  have k18 := Al.old e14 k11
  have k19 := Al.old e14 k10
  have z20 := Al.size e14
  have q21 := Al.kept e14 q13
  refine L.stepE (R.alloc z38) rfl fun w23 e22 => ?_
  have k25 := Al.new e22
  have k26 := Al.old e22 k18
  have k27 := Al.old e22 k19
  have k28 := Al.old e22 k17
  have z29 := Al.size e22
  have q30 := Al.kept e22 q21
  refine L.nil ?_
  refine C.seq ?_
  refine C.seq ?_
  refine C.region ?_
  refine L.step (R.load1 (v := .pointer none) c24 rfl k26 rfl) rfl ?_
  refine L.step (R.load1 (v := .int .i64 i) c3 rfl k27 rfl) rfl ?_
  refine L.call (E.call2 hb40) rfl ready_nil ?_
  rintro _ _ ⟨rfl, rfl⟩
  refine L.step (R.assignV (v := .int .i64 1) rfl) rfl ?_
  refine L.nil ?_
  refine C.seq ?_
  refine C.region ?_
  refine L.step (R.moveV (v := .int .i64 1) rfl) rfl ?_
  refine L.step (R.neqT rfl rfl (by omega)) rfl ?_
  refine L.nil ?_
  refine C.condT rfl ?_
  refine C.seq ?_
  refine C.region ?_
  refine L.step build27 rfl ?_
  refine L.step (R.moveV (v := .int .i64 1) rfl) rfl ?_
  refine L.doesE (R.storeAll (cs := bcells z64) r27 rfl rfl (bcells64 rfl) (one_bcells _) k28 (List.length_replicate)) fun w32 e31 => ?_
  have k33 := So.old e31 (apartE k26 k28 (by decide)) k26
  have k34 := So.old e31 (apartE k27 k28 (by decide)) k27
  have k35 := So.hit e31 k28
  have k36 := So.old e31 (apartE k25 k28 (by decide)) k25
  have z37 := So.size e31
  have q38 := So.kept e31 q30 (fun h => absurd h (by omega))
  refine L.doesE (R.store1 c38 rfl (v := .int .i64 1) rfl rfl k36 rfl) fun w40 e39 => ?_
  have k41 := So.old e39 (apartE k33 k36 (by decide)) k33
  have k42 := So.old e39 (apartE k34 k36 (by decide)) k34
  have k43 := So.old e39 (apartE k35 k36 (by decide)) k35
  have k44 := So.hit e39 k36
  have z45 := So.size e39
  have q46 := So.kept e39 q38 (fun h => absurd h (by omega))
  refine L.nil ?_
  refine C.ret (?_ : RetOk _ _ _ _ _)
  refine RetOk.cc rfl rfl (loadVarA (cs := bcells z64) r27 k43 (List.take_of_length_le (Nat.le_of_eq (bcells64 rfl))) (bcells64 rfl)) rfl (loadVar1 (v := .int .i64 1) c38 k44 rfl) ?_
  exact ⟨rfl, q46⟩
theorem DiskAt.turn {w : World} {r : Nat} {D D' : PD} {sv pv : Value} {F : Nat → Prop} (hF : F r) (h : w.heap[r]? = some (blk (D.cells sv pv) 69)) (hs : Row w 27 64 sv D.safe.length (D.safe.flatMap bcells) F) (hp : Row w 80 65 pv D.pend.length (D.pend.flatMap wcells) F)
    (hok : D'.Ok) (e1 : D'.safe = D.safe) (e2 : D'.pend = D.pend) : DiskAt (setO w r (blk (D'.cells sv pv) 69)) r D' F ∧ Kept F w (setO w r (blk (D'.cells sv pv) 69)) := by
  refine ⟨⟨hF, hok, sv, pv, So.hit rfl h, ?_, ?_⟩, So.kept rfl (Kept.refl F w) (fun _ => hF)⟩
  · rw [e1]; exact So.rowE rfl hs h (by decide)
  · rw [e2]; exact So.rowE rfl hp h (by decide)
theorem PD.arm_safe {D : PD} {n : Int} : (D.arm n).1.safe = D.safe := by unfold PD.arm; split <;> rfl
theorem PD.arm_pend {D : PD} {n : Int} : (D.arm n).1.pend = D.pend := by unfold PD.arm; split <;> rfl
theorem arm_disk {w : World} {r : Nat} {D : PD} {F : Nat → Prop} (hD : DiskAt w r D F) {n : Int} (hn : -9223372036854775808 ≤ n ∧ n ≤ 9223372036854775807) :
    Ret Try.prog 24 #[.pointer (some ⟨r, 0, none⟩), .int .i64 n] w fun v w' => v = .int .i64 (D.arm n).2 ∧ DiskAt w' r (D.arm n).1 F ∧ Kept F w w' := by
  obtain ⟨hF, hok, sv, pv, h, hs, hp⟩ := hD
  refine Ret.weaken (arm_calls h hn) ?_
  rintro _ _ ⟨rfl, rfl⟩
  exact ⟨rfl, DiskAt.turn hF h hs hp (hok.arm hn) PD.arm_safe PD.arm_pend⟩
theorem PD.fail_safe {D : PD} {n : Int} : (D.fail n).1.safe = D.safe := by unfold PD.fail; split <;> rfl
theorem PD.fail_pend {D : PD} {n : Int} : (D.fail n).1.pend = D.pend := by unfold PD.fail; split <;> rfl
theorem fail_disk {w : World} {r : Nat} {D : PD} {F : Nat → Prop} (hD : DiskAt w r D F) {n : Int} (hn : -9223372036854775808 ≤ n ∧ n ≤ 9223372036854775807) :
    Ret Try.prog 27 #[.pointer (some ⟨r, 0, none⟩), .int .i64 n] w fun v w' => v = .int .i64 (D.fail n).2 ∧ DiskAt w' r (D.fail n).1 F ∧ Kept F w w' := by
  obtain ⟨hF, hok, sv, pv, h, hs, hp⟩ := hD
  refine Ret.weaken (fail_calls h hn) ?_
  rintro _ _ ⟨rfl, rfl⟩
  exact ⟨rfl, DiskAt.turn hF h hs hp (hok.fail n) PD.fail_safe PD.fail_pend⟩
theorem arm_none {w : World} {n : Int} : Ret Try.prog 24 #[.pointer none, .int .i64 n] w fun v w' => v = .int .i64 1 ∧ Kept (fun _ => False) w w' := by
  refine Ret.weaken arm_nil ?_
  rintro _ _ ⟨rfl, rfl⟩
  exact ⟨rfl, Kept.refl _ _⟩
theorem fail_none {w : World} {n : Int} : Ret Try.prog 27 #[.pointer none, .int .i64 n] w fun v w' => v = .int .i64 1 ∧ Kept (fun _ => False) w w' := by
  refine Ret.weaken fail_nil ?_
  rintro _ _ ⟨rfl, rfl⟩
  exact ⟨rfl, Kept.refl _ _⟩
theorem len_disk {w : World} {r : Nat} {D : PD} {F : Nat → Prop} (hD : DiskAt w r D F) : Ret Try.prog 21 #[.pointer (some ⟨r, 0, none⟩)] w fun v w' => v = .int .i64 ((D.safe.length : Nat) : Int) ∧ w' = w := by
  obtain ⟨hF, hok, sv, pv, h, hs, hp⟩ := hD
  obtain ⟨a, c, rfl, _⟩ := hs.shape
  exact len_calls h
theorem ops_disk {w : World} {r : Nat} {D : PD} {F : Nat → Prop} (hD : DiskAt w r D F) : Ret Try.prog 31 #[.pointer (some ⟨r, 0, none⟩)] w fun v w' => v = .int .i64 D.ops ∧ w' = w := by
  obtain ⟨hF, hok, sv, pv, h, hs, hp⟩ := hD
  obtain ⟨a, c, rfl, _⟩ := hs.shape
  exact ops_calls h
theorem dead_disk {w : World} {r : Nat} {D : PD} {F : Nat → Prop} (hD : DiskAt w r D F) : Ret Try.prog 25 #[.pointer (some ⟨r, 0, none⟩)] w fun v w' => v = .bool D.dead ∧ w' = w := by
  obtain ⟨hF, hok, sv, pv, h, hs, hp⟩ := hD
  obtain ⟨a, c, rfl, _⟩ := hs.shape
  exact dead_calls h
/-- An op. -/
structure POp where
  k : Int
  a : Int
  f : Int
  ks : List Bool
def PD.does (D : PD) (o : POp) : PD × Blk × Int :=
  if kindOf o.k = 0 then D.read o.a
  else if kindOf o.k = 1 then ((D.write o.a (fblock o.f)).1, z64, (D.write o.a (fblock o.f)).2)
  else if kindOf o.k = 2 then (D.sync.1, z64, D.sync.2)
  else if kindOf o.k = 3 then ((D.arm o.a).1, z64, (D.arm o.a).2)
  else if kindOf o.k = 5 then ((D.fail o.a).1, z64, (D.fail o.a).2)
  else (D.crash (fun k => o.ks.getD k false), z64, 0)
set_option maxHeartbeats 1000000 in
theorem does_calls {w : World} {r : Nat} {D : PD} {F : Nat → Prop} (hD : DiskAt w r D F) (hops : D.ops ≤ 1000000) (hm : D.pend.length ≤ 1000000) {o : POp} {kv : Value} {G : Nat → Prop} (hb : BoolsAt w kv o.ks G) (hn : o.ks.length ≤ 140737488351232) (ha : -9223372036854775808 ≤ o.a ∧ o.a ≤ 9223372036854775807) (hlt : ∀ k, F k → k < w.heap.size) :
    Ret Try.prog 18 #[.pointer (some ⟨r, 0, none⟩), .agg [.int .i64 o.k, .int .i64 o.a, .int .u8 o.f, kv].toArray] w fun v w' => v = .tuple #[bval (D.does o).2.1, .int .i64 (D.does o).2.2] ∧ DiskAt w' r (D.does o).1 (grow F w w') ∧ Kept F w w' := by
  have hq := Kept.refl F w
  obtain ⟨ka, kc, rfl⟩ := hb.shape
  have h1 : (Value.slice ka o.ks.length kc).oneCell' = true := rfl
  have hok := hD.ok
  refine Ret.intro [.pointer (some ⟨r, 0, none⟩), .agg (List.toArray ([.int .i64 o.k, .int .i64 o.a, .int .u8 o.f, .slice ka o.ks.length kc]))] Try.func18 rfl rfl ?_
  refine C.seq ?_
  refine C.region ?_
  refine L.stepE (R.boxA (cs := [.int .i64 o.k, .int .i64 o.a, .int .u8 o.f, .slice ka o.ks.length kc]) rfl) rfl fun w48 e47 => ?_
  have k50 := Al.new e47
  have z51 := Al.size e47
  have q52 := Al.kept e47 hq
  have hD53 := DiskAt.kept hD (Al.kept e47 (Kept.refl (fun _ => False) _)) (fun _ _ h => h)
  refine L.stepE (R.alloc z27) rfl fun w55 e54 => ?_
  have k57 := Al.new e54
  have k58 := Al.old e54 k50
  have z59 := Al.size e54
  have q60 := Al.kept e54 q52
  have hD61 := DiskAt.kept hD53 (Al.kept e54 (Kept.refl (fun _ => False) _)) (fun _ _ h => h)
  refine L.step (R.assignV (v := .int .i64 0) rfl) rfl ?_
  refine L.nil ?_
  refine C.seq ?_
  refine C.seq ?_
  refine C.region ?_
  refine L.step (R.loadA (cs := [.int .i64 o.k, .int .i64 o.a, .int .u8 o.f, .slice ka o.ks.length kc]) r32 rfl k58 rfl rfl) rfl ?_
  have hka : Kept (fun _ => False) w w55 := (Al.kept e54 (Al.kept e47 (Kept.refl (fun _ => False) w)))
  refine L.call (E.call1 hb13) rfl (kind_calls h1) ?_
  rintro _ w62 ⟨rfl, hk63⟩
  have k64 := Kept.old hk63 k58 (fun h => h)
  have k65 := Kept.old hk63 k57 (fun h => h)
  have z66 := (hk63).size
  have q67 := Kept.trans q60 hk63 (fun _ _ h => h.elim)
  have hD68 := DiskAt.kept hD61 hk63 (fun _ _ h => h)
  have hkb := Kept.trans hka hk63 (fun _ _ h => h)
  refine L.nil ?_
  refine C.block ?_
  refine C.seq ?_
  refine C.region ?_
  rcases Classical.em (kindOf o.k = 0) with ht69 | ht69
  ·
    refine L.step (R.eqlT rfl rfl ht69) rfl ?_
    refine L.step (R.assignV (v := .bool true) rfl) rfl ?_
    refine L.nil ?_
    refine C.condT rfl ?_
    refine C.seq ?_
    refine C.region ?_
    refine L.step (R.moveV (v := .pointer (some ⟨r, 0, none⟩)) rfl) rfl ?_
    refine L.step (R.fieldAddrV (o2 := 1) f32_1 rfl rfl) rfl ?_
    refine L.step (R.load1 (v := .int .i64 o.a) c3 rfl k64 rfl) rfl ?_
    have z73 := q67.size
    refine L.call (E.call2 hb22) rfl (read_calls hD68 hops hm) ?_
    rintro _ w70 ⟨rfl, hD72, hk71⟩
    have hD72 := DiskAt.mono (F' := grow F w62 w70) hD72 grow_sub
    have k74 := Kept.old hk71 k64 (fun h => absurd (hlt _ h) (by omega))
    have k75 := Kept.old hk71 k65 (fun h => absurd (hlt _ h) (by omega))
    have q76 := Kept.trans q67 hk71 (fun _ _ h => h)
    have z77 := hk71.size
    have lt78 : ∀ k, grow F w62 w70 k → k < w.heap.size ∨ w62.heap.size ≤ k := fun k hk => hk.elim (fun h => .inl (hlt k h)) (fun h => .inr h.1)
    simp only [bval]
    refine L.step (R.extract (v := .agg (List.toArray (bcells (D.read o.a).2.1))) rfl rfl) rfl ?_
    refine L.step (R.extract (v := .int .i64 ((D.read o.a).2.2)) rfl rfl) rfl ?_
    refine L.doesE (R.storeAll (cs := bcells (D.read o.a).2.1) r27 rfl rfl (bcells64 (read_length hok)) (one_bcells _) k75 (List.length_replicate)) fun w80 e79 => ?_
    have k81 := So.old e79 (apartE k74 k75 (by decide)) k74
    have k82 := So.hit e79 k75
    have z83 := So.size e79
    have q84 := So.kept e79 q76 (fun h => absurd h (by omega))
    have hD85 := DiskAt.kept hD72 (So.kept e79 (Kept.refl (fun k => k = w48.heap.size) _) (fun _ => rfl)) (fun k hk e => by have hk9 := lt78 k hk; have e9 : k = w48.heap.size := e; omega)
    refine L.step (R.assignV (v := .int .i64 ((D.read o.a).2.2)) rfl) rfl ?_
    refine L.nil ?_
    refine C.ret (?_ : RetOk _ _ _ _ _)
    refine RetOk.ctV (u := .int .i64 ((D.read o.a).2.2)) rfl rfl (loadVarA (cs := bcells (D.read o.a).2.1) r27 k82 (List.take_of_length_le (Nat.le_of_eq (bcells64 (read_length hok)))) (bcells64 (read_length hok))) rfl ?_
    unfold PD.does
    rw [if_pos ht69]
    have z86 := (q84).size
    exact ⟨rfl, DiskAt.mono hD85 (grow_mono (fun _ h => h) (by omega) (by omega)), q84⟩
  ·
    refine L.step (R.eqlF rfl rfl ht69) rfl ?_
    refine L.step (R.assignV (v := .bool false) rfl) rfl ?_
    refine L.nil ?_
    refine C.condF rfl ?_
    refine C.seq ?_
    refine C.region ?_
    rcases Classical.em (kindOf o.k = 1) with ht87 | ht87
    ·
      refine L.step (R.eqlT rfl rfl ht87) rfl ?_
      refine L.step (R.assignV (v := .bool true) rfl) rfl ?_
      refine L.nil ?_
      refine C.condT rfl ?_
      refine C.seq ?_
      refine C.drawE (fun W : World => W.heap[w.heap.size]? = some (blk ([.int .i64 o.k, .int .i64 o.a, .int .u8 o.f, .slice ka o.ks.length kc]) 32)) (fun _ => true) mixed fun w88 e89 => ?_
      have k90 := Dr.old e89 k64
      have k91 := Dr.old e89 k65
      have z92 := Dr.size e89
      have q93 := Dr.kept e89 q67
      have hD94 := DiskAt.kept hD68 (Dr.kept e89 (Kept.refl (fun _ => False) _)) (fun _ _ h => h)
      refine AH.take 0 rfl (by kernel_rfl) (by kernel_rfl) (by kernel_rfl) (by kernel_rfl) (fun _ _ _ h => h) rfl trivial (fun _ hS => build27) k90 ?_
      refine AH.take 1 rfl (by kernel_rfl) (by kernel_rfl) (by kernel_rfl) (by kernel_rfl) (fun _ _ _ h => h) rfl trivial (fun _ hS => (R.moveV (v := .pointer (some ⟨r, 0, none⟩)) rfl)) k90 ?_
      refine AH.take 2 rfl (by kernel_rfl) (by kernel_rfl) (by kernel_rfl) (by kernel_rfl) (fun _ _ _ h => h) rfl trivial (fun _ hS => (R.fieldAddrV (o2 := 1) f32_1 rfl rfl)) k90 ?_
      refine AH.take 3 rfl (by kernel_rfl) (by kernel_rfl) (by kernel_rfl) (by kernel_rfl) (fun _ _ _ h => h) rfl trivial (fun _ hS => (R.load1 (v := .int .i64 o.a) c3 rfl hS rfl)) k90 ?_
      refine AH.take 4 rfl (by kernel_rfl) (by kernel_rfl) (by kernel_rfl) (by kernel_rfl) (fun _ _ _ h => h) rfl trivial (fun _ hS => (R.fieldAddrV (o2 := 2) f32_2 rfl rfl)) k90 ?_
      refine AH.take 5 rfl (by kernel_rfl) (by kernel_rfl) (by kernel_rfl) (by kernel_rfl) (fun _ _ _ h => h) rfl trivial (fun _ hS => (R.load1 (v := .int .u8 o.f) c5 rfl hS rfl)) k90 ?_
      refine AH.one 6 (by kernel_rfl) (AO.call rfl trivial (E.call1 hb14) rfl (block_calls (x := o.f)) ?_)
      rintro _ w95 ⟨rfl, hk96⟩
      have k97 := Kept.old hk96 k90 (fun h => h)
      have k98 := Kept.old hk96 k91 (fun h => h)
      have z99 := (hk96).size
      have q100 := Kept.trans q93 hk96 (fun _ _ h => h.elim)
      have hD101 := DiskAt.kept hD94 hk96 (fun _ _ h => h)
      refine ⟨fun _ => k97, ?_⟩
      have z105 := q100.size
      refine AH.one 7 (by kernel_rfl) (AO.call rfl trivial (E.call3 hb33) rfl (write_calls hD101 hops hm (b := fblock o.f) (length_fblock _)) ?_)
      rintro _ w102 ⟨rfl, hD104, hk103⟩
      have k106 := Kept.old hk103 k97 (fun h => absurd (hlt _ h) (by omega))
      have k107 := Kept.old hk103 k98 (fun h => absurd (hlt _ h) (by omega))
      have q108 := Kept.trans q100 hk103 (fun _ _ h => h)
      have z109 := hk103.size
      have lt110 : ∀ k, grow F w95 w102 k → k < w.heap.size ∨ w95.heap.size ≤ k := fun k hk => hk.elim (fun h => .inl (hlt k h)) (fun h => .inr h.1)
      refine ⟨fun _ => k106, ?_⟩
      refine AH.one 8 (by kernel_rfl) (AO.doesE rfl trivial (R.storeAll (cs := bcells z64) r27 rfl rfl (bcells64 rfl) (one_bcells _) k107 (List.length_replicate)) fun w112 e111 => ?_)
      have k113 := So.old e111 (apartE k106 k107 (by decide)) k106
      have k114 := So.hit e111 k107
      have z115 := So.size e111
      have q116 := So.kept e111 q108 (fun h => absurd h (by omega))
      have hD117 := DiskAt.kept hD104 (So.kept e111 (Kept.refl (fun k => k = w48.heap.size) _) (fun _ => rfl)) (fun k hk e => by have hk9 := lt110 k hk; have e9 : k = w48.heap.size := e; omega)
      refine ⟨fun _ => k113, ?_⟩
      refine AH.take 9 rfl (by kernel_rfl) (by kernel_rfl) (by kernel_rfl) (by kernel_rfl) (fun _ _ _ h => h) rfl trivial (fun _ hS => (R.assignV (v := .int .i64 ((D.write o.a (fblock o.f)).2)) rfl)) k113 ?_
      refine AH.done (by kernel_rfl) ?_
      refine C.ret (?_ : RetOk _ _ _ _ _)
      refine RetOk.ctV (u := .int .i64 ((D.write o.a (fblock o.f)).2)) rfl rfl (loadVarA (cs := bcells z64) r27 k114 (List.take_of_length_le (Nat.le_of_eq (bcells64 rfl))) (bcells64 rfl)) rfl ?_
      unfold PD.does
      rw [if_neg ht69]
      rw [if_pos ht87]
      have z118 := (q116).size
      exact ⟨rfl, DiskAt.mono hD117 (grow_mono (fun _ h => h) (by omega) (by omega)), q116⟩
    ·
      refine L.step (R.eqlF rfl rfl ht87) rfl ?_
      refine L.step (R.assignV (v := .bool false) rfl) rfl ?_
      refine L.nil ?_
      refine C.condF rfl ?_
      refine C.seq ?_
      refine C.region ?_
      rcases Classical.em (kindOf o.k = 2) with ht119 | ht119
      ·
        refine L.step (R.eqlT rfl rfl ht119) rfl ?_
        refine L.step (R.assignV (v := .bool true) rfl) rfl ?_
        refine L.nil ?_
        refine C.condT rfl ?_
        refine C.seq ?_
        refine C.region ?_
        refine L.step build27 rfl ?_
        refine L.step (R.moveV (v := .pointer (some ⟨r, 0, none⟩)) rfl) rfl ?_
        have z123 := q67.size
        refine L.call (E.call1 hb26) rfl (sync_calls hD68 hops) ?_
        rintro _ w120 ⟨rfl, hD122, hk121⟩
        have hD122 := DiskAt.mono (F' := grow F w62 w120) hD122 grow_sub
        have k124 := Kept.old hk121 k64 (fun h => absurd (hlt _ h) (by omega))
        have k125 := Kept.old hk121 k65 (fun h => absurd (hlt _ h) (by omega))
        have q126 := Kept.trans q67 hk121 (fun _ _ h => h)
        have z127 := hk121.size
        have lt128 : ∀ k, grow F w62 w120 k → k < w.heap.size ∨ w62.heap.size ≤ k := fun k hk => hk.elim (fun h => .inl (hlt k h)) (fun h => .inr h.1)
        refine L.doesE (R.storeAll (cs := bcells z64) r27 rfl rfl (bcells64 rfl) (one_bcells _) k125 (List.length_replicate)) fun w130 e129 => ?_
        have k131 := So.old e129 (apartE k124 k125 (by decide)) k124
        have k132 := So.hit e129 k125
        have z133 := So.size e129
        have q134 := So.kept e129 q126 (fun h => absurd h (by omega))
        have hD135 := DiskAt.kept hD122 (So.kept e129 (Kept.refl (fun k => k = w48.heap.size) _) (fun _ => rfl)) (fun k hk e => by have hk9 := lt128 k hk; have e9 : k = w48.heap.size := e; omega)
        refine L.step (R.assignV (v := .int .i64 D.sync.2) rfl) rfl ?_
        refine L.nil ?_
        refine C.ret (?_ : RetOk _ _ _ _ _)
        refine RetOk.ctV (u := .int .i64 D.sync.2) rfl rfl (loadVarA (cs := bcells z64) r27 k132 (List.take_of_length_le (Nat.le_of_eq (bcells64 rfl))) (bcells64 rfl)) rfl ?_
        unfold PD.does
        rw [if_neg ht69]
        rw [if_neg ht87]
        rw [if_pos ht119]
        have z136 := (q134).size
        exact ⟨rfl, DiskAt.mono hD135 (grow_mono (fun _ h => h) (by omega) (by omega)), q134⟩
      ·
        refine L.step (R.eqlF rfl rfl ht119) rfl ?_
        refine L.step (R.assignV (v := .bool false) rfl) rfl ?_
        refine L.nil ?_
        refine C.condF rfl ?_
        refine C.seq ?_
        refine C.region ?_
        rcases Classical.em (kindOf o.k = 3) with ht137 | ht137
        ·
          refine L.step (R.eqlT rfl rfl ht137) rfl ?_
          refine L.step (R.assignV (v := .bool true) rfl) rfl ?_
          refine L.nil ?_
          refine C.condT rfl ?_
          refine C.seq ?_
          refine C.region ?_
          refine L.step build27 rfl ?_
          refine L.step (R.moveV (v := .pointer (some ⟨r, 0, none⟩)) rfl) rfl ?_
          refine L.step (R.fieldAddrV (o2 := 1) f32_1 rfl rfl) rfl ?_
          refine L.step (R.load1 (v := .int .i64 o.a) c3 rfl k64 rfl) rfl ?_
          have z141 := q67.size
          refine L.call (E.call2 hb24) rfl (arm_disk hD68 ha) ?_
          rintro _ w138 ⟨rfl, hD140, hk139⟩
          have hD140 := DiskAt.mono (F' := grow F w62 w138) hD140 grow_sub
          have k142 := Kept.old hk139 k64 (fun h => absurd (hlt _ h) (by omega))
          have k143 := Kept.old hk139 k65 (fun h => absurd (hlt _ h) (by omega))
          have q144 := Kept.trans q67 hk139 (fun _ _ h => h)
          have z145 := hk139.size
          have lt146 : ∀ k, grow F w62 w138 k → k < w.heap.size ∨ w62.heap.size ≤ k := fun k hk => hk.elim (fun h => .inl (hlt k h)) (fun h => .inr h.1)
          refine L.doesE (R.storeAll (cs := bcells z64) r27 rfl rfl (bcells64 rfl) (one_bcells _) k143 (List.length_replicate)) fun w148 e147 => ?_
          have k149 := So.old e147 (apartE k142 k143 (by decide)) k142
          have k150 := So.hit e147 k143
          have z151 := So.size e147
          have q152 := So.kept e147 q144 (fun h => absurd h (by omega))
          have hD153 := DiskAt.kept hD140 (So.kept e147 (Kept.refl (fun k => k = w48.heap.size) _) (fun _ => rfl)) (fun k hk e => by have hk9 := lt146 k hk; have e9 : k = w48.heap.size := e; omega)
          refine L.step (R.assignV (v := .int .i64 ((D.arm o.a).2)) rfl) rfl ?_
          refine L.nil ?_
          refine C.ret (?_ : RetOk _ _ _ _ _)
          refine RetOk.ctV (u := .int .i64 ((D.arm o.a).2)) rfl rfl (loadVarA (cs := bcells z64) r27 k150 (List.take_of_length_le (Nat.le_of_eq (bcells64 rfl))) (bcells64 rfl)) rfl ?_
          unfold PD.does
          rw [if_neg ht69]
          rw [if_neg ht87]
          rw [if_neg ht119]
          rw [if_pos ht137]
          have z154 := (q152).size
          exact ⟨rfl, DiskAt.mono hD153 (grow_mono (fun _ h => h) (by omega) (by omega)), q152⟩
        ·
          refine L.step (R.eqlF rfl rfl ht137) rfl ?_
          refine L.step (R.assignV (v := .bool false) rfl) rfl ?_
          refine L.nil ?_
          refine C.condF rfl ?_
          refine C.seq ?_
          refine C.region ?_
          rcases Classical.em (kindOf o.k = 5) with ht155 | ht155
          ·
            refine L.step (R.eqlT rfl rfl ht155) rfl ?_
            refine L.step (R.assignV (v := .bool true) rfl) rfl ?_
            refine L.nil ?_
            refine C.condT rfl ?_
            refine C.seq ?_
            refine C.region ?_
            refine L.step build27 rfl ?_
            refine L.step (R.moveV (v := .pointer (some ⟨r, 0, none⟩)) rfl) rfl ?_
            refine L.step (R.fieldAddrV (o2 := 1) f32_1 rfl rfl) rfl ?_
            refine L.step (R.load1 (v := .int .i64 o.a) c3 rfl k64 rfl) rfl ?_
            have z159 := q67.size
            refine L.call (E.call2 hb27) rfl (fail_disk hD68 ha) ?_
            rintro _ w156 ⟨rfl, hD158, hk157⟩
            have hD158 := DiskAt.mono (F' := grow F w62 w156) hD158 grow_sub
            have k160 := Kept.old hk157 k64 (fun h => absurd (hlt _ h) (by omega))
            have k161 := Kept.old hk157 k65 (fun h => absurd (hlt _ h) (by omega))
            have q162 := Kept.trans q67 hk157 (fun _ _ h => h)
            have z163 := hk157.size
            have lt164 : ∀ k, grow F w62 w156 k → k < w.heap.size ∨ w62.heap.size ≤ k := fun k hk => hk.elim (fun h => .inl (hlt k h)) (fun h => .inr h.1)
            refine L.doesE (R.storeAll (cs := bcells z64) r27 rfl rfl (bcells64 rfl) (one_bcells _) k161 (List.length_replicate)) fun w166 e165 => ?_
            have k167 := So.old e165 (apartE k160 k161 (by decide)) k160
            have k168 := So.hit e165 k161
            have z169 := So.size e165
            have q170 := So.kept e165 q162 (fun h => absurd h (by omega))
            have hD171 := DiskAt.kept hD158 (So.kept e165 (Kept.refl (fun k => k = w48.heap.size) _) (fun _ => rfl)) (fun k hk e => by have hk9 := lt164 k hk; have e9 : k = w48.heap.size := e; omega)
            refine L.step (R.assignV (v := .int .i64 ((D.fail o.a).2)) rfl) rfl ?_
            refine L.nil ?_
            refine C.ret (?_ : RetOk _ _ _ _ _)
            refine RetOk.ctV (u := .int .i64 ((D.fail o.a).2)) rfl rfl (loadVarA (cs := bcells z64) r27 k168 (List.take_of_length_le (Nat.le_of_eq (bcells64 rfl))) (bcells64 rfl)) rfl ?_
            unfold PD.does
            rw [if_neg ht69]
            rw [if_neg ht87]
            rw [if_neg ht119]
            rw [if_neg ht137]
            rw [if_pos ht155]
            have z172 := (q170).size
            exact ⟨rfl, DiskAt.mono hD171 (grow_mono (fun _ h => h) (by omega) (by omega)), q170⟩
          ·
            refine L.step (R.eqlF rfl rfl ht155) rfl ?_
            refine L.step (R.assignV (v := .bool false) rfl) rfl ?_
            refine L.nil ?_
            refine C.condF rfl ?_
            refine C.skip ?_
            refine C.seq ?_
            refine C.region ?_
            refine L.step build27 rfl ?_
            refine L.step (R.moveV (v := .pointer (some ⟨r, 0, none⟩)) rfl) rfl ?_
            refine L.step (R.fieldAddrV (o2 := 3) f32_3 rfl rfl) rfl ?_
            refine L.step (R.load1 (v := .slice ka o.ks.length kc) c30 rfl k64 rfl) rfl ?_
            have hbX : BoolsAt w62 (.slice ka o.ks.length kc) o.ks G := hb.kept hkb (fun _ _ h => h)
            refine L.call (E.call1 hb34) rfl (keeps_calls hbX hn) ?_
            rintro v173 w174 ⟨hb176, hk175⟩
            obtain ⟨a177, c178, rfl⟩ := hb176.shape
            have k179 := Kept.old hk175 k64 (fun h => h)
            have k180 := Kept.old hk175 k65 (fun h => h)
            have z181 := (hk175).size
            have q182 := Kept.trans q67 hk175 (fun _ _ h => h.elim)
            have hD183 := DiskAt.kept hD68 hk175 (fun _ _ h => h)
            have z187 := q182.size
            refine L.call (E.call2 hb29) rfl (crash_calls hD183 hb176 (fun k hk h => absurd (hlt k hk) (by have := q182.size; omega)) (fun k hk => Nat.lt_of_lt_of_le (hlt k hk) q182.size) hm) ?_
            rintro _ w184 ⟨rfl, hD186, hk185⟩
            have hD186 := DiskAt.mono (F' := grow F w174 w184) hD186 grow_sub
            have k188 := Kept.old hk185 k179 (fun h => absurd (hlt _ h) (by omega))
            have k189 := Kept.old hk185 k180 (fun h => absurd (hlt _ h) (by omega))
            have q190 := Kept.trans q182 hk185 (fun _ _ h => h)
            have z191 := hk185.size
            have lt192 : ∀ k, grow F w174 w184 k → k < w.heap.size ∨ w174.heap.size ≤ k := fun k hk => hk.elim (fun h => .inl (hlt k h)) (fun h => .inr h.1)
            refine L.doesE (R.storeAll (cs := bcells z64) r27 rfl rfl (bcells64 rfl) (one_bcells _) k189 (List.length_replicate)) fun w194 e193 => ?_
            have k195 := So.old e193 (apartE k188 k189 (by decide)) k188
            have k196 := So.hit e193 k189
            have z197 := So.size e193
            have q198 := So.kept e193 q190 (fun h => absurd h (by omega))
            have hD199 := DiskAt.kept hD186 (So.kept e193 (Kept.refl (fun k => k = w48.heap.size) _) (fun _ => rfl)) (fun k hk e => by have hk9 := lt192 k hk; have e9 : k = w48.heap.size := e; omega)
            refine L.step (R.assignV (v := .int .i64 0) rfl) rfl ?_
            refine L.nil ?_
            refine C.ret (?_ : RetOk _ _ _ _ _)
            refine RetOk.ctV (u := .int .i64 0) rfl rfl (loadVarA (cs := bcells z64) r27 k196 (List.take_of_length_le (Nat.le_of_eq (bcells64 rfl))) (bcells64 rfl)) rfl ?_
            unfold PD.does
            rw [if_neg ht69]
            rw [if_neg ht87]
            rw [if_neg ht119]
            rw [if_neg ht137]
            rw [if_neg ht155]
            have z200 := (q198).size
            exact ⟨rfl, DiskAt.mono hD199 (grow_mono (fun _ h => h) (by omega) (by omega)), q198⟩
set_option maxHeartbeats 1000000 in
theorem does_nil {w : World} {o : POp} {kv : Value} {G : Nat → Prop} (hb : BoolsAt w kv o.ks G) (hn : o.ks.length ≤ 140737488351232) :
    Ret Try.prog 18 #[.pointer none, .agg [.int .i64 o.k, .int .i64 o.a, .int .u8 o.f, kv].toArray] w fun v w' => v = .tuple #[bval z64, .int .i64 1] ∧ Kept (fun _ => False) w w' := by
  have hq := Kept.refl (fun _ => False) w
  obtain ⟨ka, kc, rfl⟩ := hb.shape
  have h1 : (Value.slice ka o.ks.length kc).oneCell' = true := rfl
  refine Ret.intro [.pointer none, .agg (List.toArray ([.int .i64 o.k, .int .i64 o.a, .int .u8 o.f, .slice ka o.ks.length kc]))] Try.func18 rfl rfl ?_
  refine C.seq ?_
  refine C.region ?_
  refine L.stepE (R.boxA (cs := [.int .i64 o.k, .int .i64 o.a, .int .u8 o.f, .slice ka o.ks.length kc]) rfl) rfl fun w202 e201 => ?_
  have k204 := Al.new e201
  have z205 := Al.size e201
  have q206 := Al.kept e201 hq
  refine L.stepE (R.alloc z27) rfl fun w208 e207 => ?_
  have k210 := Al.new e207
  have k211 := Al.old e207 k204
  have z212 := Al.size e207
  have q213 := Al.kept e207 q206
  refine L.step (R.assignV (v := .int .i64 0) rfl) rfl ?_
  refine L.nil ?_
  refine C.seq ?_
  refine C.seq ?_
  refine C.region ?_
  refine L.step (R.loadA (cs := [.int .i64 o.k, .int .i64 o.a, .int .u8 o.f, .slice ka o.ks.length kc]) r32 rfl k211 rfl rfl) rfl ?_
  have hka : Kept (fun _ => False) w w208 := (Al.kept e207 (Al.kept e201 (Kept.refl (fun _ => False) w)))
  refine L.call (E.call1 hb13) rfl (kind_calls h1) ?_
  rintro _ w214 ⟨rfl, hk215⟩
  have k216 := Kept.old hk215 k211 (fun h => h)
  have k217 := Kept.old hk215 k210 (fun h => h)
  have z218 := (hk215).size
  have q219 := Kept.trans q213 hk215 (fun _ _ h => h.elim)
  have hkb := Kept.trans hka hk215 (fun _ _ h => h)
  refine L.nil ?_
  refine C.block ?_
  refine C.seq ?_
  refine C.region ?_
  rcases Classical.em (kindOf o.k = 0) with ht220 | ht220
  ·
    refine L.step (R.eqlT rfl rfl ht220) rfl ?_
    refine L.step (R.assignV (v := .bool true) rfl) rfl ?_
    refine L.nil ?_
    refine C.condT rfl ?_
    refine C.seq ?_
    refine C.region ?_
    refine L.step (R.moveV (v := .pointer none) rfl) rfl ?_
    refine L.step (R.fieldAddrV (o2 := 1) f32_1 rfl rfl) rfl ?_
    refine L.step (R.load1 (v := .int .i64 o.a) c3 rfl k216 rfl) rfl ?_
    refine L.call (E.call2 hb22) rfl read_nil ?_
    rintro _ w221 ⟨rfl, hk222⟩
    have k224 := Kept.old hk222 k216 (fun h => h)
    have k225 := Kept.old hk222 k217 (fun h => h)
    have z226 := (hk222).size
    have q227 := Kept.trans q219 hk222 (fun _ _ h => h.elim)
    simp only [bval]
    refine L.step (R.extract (v := .agg (List.toArray (bcells z64))) rfl rfl) rfl ?_
    refine L.step (R.extract (v := .int .i64 1) rfl rfl) rfl ?_
    refine L.doesE (R.storeAll (cs := bcells z64) r27 rfl rfl (bcells64 (b := z64) rfl) (one_bcells _) k225 (List.length_replicate)) fun w229 e228 => ?_
    have k230 := So.old e228 (apartE k224 k225 (by decide)) k224
    have k231 := So.hit e228 k225
    have z232 := So.size e228
    have q233 := So.kept e228 q227 (fun h => absurd h (by omega))
    refine L.step (R.assignV (v := .int .i64 1) rfl) rfl ?_
    refine L.nil ?_
    refine C.ret (?_ : RetOk _ _ _ _ _)
    refine RetOk.ctV (u := .int .i64 1) rfl rfl (loadVarA (cs := bcells z64) r27 k231 (List.take_of_length_le (Nat.le_of_eq (bcells64 (b := z64) rfl))) (bcells64 (b := z64) rfl)) rfl ?_
    exact ⟨rfl, q233⟩
  ·
    refine L.step (R.eqlF rfl rfl ht220) rfl ?_
    refine L.step (R.assignV (v := .bool false) rfl) rfl ?_
    refine L.nil ?_
    refine C.condF rfl ?_
    refine C.seq ?_
    refine C.region ?_
    rcases Classical.em (kindOf o.k = 1) with ht234 | ht234
    ·
      refine L.step (R.eqlT rfl rfl ht234) rfl ?_
      refine L.step (R.assignV (v := .bool true) rfl) rfl ?_
      refine L.nil ?_
      refine C.condT rfl ?_
      refine C.seq ?_
      refine C.drawE (fun W : World => W.heap[w.heap.size]? = some (blk ([.int .i64 o.k, .int .i64 o.a, .int .u8 o.f, .slice ka o.ks.length kc]) 32)) (fun _ => true) mixed fun w235 e236 => ?_
      have k237 := Dr.old e236 k216
      have k238 := Dr.old e236 k217
      have z239 := Dr.size e236
      have q240 := Dr.kept e236 q219
      refine AH.take 0 rfl (by kernel_rfl) (by kernel_rfl) (by kernel_rfl) (by kernel_rfl) (fun _ _ _ h => h) rfl trivial (fun _ hS => build27) k237 ?_
      refine AH.take 1 rfl (by kernel_rfl) (by kernel_rfl) (by kernel_rfl) (by kernel_rfl) (fun _ _ _ h => h) rfl trivial (fun _ hS => (R.moveV (v := .pointer none) rfl)) k237 ?_
      refine AH.take 2 rfl (by kernel_rfl) (by kernel_rfl) (by kernel_rfl) (by kernel_rfl) (fun _ _ _ h => h) rfl trivial (fun _ hS => (R.fieldAddrV (o2 := 1) f32_1 rfl rfl)) k237 ?_
      refine AH.take 3 rfl (by kernel_rfl) (by kernel_rfl) (by kernel_rfl) (by kernel_rfl) (fun _ _ _ h => h) rfl trivial (fun _ hS => (R.load1 (v := .int .i64 o.a) c3 rfl hS rfl)) k237 ?_
      refine AH.take 4 rfl (by kernel_rfl) (by kernel_rfl) (by kernel_rfl) (by kernel_rfl) (fun _ _ _ h => h) rfl trivial (fun _ hS => (R.fieldAddrV (o2 := 2) f32_2 rfl rfl)) k237 ?_
      refine AH.take 5 rfl (by kernel_rfl) (by kernel_rfl) (by kernel_rfl) (by kernel_rfl) (fun _ _ _ h => h) rfl trivial (fun _ hS => (R.load1 (v := .int .u8 o.f) c5 rfl hS rfl)) k237 ?_
      refine AH.one 6 (by kernel_rfl) (AO.call rfl trivial (E.call1 hb14) rfl (block_calls (x := o.f)) ?_)
      rintro _ w241 ⟨rfl, hk242⟩
      have k243 := Kept.old hk242 k237 (fun h => h)
      have k244 := Kept.old hk242 k238 (fun h => h)
      have z245 := (hk242).size
      have q246 := Kept.trans q240 hk242 (fun _ _ h => h.elim)
      refine ⟨fun _ => k243, ?_⟩
      refine AH.one 7 (by kernel_rfl) (AO.call rfl trivial (E.call3 hb33) rfl (write_nil (b := fblock o.f) (length_fblock _)) ?_)
      rintro _ w247 ⟨rfl, hk248⟩
      have k250 := Kept.old hk248 k243 (fun h => h)
      have k251 := Kept.old hk248 k244 (fun h => h)
      have z252 := (hk248).size
      have q253 := Kept.trans q246 hk248 (fun _ _ h => h.elim)
      refine ⟨fun _ => k250, ?_⟩
      refine AH.one 8 (by kernel_rfl) (AO.doesE rfl trivial (R.storeAll (cs := bcells z64) r27 rfl rfl (bcells64 rfl) (one_bcells _) k251 (List.length_replicate)) fun w255 e254 => ?_)
      have k256 := So.old e254 (apartE k250 k251 (by decide)) k250
      have k257 := So.hit e254 k251
      have z258 := So.size e254
      have q259 := So.kept e254 q253 (fun h => absurd h (by omega))
      refine ⟨fun _ => k256, ?_⟩
      refine AH.take 9 rfl (by kernel_rfl) (by kernel_rfl) (by kernel_rfl) (by kernel_rfl) (fun _ _ _ h => h) rfl trivial (fun _ hS => (R.assignV (v := .int .i64 1) rfl)) k256 ?_
      refine AH.done (by kernel_rfl) ?_
      refine C.ret (?_ : RetOk _ _ _ _ _)
      refine RetOk.ctV (u := .int .i64 1) rfl rfl (loadVarA (cs := bcells z64) r27 k257 (List.take_of_length_le (Nat.le_of_eq (bcells64 rfl))) (bcells64 rfl)) rfl ?_
      exact ⟨rfl, q259⟩
    ·
      refine L.step (R.eqlF rfl rfl ht234) rfl ?_
      refine L.step (R.assignV (v := .bool false) rfl) rfl ?_
      refine L.nil ?_
      refine C.condF rfl ?_
      refine C.seq ?_
      refine C.region ?_
      rcases Classical.em (kindOf o.k = 2) with ht260 | ht260
      ·
        refine L.step (R.eqlT rfl rfl ht260) rfl ?_
        refine L.step (R.assignV (v := .bool true) rfl) rfl ?_
        refine L.nil ?_
        refine C.condT rfl ?_
        refine C.seq ?_
        refine C.region ?_
        refine L.step build27 rfl ?_
        refine L.step (R.moveV (v := .pointer none) rfl) rfl ?_
        refine L.call (E.call1 hb26) rfl sync_nil ?_
        rintro _ w261 ⟨rfl, hk262⟩
        have k264 := Kept.old hk262 k216 (fun h => h)
        have k265 := Kept.old hk262 k217 (fun h => h)
        have z266 := (hk262).size
        have q267 := Kept.trans q219 hk262 (fun _ _ h => h.elim)
        refine L.doesE (R.storeAll (cs := bcells z64) r27 rfl rfl (bcells64 rfl) (one_bcells _) k265 (List.length_replicate)) fun w269 e268 => ?_
        have k270 := So.old e268 (apartE k264 k265 (by decide)) k264
        have k271 := So.hit e268 k265
        have z272 := So.size e268
        have q273 := So.kept e268 q267 (fun h => absurd h (by omega))
        refine L.step (R.assignV (v := .int .i64 1) rfl) rfl ?_
        refine L.nil ?_
        refine C.ret (?_ : RetOk _ _ _ _ _)
        refine RetOk.ctV (u := .int .i64 1) rfl rfl (loadVarA (cs := bcells z64) r27 k271 (List.take_of_length_le (Nat.le_of_eq (bcells64 rfl))) (bcells64 rfl)) rfl ?_
        exact ⟨rfl, q273⟩
      ·
        refine L.step (R.eqlF rfl rfl ht260) rfl ?_
        refine L.step (R.assignV (v := .bool false) rfl) rfl ?_
        refine L.nil ?_
        refine C.condF rfl ?_
        refine C.seq ?_
        refine C.region ?_
        rcases Classical.em (kindOf o.k = 3) with ht274 | ht274
        ·
          refine L.step (R.eqlT rfl rfl ht274) rfl ?_
          refine L.step (R.assignV (v := .bool true) rfl) rfl ?_
          refine L.nil ?_
          refine C.condT rfl ?_
          refine C.seq ?_
          refine C.region ?_
          refine L.step build27 rfl ?_
          refine L.step (R.moveV (v := .pointer none) rfl) rfl ?_
          refine L.step (R.fieldAddrV (o2 := 1) f32_1 rfl rfl) rfl ?_
          refine L.step (R.load1 (v := .int .i64 o.a) c3 rfl k216 rfl) rfl ?_
          refine L.call (E.call2 hb24) rfl arm_none ?_
          rintro _ w275 ⟨rfl, hk276⟩
          have k278 := Kept.old hk276 k216 (fun h => h)
          have k279 := Kept.old hk276 k217 (fun h => h)
          have z280 := (hk276).size
          have q281 := Kept.trans q219 hk276 (fun _ _ h => h.elim)
          refine L.doesE (R.storeAll (cs := bcells z64) r27 rfl rfl (bcells64 rfl) (one_bcells _) k279 (List.length_replicate)) fun w283 e282 => ?_
          have k284 := So.old e282 (apartE k278 k279 (by decide)) k278
          have k285 := So.hit e282 k279
          have z286 := So.size e282
          have q287 := So.kept e282 q281 (fun h => absurd h (by omega))
          refine L.step (R.assignV (v := .int .i64 1) rfl) rfl ?_
          refine L.nil ?_
          refine C.ret (?_ : RetOk _ _ _ _ _)
          refine RetOk.ctV (u := .int .i64 1) rfl rfl (loadVarA (cs := bcells z64) r27 k285 (List.take_of_length_le (Nat.le_of_eq (bcells64 rfl))) (bcells64 rfl)) rfl ?_
          exact ⟨rfl, q287⟩
        ·
          refine L.step (R.eqlF rfl rfl ht274) rfl ?_
          refine L.step (R.assignV (v := .bool false) rfl) rfl ?_
          refine L.nil ?_
          refine C.condF rfl ?_
          refine C.seq ?_
          refine C.region ?_
          rcases Classical.em (kindOf o.k = 5) with ht288 | ht288
          ·
            refine L.step (R.eqlT rfl rfl ht288) rfl ?_
            refine L.step (R.assignV (v := .bool true) rfl) rfl ?_
            refine L.nil ?_
            refine C.condT rfl ?_
            refine C.seq ?_
            refine C.region ?_
            refine L.step build27 rfl ?_
            refine L.step (R.moveV (v := .pointer none) rfl) rfl ?_
            refine L.step (R.fieldAddrV (o2 := 1) f32_1 rfl rfl) rfl ?_
            refine L.step (R.load1 (v := .int .i64 o.a) c3 rfl k216 rfl) rfl ?_
            refine L.call (E.call2 hb27) rfl fail_none ?_
            rintro _ w289 ⟨rfl, hk290⟩
            have k292 := Kept.old hk290 k216 (fun h => h)
            have k293 := Kept.old hk290 k217 (fun h => h)
            have z294 := (hk290).size
            have q295 := Kept.trans q219 hk290 (fun _ _ h => h.elim)
            refine L.doesE (R.storeAll (cs := bcells z64) r27 rfl rfl (bcells64 rfl) (one_bcells _) k293 (List.length_replicate)) fun w297 e296 => ?_
            have k298 := So.old e296 (apartE k292 k293 (by decide)) k292
            have k299 := So.hit e296 k293
            have z300 := So.size e296
            have q301 := So.kept e296 q295 (fun h => absurd h (by omega))
            refine L.step (R.assignV (v := .int .i64 1) rfl) rfl ?_
            refine L.nil ?_
            refine C.ret (?_ : RetOk _ _ _ _ _)
            refine RetOk.ctV (u := .int .i64 1) rfl rfl (loadVarA (cs := bcells z64) r27 k299 (List.take_of_length_le (Nat.le_of_eq (bcells64 rfl))) (bcells64 rfl)) rfl ?_
            exact ⟨rfl, q301⟩
          ·
            refine L.step (R.eqlF rfl rfl ht288) rfl ?_
            refine L.step (R.assignV (v := .bool false) rfl) rfl ?_
            refine L.nil ?_
            refine C.condF rfl ?_
            refine C.skip ?_
            refine C.seq ?_
            refine C.region ?_
            refine L.step build27 rfl ?_
            refine L.step (R.moveV (v := .pointer none) rfl) rfl ?_
            refine L.step (R.fieldAddrV (o2 := 3) f32_3 rfl rfl) rfl ?_
            refine L.step (R.load1 (v := .slice ka o.ks.length kc) c30 rfl k216 rfl) rfl ?_
            have hbX : BoolsAt w214 (.slice ka o.ks.length kc) o.ks G := hb.kept hkb (fun _ _ h => h)
            refine L.call (E.call1 hb34) rfl (keeps_calls hbX hn) ?_
            rintro v302 w303 ⟨hb305, hk304⟩
            obtain ⟨a306, c307, rfl⟩ := hb305.shape
            have k308 := Kept.old hk304 k216 (fun h => h)
            have k309 := Kept.old hk304 k217 (fun h => h)
            have z310 := (hk304).size
            have q311 := Kept.trans q219 hk304 (fun _ _ h => h.elim)
            refine L.call (E.call2 hb29) rfl (crash_nil rfl) ?_
            rintro _ w312 ⟨rfl, hk313⟩
            have k315 := Kept.old hk313 k308 (fun h => h)
            have k316 := Kept.old hk313 k309 (fun h => h)
            have z317 := (hk313).size
            have q318 := Kept.trans q311 hk313 (fun _ _ h => h.elim)
            refine L.doesE (R.storeAll (cs := bcells z64) r27 rfl rfl (bcells64 rfl) (one_bcells _) k316 (List.length_replicate)) fun w320 e319 => ?_
            have k321 := So.old e319 (apartE k315 k316 (by decide)) k315
            have k322 := So.hit e319 k316
            have z323 := So.size e319
            have q324 := So.kept e319 q318 (fun h => absurd h (by omega))
            refine L.step (R.assignV (v := .int .i64 1) rfl) rfl ?_
            refine L.nil ?_
            refine C.ret (?_ : RetOk _ _ _ _ _)
            refine RetOk.ctV (u := .int .i64 1) rfl rfl (loadVarA (cs := bcells z64) r27 k322 (List.take_of_length_le (Nat.le_of_eq (bcells64 rfl))) (bcells64 rfl)) rfl ?_
            exact ⟨rfl, q324⟩
end Go.Proofs.Ytpblppilknkdoaa
