/- DiskNone: the walk. -/
import Derived.Test.YtpblppilknkdoaaD11
namespace Go.Proofs.Ytpblppilknkdoaa
open Go Go.Eng Go.Proofs
attribute [local irreducible] Go.Eng.C Go.Eng.L Go.Eng.Ret Go.Eng.Run Go.Eng.Does Go.Eng.Enters Go.Eng.AH Go.Eng.AO Go.Eng.RetOk
set_option maxHeartbeats 1000000 in
theorem none_calls {w : World} {o : POp} {kv : Value} {G : Nat → Prop} (hb : BoolsAt w kv o.ks G) (hn : o.ks.length ≤ 140737488351232) :
    Ret Try.prog 9 #[.agg [.int .i64 o.k, .int .i64 o.a, .int .u8 o.f, kv].toArray] w fun v w' => v = .bool true ∧ Kept (fun _ => False) w w' := by
  have hq := Kept.refl (fun _ => False) w
  obtain ⟨ka, kc, rfl⟩ := hb.shape
  refine Ret.intro [.agg (List.toArray ([.int .i64 o.k, .int .i64 o.a, .int .u8 o.f, .slice ka o.ks.length kc]))] Try.func9 rfl rfl ?_
  refine C.seq ?_
  refine C.region ?_
  refine L.stepE (R.boxA (cs := [.int .i64 o.k, .int .i64 o.a, .int .u8 o.f, .slice ka o.ks.length kc]) rfl) rfl fun w2 e1 => ?_
  have k4 := Al.new e1
  have z5 := Al.size e1
  have q6 := Al.kept e1 hq
  refine L.step (R.assignV (v := .bool false) rfl) rfl ?_
  refine L.nil ?_
  refine C.seq ?_
  refine C.seq ?_
  refine C.region ?_
  refine L.call (E.call0 hb10) rfl wakes_calls ?_
  rintro _ w7 ⟨rfl, hk8⟩
  have k9 := Kept.old hk8 k4 (fun h => h)
  have z10 := (hk8).size
  have q11 := Kept.trans q6 hk8 (fun _ _ h => h.elim)
  refine L.step (R.notV (v := .bool false) rfl rfl) rfl ?_
  refine L.nil ?_
  refine C.condF rfl ?_
  refine C.skip ?_
  refine C.seq ?_
  refine C.region ?_
  refine L.step (R.assignV (v := .pointer none) rfl) rfl ?_
  refine L.nil ?_
  refine C.seq ?_
  refine C.region ?_
  refine L.step (R.moveV (v := .pointer none) rfl) rfl ?_
  refine L.step (R.loadA (cs := [.int .i64 o.k, .int .i64 o.a, .int .u8 o.f, .slice ka o.ks.length kc]) r32 rfl k9 rfl rfl) rfl ?_
  refine L.call (E.call2 hb18) rfl (does_nil (o := o) (hb.kept q11 (fun _ _ h => h)) hn) ?_
  rintro _ w12 ⟨rfl, hk13⟩
  have k14 := Kept.old hk13 k9 (fun h => h)
  have z15 := (hk13).size
  have q16 := Kept.trans q11 hk13 (fun _ _ h => h.elim)
  refine L.step (R.moveV (v := .tuple #[.agg (List.toArray (bcells z64)), .int .i64 1]) rfl) rfl ?_
  refine L.step (R.extract (v := .agg (List.toArray (bcells z64))) rfl rfl) rfl ?_
  refine L.step (R.extract (v := .int .i64 1) rfl rfl) rfl ?_
  refine L.stepE (R.alloc z27) rfl fun w18 e17 => ?_
  have k20 := Al.new e17
  have k21 := Al.old e17 k14
  have z22 := Al.size e17
  have q23 := Al.kept e17 q16
  refine L.doesE (R.storeAll (cs := bcells z64) r27 rfl rfl (bcells64 (b := z64) rfl) (one_bcells _) k20 (List.length_replicate)) fun w25 e24 => ?_
  have k26 := So.old e24 (apartE k21 k20 (by decide)) k21
  have k27 := So.hit e24 k20
  have z28 := So.size e24
  have q29 := So.kept e24 q23 (fun h => absurd h (by omega))
  refine L.step (R.assignV (v := .int .i64 1) rfl) rfl ?_
  refine L.nil ?_
  refine C.seq ?_
  refine C.region ?_
  refine L.step (R.loadA (cs := bcells z64) r27 rfl k27 (List.take_of_length_le (Nat.le_of_eq (bcells64 (b := z64) rfl))) (bcells64 (b := z64) rfl)) rfl ?_
  refine L.step build27 rfl ?_
  refine L.step (R.eqlAV (A := z64) (B := z64) (b := true) Try.underlying27 Try.underlying5 n5 gd27 rfl rfl rfl rfl (decide_eq_true rfl)) rfl ?_
  refine L.step (R.moveV (v := .bool true) rfl) rfl ?_
  refine L.yes rfl rfl rfl ?_
  refine L.step (R.moveV (v := .int .i64 1) rfl) rfl ?_
  refine L.yes rfl rfl rfl ?_
  refine L.step (R.eqlT rfl rfl (by omega)) rfl ?_
  refine L.step (R.pickTV (v := .bool true) rfl rfl) rfl ?_
  refine L.step (R.moveV (v := .bool true) rfl) rfl ?_
  refine L.yes rfl rfl rfl ?_
  refine L.step (R.moveV (v := .pointer none) rfl) rfl ?_
  refine L.yes rfl rfl rfl ?_
  refine L.call (E.call1 hb21) rfl len_nil ?_
  rintro _ _ ⟨rfl, rfl⟩
  refine L.yes rfl rfl rfl ?_
  refine L.step (R.eqlT rfl rfl (by omega)) rfl ?_
  refine L.step (R.pickTV (v := .bool true) rfl rfl) rfl ?_
  refine L.step (R.moveV (v := .bool true) rfl) rfl ?_
  refine L.yes rfl rfl rfl ?_
  refine L.step (R.moveV (v := .pointer none) rfl) rfl ?_
  refine L.yes rfl rfl rfl ?_
  refine L.call (E.call1 hb28) rfl pending_nil ?_
  rintro _ _ ⟨rfl, rfl⟩
  refine L.yes rfl rfl rfl ?_
  refine L.step (R.lenV (v := .int .i64 0) Try.underlying56 rfl rfl) rfl ?_
  refine L.yes rfl rfl rfl ?_
  refine L.step (R.eqlT rfl rfl (by omega)) rfl ?_
  refine L.step (R.pickTV (v := .bool true) rfl rfl) rfl ?_
  refine L.step (R.moveV (v := .bool true) rfl) rfl ?_
  refine L.yes rfl rfl rfl ?_
  refine L.step (R.moveV (v := .pointer none) rfl) rfl ?_
  refine L.yes rfl rfl rfl ?_
  refine L.call (E.call1 hb25) rfl dead_nil ?_
  rintro _ _ ⟨rfl, rfl⟩
  refine L.yes rfl rfl rfl ?_
  refine L.step (R.notV (v := .bool true) rfl rfl) rfl ?_
  refine L.step (R.pickTV (v := .bool true) rfl rfl) rfl ?_
  refine L.step (R.moveV (v := .bool true) rfl) rfl ?_
  refine L.yes rfl rfl rfl ?_
  refine L.step (R.moveV (v := .pointer none) rfl) rfl ?_
  refine L.yes rfl rfl rfl ?_
  refine L.call (E.call1 hb31) rfl ops_nil ?_
  rintro _ _ ⟨rfl, rfl⟩
  refine L.yes rfl rfl rfl ?_
  refine L.step (R.eqlT rfl rfl (by omega)) rfl ?_
  refine L.step (R.pickTV (v := .bool true) rfl rfl) rfl ?_
  refine L.step (R.moveV (v := .bool true) rfl) rfl ?_
  refine L.yes rfl rfl rfl ?_
  refine L.step (R.moveV (v := .pointer none) rfl) rfl ?_
  refine L.yes rfl rfl rfl ?_
  refine L.call (E.call1 hb32) rfl copy_nil ?_
  rintro _ _ ⟨rfl, rfl⟩
  refine L.yes rfl rfl rfl ?_
  refine L.step (R.eqlP Try.underlying24 rfl rfl) rfl ?_
  refine L.step (R.pickTV (v := .bool true) rfl rfl) rfl ?_
  refine L.step (R.assignV (v := .bool true) rfl) rfl ?_
  refine L.nil ?_
  refine C.ret (?_ : RetOk _ _ _ _ _)
  refine RetOk.tV (v := .bool true) rfl rfl ?_
  exact ⟨rfl, q29⟩
end Go.Proofs.Ytpblppilknkdoaa
