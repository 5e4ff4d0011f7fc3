/- The disk's methods, one by one. -/
import Derived.Test.YtpblppilknkdoaaD2
namespace Go.Proofs.Ytpblppilknkdoaa
open Go Go.Eng Go.Proofs
attribute [local irreducible] Go.Eng.C Go.Eng.L Go.Eng.Ret Go.Eng.Run Go.Eng.Does Go.Eng.Enters Go.Eng.AH Go.Eng.AO Go.Eng.RetOk
theorem len_calls {w : World} {r n c : Nat} {a : Option Addr} {pv : Value} {dead armed : Bool} {left fails ops : Int} (h : w.heap[r]? = some (blk [.slice a n c, pv, .bool dead, .bool armed, .int .i64 left, .int .i64 fails, .int .i64 ops] 69)) : Ret Try.prog 21 #[.pointer (some ⟨r, 0, none⟩)] w fun v w' => v = .int .i64 ((n : Nat) : Int) ∧ w' = w := by
  refine Ret.intro [.pointer (some ⟨r, 0, none⟩)] Try.func21 rfl rfl ?_
  refine C.seq ?_
  refine C.region ?_
  refine L.step (R.assignV (v := .int .i64 0) rfl) rfl ?_
  refine L.nil ?_
  refine C.seq ?_
  refine C.seq ?_
  refine C.region ?_
  refine L.step (R.moveV (v := .pointer (some ⟨r, 0, none⟩)) rfl) rfl ?_
  refine L.step (R.eqlP Try.underlying24 rfl rfl) rfl ?_
  refine L.nil ?_
  refine C.condF rfl ?_
  refine C.skip ?_
  refine C.seq ?_
  refine C.region ?_
  refine L.step (R.moveV (v := .pointer (some ⟨r, 0, none⟩)) rfl) rfl ?_
  refine L.step (R.nilCheck rfl) rfl ?_
  refine L.step (R.fieldAddrV (o2 := 0) f69_0 rfl rfl) rfl ?_
  refine L.step (R.load1 (v := .slice a n c) c35 rfl h rfl) rfl ?_
  refine L.step (R.lenV (v := .int .i64 ((n : Nat) : Int)) Try.underlying35 rfl rfl) rfl ?_
  refine L.step (R.assignV (v := .int .i64 ((n : Nat) : Int)) rfl) rfl ?_
  refine L.nil ?_
  refine C.ret (?_ : RetOk _ _ _ _ _)
  refine RetOk.tV (v := .int .i64 ((n : Nat) : Int)) rfl rfl ?_
  exact ⟨rfl, rfl⟩
theorem len_nil {w : World} : Ret Try.prog 21 #[.pointer none] w fun v w' => v = .int .i64 0 ∧ w' = w := by
  refine Ret.intro [.pointer none] Try.func21 rfl rfl ?_
  refine C.seq ?_
  refine C.region ?_
  refine L.step (R.assignV (v := .int .i64 0) rfl) rfl ?_
  refine L.nil ?_
  refine C.seq ?_
  refine C.seq ?_
  refine C.region ?_
  refine L.step (R.moveV (v := .pointer none) rfl) rfl ?_
  refine L.step (R.eqlP Try.underlying24 rfl rfl) rfl ?_
  refine L.nil ?_
  refine C.condT rfl ?_
  refine C.seq ?_
  refine C.region ?_
  refine L.step (R.assignV (v := .int .i64 0) rfl) rfl ?_
  refine L.nil ?_
  refine C.ret (?_ : RetOk _ _ _ _ _)
  refine RetOk.tV (v := .int .i64 0) rfl rfl ?_
  exact ⟨rfl, rfl⟩
theorem ops_calls {w : World} {r n c : Nat} {a : Option Addr} {pv : Value} {dead armed : Bool} {left fails ops : Int} (h : w.heap[r]? = some (blk [.slice a n c, pv, .bool dead, .bool armed, .int .i64 left, .int .i64 fails, .int .i64 ops] 69)) : Ret Try.prog 31 #[.pointer (some ⟨r, 0, none⟩)] w fun v w' => v = .int .i64 ops ∧ w' = w := by
  refine Ret.intro [.pointer (some ⟨r, 0, none⟩)] Try.func31 rfl rfl ?_
  refine C.seq ?_
  refine C.region ?_
  refine L.step (R.assignV (v := .int .i64 0) rfl) rfl ?_
  refine L.nil ?_
  refine C.seq ?_
  refine C.seq ?_
  refine C.region ?_
  refine L.step (R.moveV (v := .pointer (some ⟨r, 0, none⟩)) rfl) rfl ?_
  refine L.step (R.eqlP Try.underlying24 rfl rfl) rfl ?_
  refine L.nil ?_
  refine C.condF rfl ?_
  refine C.skip ?_
  refine C.seq ?_
  refine C.region ?_
  refine L.step (R.moveV (v := .pointer (some ⟨r, 0, none⟩)) rfl) rfl ?_
  refine L.step (R.nilCheck rfl) rfl ?_
  refine L.step (R.fieldAddrV (o2 := 6) f69_6 rfl rfl) rfl ?_
  refine L.step (R.load1 (v := .int .i64 ops) c3 rfl h rfl) rfl ?_
  refine L.step (R.assignV (v := .int .i64 ops) rfl) rfl ?_
  refine L.nil ?_
  refine C.ret (?_ : RetOk _ _ _ _ _)
  refine RetOk.tV (v := .int .i64 ops) rfl rfl ?_
  exact ⟨rfl, rfl⟩
theorem ops_nil {w : World} : Ret Try.prog 31 #[.pointer none] w fun v w' => v = .int .i64 0 ∧ w' = w := by
  refine Ret.intro [.pointer none] Try.func31 rfl rfl ?_
  refine C.seq ?_
  refine C.region ?_
  refine L.step (R.assignV (v := .int .i64 0) rfl) rfl ?_
  refine L.nil ?_
  refine C.seq ?_
  refine C.seq ?_
  refine C.region ?_
  refine L.step (R.moveV (v := .pointer none) rfl) rfl ?_
  refine L.step (R.eqlP Try.underlying24 rfl rfl) rfl ?_
  refine L.nil ?_
  refine C.condT rfl ?_
  refine C.seq ?_
  refine C.region ?_
  refine L.step (R.assignV (v := .int .i64 0) rfl) rfl ?_
  refine L.nil ?_
  refine C.ret (?_ : RetOk _ _ _ _ _)
  refine RetOk.tV (v := .int .i64 0) rfl rfl ?_
  exact ⟨rfl, rfl⟩
theorem dead_calls {w : World} {r n c : Nat} {a : Option Addr} {pv : Value} {dead armed : Bool} {left fails ops : Int} (h : w.heap[r]? = some (blk [.slice a n c, pv, .bool dead, .bool armed, .int .i64 left, .int .i64 fails, .int .i64 ops] 69)) : Ret Try.prog 25 #[.pointer (some ⟨r, 0, none⟩)] w fun v w' => v = .bool dead ∧ w' = w := by
  refine Ret.intro [.pointer (some ⟨r, 0, none⟩)] Try.func25 rfl rfl ?_
  refine C.seq ?_
  refine C.region ?_
  refine L.step (R.assignV (v := .bool false) rfl) rfl ?_
  refine L.nil ?_
  refine C.seq ?_
  refine C.region ?_
  refine L.step (R.moveV (v := .pointer (some ⟨r, 0, none⟩)) rfl) rfl ?_
  refine L.step (R.neqP Try.underlying24 rfl rfl) rfl ?_
  refine L.step (R.moveV (v := .bool true) rfl) rfl ?_
  refine L.yes rfl rfl rfl ?_
  refine L.step (R.moveV (v := .pointer (some ⟨r, 0, none⟩)) rfl) rfl ?_
  refine L.yes rfl rfl rfl ?_
  refine L.step (R.nilCheck rfl) rfl ?_
  refine L.yes rfl rfl rfl ?_
  refine L.step (R.fieldAddrV (o2 := 2) f69_2 rfl rfl) rfl ?_
  refine L.yes rfl rfl rfl ?_
  refine L.step (R.load1 (v := .bool dead) c4 rfl h rfl) rfl ?_
  refine L.step (R.pickTV (v := .bool dead) rfl rfl) rfl ?_
  refine L.step (R.assignV (v := .bool dead) rfl) rfl ?_
  refine L.nil ?_
  refine C.ret (?_ : RetOk _ _ _ _ _)
  refine RetOk.tV (v := .bool dead) rfl rfl ?_
  exact ⟨rfl, rfl⟩
theorem dead_nil {w : World} : Ret Try.prog 25 #[.pointer none] w fun v w' => v = .bool false ∧ w' = w := by
  refine Ret.intro [.pointer none] Try.func25 rfl rfl ?_
  refine C.seq ?_
  refine C.region ?_
  refine L.step (R.assignV (v := .bool false) rfl) rfl ?_
  refine L.nil ?_
  refine C.seq ?_
  refine C.region ?_
  refine L.step (R.moveV (v := .pointer none) rfl) rfl ?_
  refine L.step (R.neqP Try.underlying24 rfl rfl) rfl ?_
  refine L.step (R.moveV (v := .bool false) rfl) rfl ?_
  refine L.no rfl rfl rfl (.inl rfl) ?_
  refine L.no rfl rfl rfl (.inl rfl) ?_
  refine L.no rfl rfl rfl (.inl rfl) ?_
  refine L.no rfl rfl rfl (.inl rfl) ?_
  refine L.step (R.pickFV (v := .bool false) rfl rfl) rfl ?_
  refine L.step (R.assignV (v := .bool false) rfl) rfl ?_
  refine L.nil ?_
  refine C.ret (?_ : RetOk _ _ _ _ _)
  refine RetOk.tV (v := .bool false) rfl rfl ?_
  exact ⟨rfl, rfl⟩
theorem arm_calls {w : World} {r : Nat} {D : PD} {sv pv : Value} (h : w.heap[r]? = some (blk (D.cells sv pv) 69)) {n : Int} (_hn : -9223372036854775808 ≤ n ∧ n ≤ 9223372036854775807) :
    Ret Try.prog 24 #[.pointer (some ⟨r, 0, none⟩), .int .i64 n] w fun v w' => v = .int .i64 (D.arm n).2 ∧ w' = setO w r (blk ((D.arm n).1.cells sv pv) 69) := by
  obtain ⟨safe, pend, dead, armed, left, fails, ops⟩ := D
  simp only [PD.cells] at h ⊢
  cases dead
  ·
    refine Ret.intro [.pointer (some ⟨r, 0, none⟩), .int .i64 n] Try.func24 rfl rfl ?_
    refine C.seq ?_
    refine C.region ?_
    refine L.step (R.assignV (v := .int .i64 0) rfl) rfl ?_
    refine L.nil ?_
    refine C.seq ?_
    refine C.seq ?_
    refine C.region ?_
    refine L.step (R.moveV (v := .pointer (some ⟨r, 0, none⟩)) rfl) rfl ?_
    refine L.call (E.call1 hb44) rfl (power_live h) ?_
    rintro _ _ ⟨rfl, rfl⟩
    refine L.step (R.assignV (v := .int .i64 0) rfl) rfl ?_
    refine L.nil ?_
    refine C.seq ?_
    refine C.region ?_
    refine L.step (R.moveV (v := .int .i64 0) rfl) rfl ?_
    refine L.step (R.neqF rfl rfl (by omega)) rfl ?_
    refine L.nil ?_
    refine C.condF rfl ?_
    refine C.skip ?_
    refine C.seq ?_
    refine C.region ?_
    refine L.step (R.moveV (v := .pointer (some ⟨r, 0, none⟩)) rfl) rfl ?_
    refine L.step (R.moveV (v := .pointer (some ⟨r, 0, none⟩)) rfl) rfl ?_
    refine L.step (R.moveV (v := .int .i64 n) rfl) rfl ?_
    rcases Classical.em (0 ≤ n) with ht1 | ht1
    ·
      refine L.step (R.geqT rfl rfl (ht1)) rfl ?_
      refine L.step (R.moveV (v := .int .i64 n) rfl) rfl ?_
      refine L.step (R.nilCheck rfl) rfl ?_
      refine L.step (R.fieldAddrV (o2 := 3) f69_3 rfl rfl) rfl ?_
      refine L.doesE (R.store1 c4 rfl (v := .bool true) rfl rfl h rfl) fun w3 e2 => ?_
      have k4 := So.hit e2 h
      have z5 := So.size e2
      refine L.step (R.nilCheck rfl) rfl ?_
      refine L.step (R.fieldAddrV (o2 := 4) f69_4 rfl rfl) rfl ?_
      refine L.doesE (R.store1 c3 rfl (v := .int .i64 n) rfl rfl k4 rfl) fun w7 e6 => ?_
      have k8 := So.hit e6 k4
      have z9 := So.size e6
      refine L.nil ?_
      refine C.seq ?_
      refine C.region ?_
      refine L.step (R.assignV (v := .int .i64 0) rfl) rfl ?_
      refine L.nil ?_
      refine C.ret (?_ : RetOk _ _ _ _ _)
      refine RetOk.tV (v := .int .i64 0) rfl rfl ?_
      refine ⟨by simp [PD.arm], ?_⟩
      rw [← e6]
      rw [← e2]
      simp [setO_setO, PD.arm, *]
    ·
      refine L.step (R.geqF rfl rfl (Int.not_le.1 ht1)) rfl ?_
      refine L.step (R.moveV (v := .int .i64 n) rfl) rfl ?_
      refine L.step (R.nilCheck rfl) rfl ?_
      refine L.step (R.fieldAddrV (o2 := 3) f69_3 rfl rfl) rfl ?_
      refine L.doesE (R.store1 c4 rfl (v := .bool false) rfl rfl h rfl) fun w11 e10 => ?_
      have k12 := So.hit e10 h
      have z13 := So.size e10
      refine L.step (R.nilCheck rfl) rfl ?_
      refine L.step (R.fieldAddrV (o2 := 4) f69_4 rfl rfl) rfl ?_
      refine L.doesE (R.store1 c3 rfl (v := .int .i64 n) rfl rfl k12 rfl) fun w15 e14 => ?_
      have k16 := So.hit e14 k12
      have z17 := So.size e14
      refine L.nil ?_
      refine C.seq ?_
      refine C.region ?_
      refine L.step (R.assignV (v := .int .i64 0) rfl) rfl ?_
      refine L.nil ?_
      refine C.ret (?_ : RetOk _ _ _ _ _)
      refine RetOk.tV (v := .int .i64 0) rfl rfl ?_
      refine ⟨by simp [PD.arm], ?_⟩
      rw [← e14]
      rw [← e10]
      simp [setO_setO, PD.arm, *]
  ·
    refine Ret.intro [.pointer (some ⟨r, 0, none⟩), .int .i64 n] Try.func24 rfl rfl ?_
    refine C.seq ?_
    refine C.region ?_
    refine L.step (R.assignV (v := .int .i64 0) rfl) rfl ?_
    refine L.nil ?_
    refine C.seq ?_
    refine C.seq ?_
    refine C.region ?_
    refine L.step (R.moveV (v := .pointer (some ⟨r, 0, none⟩)) rfl) rfl ?_
    refine L.call (E.call1 hb44) rfl (power_dead h) ?_
    rintro _ _ ⟨rfl, rfl⟩
    refine L.step (R.assignV (v := .int .i64 9) rfl) rfl ?_
    refine L.nil ?_
    refine C.seq ?_
    refine C.region ?_
    refine L.step (R.moveV (v := .int .i64 9) rfl) rfl ?_
    refine L.step (R.neqT rfl rfl (by omega)) rfl ?_
    refine L.nil ?_
    refine C.condT rfl ?_
    refine C.seq ?_
    refine C.region ?_
    refine L.step (R.moveV (v := .int .i64 9) rfl) rfl ?_
    refine L.step (R.assignV (v := .int .i64 9) rfl) rfl ?_
    refine L.nil ?_
    refine C.ret (?_ : RetOk _ _ _ _ _)
    refine RetOk.tV (v := .int .i64 9) rfl rfl ?_
    refine ⟨by simp [PD.arm], ?_⟩
    simp only [PD.arm]
    simp [*]
    exact (setO_self h).symm
theorem arm_nil {w : World} {n : Int} : Ret Try.prog 24 #[.pointer none, .int .i64 n] w fun v w' => v = .int .i64 1 ∧ w' = w := by
  refine Ret.intro [.pointer none, .int .i64 n] Try.func24 rfl rfl ?_
  refine C.seq ?_
  refine C.region ?_
  refine L.step (R.assignV (v := .int .i64 0) rfl) rfl ?_
  refine L.nil ?_
  refine C.seq ?_
  refine C.seq ?_
  refine C.region ?_
  refine L.step (R.moveV (v := .pointer none) rfl) rfl ?_
  refine L.call (E.call1 hb44) rfl power_nil ?_
  rintro _ _ ⟨rfl, rfl⟩
  refine L.step (R.assignV (v := .int .i64 1) rfl) rfl ?_
  refine L.nil ?_
  refine C.seq ?_
  refine C.region ?_
  refine L.step (R.moveV (v := .int .i64 1) rfl) rfl ?_
  refine L.step (R.neqT rfl rfl (by omega)) rfl ?_
  refine L.nil ?_
  refine C.condT rfl ?_
  refine C.seq ?_
  refine C.region ?_
  refine L.step (R.moveV (v := .int .i64 1) rfl) rfl ?_
  refine L.step (R.assignV (v := .int .i64 1) rfl) rfl ?_
  refine L.nil ?_
  refine C.ret (?_ : RetOk _ _ _ _ _)
  refine RetOk.tV (v := .int .i64 1) rfl rfl ?_
  exact ⟨rfl, rfl⟩
theorem fail_calls {w : World} {r : Nat} {D : PD} {sv pv : Value} (h : w.heap[r]? = some (blk (D.cells sv pv) 69)) {n : Int} (hn : -9223372036854775808 ≤ n ∧ n ≤ 9223372036854775807) :
    Ret Try.prog 27 #[.pointer (some ⟨r, 0, none⟩), .int .i64 n] w fun v w' => v = .int .i64 (D.fail n).2 ∧ w' = setO w r (blk ((D.fail n).1.cells sv pv) 69) := by
  obtain ⟨safe, pend, dead, armed, left, fails, ops⟩ := D
  simp only [PD.cells] at h ⊢
  cases dead
  ·
    refine Ret.intro [.pointer (some ⟨r, 0, none⟩), .int .i64 n] Try.func27 rfl rfl ?_
    refine C.seq ?_
    refine C.region ?_
    refine L.step (R.assignV (v := .int .i64 0) rfl) rfl ?_
    refine L.nil ?_
    refine C.seq ?_
    refine C.seq ?_
    refine C.region ?_
    refine L.step (R.moveV (v := .pointer (some ⟨r, 0, none⟩)) rfl) rfl ?_
    refine L.call (E.call1 hb44) rfl (power_live h) ?_
    rintro _ _ ⟨rfl, rfl⟩
    refine L.step (R.assignV (v := .int .i64 0) rfl) rfl ?_
    refine L.nil ?_
    refine C.seq ?_
    refine C.region ?_
    refine L.step (R.moveV (v := .int .i64 0) rfl) rfl ?_
    refine L.step (R.neqF rfl rfl (by omega)) rfl ?_
    refine L.nil ?_
    refine C.condF rfl ?_
    refine C.skip ?_
    refine C.seq ?_
    refine C.region ?_
    refine L.step (R.moveV (v := .pointer (some ⟨r, 0, none⟩)) rfl) rfl ?_
    refine L.step (R.nilCheck rfl) rfl ?_
    refine L.step (R.fieldAddrV (o2 := 5) f69_5 rfl rfl) rfl ?_
    refine L.doesE (R.store1 c3 rfl (v := .int .i64 0) rfl rfl h rfl) fun w19 e18 => ?_
    have k20 := So.hit e18 h
    have z21 := So.size e18
    refine L.nil ?_
    refine C.seq ?_
    refine C.seq ?_
    refine C.region ?_
    refine L.step (R.moveV (v := .int .i64 n) rfl) rfl ?_
    rcases Classical.em (0 ≤ n) with ht22 | ht22
    ·
      refine L.step (R.geqT rfl rfl (ht22)) rfl ?_
      refine L.step (R.moveV (v := .bool true) rfl) rfl ?_
      refine L.yes rfl rfl rfl ?_
      refine L.step (R.moveV (v := .int .i64 n) rfl) rfl ?_
      refine L.yes rfl rfl rfl ?_
      rcases Classical.em (n < 4611686018427387904) with ht23 | ht23
      ·
        refine L.step (R.lssT rfl rfl (ht23)) rfl ?_
        refine L.step (R.pickTV (v := .bool true) rfl rfl) rfl ?_
        refine L.nil ?_
        refine C.condT rfl ?_
        refine C.region ?_
        refine L.step (R.moveV (v := .pointer (some ⟨r, 0, none⟩)) rfl) rfl ?_
        refine L.step (R.moveV (v := .int .i64 n) rfl) rfl ?_
        refine L.step (R.add rfl rfl (by omega)) rfl ?_
        refine L.step (R.nilCheck rfl) rfl ?_
        refine L.step (R.fieldAddrV (o2 := 5) f69_5 rfl rfl) rfl ?_
        refine L.doesE (R.store1 c3 rfl (v := .int .i64 (n + 1)) rfl rfl k20 rfl) fun w25 e24 => ?_
        have k26 := So.hit e24 k20
        have z27 := So.size e24
        refine L.nil ?_
        refine C.seq ?_
        refine C.region ?_
        refine L.step (R.assignV (v := .int .i64 0) rfl) rfl ?_
        refine L.nil ?_
        refine C.ret (?_ : RetOk _ _ _ _ _)
        refine RetOk.tV (v := .int .i64 0) rfl rfl ?_
        refine ⟨by simp [PD.fail], ?_⟩
        rw [← e24]
        rw [← e18]
        simp [setO_setO, PD.fail, *]
      ·
        refine L.step (R.lssF rfl rfl (Int.not_lt.1 ht23)) rfl ?_
        refine L.step (R.pickTV (v := .bool false) rfl rfl) rfl ?_
        refine L.nil ?_
        refine C.condF rfl ?_
        refine C.skip ?_
        refine C.seq ?_
        refine C.region ?_
        refine L.step (R.assignV (v := .int .i64 0) rfl) rfl ?_
        refine L.nil ?_
        refine C.ret (?_ : RetOk _ _ _ _ _)
        refine RetOk.tV (v := .int .i64 0) rfl rfl ?_
        refine ⟨by simp [PD.fail], ?_⟩
        rw [← e18]
        simp [PD.fail, *]
    ·
      refine L.step (R.geqF rfl rfl (Int.not_le.1 ht22)) rfl ?_
      refine L.step (R.moveV (v := .bool false) rfl) rfl ?_
      refine L.no rfl rfl rfl (.inl rfl) ?_
      refine L.no rfl rfl rfl (.inl rfl) ?_
      refine L.step (R.pickFV (v := .bool false) rfl rfl) rfl ?_
      refine L.nil ?_
      refine C.condF rfl ?_
      refine C.skip ?_
      refine C.seq ?_
      refine C.region ?_
      refine L.step (R.assignV (v := .int .i64 0) rfl) rfl ?_
      refine L.nil ?_
      refine C.ret (?_ : RetOk _ _ _ _ _)
      refine RetOk.tV (v := .int .i64 0) rfl rfl ?_
      refine ⟨by simp [PD.fail], ?_⟩
      rw [← e18]
      simp [PD.fail, *]
  ·
    refine Ret.intro [.pointer (some ⟨r, 0, none⟩), .int .i64 n] Try.func27 rfl rfl ?_
    refine C.seq ?_
    refine C.region ?_
    refine L.step (R.assignV (v := .int .i64 0) rfl) rfl ?_
    refine L.nil ?_
    refine C.seq ?_
    refine C.seq ?_
    refine C.region ?_
    refine L.step (R.moveV (v := .pointer (some ⟨r, 0, none⟩)) rfl) rfl ?_
    refine L.call (E.call1 hb44) rfl (power_dead h) ?_
    rintro _ _ ⟨rfl, rfl⟩
    refine L.step (R.assignV (v := .int .i64 9) rfl) rfl ?_
    refine L.nil ?_
    refine C.seq ?_
    refine C.region ?_
    refine L.step (R.moveV (v := .int .i64 9) rfl) rfl ?_
    refine L.step (R.neqT rfl rfl (by omega)) rfl ?_
    refine L.nil ?_
    refine C.condT rfl ?_
    refine C.seq ?_
    refine C.region ?_
    refine L.step (R.moveV (v := .int .i64 9) rfl) rfl ?_
    refine L.step (R.assignV (v := .int .i64 9) rfl) rfl ?_
    refine L.nil ?_
    refine C.ret (?_ : RetOk _ _ _ _ _)
    refine RetOk.tV (v := .int .i64 9) rfl rfl ?_
    refine ⟨by simp [PD.fail], ?_⟩
    simp only [PD.fail]
    simp [*]
    exact (setO_self h).symm
theorem fail_nil {w : World} {n : Int} : Ret Try.prog 27 #[.pointer none, .int .i64 n] w fun v w' => v = .int .i64 1 ∧ w' = w := by
  refine Ret.intro [.pointer none, .int .i64 n] Try.func27 rfl rfl ?_
  refine C.seq ?_
  refine C.region ?_
  refine L.step (R.assignV (v := .int .i64 0) rfl) rfl ?_
  refine L.nil ?_
  refine C.seq ?_
  refine C.seq ?_
  refine C.region ?_
  refine L.step (R.moveV (v := .pointer none) rfl) rfl ?_
  refine L.call (E.call1 hb44) rfl power_nil ?_
  rintro _ _ ⟨rfl, rfl⟩
  refine L.step (R.assignV (v := .int .i64 1) rfl) rfl ?_
  refine L.nil ?_
  refine C.seq ?_
  refine C.region ?_
  refine L.step (R.moveV (v := .int .i64 1) rfl) rfl ?_
  refine L.step (R.neqT rfl rfl (by omega)) rfl ?_
  refine L.nil ?_
  refine C.condT rfl ?_
  refine C.seq ?_
  refine C.region ?_
  refine L.step (R.moveV (v := .int .i64 1) rfl) rfl ?_
  refine L.step (R.assignV (v := .int .i64 1) rfl) rfl ?_
  refine L.nil ?_
  refine C.ret (?_ : RetOk _ _ _ _ _)
  refine RetOk.tV (v := .int .i64 1) rfl rfl ?_
  exact ⟨rfl, rfl⟩
theorem do_dead {w : World} {r : Nat} {D : PD} {sv pv fv : Value} (h : w.heap[r]? = some (blk (D.cells sv pv) 69)) (hs : D.stops) :
    Ret Try.prog 45 #[.pointer (some ⟨r, 0, none⟩), fv] w fun v w' => v = .int .i64 9 ∧ w' = setO w r (blk (D.die.cells sv pv) 69) := by
  obtain ⟨ha, hl⟩ := hs
  simp only [PD.cells, ha, hl] at h
  refine Ret.intro [.pointer (some ⟨r, 0, none⟩), fv] Try.func45 rfl rfl ?_
  refine C.seq ?_
  refine C.region ?_
  refine L.step (R.assignV (v := .int .i64 0) rfl) rfl ?_
  refine L.nil ?_
  refine C.seq ?_
  refine C.seq ?_
  refine C.region ?_
  refine L.step (R.moveV (v := .pointer (some ⟨r, 0, none⟩)) rfl) rfl ?_
  refine L.step (R.nilCheck rfl) rfl ?_
  refine L.step (R.fieldAddrV (o2 := 3) f69_3 rfl rfl) rfl ?_
  refine L.step (R.load1 (v := .bool true) c4 rfl h rfl) rfl ?_
  refine L.nil ?_
  refine C.condT rfl ?_
  refine C.seq ?_
  refine C.seq ?_
  refine C.region ?_
  refine L.step (R.moveV (v := .pointer (some ⟨r, 0, none⟩)) rfl) rfl ?_
  refine L.step (R.nilCheck rfl) rfl ?_
  refine L.step (R.fieldAddrV (o2 := 4) f69_4 rfl rfl) rfl ?_
  refine L.step (R.load1 (v := .int .i64 0) c3 rfl h rfl) rfl ?_
  refine L.step (R.eqlT rfl rfl (by omega)) rfl ?_
  refine L.nil ?_
  refine C.condT rfl ?_
  refine C.seq ?_
  refine C.region ?_
  refine L.step (R.moveV (v := .pointer (some ⟨r, 0, none⟩)) rfl) rfl ?_
  refine L.step (R.moveV (v := .pointer (some ⟨r, 0, none⟩)) rfl) rfl ?_
  refine L.step (R.nilCheck rfl) rfl ?_
  refine L.step (R.fieldAddrV (o2 := 2) f69_2 rfl rfl) rfl ?_
  refine L.doesE (R.store1 c4 rfl (v := .bool true) rfl rfl h rfl) fun w29 e28 => ?_
  have k30 := So.hit e28 h
  have z31 := So.size e28
  refine L.step (R.nilCheck rfl) rfl ?_
  refine L.step (R.fieldAddrV (o2 := 3) f69_3 rfl rfl) rfl ?_
  refine L.doesE (R.store1 c4 rfl (v := .bool false) rfl rfl k30 rfl) fun w33 e32 => ?_
  have k34 := So.hit e32 k30
  have z35 := So.size e32
  refine L.nil ?_
  refine C.seq ?_
  refine C.region ?_
  refine L.step (R.assignV (v := .int .i64 9) rfl) rfl ?_
  refine L.nil ?_
  refine C.ret (?_ : RetOk _ _ _ _ _)
  refine RetOk.tV (v := .int .i64 9) rfl rfl ?_
  refine ⟨rfl, ?_⟩
  rw [← e32]
  rw [← e28]
  simp [setO_setO, PD.die, PD.cells, hl]
theorem do_run {w : World} {r : Nat} {D : PD} {sv pv : Value} {gf : Nat} {caps : Array Value} {Φ : Value → World → Prop} (h : w.heap[r]? = some (blk (D.cells sv pv) 69)) (hs : ¬ D.stops) (hok : D.Ok) (hops : D.ops ≤ 1000000)
    (hgf : HasBody Try.prog gf) (hc : Ret Try.prog gf caps (setO w r (blk (D.pre.cells sv pv) 69)) Φ) :
    Ret Try.prog 45 #[.pointer (some ⟨r, 0, none⟩), .func (.func gf) #[] caps] w fun v w' => v = .int .i64 0 ∧ ∃ u, Φ u w' := by
  have ho1 := hok.ops
  have ho2 := hok.left
  cases ha : D.armed
  ·
    simp only [PD.pre, PD.cells, ha] at hc
    simp only [PD.cells, ha] at h
    refine Ret.intro [.pointer (some ⟨r, 0, none⟩), .func (.func gf) #[] caps] Try.func45 rfl rfl ?_
    refine C.seq ?_
    refine C.region ?_
    refine L.step (R.assignV (v := .int .i64 0) rfl) rfl ?_
    refine L.nil ?_
    refine C.seq ?_
    refine C.seq ?_
    refine C.region ?_
    refine L.step (R.moveV (v := .pointer (some ⟨r, 0, none⟩)) rfl) rfl ?_
    refine L.step (R.nilCheck rfl) rfl ?_
    refine L.step (R.fieldAddrV (o2 := 3) f69_3 rfl rfl) rfl ?_
    refine L.step (R.load1 (v := .bool false) c4 rfl h rfl) rfl ?_
    refine L.nil ?_
    refine C.condF rfl ?_
    refine C.skip ?_
    refine C.seq ?_
    refine C.region ?_
    refine L.step (R.moveV (v := .pointer (some ⟨r, 0, none⟩)) rfl) rfl ?_
    refine L.step (R.nilCheck rfl) rfl ?_
    refine L.step (R.fieldAddrV (o2 := 6) f69_6 rfl rfl) rfl ?_
    refine L.step (R.load1 (v := .int .i64 D.ops) c3 rfl h rfl) rfl ?_
    refine L.step (R.add rfl rfl (by omega)) rfl ?_
    refine L.step (R.nilCheck rfl) rfl ?_
    refine L.step (R.fieldAddrV (o2 := 6) f69_6 rfl rfl) rfl ?_
    refine L.doesE (R.store1 c3 rfl (v := .int .i64 (D.ops + 1)) rfl rfl h rfl) fun w37 e36 => ?_
    have k38 := So.hit e36 h
    have z39 := So.size e36
    refine L.nil ?_
    refine C.seq ?_
    refine C.region ?_
    refine L.step (R.moveV (v := .func (.func gf) #[] caps) rfl) rfl ?_
    have hc2 := hc
    simp only [Bool.false_eq_true, if_false, if_true, reduceIte] at hc2
    have e40 : w37 = setO w r (blk ([sv, pv, .bool D.dead, .bool D.armed, .int .i64 (D.left), .int .i64 D.fails, .int .i64 (D.ops + 1)]) 69) := by
      rw [← e36]; simp [setO_setO, ha]
    rw [ha] at e40
    rw [← e40] at hc2
    refine L.call (E.fun0 hgf rfl) rfl hc2 ?_
    rintro u w9 hR
    refine L.nil ?_
    refine C.seq ?_
    refine C.region ?_
    refine L.step (R.assignV (v := .int .i64 0) rfl) rfl ?_
    refine L.nil ?_
    refine C.ret (?_ : RetOk _ _ _ _ _)
    refine RetOk.tV (v := .int .i64 0) rfl rfl ?_
    exact ⟨rfl, u, hR⟩
  ·
    have hl0 : D.left ≠ 0 := fun e => hs ⟨ha, e⟩
    have hl1 := hok.armed ha
    simp only [PD.pre, PD.cells, ha] at hc
    simp only [PD.cells, ha] at h
    refine Ret.intro [.pointer (some ⟨r, 0, none⟩), .func (.func gf) #[] caps] Try.func45 rfl rfl ?_
    refine C.seq ?_
    refine C.region ?_
    refine L.step (R.assignV (v := .int .i64 0) rfl) rfl ?_
    refine L.nil ?_
    refine C.seq ?_
    refine C.seq ?_
    refine C.region ?_
    refine L.step (R.moveV (v := .pointer (some ⟨r, 0, none⟩)) rfl) rfl ?_
    refine L.step (R.nilCheck rfl) rfl ?_
    refine L.step (R.fieldAddrV (o2 := 3) f69_3 rfl rfl) rfl ?_
    refine L.step (R.load1 (v := .bool true) c4 rfl h rfl) rfl ?_
    refine L.nil ?_
    refine C.condT rfl ?_
    refine C.seq ?_
    refine C.seq ?_
    refine C.region ?_
    refine L.step (R.moveV (v := .pointer (some ⟨r, 0, none⟩)) rfl) rfl ?_
    refine L.step (R.nilCheck rfl) rfl ?_
    refine L.step (R.fieldAddrV (o2 := 4) f69_4 rfl rfl) rfl ?_
    refine L.step (R.load1 (v := .int .i64 D.left) c3 rfl h rfl) rfl ?_
    refine L.step (R.eqlF rfl rfl (hl0)) rfl ?_
    refine L.nil ?_
    refine C.condF rfl ?_
    refine C.skip ?_
    refine C.region ?_
    refine L.step (R.moveV (v := .pointer (some ⟨r, 0, none⟩)) rfl) rfl ?_
    refine L.step (R.nilCheck rfl) rfl ?_
    refine L.step (R.fieldAddrV (o2 := 4) f69_4 rfl rfl) rfl ?_
    refine L.step (R.load1 (v := .int .i64 D.left) c3 rfl h rfl) rfl ?_
    refine L.step (R.sub rfl rfl (by omega)) rfl ?_
    refine L.step (R.nilCheck rfl) rfl ?_
    refine L.step (R.fieldAddrV (o2 := 4) f69_4 rfl rfl) rfl ?_
    refine L.doesE (R.store1 c3 rfl (v := .int .i64 (D.left - 1)) rfl rfl h rfl) fun w42 e41 => ?_
    have k43 := So.hit e41 h
    have z44 := So.size e41
    refine L.nil ?_
    refine C.seq ?_
    refine C.region ?_
    refine L.step (R.moveV (v := .pointer (some ⟨r, 0, none⟩)) rfl) rfl ?_
    refine L.step (R.nilCheck rfl) rfl ?_
    refine L.step (R.fieldAddrV (o2 := 6) f69_6 rfl rfl) rfl ?_
    refine L.step (R.load1 (v := .int .i64 D.ops) c3 rfl k43 rfl) rfl ?_
    refine L.step (R.add rfl rfl (by omega)) rfl ?_
    refine L.step (R.nilCheck rfl) rfl ?_
    refine L.step (R.fieldAddrV (o2 := 6) f69_6 rfl rfl) rfl ?_
    refine L.doesE (R.store1 c3 rfl (v := .int .i64 (D.ops + 1)) rfl rfl k43 rfl) fun w46 e45 => ?_
    have k47 := So.hit e45 k43
    have z48 := So.size e45
    refine L.nil ?_
    refine C.seq ?_
    refine C.region ?_
    refine L.step (R.moveV (v := .func (.func gf) #[] caps) rfl) rfl ?_
    have hc2 := hc
    simp only [Bool.false_eq_true, if_false, if_true, reduceIte] at hc2
    have e49 : w46 = setO w r (blk ([sv, pv, .bool D.dead, .bool D.armed, .int .i64 (D.left - 1), .int .i64 D.fails, .int .i64 (D.ops + 1)]) 69) := by
      rw [← e45]; rw [← e41]; simp [setO_setO, ha]
    rw [ha] at e49
    rw [← e49] at hc2
    refine L.call (E.fun0 hgf rfl) rfl hc2 ?_
    rintro u w9 hR
    refine L.nil ?_
    refine C.seq ?_
    refine C.region ?_
    refine L.step (R.assignV (v := .int .i64 0) rfl) rfl ?_
    refine L.nil ?_
    refine C.ret (?_ : RetOk _ _ _ _ _)
    refine RetOk.tV (v := .int .i64 0) rfl rfl ?_
    exact ⟨rfl, u, hR⟩
end Go.Proofs.Ytpblppilknkdoaa
