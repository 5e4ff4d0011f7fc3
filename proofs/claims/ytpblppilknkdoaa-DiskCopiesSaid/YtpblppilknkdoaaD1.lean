/- The disk's small methods. -/
import Derived.Test.YtpblppilknkdoaaMod
namespace Go.Proofs.Ytpblppilknkdoaa
open Go Go.Eng Go.Proofs
attribute [local irreducible] Go.Eng.C Go.Eng.L Go.Eng.Ret Go.Eng.Run Go.Eng.Does Go.Eng.Enters Go.Eng.AH Go.Eng.AO Go.Eng.RetOk
theorem power_dead {w : World} {r : Nat} {sv pv x3 x4 x5 x6 : Value} (h : w.heap[r]? = some (blk [sv, pv, .bool true, x3, x4, x5, x6] 69)) :
    Ret Try.prog 44 #[.pointer (some ⟨r, 0, none⟩)] w fun v w' => v = .int .i64 9 ∧ w' = w := by
  refine Ret.intro [.pointer (some ⟨r, 0, none⟩)] Try.func44 rfl rfl ?_
  refine C.seq ?_
  refine C.region ?_
  refine L.step (R.assignV (v := .int .i64 0) rfl) rfl ?_
  refine L.nil ?_
  refine C.seq ?_
  refine C.block ?_
  refine C.seq ?_
  refine C.region ?_
  refine L.step (R.moveV (v := .pointer (some ⟨r, 0, none⟩)) rfl) rfl ?_
  refine L.step (R.eqlP Try.underlying24 rfl rfl) rfl ?_
  refine L.step (R.assignV (v := .bool false) rfl) rfl ?_
  refine L.nil ?_
  refine C.condF rfl ?_
  refine C.seq ?_
  refine C.region ?_
  refine L.step (R.moveV (v := .pointer (some ⟨r, 0, none⟩)) rfl) rfl ?_
  refine L.step (R.nilCheck rfl) rfl ?_
  refine L.step (R.fieldAddrV (o2 := 2) f69_2 rfl rfl) rfl ?_
  refine L.step (R.load1 (v := .bool true) c4 rfl h rfl) rfl ?_
  refine L.step (R.assignV (v := .bool true) rfl) rfl ?_
  refine L.nil ?_
  refine C.condT rfl ?_
  refine C.seq ?_
  refine C.region ?_
  refine L.step (R.assignV (v := .int .i64 9) rfl) rfl ?_
  refine L.nil ?_
  refine C.ret (?_ : RetOk _ _ _ _ _)
  refine RetOk.tV (v := .int .i64 9) rfl rfl ?_
  exact ⟨rfl, rfl⟩
theorem power_live {w : World} {r : Nat} {sv pv x3 x4 x5 x6 : Value} (h : w.heap[r]? = some (blk [sv, pv, .bool false, x3, x4, x5, x6] 69)) :
    Ret Try.prog 44 #[.pointer (some ⟨r, 0, none⟩)] w fun v w' => v = .int .i64 0 ∧ w' = w := by
  refine Ret.intro [.pointer (some ⟨r, 0, none⟩)] Try.func44 rfl rfl ?_
  refine C.seq ?_
  refine C.region ?_
  refine L.step (R.assignV (v := .int .i64 0) rfl) rfl ?_
  refine L.nil ?_
  refine C.seq ?_
  refine C.block ?_
  refine C.seq ?_
  refine C.region ?_
  refine L.step (R.moveV (v := .pointer (some ⟨r, 0, none⟩)) rfl) rfl ?_
  refine L.step (R.eqlP Try.underlying24 rfl rfl) rfl ?_
  refine L.step (R.assignV (v := .bool false) rfl) rfl ?_
  refine L.nil ?_
  refine C.condF rfl ?_
  refine C.seq ?_
  refine C.region ?_
  refine L.step (R.moveV (v := .pointer (some ⟨r, 0, none⟩)) rfl) rfl ?_
  refine L.step (R.nilCheck rfl) rfl ?_
  refine L.step (R.fieldAddrV (o2 := 2) f69_2 rfl rfl) rfl ?_
  refine L.step (R.load1 (v := .bool false) c4 rfl h rfl) rfl ?_
  refine L.step (R.assignV (v := .bool false) rfl) rfl ?_
  refine L.nil ?_
  refine C.condF rfl ?_
  refine C.skip ?_
  refine C.seq ?_
  refine C.region ?_
  refine L.step (R.assignV (v := .int .i64 0) rfl) rfl ?_
  refine L.nil ?_
  refine C.ret (?_ : RetOk _ _ _ _ _)
  refine RetOk.tV (v := .int .i64 0) rfl rfl ?_
  exact ⟨rfl, rfl⟩
theorem power_nil {w : World} : Ret Try.prog 44 #[.pointer none] w fun v w' => v = .int .i64 1 ∧ w' = w := by
  refine Ret.intro [.pointer none] Try.func44 rfl rfl ?_
  refine C.seq ?_
  refine C.region ?_
  refine L.step (R.assignV (v := .int .i64 0) rfl) rfl ?_
  refine L.nil ?_
  refine C.seq ?_
  refine C.block ?_
  refine C.seq ?_
  refine C.region ?_
  refine L.step (R.moveV (v := .pointer none) rfl) rfl ?_
  refine L.step (R.eqlP Try.underlying24 rfl rfl) rfl ?_
  refine L.step (R.assignV (v := .bool true) rfl) rfl ?_
  refine L.nil ?_
  refine C.condT rfl ?_
  refine C.seq ?_
  refine C.region ?_
  refine L.step (R.assignV (v := .int .i64 1) rfl) rfl ?_
  refine L.nil ?_
  refine C.ret (?_ : RetOk _ _ _ _ _)
  refine RetOk.tV (v := .int .i64 1) rfl rfl ?_
  exact ⟨rfl, rfl⟩
theorem ready_calls {w : World} {r : Nat} {D : PD} {sv pv : Value} {a : Option Addr} {c : Nat} (h : w.heap[r]? = some (blk (D.cells sv pv) 69)) (hsv : sv = .slice a D.safe.length c) (hok : D.Ok) (i : Int) :
    Ret Try.prog 40 #[.pointer (some ⟨r, 0, none⟩), .int .i64 i] w fun v w' => v = .int .i64 (D.ready i).2 ∧ w' = setO w r (blk ((D.ready i).1.cells sv pv) 69) := by
  subst hsv
  obtain ⟨hb1, hb2, hb3, hb4, ⟨hf1, hf2⟩, hb6⟩ := hok
  obtain ⟨safe, pend, dead, armed, left, fails, ops⟩ := D
  simp only [PD.cells] at h hf1 hf2 hb3 ⊢
  clear hb1 hb2 hb4 hb6
  cases dead
  ·
    refine Ret.intro [.pointer (some ⟨r, 0, none⟩), .int .i64 i] Try.func40 rfl rfl ?_
    refine C.seq ?_
    refine C.region ?_
    refine L.step (R.assignV (v := .int .i64 0) rfl) rfl ?_
    refine L.nil ?_
    refine C.seq ?_
    refine C.seq ?_
    refine C.region ?_
    refine L.step (R.moveV (v := .pointer (some ⟨r, 0, none⟩)) rfl) rfl ?_
    refine L.call (E.call1 hb44) rfl (power_live h) ?_
    rintro _ _ ⟨rfl, rfl⟩
    refine L.step (R.assignV (v := .int .i64 0) rfl) rfl ?_
    refine L.nil ?_
    refine C.seq ?_
    refine C.region ?_
    refine L.step (R.moveV (v := .int .i64 0) rfl) rfl ?_
    refine L.step (R.neqF rfl rfl (by omega)) rfl ?_
    refine L.nil ?_
    refine C.condF rfl ?_
    refine C.skip ?_
    refine C.seq ?_
    refine C.block ?_
    refine C.seq ?_
    refine C.region ?_
    refine L.step (R.moveV (v := .int .i64 i) rfl) rfl ?_
    rcases Classical.em (i < 0) with ht3 | ht3
    ·
      refine L.step (R.lssT rfl rfl (ht3)) rfl ?_
      refine L.step (R.moveV (v := .bool true) rfl) rfl ?_
      refine L.no rfl rfl rfl (.inl rfl) ?_
      refine L.no rfl rfl rfl (.inl rfl) ?_
      refine L.no rfl rfl rfl (.inl rfl) ?_
      refine L.no rfl rfl rfl (.inl rfl) ?_
      refine L.no rfl rfl rfl (.inl rfl) ?_
      refine L.no rfl rfl rfl (.inl rfl) ?_
      refine L.no rfl rfl rfl (.inl rfl) ?_
      refine L.step (R.pickTV (v := .bool true) rfl rfl) rfl ?_
      refine L.step (R.assignV (v := .bool true) rfl) rfl ?_
      refine L.nil ?_
      refine C.condT rfl ?_
      refine C.seq ?_
      refine C.region ?_
      refine L.step (R.assignV (v := .int .i64 2) rfl) rfl ?_
      refine L.nil ?_
      refine C.ret (?_ : RetOk _ _ _ _ _)
      refine RetOk.tV (v := .int .i64 2) rfl rfl ?_
      refine ⟨by simp [PD.ready, *], ?_⟩
      simp only [PD.ready]
      simp [*]
      exact (setO_self h).symm
    ·
      refine L.step (R.lssF rfl rfl (Int.not_lt.1 ht3)) rfl ?_
      refine L.step (R.moveV (v := .bool false) rfl) rfl ?_
      refine L.yes rfl rfl rfl ?_
      refine L.step (R.moveV (v := .int .i64 i) rfl) rfl ?_
      refine L.yes rfl rfl rfl ?_
      refine L.step (R.moveV (v := .pointer (some ⟨r, 0, none⟩)) rfl) rfl ?_
      refine L.yes rfl rfl rfl ?_
      refine L.step (R.nilCheck rfl) rfl ?_
      refine L.yes rfl rfl rfl ?_
      refine L.step (R.fieldAddrV (o2 := 0) f69_0 rfl rfl) rfl ?_
      refine L.yes rfl rfl rfl ?_
      refine L.step (R.load1 (v := .slice a safe.length c) c35 rfl h rfl) rfl ?_
      refine L.yes rfl rfl rfl ?_
      refine L.step (R.lenV (v := .int .i64 ((safe.length : Nat) : Int)) Try.underlying35 rfl rfl) rfl ?_
      refine L.yes rfl rfl rfl ?_
      rcases Classical.em (((safe.length : Nat) : Int) ≤ i) with ht4 | ht4
      ·
        refine L.step (R.geqT rfl rfl (ht4)) rfl ?_
        refine L.step (R.pickFV (v := .bool true) rfl rfl) rfl ?_
        refine L.step (R.assignV (v := .bool true) rfl) rfl ?_
        refine L.nil ?_
        refine C.condT rfl ?_
        refine C.seq ?_
        refine C.region ?_
        refine L.step (R.assignV (v := .int .i64 2) rfl) rfl ?_
        refine L.nil ?_
        refine C.ret (?_ : RetOk _ _ _ _ _)
        refine RetOk.tV (v := .int .i64 2) rfl rfl ?_
        refine ⟨by simp [PD.ready, *], ?_⟩
        simp only [PD.ready]
        simp [*]
        exact (setO_self h).symm
      ·
        refine L.step (R.geqF rfl rfl (Int.not_le.1 ht4)) rfl ?_
        refine L.step (R.pickFV (v := .bool false) rfl rfl) rfl ?_
        refine L.step (R.assignV (v := .bool false) rfl) rfl ?_
        refine L.nil ?_
        refine C.condF rfl ?_
        refine C.seq ?_
        refine C.region ?_
        refine L.step (R.moveV (v := .pointer (some ⟨r, 0, none⟩)) rfl) rfl ?_
        refine L.step (R.nilCheck rfl) rfl ?_
        refine L.step (R.fieldAddrV (o2 := 5) f69_5 rfl rfl) rfl ?_
        refine L.step (R.load1 (v := .int .i64 fails) c3 rfl h rfl) rfl ?_
        rcases Classical.em (fails = 1) with ht5 | ht5
        ·
          refine L.step (R.eqlT rfl rfl (ht5)) rfl ?_
          refine L.step (R.assignV (v := .bool true) rfl) rfl ?_
          refine L.nil ?_
          refine C.condT rfl ?_
          refine C.seq ?_
          refine C.region ?_
          refine L.step (R.moveV (v := .pointer (some ⟨r, 0, none⟩)) rfl) rfl ?_
          refine L.step (R.nilCheck rfl) rfl ?_
          refine L.step (R.fieldAddrV (o2 := 5) f69_5 rfl rfl) rfl ?_
          refine L.doesE (R.store1 c3 rfl (v := .int .i64 0) rfl rfl h rfl) fun w7 e6 => ?_
          have k8 := So.hit e6 h
          have z9 := So.size e6
          refine L.nil ?_
          refine C.seq ?_
          refine C.region ?_
          refine L.step (R.assignV (v := .int .i64 8) rfl) rfl ?_
          refine L.nil ?_
          refine C.ret (?_ : RetOk _ _ _ _ _)
          refine RetOk.tV (v := .int .i64 8) rfl rfl ?_
          refine ⟨by simp [PD.ready, *], ?_⟩
          rw [← e6]
          simp [PD.ready, *]
        ·
          refine L.step (R.eqlF rfl rfl (ht5)) rfl ?_
          refine L.step (R.assignV (v := .bool false) rfl) rfl ?_
          refine L.nil ?_
          refine C.condF rfl ?_
          refine C.seq ?_
          refine C.region ?_
          refine L.step (R.moveV (v := .pointer (some ⟨r, 0, none⟩)) rfl) rfl ?_
          refine L.step (R.nilCheck rfl) rfl ?_
          refine L.step (R.fieldAddrV (o2 := 5) f69_5 rfl rfl) rfl ?_
          refine L.step (R.load1 (v := .int .i64 fails) c3 rfl h rfl) rfl ?_
          rcases Classical.em (1 < fails) with ht10 | ht10
          ·
            refine L.step (R.gtrT rfl rfl (ht10)) rfl ?_
            refine L.step (R.assignV (v := .bool true) rfl) rfl ?_
            refine L.nil ?_
            refine C.condT rfl ?_
            refine C.region ?_
            refine L.step (R.moveV (v := .pointer (some ⟨r, 0, none⟩)) rfl) rfl ?_
            refine L.step (R.nilCheck rfl) rfl ?_
            refine L.step (R.fieldAddrV (o2 := 5) f69_5 rfl rfl) rfl ?_
            refine L.step (R.load1 (v := .int .i64 fails) c3 rfl h rfl) rfl ?_
            refine L.step (R.sub rfl rfl (by omega)) rfl ?_
            refine L.step (R.nilCheck rfl) rfl ?_
            refine L.step (R.fieldAddrV (o2 := 5) f69_5 rfl rfl) rfl ?_
            refine L.doesE (R.store1 c3 rfl (v := .int .i64 (fails - 1)) rfl rfl h rfl) fun w12 e11 => ?_
            have k13 := So.hit e11 h
            have z14 := So.size e11
            refine L.nil ?_
            refine C.seq ?_
            refine C.region ?_
            refine L.step (R.assignV (v := .int .i64 0) rfl) rfl ?_
            refine L.nil ?_
            refine C.ret (?_ : RetOk _ _ _ _ _)
            refine RetOk.tV (v := .int .i64 0) rfl rfl ?_
            refine ⟨by simp [PD.ready, *], ?_⟩
            rw [← e11]
            simp [PD.ready, *]
          ·
            refine L.step (R.gtrF rfl rfl (Int.not_lt.1 ht10)) rfl ?_
            refine L.step (R.assignV (v := .bool false) rfl) rfl ?_
            refine L.nil ?_
            refine C.condF rfl ?_
            refine C.skip ?_
            refine C.seq ?_
            refine C.region ?_
            refine L.step (R.assignV (v := .int .i64 0) rfl) rfl ?_
            refine L.nil ?_
            refine C.ret (?_ : RetOk _ _ _ _ _)
            refine RetOk.tV (v := .int .i64 0) rfl rfl ?_
            refine ⟨by simp [PD.ready, *], ?_⟩
            simp only [PD.ready]
            simp [*]
            exact (setO_self h).symm
  ·
    refine Ret.intro [.pointer (some ⟨r, 0, none⟩), .int .i64 i] Try.func40 rfl rfl ?_
    refine C.seq ?_
    refine C.region ?_
    refine L.step (R.assignV (v := .int .i64 0) rfl) rfl ?_
    refine L.nil ?_
    refine C.seq ?_
    refine C.seq ?_
    refine C.region ?_
    refine L.step (R.moveV (v := .pointer (some ⟨r, 0, none⟩)) rfl) rfl ?_
    refine L.call (E.call1 hb44) rfl (power_dead h) ?_
    rintro _ _ ⟨rfl, rfl⟩
    refine L.step (R.assignV (v := .int .i64 9) rfl) rfl ?_
    refine L.nil ?_
    refine C.seq ?_
    refine C.region ?_
    refine L.step (R.moveV (v := .int .i64 9) rfl) rfl ?_
    refine L.step (R.neqT rfl rfl (by omega)) rfl ?_
    refine L.nil ?_
    refine C.condT rfl ?_
    refine C.seq ?_
    refine C.region ?_
    refine L.step (R.moveV (v := .int .i64 9) rfl) rfl ?_
    refine L.step (R.assignV (v := .int .i64 9) rfl) rfl ?_
    refine L.nil ?_
    refine C.ret (?_ : RetOk _ _ _ _ _)
    refine RetOk.tV (v := .int .i64 9) rfl rfl ?_
    refine ⟨by simp [PD.ready, *], ?_⟩
    simp only [PD.ready]
    simp [*]
    exact (setO_self h).symm
end Go.Proofs.Ytpblppilknkdoaa
