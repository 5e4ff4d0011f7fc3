/- The disk's methods that call closures. -/
import Derived.Test.YtpblppilknkdoaaD3
namespace Go.Proofs.Ytpblppilknkdoaa
open Go Go.Eng Go.Proofs
attribute [local irreducible] Go.Eng.C Go.Eng.L Go.Eng.Ret Go.Eng.Run Go.Eng.Does Go.Eng.Enters Go.Eng.AH Go.Eng.AO Go.Eng.RetOk
theorem keepOf_calls {w : World} {p : Nat} {kv : Value} {ks : List Bool} {G : Nat → Prop} (hp : w.heap[p]? = some (blk [kv] 30)) (hk : BoolsAt w kv ks G) (k : Nat) (hbig : k < 9223372036854775807) :
    Ret Try.prog 49 #[.int .i64 (k : Int), .pointer (some ⟨p, 0, none⟩)] w fun v w' => v = .bool (ks.getD k false) ∧ w' = w := by
  obtain ⟨a, c, rfl⟩ := hk.shape
  refine Ret.intro [.int .i64 (k : Int), .pointer (some ⟨p, 0, none⟩)] Try.func49 rfl rfl ?_
  refine C.seq ?_
  refine C.region ?_
  refine L.step (R.assignV (v := .bool false) rfl) rfl ?_
  refine L.nil ?_
  refine C.seq ?_
  refine C.region ?_
  refine L.step (R.moveV (v := .int .i64 (k : Int)) rfl) rfl ?_
  refine L.step (R.load1 (v := .slice a ks.length c) c30 rfl hp rfl) rfl ?_
  refine L.step (R.lenV (v := .int .i64 ((ks.length : Nat) : Int)) Try.underlying30 rfl rfl) rfl ?_
  rcases Classical.em ((k : Int) < ((ks.length : Nat) : Int)) with ht1 | ht1
  ·
    refine L.step (R.lssT rfl rfl (ht1)) rfl ?_
    refine L.step (R.moveV (v := .bool true) rfl) rfl ?_
    refine L.yes rfl rfl rfl ?_
    refine L.step (R.load1 (v := .slice a ks.length c) c30 rfl hp rfl) rfl ?_
    refine L.yes rfl rfl rfl ?_
    refine L.step (R.moveV (v := .int .i64 (k : Int)) rfl) rfl ?_
    refine L.yes rfl rfl rfl ?_
    have hkl : k < ks.length := by omega
    obtain ⟨b, ob, rfl, hG, hcell⟩ := hk.blockA (by omega)
    obtain ⟨x, hx⟩ : ∃ x, ks[k]? = some x := ⟨_, List.getElem?_eq_getElem hkl⟩
    refine L.step (R.indexAddrV (m := k) (o2 := ob + k) s30 rfl rfl rfl hkl (by omega)) rfl ?_
    refine L.yes rfl rfl rfl ?_
    refine L.step (R.loadC (v := .bool x) c4 rfl (hcell k x hx)) rfl ?_
    refine L.step (R.pickTV (v := .bool x) rfl rfl) rfl ?_
    refine L.step (R.assignV (v := .bool x) rfl) rfl ?_
    refine L.nil ?_
    refine C.ret (?_ : RetOk _ _ _ _ _)
    refine RetOk.tV (v := .bool x) rfl rfl ?_
    exact ⟨by simp [List.getD, hx], rfl⟩
  ·
    refine L.step (R.lssF rfl rfl (Int.not_lt.1 ht1)) rfl ?_
    refine L.step (R.moveV (v := .bool false) rfl) rfl ?_
    refine L.no rfl rfl rfl (.inl rfl) ?_
    refine L.no rfl rfl rfl (.inl rfl) ?_
    refine L.no rfl rfl rfl (.inl rfl) ?_
    refine L.no rfl rfl rfl (.inl rfl) ?_
    refine L.step (R.pickFV (v := .bool false) rfl rfl) rfl ?_
    refine L.step (R.assignV (v := .bool false) rfl) rfl ?_
    refine L.nil ?_
    refine C.ret (?_ : RetOk _ _ _ _ _)
    refine RetOk.tV (v := .bool false) rfl rfl ?_
    exact ⟨by rw [List.getD, List.getElem?_eq_none (by omega)]; rfl, rfl⟩
theorem sync1_calls {w : World} {r p : Nat} {D : PD} {F : Nat → Prop} (hD : DiskAt w r D F) (hp : w.heap[p]? = some (blk [.pointer (some ⟨r, 0, none⟩)] 24)) :
    Ret Try.prog 46 #[.pointer (some ⟨p, 0, none⟩)] w fun _ w' => DiskAt w' r (D.settle fun _ => true) F ∧ Kept F w w' := by
  refine Ret.intro [.pointer (some ⟨p, 0, none⟩)] Try.func46 rfl rfl ?_
  refine C.region ?_
  refine L.step (R.load1 (v := .pointer (some ⟨r, 0, none⟩)) c24 rfl hp rfl) rfl ?_
  refine L.call (E.call2 hb47) rfl (settle_calls hD 48 #[] (fun _ => true) hb48 (fun k W _ _ => by simpa using always_calls)) ?_
  rintro _ w2 ⟨rfl, hD2, hk2⟩
  refine L.nil ?_
  refine (?_ : RetOk _ _ _ _ _)
  refine RetOk.r0 rfl ?_
  exact ⟨hD2, hk2⟩
theorem write1_calls {w : World} {r b3 b4 b5 : Nat} {D : PD} {F : Nat → Prop} (hD : DiskAt w r D F) {k : Nat} {b : Blk} (h3 : w.heap[b3]? = some (blk [.pointer (some ⟨r, 0, none⟩)] 24)) (h4 : w.heap[b4]? = some (blk [.int .i64 (k : Int)] 3))
    (h5 : w.heap[b5]? = some (blk (bcells b) 27)) (hk : k < D.safe.length) (hb : b.length = 64) (hm : D.pend.length ≤ 1000000) :
    Ret Try.prog 52 #[.pointer (some ⟨b3, 0, none⟩), .pointer (some ⟨b4, 0, none⟩), .pointer (some ⟨b5, 0, none⟩)] w fun _ w' => DiskAt w' r { D with pend := D.pend ++ [(k, b)] } (grow F w w') ∧ Kept F w w' := by
  obtain ⟨hF, hok, sv, pv, h, hs, hp⟩ := hD
  obtain ⟨aS, cs, rfl, hsc⟩ := hs.shape
  have hq := Kept.refl F w
  refine Ret.intro [.pointer (some ⟨b3, 0, none⟩), .pointer (some ⟨b4, 0, none⟩), .pointer (some ⟨b5, 0, none⟩)] Try.func52 rfl rfl ?_
  refine C.drawE (fun W : World => W.heap[r]? = some (blk ([.slice aS D.safe.length cs, pv, .bool D.dead, .bool D.armed, .int .i64 D.left, .int .i64 D.fails, .int .i64 D.ops]) 69) ∧ W.heap[b3]? = some (blk ([.pointer (some ⟨r, 0, none⟩)]) 24) ∧ W.heap[b4]? = some (blk ([.int .i64 (k : Int)]) 3) ∧ W.heap[b5]? = some (blk (bcells b) 27)) (fun j => !(Nat.beq j 12)) mixed fun w2 e3 => ?_
  have k4 := Dr.old e3 h
  have k5 := Dr.old e3 h3
  have k6 := Dr.old e3 h4
  have k7 := Dr.old e3 h5
  have m8 := Dr.row e3 hs
  have m9 := Dr.row e3 hp
  have z10 := Dr.size e3
  have q11 := Dr.kept e3 hq
  refine AH.take 0 rfl (by kernel_rfl) (by kernel_rfl) (by kernel_rfl) (by kernel_rfl) (fun _ _ _ h => h) rfl trivial (fun _ hS => (R.load1 (v := .pointer (some ⟨r, 0, none⟩)) c24 rfl hS.2.1 rfl)) (⟨k4, k5, k6, k7⟩) ?_
  refine AH.take 1 rfl (by kernel_rfl) (by kernel_rfl) (by kernel_rfl) (by kernel_rfl) (fun _ _ _ h => h) rfl trivial (fun _ hS => (R.load1 (v := .pointer (some ⟨r, 0, none⟩)) c24 rfl hS.2.1 rfl)) (⟨k4, k5, k6, k7⟩) ?_
  refine AH.take 2 rfl (by kernel_rfl) (by kernel_rfl) (by kernel_rfl) (by kernel_rfl) (fun _ _ _ h => h) rfl trivial (fun _ hS => (R.nilCheck rfl)) (⟨k4, k5, k6, k7⟩) ?_
  refine AH.take 3 rfl (by kernel_rfl) (by kernel_rfl) (by kernel_rfl) (by kernel_rfl) (fun _ _ _ h => h) rfl trivial (fun _ hS => (R.fieldAddrV (o2 := 1) f69_1 rfl rfl)) (⟨k4, k5, k6, k7⟩) ?_
  refine AH.take 4 rfl (by kernel_rfl) (by kernel_rfl) (by kernel_rfl) (by kernel_rfl) (fun _ _ _ h => h) rfl trivial (fun _ hS => (R.load1 (v := pv) c67 rfl hS.1 rfl)) (⟨k4, k5, k6, k7⟩) ?_
  refine AH.take 5 rfl (by kernel_rfl) (by kernel_rfl) (by kernel_rfl) (by kernel_rfl) (fun _ _ _ h => h) rfl trivial (fun _ hS => (R.load1 (v := .int .i64 (k : Int)) c3 rfl hS.2.2.1 rfl)) (⟨k4, k5, k6, k7⟩) ?_
  refine AH.take 6 rfl (by kernel_rfl) (by kernel_rfl) (by kernel_rfl) (by kernel_rfl) (fun _ _ _ h => h) rfl trivial (fun _ hS => (R.loadA (cs := bcells b) r27 rfl hS.2.2.2 (List.take_of_length_le (Nat.le_of_eq (bcells64 hb))) (bcells64 hb))) (⟨k4, k5, k6, k7⟩) ?_
  refine AH.take 7 rfl (by kernel_rfl) (by kernel_rfl) (by kernel_rfl) (by kernel_rfl) (fun _ _ _ h => h) rfl trivial (fun _ hS => (build80 (k := k) (b := b) rfl rfl hb)) (⟨k4, k5, k6, k7⟩) ?_
  refine AH.one 8 (by kernel_rfl) (AO.stepE rfl trivial (R.slice1 s67 ⟨_, z80, rfl⟩ rfl rfl (v := .agg (wcells (k, b)).toArray) rfl (wcells65 (p := (k, b)) hb)) rfl fun w13 e12 => ?_)
  have m14 := Al.row e12 m8
  have m15 := Al.row e12 m9
  have k17 := Al.new e12
  have k18 := Al.old e12 k4
  have k19 := Al.old e12 k5
  have k20 := Al.old e12 k6
  have k21 := Al.old e12 k7
  have z22 := Al.size e12
  have q23 := Al.kept e12 q11
  refine ⟨fun _ => (⟨k18, k19, k20, k21⟩), ?_⟩
  refine AH.one 9 (by kernel_rfl) (AO.bind rfl trivial (R.append e67 (v := pv) rfl (Row.own m15) rfl (news := wcells (k, b)) (wcells65 (p := (k, b)) hb) (news_at k17) (one_wcells _) (by simp only [maxLen]; omega) (by omega)) rfl ?_)
  rintro v24 w25 ⟨hr26, hk27, _, hob28⟩
  obtain ⟨a29, c30, rfl, _⟩ := hr26.shape
  have k31 := Kept.old hk27 k18 (Row.apart m15 k18 (by decide))
  have k32 := Kept.old hk27 k19 (Row.apart m15 k19 (by decide))
  have k33 := Kept.old hk27 k20 (Row.apart m15 k20 (by decide))
  have k34 := Kept.old hk27 k21 (Row.apart m15 k21 (by decide))
  have m36 := Row.keptOwn m14 hk27 (Row.apartR m15 m14 (by decide))
  have q35 := Kept.trans q23 hk27 (fun k _ hk => m15.2 k hk)
  have hzz := q23.size
  have hrF : Row w25 80 65 (.slice a29 (D.pend.length + 1) c30) (D.pend.length + 1) ((D.pend ++ [(k, b)]).flatMap wcells) (grow F w w25) := by
    simp only [List.flatMap_append, List.flatMap_cons, List.flatMap_nil, List.append_nil]
    exact hr26.mono (grow_mono (fun k hk => m15.2 k hk) hzz (Nat.le_refl _))
  refine ⟨fun _ => (⟨k31, k32, k33, k34⟩), ?_⟩
  refine AH.take 10 rfl (by kernel_rfl) (by kernel_rfl) (by kernel_rfl) (by kernel_rfl) (fun _ _ _ h => h) rfl trivial (fun _ hS => (R.nilCheck rfl)) (⟨k31, k32, k33, k34⟩) ?_
  refine AH.take 11 rfl (by kernel_rfl) (by kernel_rfl) (by kernel_rfl) (by kernel_rfl) (fun _ _ _ h => h) rfl trivial (fun _ hS => (R.fieldAddrV (o2 := 1) f69_1 rfl rfl)) (⟨k31, k32, k33, k34⟩) ?_
  refine AH.one 12 (by kernel_rfl) (AO.doesE rfl trivial (R.store1 c67 rfl (v := .slice a29 (D.pend.length + 1) c30) rfl rfl k31 rfl) fun w38 e37 => ?_)
  have m39 := So.rowE e37 m36 k31 (by decide)
  have m40 := So.rowE e37 hrF k31 (by decide)
  have k41 := So.hit e37 k31
  have k42 := So.old e37 (apartE k32 k31 (by decide)) k32
  have k43 := So.old e37 (apartE k33 k31 (by decide)) k33
  have k44 := So.old e37 (apartE k34 k31 (by decide)) k34
  have z45 := So.size e37
  have q46 := So.kept e37 q35 (fun _ => hF)
  refine ⟨fun h => absurd h (by decide), ?_⟩
  refine AH.done (by kernel_rfl) ?_
  refine (?_ : RetOk _ _ _ _ _)
  refine RetOk.r0 rfl ?_
  refine ⟨⟨.inl hF, hok.push hk hb, .slice aS D.safe.length cs, .slice a29 (D.pend.length + 1) c30, k41, m39.mono grow_sub, ?_⟩, q46⟩
  have hl : (D.pend ++ [(k, b)]).length = D.pend.length + 1 := by simp
  simp only [hl]
  exact m40.mono (grow_mono (fun _ h => h) (Nat.le_refl _) (by omega))
end Go.Proofs.Ytpblppilknkdoaa
