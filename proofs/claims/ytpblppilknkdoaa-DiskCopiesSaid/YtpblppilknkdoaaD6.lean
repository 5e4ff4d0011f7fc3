/- Backward over the pending writes, and Read. -/
import Derived.Test.YtpblppilknkdoaaD5
import Derived.Test.YtpblppilknkdoaaEng6
namespace Go.Proofs.Ytpblppilknkdoaa
open Go Go.Eng Go.Proofs Go.RowKit
attribute [local irreducible] Go.Eng.C Go.Eng.L Go.Eng.Ret Go.Eng.Run Go.Eng.Does Go.Eng.Enters Go.Eng.AH Go.Eng.AO Go.Eng.RetOk Go.Eng.CI Go.Eng.LI Go.Eng.CA

theorem backward_calls {w : World} {a : Option Addr} {m c : Nat} :
    Ret Try.prog 41 #[.slice a m c] w fun v w' => v = .func (.func 56) #[] #[.pointer (some ⟨w.heap.size, 0, none⟩)] ∧ w' = w.alloc (blk [.slice a m c] 67) := by
  refine Ret.intro [.slice a m c] Try.func41 rfl rfl ?_
  refine C.seq ?_
  refine C.region ?_
  refine L.step (R.box1 (v := .slice a m c) rfl rfl) rfl ?_
  refine L.step (R.assignV (v := .nilFunc) rfl) rfl ?_
  refine L.nil ?_
  refine C.seq ?_
  refine C.region ?_
  refine L.step (R.makeFunc1V (v := .func (.func 56) #[] #[.pointer (some ⟨w.heap.size, 0, none⟩)]) rfl) rfl ?_
  refine L.step (R.assignV (v := .func (.func 56) #[] #[.pointer (some ⟨w.heap.size, 0, none⟩)]) rfl) rfl ?_
  refine L.nil ?_
  refine C.ret (?_ : RetOk _ _ _ _ _)
  exact RetOk.tV (v := .func (.func 56) #[] #[.pointer (some ⟨w.heap.size, 0, none⟩)]) rfl rfl ⟨rfl, rfl⟩

/-- The pending writes with their places, the last first: the first k of them. -/
def downTo (pend : List (Nat × Blk)) (k : Nat) : List (Nat × Nat × Blk) := (List.range k).map fun j => (pend.length - 1 - j, (pend.getD (pend.length - 1 - j) (0, [])))
theorem downTo_succ (pend : List (Nat × Blk)) (k : Nat) : downTo pend (k + 1) = downTo pend k ++ [(pend.length - 1 - k, (pend.getD (pend.length - 1 - k) (0, [])))] := by simp [downTo, List.range_succ]

abbrev e1w (x : Nat × Nat × Blk) : Value := .int .i64 (x.1 : Int)
/-- A block of 64 numbers, whatever was there. -/
def fix (b : Blk) : Blk := if b.length = 64 then b else z64
theorem length_fix (b : Blk) : (fix b).length = 64 := by
  unfold fix
  split
  · assumption
  · rfl
theorem fix_eq {b : Blk} (h : b.length = 64) : fix b = b := if_pos h
abbrev e2w (x : Nat × Nat × Blk) : Value := .agg (wcells (x.2.1, fix x.2.2)).toArray

theorem backward1_stops {w : World} {bs : Nat} {pend : List (Nat × Blk)} {a : Option Addr} {c : Nat} {F : Nat → Prop} (hb : w.heap[bs]? = some (blk [.slice a pend.length c] 67))
    (hr : Row w 80 65 (.slice a pend.length c) pend.length (pend.flatMap wcells) F) (hp : ∀ p ∈ pend, p.2.length = 64) (hm : pend.length ≤ 1000000) :
    SeqStopsK (FW none) 2 Try.prog 56 #[.pointer (some ⟨bs, 0, none⟩)] (fun x => #[e1w x, e2w x]) (Below w.heap.size) (fun xs => xs = downTo pend pend.length) (fun pre => ∃ k, k ≤ pend.length ∧ pre = downTo pend k) pend.length w := by
  intro l J Jx W hW hJ hJx hY h0
  have hret : Ret Try.prog 56 #[.func (.yield l) #[] #[], .pointer (some ⟨bs, 0, none⟩)] W fun _ W' => (J (downTo pend pend.length) W') ∨ (∃ k, k ≤ pend.length ∧ Jx (downTo pend k) W') := by
    have at_w : ∀ {W'}, Below w.heap.size w W' → ∀ {k : Nat} {x : Obj}, w.heap[k]? = some x → W'.heap[k]? = some x := fun h k x hx => by
      rw [h.block k (at_lt w k hx)]; exact hx
    refine Ret.intro [.func (.yield l) #[] #[], .pointer (some ⟨bs, 0, none⟩)] Try.func56 rfl rfl ?_
    refine C.seq ?_
    refine C.region ?_
    refine L.step (R.load1 (v := .slice a pend.length c) c67 rfl (at_w hW hb) rfl) rfl ?_
    refine L.step (R.lenV (v := .int .i64 pend.length) Try.underlying67 rfl rfl) rfl ?_
    refine L.step (R.sub (a := pend.length) (b := 1) rfl rfl (by omega)) rfl ?_
    refine L.step (R.assignV (v := .int .i64 (pend.length - 1 : Int)) rfl) rfl ?_
    refine L.nil ?_
    refine C.block ?_
    refine C.loop (α := { k : Nat // k ≤ pend.length }) (fun k => [(0, .func (.yield l) #[] #[]), (1, .pointer (some ⟨bs, 0, none⟩)), (3, .int .i64 ((pend.length : Int) - 1 - k.1))])
      (fun k W' => J (downTo pend k.1) W' ∧ Below w.heap.size w W') (fun k => pend.length - k.1) ⟨⟨0, Nat.zero_le _⟩, ⟨rfl, rfl, by simp [upd], trivial⟩, h0, hW⟩ ?_
    rintro ⟨k, hk⟩ g W1 ⟨hJ1, hW1⟩
    refine C.seq ?_
    refine C.seq ?_
    refine C.region ?_
    refine L.step (R.moveV (v := .int .i64 ((pend.length : Int) - 1 - k)) rfl) rfl ?_
    rcases Nat.lt_or_ge k pend.length with hlt | hge
    · refine L.step (R.geqT (b := 0) rfl rfl (by omega)) rfl ?_
      refine L.nil ?_
      refine C.condT rfl ?_
      refine C.skip ?_
      refine C.seq ?_
      refine C.block ?_
      have hsome : pend[pend.length - 1 - k]? = some (pend.getD (pend.length - 1 - k) (0, [])) := by
        rw [List.getD_eq_getElem?_getD, List.getElem?_eq_getElem (by omega)]; rfl
      obtain ⟨p, hpk⟩ : ∃ p, p = pend.getD (pend.length - 1 - k) (0, []) := ⟨_, rfl⟩
      rw [← hpk] at hsome
      have hp64 : p.2.length = 64 := hp p (List.mem_of_getElem? hsome)
      obtain ⟨gb, lb, rfl, hFg, hgb, hn, hc, hll, htk⟩ := hr.blockA (by omega)
      refine C.seq (C.ofIn (m := 2) ?_)
      refine CI.region ?_
      refine LI.step (R.moveV (v := .func (.yield l) #[] #[]) rfl) rfl ?_
      refine LI.step (R.moveV (v := .int .i64 ((pend.length : Int) - 1 - k)) rfl) rfl ?_
      refine LI.step (R.load1 (v := .slice (some ⟨gb, 0, none⟩) pend.length c) c67 rfl (at_w hW1 hb) rfl) rfl ?_
      refine LI.step (R.moveV (v := .int .i64 ((pend.length : Int) - 1 - k)) rfl) rfl ?_
      refine LI.step (R.indexAddrV (o2 := (pend.length - 1 - k) * 65) (m := pend.length - 1 - k) s67 rfl rfl (by omega) (by omega) (by omega)) rfl ?_
      refine LI.step (R.loadA (cs := wcells p) r80 rfl (at_w hW1 hgb) (part_get (fun x hx => wcells65 (hp x hx)) rfl htk hsome) (wcells65 hp64)) rfl ?_
      obtain ⟨fn, tmps, assign, body, hy, hR⟩ := hY (downTo pend k) (pend.length - 1 - k, p) W1 hJ1 (by simp [downTo]; exact hlt)
      have e9 : ((pend.length - 1 - k : Nat) : Int) = (pend.length : Int) - 1 - k := by omega
      have hy' : (Instr.yield l #[.int .i64 ((pend.length : Int) - 1 - k), .agg (wcells p).toArray]).run Try.prog W1 = .ok (.round l fn tmps assign body) W1 := by
        have hy := hy
        simp only [e1w, e2w, fix_eq hp64, e9] at hy
        exact hy
      refine LI.round (R := fun v W' => (v = .bool true ∧ J (downTo pend (k + 1)) W' ∧ Below w.heap.size w W') ∨ (v = .bool false ∧ Jx (downTo pend (k + 1)) W')) (E.yield2 (x := .tmp 12) (y := .tmp 16) rfl hy') rfl (hR.mono ?_) ?_
      · rintro e W' (⟨rfl, hj, hb⟩ | ⟨rfl, hj⟩)
        · exact ⟨_, rfl, .inl ⟨rfl, by rw [downTo_succ, ← hpk]; exact hj, hW1.trans hb⟩⟩
        · exact ⟨_, rfl, .inr ⟨rfl, by rw [downTo_succ, ← hpk]; exact hj⟩⟩
      · rintro _ W' (⟨rfl, hj, hb⟩ | ⟨rfl, hj⟩)
        · refine LI.step (R.notV (b := true) rfl rfl) rfl ?_
          refine LI.nil (thenP.mk ?_)
          refine C.condF rfl ?_
          refine C.skip ?_
          show C _ _ _ _ _ _ _
          refine C.region ?_
          refine L.step (R.moveV (v := .int .i64 ((pend.length : Int) - 1 - k)) rfl) rfl ?_
          refine L.step (R.sub (a := (pend.length : Int) - 1 - k) (b := 1) rfl rfl (by omega)) rfl ?_
          refine L.step (R.assignV (v := .int .i64 ((pend.length : Int) - 1 - k - 1)) rfl) rfl ?_
          refine L.nil ?_
          exact ⟨⟨k + 1, hlt⟩, ⟨rfl, rfl, by simp [upd]; omega, trivial⟩, ⟨hj, hb⟩, by simp only; omega⟩
        · refine LI.step (R.notV (b := false) rfl rfl) rfl ?_
          refine LI.nil (thenP.mk ?_)
          refine C.condT rfl ?_
          refine C.ret ?_
          exact RetOk.r0 rfl (.inr ⟨k + 1, hlt, hj⟩)
    · refine L.step (R.geqF (b := 0) rfl rfl (by omega)) rfl ?_
      refine L.nil ?_
      refine C.condF rfl ?_
      refine C.exit ?_
      obtain rfl : k = pend.length := by omega
      exact RetOk.r0 rfl (.inl hJ1)
  refine (hret.callsIn 2).mono ?_
  rintro e W' ⟨v, rfl, h | ⟨k, hk, h⟩⟩
  · exact ⟨⟨_, rfl⟩, .inl ⟨_, rfl, h⟩⟩
  · exact ⟨⟨_, rfl⟩, .inr ⟨_, ⟨k, hk, rfl⟩, h⟩⟩

theorem downTo_prefix (pend : List (Nat × Blk)) {k n : Nat} (h : k ≤ n) : ∃ r, downTo pend n = downTo pend k ++ r := by
  obtain ⟨d, rfl⟩ := Nat.exists_eq_add_of_le h
  induction d with
  | zero => exact ⟨[], by simp⟩
  | succ d ih =>
    obtain ⟨r, hr⟩ := ih (by omega)
    exact ⟨r ++ [_], by rw [← Nat.add_assoc, downTo_succ, hr, List.append_assoc]⟩
theorem mem_downTo {pend : List (Nat × Blk)} {k : Nat} (hk : k ≤ pend.length) {x : Nat × Nat × Blk} (hx : x ∈ downTo pend k) : x.2 ∈ pend := by
  obtain ⟨j, hj, rfl⟩ := List.mem_map.1 hx
  have hj := List.mem_range.1 hj
  simp only
  rw [List.getD_eq_getElem?_getD, List.getElem?_eq_getElem (by omega)]
  exact List.getElem_mem _
/-- What a read finds. -/
def PD.look (D : PD) (i : Int) : Blk := (((downTo D.pend D.pend.length).find? fun y => decide ((y.2.1 : Int) = i)).map (·.2.2)).getD (D.safe.getD i.toNat [])
theorem PD.look_hit {D : PD} {i : Int} {k : Nat} (hk : k ≤ D.pend.length) {pre : List (Nat × Nat × Blk)} {x : Nat × Nat × Blk} (h : pre ++ [x] = downTo D.pend k) (hpre : ∀ y ∈ pre, (y.2.1 : Int) ≠ i) (hx : (x.2.1 : Int) = i) : D.look i = x.2.2 := by
  obtain ⟨r, hr⟩ := downTo_prefix D.pend hk
  unfold PD.look
  rw [hr, ← h, List.append_assoc, List.find?_append, List.find?_eq_none.2 (fun y hy => by simpa using hpre y hy)]
  simp [hx]
theorem PD.look_miss {D : PD} {i : Int} (h : ∀ y ∈ downTo D.pend D.pend.length, (y.2.1 : Int) ≠ i) : D.look i = D.safe.getD i.toNat [] := by
  unfold PD.look
  rw [List.find?_eq_none.2 (fun y hy => by simpa using h y hy)]
  rfl
def PD.read (D : PD) (i : Int) : PD × Blk × Int :=
  if (D.ready i).2 ≠ 0 then ((D.ready i).1, z64, (D.ready i).2) else ({ (D.ready i).1 with ops := (D.ready i).1.ops + 1 }, D.look i, 0)
end Go.Proofs.Ytpblppilknkdoaa
