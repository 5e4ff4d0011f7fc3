/- The laws' helpers: few, worn. -/
import Derived.Test.YtpblppilknkdoaaOps
namespace Go.Proofs.Ytpblppilknkdoaa
open Go Go.Eng Go.Proofs
attribute [local irreducible] Go.Eng.C Go.Eng.L Go.Eng.Ret Go.Eng.Run Go.Eng.Does Go.Eng.Enters Go.Eng.AH Go.Eng.AO Go.Eng.RetOk
theorem few_calls {w : World} {a : Option Addr} {n c m : Nat} (hc : n ≤ c) (hn : n ≤ 9223372036854775807) (hm : m = min n 120) :
    Ret Try.prog 12 #[.slice a n c] w fun v w' => v = .slice a m c ∧ w' = w := by
  have hmv : (if (120 : Int) < (n : Int) then (120 : Int) else (n : Int)) = (m : Int) := by split <;> omega
  refine Ret.intro [.slice a n c] Try.func12 rfl rfl ?_
  refine C.seq ?_
  refine C.region ?_
  refine L.step (R.assignV (v := .slice none 0 0) rfl) rfl ?_
  refine L.nil ?_
  refine C.seq ?_
  refine C.region ?_
  refine L.step (R.moveV (v := .slice a n c) rfl) rfl ?_
  refine L.step (R.moveV (v := .slice a n c) rfl) rfl ?_
  refine L.step (R.lenV (v := .int .i64 ((n : Nat) : Int)) Try.underlying22 rfl rfl) rfl ?_
  refine L.step (R.min2V (v := .int .i64 (m : Int)) rfl rfl (by rw [hmv])) rfl ?_
  refine L.step (R.sliceH (h := (m : Int)) s22 rfl rfl (by omega) (by omega)) rfl ?_
  refine L.step (R.assignV (v := .slice a (m : Int).toNat c) rfl) rfl ?_
  refine L.nil ?_
  refine C.ret (?_ : RetOk _ _ _ _ _)
  refine RetOk.tV (v := .slice a (m : Int).toNat c) rfl rfl ?_
  exact ⟨rfl, rfl⟩
theorem OpsAt.first {w : World} {a : Option Addr} {n c N : Nat} {l : List OpV} (h : OpsAt w (.slice a n c) l N) (hn : n = l.length) : OpsAt w (.slice a (l.take 120).length c) (l.take 120) N := by
  have e : l.take 120 = l.take (min n 120) := by
    rcases Nat.le_total n 120 with h | h
    · rw [Nat.min_eq_left h, List.take_of_length_le (by omega), List.take_of_length_le (by omega)]
    · rw [Nat.min_eq_right h]
  have e2 : (l.take 120).length = min n 120 := by rw [List.length_take, hn, Nat.min_comm]
  rw [e2, e]
  exact h.few _ (Nat.min_le_left _ _) hn
theorem worn_calls {w : World} {lv : Value} {l : List OpV} {N : Nat} (h : OpsAt w lv l N) (hN : N ≤ w.heap.size) (hbig : l.length ≤ 9223372036854775807) :
    Ret Try.prog 11 #[lv] w fun v w' => ∃ r F, v = .pointer (some ⟨r, 0, none⟩) ∧ DiskAt w' r ((PD.new 6).runW (l.take 120)) F ∧ (∀ k, F k → w.heap.size ≤ k ∧ k < w'.heap.size) ∧ Kept (fun _ => False) w w' := by
  obtain ⟨a, c, rfl, hc⟩ := h.shape
  obtain ⟨m, hm⟩ : ∃ m, m = l.take 120 := ⟨_, rfl⟩
  have hml : m.length ≤ 120 := by rw [hm, List.length_take]; omega
  have hops := h.first rfl
  rw [← hm] at hops ⊢
  have hq := Kept.refl (fun _ => False) w
  refine Ret.intro [.slice a l.length c] Try.func11 rfl rfl ?_
  refine C.seq ?_
  refine C.region ?_
  refine L.step (R.assignV (v := .pointer none) rfl) rfl ?_
  refine L.nil ?_
  refine C.seq ?_
  refine C.region ?_
  refine L.call (E.call1 hb16) rfl (new_good (n := 6) (by decide) (by decide)) ?_
  rintro _ w1 ⟨r, rfl, hr, hD, hk1⟩
  have hD : DiskAt w1 r (PD.new 6) _ := hD
  refine L.step (R.moveV (v := .tuple #[.pointer (some ⟨r, 0, none⟩), .int .i64 0]) rfl) rfl ?_
  refine L.step (R.extract (v := .pointer (some ⟨r, 0, none⟩)) rfl rfl) rfl ?_
  refine L.step (R.extract (v := .int .i64 0) rfl rfl) rfl ?_
  refine L.step (R.assignV (v := .pointer (some ⟨r, 0, none⟩)) rfl) rfl ?_
  refine L.step (R.assignV (v := .int .i64 0) rfl) rfl ?_
  refine L.nil ?_
  refine C.seq ?_
  refine C.seq ?_
  refine C.region ?_
  refine L.step (R.moveV (v := .int .i64 0) rfl) rfl ?_
  refine L.step (R.neqF rfl rfl (by omega)) rfl ?_
  refine L.step (R.moveV (v := .bool false) rfl) rfl ?_
  refine L.yes rfl rfl rfl ?_
  refine L.step (R.moveV (v := .pointer (some ⟨r, 0, none⟩)) rfl) rfl ?_
  refine L.yes rfl rfl rfl ?_
  refine L.step (R.eqlP Try.underlying24 rfl rfl) rfl ?_
  refine L.step (R.pickFV (v := .bool false) rfl rfl) rfl ?_
  refine L.nil ?_
  refine C.condF rfl ?_
  refine C.skip ?_
  refine C.seq ?_
  refine C.seq ?_
  refine C.region ?_
  refine L.step (R.moveV (v := .slice a l.length c) rfl) rfl ?_
  refine L.call (E.call1 hb12) rfl (few_calls (m := m.length) hc (by omega) (by rw [hm, List.length_take, Nat.min_comm])) ?_
  rintro _ w1 ⟨rfl, ew⟩
  obtain rfl := ew.symm
  refine L.step (R.lenV (v := .int .i64 ((m.length : Nat) : Int)) Try.underlying22 rfl rfl) rfl ?_
  refine L.step (R.moveV (v := .int .i64 0) rfl) rfl ?_
  refine L.nil ?_
  refine C.block ?_
  refine C.loop (α := Nat × (Nat → Prop)) (fun x => [(0, .slice a l.length c), (3, .pointer (some ⟨r, 0, none⟩)), (18, .slice a m.length c), (19, .int .i64 ((m.length : Nat) : Int)), (20, .int .i64 ((x.1 : Nat) : Int))]) (fun x W => x.1 ≤ m.length ∧ Kept (fun _ => False) w W ∧ DiskAt W r ((PD.new 6).runW (m.take x.1)) x.2 ∧ (∀ k, x.2 k → w.heap.size ≤ k ∧ k < W.heap.size)) (fun x => m.length - x.1) ⟨(0, grow (fun _ => False) w w1), ⟨rfl, rfl, rfl, rfl, rfl, trivial⟩, ⟨Nat.zero_le _, hk1, hD, fun k hk => hk.elim (fun h => h.elim) (fun h => h)⟩⟩ ?_
  intro x g3 w2 hI4
  obtain ⟨hk, hq, hD, hlt⟩ := hI4
  have hsz := hq.size
  have hltD : ∀ k, x.2 k → k < w2.heap.size := fun k hk => (hlt k hk).2
  have hfw : PD.Few (PD.new 6) _ _ := PD.runW_few (D := PD.new 6) (l := m) x.1 hk
  have hf1 := hfw.ops
  have hf2 := hfw.pend
  have hf3 : (PD.new 6).ops = 0 := rfl
  have hf4 : (PD.new 6).pend.length = 0 := rfl
  refine C.seq ?_
  refine C.region ?_
  rcases Classical.em (((x.1 : Nat) : Int) < ((m.length : Nat) : Int)) with ht5 | ht5
  ·
    refine L.step (R.lssT rfl rfl (ht5)) rfl ?_
    refine L.nil ?_
    refine C.seq ?_
    refine C.condT rfl ?_
    refine C.skip ?_
    refine C.seq ?_
    refine C.block ?_
    refine C.seq ?_
    refine C.region ?_
    obtain ⟨bo, oo, hao, hbo, hcell0⟩ := hops.blockA (by omega)
    have hcellW := (hops.kept hq (fun _ _ h => h))
    obtain ⟨x1, hx1⟩ : ∃ y, m[x.1]? = some y := ⟨_, List.getElem?_eq_getElem (by omega)⟩
    have hokx1 := (hcell0 _ _ hx1).2
    have hsl : a = some ⟨bo, oo, none⟩ := hao
    obtain ⟨bo2, oo2, hao2, _, hcellW⟩ := hcellW.blockA (by omega)
    have hcx := (hcellW _ _ hx1).1
    have hbb : bo2 = bo ∧ oo2 = oo := by rw [hao] at hao2; cases hao2; exact ⟨rfl, rfl⟩
    obtain ⟨rfl, rfl⟩ := hbb
    refine L.step (R.indexAddrV (m := x.1) (o2 := oo2 + x.1 * 4) (b := bo2) (o := oo2) (len := m.length) (cap := c) s22 (by show Value.slice a m.length c = _; rw [hao]) rfl rfl (by omega) rfl) rfl ?_
    refine L.step (R.loadCA (cs := x1.cells) r32 rfl hcx rfl) rfl ?_
    refine L.stepE (R.alloc z32) rfl fun w7 e6 => ?_
    have k9 := Al.new e6
    have z10 := Al.size e6
    have q11 := Al.kept e6 hq
    have hD12 := DiskAt.kept hD (Al.kept e6 (Kept.refl (fun _ => False) _)) (fun _ _ h => h)
    refine L.doesE (R.storeAll (cs := x1.cells) r32 rfl rfl rfl (hokx1.ones) k9 rfl) fun w14 e13 => ?_
    have k15 := So.hit e13 k9
    have z16 := So.size e13
    have q17 := So.kept e13 q11 (fun h => absurd h (by omega))
    have hD18 := DiskAt.kept hD12 (So.kept e13 (Kept.refl (fun k => k = w2.heap.size) _) (fun _ => rfl)) (fun k hk e => by have hk9 := hltD k hk; have e9 : k = w2.heap.size := e; omega)
    refine L.nil ?_
    refine C.seq ?_
    refine C.region ?_
    refine L.step (R.loadA (cs := x1.cells) r32 rfl k15 rfl rfl) rfl ?_
    refine L.call (E.call1 hb13) rfl (kind_calls (hokx1.one)) ?_
    rintro _ w19 ⟨rfl, hk20⟩
    have k21 := Kept.old hk20 k15 (fun h => h)
    have z22 := (hk20).size
    have q23 := Kept.trans q17 hk20 (fun _ _ h => h.elim)
    have hD24 := DiskAt.kept hD18 hk20 (fun _ _ h => h)
    rcases Classical.em (kindOf x1.o.k < 3) with ht25 | ht25
    ·
      refine L.step (R.lssT rfl rfl (ht25)) rfl ?_
      refine L.nil ?_
      refine C.condT rfl ?_
      refine C.region ?_
      refine L.step (R.moveV (v := .pointer (some ⟨r, 0, none⟩)) rfl) rfl ?_
      refine L.step (R.loadA (cs := x1.cells) r32 rfl k21 rfl rfl) rfl ?_
      have hltN : ∀ k, x.2 k → k < w19.heap.size := fun k hk => by have := (hlt k hk).2; omega
      refine L.call (E.call2 hb18) rfl (does_calls (o := x1.o) hD24 (by omega) (by omega) (hokx1.bools.kept q23 (fun _ _ h => h)) hokx1.len hokx1.at_ hltN) ?_
      rintro _ w26 ⟨rfl, hD28, hk27⟩
      have z29 := hk27.size
      have hsz9 := (q23).size
      have q30 : Kept (fun _ => False) w w26 := Kept.trans q23 hk27 (fun k hlt9 hk9 => by have := (hlt k hk9).1; omega)
      refine L.nil ?_
      refine C.region ?_
      refine L.step (R.add rfl rfl (by omega)) rfl ?_
      refine L.step (R.moveV (v := .int .i64 (((x.1 : Nat) : Int) + 1)) rfl) rfl ?_
      refine L.nil ?_
      refine thenP.mk ⟨(x.1 + 1, grow x.2 w19 w26), ⟨rfl, rfl, rfl, rfl, rfl, trivial⟩, ⟨by show x.1 + 1 ≤ _; omega, q30, by rw [PD.runW_succ hx1, if_pos ht25]; exact hD28, fun k hk => hk.elim (fun h => ⟨(hlt k h).1, by have := (hlt k h).2; omega⟩) (fun h => ⟨by have := h.1; omega, h.2⟩)⟩, by show m.length - (x.1 + 1) < m.length - x.1; omega⟩
    ·
      refine L.step (R.lssF rfl rfl (Int.not_lt.1 ht25)) rfl ?_
      refine L.nil ?_
      refine C.condF rfl ?_
      refine C.skip ?_
      refine C.region ?_
      refine L.step (R.add rfl rfl (by omega)) rfl ?_
      refine L.step (R.moveV (v := .int .i64 (((x.1 : Nat) : Int) + 1)) rfl) rfl ?_
      refine L.nil ?_
      refine thenP.mk ⟨(x.1 + 1, x.2), ⟨rfl, rfl, rfl, rfl, rfl, trivial⟩, ⟨by show x.1 + 1 ≤ _; omega, q23, by rw [PD.runW_succ hx1, if_neg ht25]; exact hD24, fun k hk => ⟨(hlt k hk).1, by have := (hlt k hk).2; omega⟩⟩, by show m.length - (x.1 + 1) < m.length - x.1; omega⟩
  ·
    refine L.step (R.lssF rfl rfl (Int.not_lt.1 ht5)) rfl ?_
    refine L.nil ?_
    refine C.seq ?_
    refine C.condF rfl ?_
    refine C.exit ?_
    refine C.seq ?_
    refine C.region ?_
    refine L.step (R.moveV (v := .pointer (some ⟨r, 0, none⟩)) rfl) rfl ?_
    refine L.step (R.assignV (v := .pointer (some ⟨r, 0, none⟩)) rfl) rfl ?_
    refine L.nil ?_
    refine C.ret (?_ : RetOk _ _ _ _ _)
    refine RetOk.tV (v := .pointer (some ⟨r, 0, none⟩)) rfl rfl ?_
    exact ⟨r, x.2, rfl, by rw [show m = m.take x.1 by rw [List.take_of_length_le (by omega)]]; exact hD, hlt, hq⟩
end Go.Proofs.Ytpblppilknkdoaa
