/- DiskSafe: the walk. -/
import Derived.Test.YtpblppilknkdoaaD18
import Derived.Test.YtpblppilknkdoaaLaw4
namespace Go.Proofs.Ytpblppilknkdoaa
open Go Go.Eng Go.Proofs
attribute [local irreducible] Go.Eng.C Go.Eng.L Go.Eng.Ret Go.Eng.Run Go.Eng.Does Go.Eng.Enters Go.Eng.AH Go.Eng.AO Go.Eng.RetOk
theorem sync_ops {D : PD} (h : D.Plain) (hs : D.safe.length = 6) : D.sync.1.ops = D.ops + 1 := by rw [h.sync (by omega)]
theorem held_same {D Dh : PD} (hD : D.Plain) (hE : Dh.Plain) (hs : D.safe.length = 6) (h1 : Dh.safe = D.safe) (h2 : Dh.pend = D.pend) : (D.held 6).2 = (Dh.held 6).2 := by
  rw [held_look hD hs, held_look hE (by rw [h1, hs])]
  exact List.map_congr_left fun j _ => by rw [look_eq, look_eq, h1, h2]
theorem pcell {l : List Value} {pend : List (Nat × Blk)} {n j : Nat} {p : Nat × Blk} (ht : l.take (n * 1) = pend.map fun p => .int .i64 (p.1 : Int)) (hp : pend[j]? = some p) (hj : j < n) : l[j * 1]? = some (.int .i64 (p.1 : Int)) := by
  have h : (l.take (n * 1))[j]? = some (.int .i64 (p.1 : Int)) := by rw [ht, List.getElem?_map, hp]; rfl
  rw [List.getElem?_take, if_pos (by omega)] at h
  rw [Nat.mul_one]; exact h
theorem bools_only {w : World} {b j c : Nat} (h : w.heap[b]? = some (blk ((List.replicate ((j + 1) * 1) (.bool false)).set j (.bool true)) 4)) : BoolsAt w (.slice (some ⟨b, 0, none⟩) (j + 1) c) (onlyN j) (fun k => k = b) := by
  refine .inr ⟨b, 0, c, by simp [onlyN], rfl, fun k x hx => ?_⟩
  rw [cell_at h, Nat.zero_add]
  rcases Nat.lt_trichotomy k j with hk | rfl | hk
  · have : (onlyN j)[k]? = some false := by simp [onlyN, List.getElem?_append, hk]
    rw [this] at hx; cases hx
    rw [List.getElem?_set_ne (by omega), List.getElem?_replicate, if_pos (by omega)]
  · have : (onlyN k)[k]? = some true := by simp [onlyN]
    rw [this] at hx; cases hx
    rw [List.getElem?_set_self (by simp)]
  · have : (onlyN j)[k]? = none := by simp [onlyN]; omega
    rw [this] at hx; cases hx
theorem range_at {α : Type} {f : Nat → α} {k : Nat} (h : k < 6) : ((List.range 6).map f)[k]? = some (f k) := by simp [h]
set_option maxHeartbeats 8000000 in
theorem safe_calls {w : World} {lv kv : Value} {l : List OpV} {ks : List Bool} {N : Nat} (h : OpsAt w lv l N) (hkb : BoolsAt w kv ks (fun b => b < N)) (hN : N ≤ w.heap.size) (hbig : l.length ≤ 9223372036854775807) :
    Ret Try.prog 7 #[lv, kv] w fun v w' => v = .bool true ∧ Kept (fun _ => False) w w' := by
  obtain ⟨a, c, rfl, hc⟩ := h.shape
  obtain ⟨m, hm⟩ : ∃ m, m = l.take 120 := ⟨_, rfl⟩
  have hml : m.length ≤ 120 := by rw [hm, List.length_take]; omega
  have hq := Kept.refl (fun _ => False) w
  have hwp := worn_plain m m.length (Nat.le_refl _)
  rw [List.take_length] at hwp
  have hwf : PD.Few (PD.new 6) _ _ := PD.runW_few (D := PD.new 6) (l := m) m.length (Nat.le_refl _)
  rw [List.take_length] at hwf
  obtain ⟨D, hDD⟩ : ∃ D, D = (PD.new 6).runW m := ⟨_, rfl⟩
  rw [← hDD] at hwp hwf
  have hPl := hwp.1
  have hSa := hwp.2.1
  have hf1 := hwf.ops
  have hf2 := hwf.pend
  have hf3 : (PD.new 6).ops = 0 := rfl
  have hf4 : (PD.new 6).pend.length = 0 := rfl
  refine Ret.intro [.slice a l.length c, kv] Try.func7 rfl rfl ?_
  refine C.seq ?_
  refine C.region ?_
  refine L.step (R.assignV (v := .bool false) rfl) rfl ?_
  refine L.nil ?_
  refine C.seq ?_
  refine C.seq ?_
  refine C.region ?_
  refine L.call (E.call0 hb10) rfl wakes_calls ?_
  rintro _ w1 ⟨rfl, hk2⟩
  have z3 := (hk2).size
  have q4 := Kept.trans hq hk2 (fun _ _ h => h.elim)
  refine L.step (R.notV (v := .bool false) rfl rfl) rfl ?_
  refine L.nil ?_
  refine C.condF rfl ?_
  refine C.skip ?_
  refine C.seq ?_
  refine C.region ?_
  refine L.step (R.moveV (v := .slice a l.length c) rfl) rfl ?_
  have hsw := (q4).size
  refine L.call (E.call1 hb11) rfl (worn_calls (h.kept q4 (fun k hk h => h)) (by omega) hbig) ?_
  rintro _ w5 ⟨rd, Fd, rfl, hD6, ltd, hk7⟩
  rw [← hm, ← hDD] at hD6
  have z8 := (hk7).size
  have q9 := Kept.trans q4 hk7 (fun _ _ h => h.elim)
  refine L.step (R.assignV (v := .pointer (some ⟨rd, 0, none⟩)) rfl) rfl ?_
  refine L.nil ?_
  refine C.seq ?_
  refine C.seq ?_
  refine C.region ?_
  refine L.step (R.moveV (v := .pointer (some ⟨rd, 0, none⟩)) rfl) rfl ?_
  refine L.step (R.eqlP Try.underlying24 rfl rfl) rfl ?_
  refine L.nil ?_
  refine C.condF rfl ?_
  refine C.skip ?_
  refine C.seq ?_
  refine C.region ?_
  refine L.step (R.moveV (v := .pointer (some ⟨rd, 0, none⟩)) rfl) rfl ?_
  refine L.call (E.call1 hb15) rfl (held_calls (n := 6) hD6 (fun k hk => by have h0_ := ltd k hk; omega) hSa (by decide) (by omega) (by omega)) ?_
  rintro v14 w10 ⟨hr13, hD12, hk11⟩
  have z15 := hk11.size
  have q16 : Kept (fun _ => False) w w10 := Kept.trans q9 hk11 (fun k hlt9 hk9 => by have h0_ := ltd k hk9; omega)
  obtain ⟨Dh, hE⟩ : ∃ Dh, Dh = (D.held 6).1 := ⟨_, rfl⟩
  have hhp := held_plain hPl 6 (by rw [hSa]; decide)
  have hhf := PD.held_few (D := D) 6
  rw [← hE] at hhp hhf hD12
  have hEp := hhp.1
  have hEs : Dh.safe.length = 6 := by rw [hhp.2.1, hSa]
  have hes := held_same hPl hEp hSa hhp.2.1 hhp.2.2.1
  rw [hes] at hr13
  have hEo := hhf.ops
  have hEn := hhf.pend
  have hE64 : ∀ b ∈ (Dh.held 6).2, b.length = 64 := fun b hb => by
    rw [held_look hEp hEs] at hb
    obtain ⟨i, hi, rfl⟩ := List.mem_map.1 hb
    have hi := List.mem_range.1 hi
    exact look_length hD12.ok ⟨by omega, by rw [hEs]; omega⟩
  have hEok := hD12.ok
  obtain ⟨ra17, rc18, rfl, _⟩ := hr13.shape
  refine L.step (R.assignV (v := .slice ra17 6 rc18) rfl) rfl ?_
  refine L.nil ?_
  refine C.seq ?_
  refine C.region ?_
  refine L.step (R.moveV (v := .pointer (some ⟨rd, 0, none⟩)) rfl) rfl ?_
  refine L.call (E.call1 hb32) rfl (copy_calls hD12 (by omega) (by omega)) ?_
  rintro _ w20 ⟨r19, rfl, ge23, hD22, hk21⟩
  obtain ⟨F24, eF24⟩ : ∃ G, G = grow (fun _ => False) w10 w20 := ⟨_, rfl⟩
  rw [← eF24] at hD22
  have bd25 : ∀ k, F24 k → w10.heap.size ≤ k ∧ k < w20.heap.size := fun k hk => by rw [eF24] at hk; exact hk.elim (fun h => h.elim) (fun h => h)
  have z26 := (hk21).size
  have q27 := Kept.trans q16 hk21 (fun _ _ h => h.elim)
  have hD28 := DiskAt.kept hD12 hk21 (fun _ _ h => h)
  have m29 := Row.kept hr13 hk21 (fun _ _ h => h)
  refine L.step (R.moveV (v := .pointer (some ⟨rd, 0, none⟩)) rfl) rfl ?_
  refine L.call (E.call1 hb32) rfl (copy_calls hD28 (by omega) (by omega)) ?_
  rintro _ w31 ⟨r30, rfl, ge34, hD33, hk32⟩
  obtain ⟨F35, eF35⟩ : ∃ G, G = grow (fun _ => False) w20 w31 := ⟨_, rfl⟩
  rw [← eF35] at hD33
  have bd36 : ∀ k, F35 k → w20.heap.size ≤ k ∧ k < w31.heap.size := fun k hk => by rw [eF35] at hk; exact hk.elim (fun h => h.elim) (fun h => h)
  have z37 := (hk32).size
  have q38 := Kept.trans q27 hk32 (fun _ _ h => h.elim)
  have hD39 := DiskAt.kept hD28 hk32 (fun _ _ h => h)
  have hD40 := DiskAt.kept hD22 hk32 (fun _ _ h => h)
  have m41 := Row.kept m29 hk32 (fun _ _ h => h)
  refine L.step (R.moveV (v := .pointer (some ⟨rd, 0, none⟩)) rfl) rfl ?_
  refine L.call (E.call1 hb32) rfl (copy_calls hD39 (by omega) (by omega)) ?_
  rintro _ w43 ⟨r42, rfl, ge46, hD45, hk44⟩
  obtain ⟨F47, eF47⟩ : ∃ G, G = grow (fun _ => False) w31 w43 := ⟨_, rfl⟩
  rw [← eF47] at hD45
  have bd48 : ∀ k, F47 k → w31.heap.size ≤ k ∧ k < w43.heap.size := fun k hk => by rw [eF47] at hk; exact hk.elim (fun h => h.elim) (fun h => h)
  have z49 := (hk44).size
  have q50 := Kept.trans q38 hk44 (fun _ _ h => h.elim)
  have hD51 := DiskAt.kept hD39 hk44 (fun _ _ h => h)
  have hD52 := DiskAt.kept hD40 hk44 (fun _ _ h => h)
  have hD53 := DiskAt.kept hD33 hk44 (fun _ _ h => h)
  have m54 := Row.kept m41 hk44 (fun _ _ h => h)
  refine L.step (R.assignV (v := .pointer (some ⟨r19, 0, none⟩)) rfl) rfl ?_
  refine L.step (R.assignV (v := .pointer (some ⟨r30, 0, none⟩)) rfl) rfl ?_
  refine L.step (R.assignV (v := .pointer (some ⟨r42, 0, none⟩)) rfl) rfl ?_
  refine L.nil ?_
  refine C.seq ?_
  refine C.region ?_
  refine L.step (R.moveV (v := .pointer (some ⟨rd, 0, none⟩)) rfl) rfl ?_
  refine L.call (E.call1 hb28) rfl (pending_calls hD51 (by omega)) ?_
  rintro v57 w55 ⟨hr58, hk56⟩
  obtain ⟨a59, c60, rfl, _⟩ := hr58.shape
  have z61 := (hk56).size
  have q62 := Kept.trans q50 hk56 (fun _ _ h => h.elim)
  have hD63 := DiskAt.kept hD51 hk56 (fun _ _ h => h)
  have hD64 := DiskAt.kept hD52 hk56 (fun _ _ h => h)
  have hD65 := DiskAt.kept hD53 hk56 (fun _ _ h => h)
  have hD66 := DiskAt.kept hD45 hk56 (fun _ _ h => h)
  have m67 := Row.kept m54 hk56 (fun _ _ h => h)
  refine L.step (R.lenV (v := .int .i64 ((Dh.pend.length : Nat) : Int)) Try.underlying56 rfl rfl) rfl ?_
  refine L.stepE (R.makeU (l := Dh.pend.length) (m := Dh.pend.length) e30 z4 rfl rfl rfl rfl (Nat.le_refl _) (by omega) (by omega)) rfl fun w69 e68 => ?_
  have m71 := Al.row e68 m67
  have k73 := Al.new e68
  have z74 := Al.size e68
  have q75 := Al.kept e68 q62
  have hD76 := DiskAt.kept hD63 (Al.kept e68 (Kept.refl (fun _ => False) _)) (fun _ _ h => h)
  have hD77 := DiskAt.kept hD64 (Al.kept e68 (Kept.refl (fun _ => False) _)) (fun _ _ h => h)
  have hD78 := DiskAt.kept hD65 (Al.kept e68 (Kept.refl (fun _ => False) _)) (fun _ _ h => h)
  have hD79 := DiskAt.kept hD66 (Al.kept e68 (Kept.refl (fun _ => False) _)) (fun _ _ h => h)
  refine L.step (R.assignV (v := .slice (some ⟨w55.heap.size, 0, none⟩) Dh.pend.length Dh.pend.length) rfl) rfl ?_
  refine L.nil ?_
  refine C.seq ?_
  refine C.seq ?_
  refine C.region ?_
  refine L.step (R.moveV (v := .slice (some ⟨w55.heap.size, 0, none⟩) Dh.pend.length Dh.pend.length) rfl) rfl ?_
  refine L.step (R.lenV (v := .int .i64 ((Dh.pend.length : Nat) : Int)) Try.underlying30 rfl rfl) rfl ?_
  refine L.step (R.moveV (v := .int .i64 0) rfl) rfl ?_
  refine L.nil ?_
  refine C.block ?_
  have hwl := (q75).size
  refine C.loop (α := Nat) (fun j => [(1, kv), (5, .pointer (some ⟨rd, 0, none⟩)), (6, .slice ra17 6 rc18), (7, .pointer (some ⟨r19, 0, none⟩)), (8, .pointer (some ⟨r30, 0, none⟩)), (9, .pointer (some ⟨r42, 0, none⟩)), (10, .slice (some ⟨w55.heap.size, 0, none⟩) Dh.pend.length Dh.pend.length), (42, .int .i64 ((Dh.pend.length : Nat) : Int)), (43, .int .i64 ((j : Nat) : Int))]) (fun j W => j ≤ Dh.pend.length ∧ Kept (fun k => k = w55.heap.size) w69 W ∧ W.heap[w55.heap.size]? = some (blk (List.replicate j (.bool true) ++ List.replicate (Dh.pend.length - j) (.bool false)) 4)) (fun j => Dh.pend.length - j) ⟨0, ⟨rfl, rfl, rfl, rfl, rfl, rfl, rfl, rfl, rfl, trivial⟩, ⟨Nat.zero_le _, Kept.refl _ _, by simpa using k73⟩⟩ ?_
  intro j g81 w80 hI82
  obtain ⟨hj, hqb, hbk⟩ := hI82
  have hszj := hqb.size
  have hbkl := at_lt _ _ hbk
  have hqw : Kept (fun _ => False) w w80 := Kept.trans q75 hqb (fun k hlt e => by have e9 : k = w55.heap.size := e; omega)
  have hD83 := DiskAt.kept hD76 hqb (fun k hk e => by have e9 : k = w55.heap.size := e; have h0_ := ltd k hk; omega)
  have hD84 := DiskAt.kept hD77 hqb (fun k hk e => by have e9 : k = w55.heap.size := e; have h0_ := bd25 k hk; omega)
  have hD85 := DiskAt.kept hD78 hqb (fun k hk e => by have e9 : k = w55.heap.size := e; have h0_ := bd36 k hk; omega)
  have hD86 := DiskAt.kept hD79 hqb (fun k hk e => by have e9 : k = w55.heap.size := e; have h0_ := bd48 k hk; omega)
  have m87 := Row.kept m71 hqb (fun k hG e => by have e9 : k = w55.heap.size := e; have hg9 := hG.elim (fun h => h.elim) (fun h => h); omega)
  refine C.seq ?_
  refine C.region ?_
  rcases Classical.em (((j : Nat) : Int) < ((Dh.pend.length : Nat) : Int)) with ht88 | ht88
  ·
    refine L.step (R.lssT rfl rfl (ht88)) rfl ?_
    refine L.nil ?_
    refine C.seq ?_
    refine C.condT rfl ?_
    refine C.skip ?_
    refine C.seq ?_
    refine C.block ?_
    refine C.seq ?_
    refine C.region ?_
    refine L.step (R.moveV (v := .int .i64 ((j : Nat) : Int)) rfl) rfl ?_
    refine L.step (R.assignV (v := .int .i64 ((j : Nat) : Int)) rfl) rfl ?_
    refine L.nil ?_
    refine C.region ?_
    refine L.step (R.moveV (v := .slice (some ⟨w55.heap.size, 0, none⟩) Dh.pend.length Dh.pend.length) rfl) rfl ?_
    refine L.step (R.moveV (v := .int .i64 ((j : Nat) : Int)) rfl) rfl ?_
    refine L.step (R.indexAddrV (m := j) (o2 := j) s30 rfl rfl rfl (by omega) (by omega)) rfl ?_
    refine L.doesE (R.store1 c4 rfl (v := .bool true) rfl rfl hbk (by rw [Nat.blt_eq, List.length_append, List.length_replicate, List.length_replicate]; omega)) fun w90 e89 => ?_
    rw [fill_true (by omega)] at e89
    have m91 := So.rowE e89 m87 hbk (by decide)
    have k92 := So.hit e89 hbk
    have z93 := So.size e89
    have q94 := So.kept e89 hqw (fun h => absurd h (by omega))
    have hD95 := DiskAt.kept hD83 (So.kept e89 (Kept.refl (fun k => k = w55.heap.size) _) (fun _ => rfl)) (fun k hk e => by have e9 : k = w55.heap.size := e; have h0_ := ltd k hk; omega)
    have hD96 := DiskAt.kept hD84 (So.kept e89 (Kept.refl (fun k => k = w55.heap.size) _) (fun _ => rfl)) (fun k hk e => by have e9 : k = w55.heap.size := e; have h0_ := bd25 k hk; omega)
    have hD97 := DiskAt.kept hD85 (So.kept e89 (Kept.refl (fun k => k = w55.heap.size) _) (fun _ => rfl)) (fun k hk e => by have e9 : k = w55.heap.size := e; have h0_ := bd36 k hk; omega)
    have hD98 := DiskAt.kept hD86 (So.kept e89 (Kept.refl (fun k => k = w55.heap.size) _) (fun _ => rfl)) (fun k hk e => by have e9 : k = w55.heap.size := e; have h0_ := bd48 k hk; omega)
    refine L.nil ?_
    refine C.region ?_
    refine L.step (R.add rfl rfl (by omega)) rfl ?_
    refine L.step (R.moveV (v := .int .i64 (((j : Nat) : Int) + 1)) rfl) rfl ?_
    refine L.nil ?_
    refine thenP.mk ⟨j + 1, ⟨rfl, rfl, rfl, rfl, rfl, rfl, rfl, rfl, rfl, trivial⟩, ⟨by show j + 1 ≤ _; omega, So.kept e89 hqb (fun _ => rfl), k92⟩, by show Dh.pend.length - (j + 1) < Dh.pend.length - j; omega⟩
  ·
    refine L.step (R.lssF rfl rfl (Int.not_lt.1 ht88)) rfl ?_
    refine L.nil ?_
    refine C.seq ?_
    refine C.condF rfl ?_
    refine C.exit ?_
    refine C.seq ?_
    refine C.seq ?_
    refine C.region ?_
    refine L.step (R.moveV (v := .pointer (some ⟨r19, 0, none⟩)) rfl) rfl ?_
    refine L.step (R.moveV (v := .slice (some ⟨w55.heap.size, 0, none⟩) Dh.pend.length Dh.pend.length) rfl) rfl ?_
    have hbt := hbk
    rw [show j = Dh.pend.length by omega, Nat.sub_self, List.replicate_zero, List.append_nil] at hbt
    refine L.call (E.call2 hb29) rfl (crash_calls hD84 (bools_true (c := Dh.pend.length) hbt) (fun k hk e => by have e9 : k = w55.heap.size := e; have h0_ := bd25 k hk; omega) (fun k hk => by have h0_ := bd25 k hk; omega) (by omega)) ?_
    rintro _ w99 ⟨rfl, hD101, hk100⟩
    have m102 := Row.kept m87 hk100 (fun k hG hF => by have h0_ := bd25 k hF; have hg9 := hG.elim (fun h => h.elim) (fun h => h); omega)
    have hD103 := DiskAt.kept hD83 hk100 (fun k hk1 hk2 => by have h1_ := ltd k hk1; have h2_ := bd25 k hk2; omega)
    have hD104 := DiskAt.kept hD85 hk100 (fun k hk1 hk2 => by have h1_ := bd36 k hk1; have h2_ := bd25 k hk2; omega)
    have hD105 := DiskAt.kept hD86 hk100 (fun k hk1 hk2 => by have h1_ := bd48 k hk1; have h2_ := bd25 k hk2; omega)
    have z106 := hk100.size
    have q107 : Kept (fun _ => False) w w99 := Kept.trans hqw hk100 (fun k hlt9 hk9 => by have h0_ := bd25 k hk9; omega)
    refine L.step (R.neqF rfl rfl (by omega)) rfl ?_
    refine L.step (R.moveV (v := .bool false) rfl) rfl ?_
    refine L.yes rfl rfl rfl ?_
    refine L.step (R.moveV (v := .pointer (some ⟨r42, 0, none⟩)) rfl) rfl ?_
    refine L.yes rfl rfl rfl ?_
    refine L.call (E.call2 hb29) rfl (crash_calls hD105 (ks := []) (G := fun _ => False) (.inl ⟨rfl, none, 0, rfl⟩) (fun _ _ h => h) (fun k hk => by have h0_ := bd48 k hk; omega) (by omega)) ?_
    rintro _ w108 ⟨rfl, hD110, hk109⟩
    have m111 := Row.kept m102 hk109 (fun k hG hF => by have h0_ := bd48 k hF; have hg9 := hG.elim (fun h => h.elim) (fun h => h); omega)
    have hD112 := DiskAt.kept hD103 hk109 (fun k hk1 hk2 => by have h1_ := ltd k hk1; have h2_ := bd48 k hk2; omega)
    have hD113 := DiskAt.kept hD101 hk109 (fun k hk1 hk2 => by have h1_ := bd25 k hk1; have h2_ := bd48 k hk2; omega)
    have hD114 := DiskAt.kept hD104 hk109 (fun k hk1 hk2 => by have h1_ := bd36 k hk1; have h2_ := bd48 k hk2; omega)
    have z115 := hk109.size
    have q116 : Kept (fun _ => False) w w108 := Kept.trans q107 hk109 (fun k hlt9 hk9 => by have h0_ := bd48 k hk9; omega)
    refine L.yes rfl rfl rfl ?_
    refine L.step (R.neqF rfl rfl (by omega)) rfl ?_
    refine L.step (R.pickFV (v := .bool false) rfl rfl) rfl ?_
    refine L.step (R.moveV (v := .bool false) rfl) rfl ?_
    refine L.yes rfl rfl rfl ?_
    refine L.step (R.moveV (v := .pointer (some ⟨rd, 0, none⟩)) rfl) rfl ?_
    refine L.yes rfl rfl rfl ?_
    refine L.call (E.call1 hb26) rfl (sync_calls hD112 (by omega)) ?_
    rintro _ w117 ⟨rfl, hD119, hk118⟩
    rw [sync_err hEp hEs]
    have m120 := Row.kept m111 hk118 (fun k hG hF => by have h0_ := ltd k hF; have hg9 := hG.elim (fun h => h.elim) (fun h => h); omega)
    have hD121 := DiskAt.kept hD113 hk118 (fun k hk1 hk2 => by have h1_ := bd25 k hk1; have h2_ := ltd k hk2; omega)
    have hD122 := DiskAt.kept hD114 hk118 (fun k hk1 hk2 => by have h1_ := bd36 k hk1; have h2_ := ltd k hk2; omega)
    have hD123 := DiskAt.kept hD110 hk118 (fun k hk1 hk2 => by have h1_ := bd48 k hk1; have h2_ := ltd k hk2; omega)
    have z124 := hk118.size
    have q125 : Kept (fun _ => False) w w117 := Kept.trans q116 hk118 (fun k hlt9 hk9 => by have h0_ := ltd k hk9; omega)
    refine L.yes rfl rfl rfl ?_
    refine L.step (R.neqF rfl rfl (by omega)) rfl ?_
    refine L.step (R.pickFV (v := .bool false) rfl rfl) rfl ?_
    refine L.step (R.moveV (v := .bool false) rfl) rfl ?_
    refine L.yes rfl rfl rfl ?_
    refine L.step (R.moveV (v := .pointer (some ⟨rd, 0, none⟩)) rfl) rfl ?_
    refine L.yes rfl rfl rfl ?_
    refine L.call (E.call2 hb29) rfl (crash_calls hD119 (ks := []) (G := fun _ => False) (.inl ⟨rfl, none, 0, rfl⟩) (fun _ _ h => h) (fun k hk => by have h0_ := ltd k hk; omega) (by rw [sync_pend hEp hEs]; decide)) ?_
    rintro _ w126 ⟨rfl, hD128, hk127⟩
    have m129 := Row.kept m120 hk127 (fun k hG hF => by have h0_ := ltd k hF; have hg9 := hG.elim (fun h => h.elim) (fun h => h); omega)
    have hD130 := DiskAt.kept hD121 hk127 (fun k hk1 hk2 => by have h1_ := bd25 k hk1; have h2_ := ltd k hk2; omega)
    have hD131 := DiskAt.kept hD122 hk127 (fun k hk1 hk2 => by have h1_ := bd36 k hk1; have h2_ := ltd k hk2; omega)
    have hD132 := DiskAt.kept hD123 hk127 (fun k hk1 hk2 => by have h1_ := bd48 k hk1; have h2_ := ltd k hk2; omega)
    have z133 := hk127.size
    have q134 : Kept (fun _ => False) w w126 := Kept.trans q125 hk127 (fun k hlt9 hk9 => by have h0_ := ltd k hk9; omega)
    refine L.yes rfl rfl rfl ?_
    refine L.step (R.neqF rfl rfl (by omega)) rfl ?_
    refine L.step (R.pickFV (v := .bool false) rfl rfl) rfl ?_
    refine L.nil ?_
    refine C.condF rfl ?_
    refine C.skip ?_
    refine C.seq ?_
    refine C.seq ?_
    refine C.region ?_
    refine L.step (R.moveV (v := .pointer (some ⟨r19, 0, none⟩)) rfl) rfl ?_
    refine L.call (E.call1 hb15) rfl (held_calls (n := 6) hD130 (fun k hk => by have h0_ := bd25 k hk; omega) (crash_safe.trans hEs) (by decide) (by show Dh.ops ≤ 900000; omega) (by show ([] : List (Nat × Blk)).length ≤ 900000; decide)) ?_
    rintro v139 w135 ⟨hr138, hD137, hk136⟩
    have m140 := Row.kept m129 hk136 (fun k hG hF => by have h0_ := bd25 k hF; have hg9 := hG.elim (fun h => h.elim) (fun h => h); omega)
    have hD141 := DiskAt.kept hD128 hk136 (fun k hk1 hk2 => by have h1_ := ltd k hk1; have h2_ := bd25 k hk2; omega)
    have hD142 := DiskAt.kept hD131 hk136 (fun k hk1 hk2 => by have h1_ := bd36 k hk1; have h2_ := bd25 k hk2; omega)
    have hD143 := DiskAt.kept hD132 hk136 (fun k hk1 hk2 => by have h1_ := bd48 k hk1; have h2_ := bd25 k hk2; omega)
    have z144 := hk136.size
    have q145 : Kept (fun _ => False) w w135 := Kept.trans q134 hk136 (fun k hlt9 hk9 => by have h0_ := bd25 k hk9; omega)
    rw [crash_all hEp hEs (fun k hk => getD_true hk)] at hr138
    obtain ⟨ra146, rc147, rfl, _⟩ := hr138.shape
    refine L.step (R.moveV (v := .slice ra17 6 rc18) rfl) rfl ?_
    refine L.call (E.call2 hb30) rfl (same_calls hr138 m140 (PD.held_length 6) (PD.held_length 6) (by decide) hE64 hE64) ?_
    rintro _ w148 ⟨rfl, hk149⟩
    rw [decide_eq_true rfl]
    have z150 := (hk149).size
    have q151 := Kept.trans q145 hk149 (fun _ _ h => h.elim)
    have hD152 := DiskAt.kept hD141 hk149 (fun _ _ h => h)
    have hD153 := DiskAt.kept hD137 hk149 (fun _ _ h => h)
    have hD154 := DiskAt.kept hD142 hk149 (fun _ _ h => h)
    have hD155 := DiskAt.kept hD143 hk149 (fun _ _ h => h)
    have m156 := Row.kept m140 hk149 (fun _ _ h => h)
    have m157 := Row.kept hr138 hk149 (fun _ _ h => h)
    refine L.step (R.notV (v := .bool false) rfl rfl) rfl ?_
    refine L.step (R.moveV (v := .bool false) rfl) rfl ?_
    refine L.yes rfl rfl rfl ?_
    refine L.step (R.moveV (v := .pointer (some ⟨rd, 0, none⟩)) rfl) rfl ?_
    refine L.yes rfl rfl rfl ?_
    refine L.call (E.call1 hb15) rfl (held_calls (n := 6) hD152 (fun k hk => by have h0_ := ltd k hk; omega) (crash_safe.trans (sync_safe hEp hEs)) (by decide) (by show Dh.sync.1.ops ≤ 900000; rw [sync_ops hEp hEs]; omega) (by show ([] : List (Nat × Blk)).length ≤ 900000; decide)) ?_
    rintro v162 w158 ⟨hr161, hD160, hk159⟩
    have m163 := Row.kept m156 hk159 (fun k hG hF => by have h0_ := ltd k hF; have hg9 := hG.elim (fun h => h.elim) (fun h => h); omega)
    have hD164 := DiskAt.kept hD153 hk159 (fun k hk1 hk2 => by have h1_ := bd25 k hk1; have h2_ := ltd k hk2; omega)
    have hD165 := DiskAt.kept hD154 hk159 (fun k hk1 hk2 => by have h1_ := bd36 k hk1; have h2_ := ltd k hk2; omega)
    have hD166 := DiskAt.kept hD155 hk159 (fun k hk1 hk2 => by have h1_ := bd48 k hk1; have h2_ := ltd k hk2; omega)
    have z167 := hk159.size
    have q168 : Kept (fun _ => False) w w158 := Kept.trans q151 hk159 (fun k hlt9 hk9 => by have h0_ := ltd k hk9; omega)
    rw [sync_crash hEp hEs] at hr161
    obtain ⟨ra169, rc170, rfl, _⟩ := hr161.shape
    refine L.yes rfl rfl rfl ?_
    refine L.step (R.moveV (v := .slice ra17 6 rc18) rfl) rfl ?_
    refine L.yes rfl rfl rfl ?_
    refine L.call (E.call2 hb30) rfl (same_calls hr161 m163 (PD.held_length 6) (PD.held_length 6) (by decide) hE64 hE64) ?_
    rintro _ w171 ⟨rfl, hk172⟩
    rw [decide_eq_true rfl]
    have z173 := (hk172).size
    have q174 := Kept.trans q168 hk172 (fun _ _ h => h.elim)
    have hD175 := DiskAt.kept hD160 hk172 (fun _ _ h => h)
    have hD176 := DiskAt.kept hD164 hk172 (fun _ _ h => h)
    have hD177 := DiskAt.kept hD165 hk172 (fun _ _ h => h)
    have hD178 := DiskAt.kept hD166 hk172 (fun _ _ h => h)
    have m179 := Row.kept m163 hk172 (fun _ _ h => h)
    have m180 := Row.kept hr161 hk172 (fun _ _ h => h)
    refine L.yes rfl rfl rfl ?_
    refine L.step (R.notV (v := .bool false) rfl rfl) rfl ?_
    refine L.step (R.pickFV (v := .bool false) rfl rfl) rfl ?_
    refine L.nil ?_
    refine C.condF rfl ?_
    refine C.skip ?_
    refine C.seq ?_
    refine C.region ?_
    refine L.step (R.moveV (v := .pointer (some ⟨r30, 0, none⟩)) rfl) rfl ?_
    refine L.call (E.call1 hb28) rfl (pending_calls hD177 (by omega)) ?_
    rintro v183 w181 ⟨hr184, hk182⟩
    obtain ⟨a185, c186, rfl, _⟩ := hr184.shape
    have z187 := (hk182).size
    have q188 := Kept.trans q174 hk182 (fun _ _ h => h.elim)
    have hD189 := DiskAt.kept hD175 hk182 (fun _ _ h => h)
    have hD190 := DiskAt.kept hD176 hk182 (fun _ _ h => h)
    have hD191 := DiskAt.kept hD177 hk182 (fun _ _ h => h)
    have hD192 := DiskAt.kept hD178 hk182 (fun _ _ h => h)
    refine L.step (R.assignV (v := .slice a185 Dh.pend.length c186) rfl) rfl ?_
    refine L.nil ?_
    refine C.seq ?_
    refine C.region ?_
    refine L.step (R.moveV (v := .pointer (some ⟨r30, 0, none⟩)) rfl) rfl ?_
    refine L.call (E.call1 hb32) rfl (copy_calls hD191 (by omega) (by omega)) ?_
    rintro _ w194 ⟨r193, rfl, ge197, hD196, hk195⟩
    obtain ⟨F198, eF198⟩ : ∃ G, G = grow (fun _ => False) w181 w194 := ⟨_, rfl⟩
    rw [← eF198] at hD196
    have bd199 : ∀ k, F198 k → w181.heap.size ≤ k ∧ k < w194.heap.size := fun k hk => by rw [eF198] at hk; exact hk.elim (fun h => h.elim) (fun h => h)
    have z200 := (hk195).size
    have q201 := Kept.trans q188 hk195 (fun _ _ h => h.elim)
    have hD202 := DiskAt.kept hD189 hk195 (fun _ _ h => h)
    have hD203 := DiskAt.kept hD190 hk195 (fun _ _ h => h)
    have hD204 := DiskAt.kept hD191 hk195 (fun _ _ h => h)
    have hD205 := DiskAt.kept hD192 hk195 (fun _ _ h => h)
    have m206 := Row.kept hr184 hk195 (fun _ _ h => h)
    refine L.step (R.assignV (v := .pointer (some ⟨r193, 0, none⟩)) rfl) rfl ?_
    refine L.nil ?_
    refine C.seq ?_
    refine C.region ?_
    refine L.step (R.moveV (v := .pointer (some ⟨r42, 0, none⟩)) rfl) rfl ?_
    refine L.call (E.call1 hb15) rfl (held_calls (n := 6) hD205 (fun k hk => by have h0_ := bd48 k hk; omega) (crash_safe.trans hEs) (by decide) (by show Dh.ops ≤ 900000; omega) (by show ([] : List (Nat × Blk)).length ≤ 900000; decide)) ?_
    rintro v211 w207 ⟨hr210, hD209, hk208⟩
    have m212 := Row.kept m206 hk208 (fun k hG hF => by have h0_ := bd48 k hF; have hg9 := hG.elim (fun h => h.elim) (fun h => h); omega)
    have hD213 := DiskAt.kept hD202 hk208 (fun k hk1 hk2 => by have h1_ := ltd k hk1; have h2_ := bd48 k hk2; omega)
    have hD214 := DiskAt.kept hD203 hk208 (fun k hk1 hk2 => by have h1_ := bd25 k hk1; have h2_ := bd48 k hk2; omega)
    have hD215 := DiskAt.kept hD204 hk208 (fun k hk1 hk2 => by have h1_ := bd36 k hk1; have h2_ := bd48 k hk2; omega)
    have hD216 := DiskAt.kept hD196 hk208 (fun k hk1 hk2 => by have h1_ := bd199 k hk1; have h2_ := bd48 k hk2; omega)
    have z217 := hk208.size
    have q218 : Kept (fun _ => False) w w207 := Kept.trans q201 hk208 (fun k hlt9 hk9 => by have h0_ := bd48 k hk9; omega)
    rw [held_none hEs] at hr210
    obtain ⟨ra219, rc220, rfl, _⟩ := hr210.shape
    refine L.step (R.assignV (v := .slice ra219 6 rc220) rfl) rfl ?_
    refine L.nil ?_
    refine C.seq ?_
    refine C.seq ?_
    refine C.region ?_
    refine L.step (R.moveV (v := .pointer (some ⟨r30, 0, none⟩)) rfl) rfl ?_
    refine L.step (R.moveV (v := kv) rfl) rfl ?_
    refine L.call (E.call2 hb29) rfl (crash_calls hD215 (hkb.kept q218 (fun _ _ h => h)) (fun k hk hb => by have hb9 : k < N := hb; have h0_ := bd36 k hk; omega) (fun k hk => by have h0_ := bd36 k hk; omega) (by omega)) ?_
    rintro _ w221 ⟨rfl, hD223, hk222⟩
    have m224 := Row.kept m212 hk222 (fun k hG hF => by have h0_ := bd36 k hF; have hg9 := hG.elim (fun h => h.elim) (fun h => h); omega)
    have m225 := Row.kept hr210 hk222 (fun k hG hF => by have h0_ := bd36 k hF; have hg9 := hG.elim (fun h => h.elim) (fun h => h); omega)
    have hD226 := DiskAt.kept hD213 hk222 (fun k hk1 hk2 => by have h1_ := ltd k hk1; have h2_ := bd36 k hk2; omega)
    have hD227 := DiskAt.kept hD214 hk222 (fun k hk1 hk2 => by have h1_ := bd25 k hk1; have h2_ := bd36 k hk2; omega)
    have hD228 := DiskAt.kept hD209 hk222 (fun k hk1 hk2 => by have h1_ := bd48 k hk1; have h2_ := bd36 k hk2; omega)
    have hD229 := DiskAt.kept hD216 hk222 (fun k hk1 hk2 => by have h1_ := bd199 k hk1; have h2_ := bd36 k hk2; omega)
    have z230 := hk222.size
    have q231 : Kept (fun _ => False) w w221 := Kept.trans q218 hk222 (fun k hlt9 hk9 => by have h0_ := bd36 k hk9; omega)
    refine L.step (R.neqF rfl rfl (by omega)) rfl ?_
    refine L.step (R.moveV (v := .bool false) rfl) rfl ?_
    refine L.yes rfl rfl rfl ?_
    refine L.step (R.moveV (v := .pointer (some ⟨r193, 0, none⟩)) rfl) rfl ?_
    refine L.yes rfl rfl rfl ?_
    refine L.step (R.eqlP Try.underlying24 rfl rfl) rfl ?_
    refine L.step (R.pickFV (v := .bool false) rfl rfl) rfl ?_
    refine L.nil ?_
    refine C.condF rfl ?_
    refine C.skip ?_
    refine C.seq ?_
    refine C.region ?_
    refine L.step (R.moveV (v := .pointer (some ⟨r30, 0, none⟩)) rfl) rfl ?_
    refine L.call (E.call1 hb15) rfl (held_calls (n := 6) hD223 (fun k hk => by have h0_ := bd36 k hk; omega) (crash_safe.trans hEs) (by decide) (by show Dh.ops ≤ 900000; omega) (by show ([] : List (Nat × Blk)).length ≤ 900000; decide)) ?_
    rintro v236 w232 ⟨hr235, hD234, hk233⟩
    have m237 := Row.kept m224 hk233 (fun k hG hF => by have h0_ := bd36 k hF; have hg9 := hG.elim (fun h => h.elim) (fun h => h); omega)
    have m238 := Row.kept m225 hk233 (fun k hG hF => by have h0_ := bd36 k hF; have hg9 := hG.elim (fun h => h.elim) (fun h => h); omega)
    have hD239 := DiskAt.kept hD226 hk233 (fun k hk1 hk2 => by have h1_ := ltd k hk1; have h2_ := bd36 k hk2; omega)
    have hD240 := DiskAt.kept hD227 hk233 (fun k hk1 hk2 => by have h1_ := bd25 k hk1; have h2_ := bd36 k hk2; omega)
    have hD241 := DiskAt.kept hD228 hk233 (fun k hk1 hk2 => by have h1_ := bd48 k hk1; have h2_ := bd36 k hk2; omega)
    have hD242 := DiskAt.kept hD229 hk233 (fun k hk1 hk2 => by have h1_ := bd199 k hk1; have h2_ := bd36 k hk2; omega)
    have z243 := hk233.size
    have q244 : Kept (fun _ => False) w w232 := Kept.trans q231 hk233 (fun k hlt9 hk9 => by have h0_ := bd36 k hk9; omega)
    rw [held_crash hEs] at hr235
    obtain ⟨S, hS⟩ : ∃ S, S = ((Dh.crash fun k => ks.getD k false).held 6).1 := ⟨_, rfl⟩
    have hSp := held_plain (crash_plain (D := Dh) fun k => ks.getD k false) 6 (by rw [crash_safe, hEs]; decide)
    rw [← hS] at hSp hD234
    obtain ⟨ra245, rc246, rfl, _⟩ := hr235.shape
    refine L.step (R.assignV (v := .slice ra245 6 rc246) rfl) rfl ?_
    refine L.nil ?_
    refine C.seq ?_
    refine C.seq ?_
    refine C.region ?_
    refine L.step (R.moveV (v := .slice ra245 6 rc246) rfl) rfl ?_
    refine L.step (R.lenV (v := .int .i64 6) Try.underlying35 rfl rfl) rfl ?_
    refine L.step (R.moveV (v := .int .i64 0) rfl) rfl ?_
    refine L.nil ?_
    refine C.block ?_
    obtain ⟨ga, la, rfl, hFa, hga, hna, hca, hla, hta⟩ := Row.blockA hr235 (by omega)
    obtain ⟨gb, lb, rfl, hFb, hgb, hnb, hcb, hlb, htb⟩ := Row.blockA m238 (by omega)
    have hXa : ∀ x ∈ ((List.range 6).map fun i : Nat => (settleN Dh.safe Dh.pend (fun k => ks.getD k false) Dh.pend.length).getD i []), (bcells x).length = 64 := fun x hx => by
      obtain ⟨i, hi, rfl⟩ := List.mem_map.1 hx
      have hi := List.mem_range.1 hi
      have hl := all_settleN (f := fun k => ks.getD k false) hEok.blocks hEok.pends Dh.pend.length
      rw [length_bcells, List.getD_eq_getElem?_getD, List.getElem?_eq_getElem (by rw [length_settleN, hEs]; exact hi)]
      exact hl _ (List.getElem_mem _)
    have hXb : ∀ x ∈ ((List.range 6).map fun i : Nat => Dh.safe.getD i []), (bcells x).length = 64 := fun x hx => by
      obtain ⟨i, hi, rfl⟩ := List.mem_map.1 hx
      have hi := List.mem_range.1 hi
      rw [length_bcells, List.getD_eq_getElem?_getD, List.getElem?_eq_getElem (by rw [hEs]; exact hi)]
      exact hEok.blocks _ (List.getElem_mem _)
    have hwl9 := (q244).size
    refine C.loop (α := Nat) (fun k => [(8, .pointer (some ⟨r30, 0, none⟩)), (12, .slice a185 Dh.pend.length c186), (13, .pointer (some ⟨r193, 0, none⟩)), (14, .slice (some ⟨gb, 0, none⟩) 6 rc220), (15, .slice (some ⟨ga, 0, none⟩) 6 rc246), (98, .int .i64 6), (99, .int .i64 ((k : Nat) : Int))]) (fun k W => k ≤ 6 ∧ Kept (fun _ => False) w232 W) (fun k => 6 - k) ⟨0, ⟨rfl, rfl, rfl, rfl, rfl, rfl, rfl, trivial⟩, ⟨Nat.zero_le _, Kept.refl _ _⟩⟩ ?_
    intro k g248 w247 hI249
    obtain ⟨hk, hqk⟩ := hI249
    have hq9 := Kept.trans q244 hqk (fun _ _ h => h.elim)
    have hsz9 := (hqk).size
    have hD250 := DiskAt.kept hD234 hqk (fun _ _ h => h)
    have hD251 := DiskAt.kept hD242 hqk (fun _ _ h => h)
    have m252 := Row.kept m237 hqk (fun _ _ h => h)
    have k253 := Kept.old hqk hga (fun h => h)
    have k253l := at_lt _ _ k253
    have k254 := Kept.old hqk hgb (fun h => h)
    have k254l := at_lt _ _ k254
    refine C.seq ?_
    refine C.region ?_
    rcases Classical.em (((k : Nat) : Int) < 6) with ht255 | ht255
    ·
      refine L.step (R.lssT rfl rfl (ht255)) rfl ?_
      refine L.nil ?_
      refine C.seq ?_
      refine C.condT rfl ?_
      refine C.skip ?_
      refine C.seq ?_
      refine C.block ?_
      refine C.seq ?_
      refine C.region ?_
      refine L.step (R.moveV (v := .int .i64 ((k : Nat) : Int)) rfl) rfl ?_
      refine L.step (R.assignV (v := .int .i64 ((k : Nat) : Int)) rfl) rfl ?_
      refine L.nil ?_
      refine C.seq ?_
      have hk6 : k < 6 := by omega
      obtain ⟨x, hxe⟩ : ∃ b, b = (settleN Dh.safe Dh.pend (fun k => ks.getD k false) Dh.pend.length).getD k [] := ⟨_, rfl⟩
      have hx : ((List.range 6).map fun i : Nat => (settleN Dh.safe Dh.pend (fun k => ks.getD k false) Dh.pend.length).getD i [])[k]? = some x := by rw [range_at hk6, hxe]
      obtain ⟨y, hye⟩ : ∃ b, b = Dh.safe.getD k [] := ⟨_, rfl⟩
      have hy : ((List.range 6).map fun i : Nat => Dh.safe.getD i [])[k]? = some y := by rw [range_at hk6, hye]
      have hx64 : x.length = 64 := by rw [← length_bcells]; exact hXa x (List.mem_of_getElem? hx)
      have hy64 : y.length = 64 := by rw [← length_bcells]; exact hXb y (List.mem_of_getElem? hy)
      refine C.drawE (fun W : World => W.heap[ga]? = some (blk (la) 27) ∧ W.heap[gb]? = some (blk (lb) 27)) (fun _ => true) mixed fun w256 e257 => ?_
      have k258 := Dr.old e257 k253
      have k259 := Dr.old e257 k254
      have m260 := Dr.row e257 m252
      have z261 := Dr.size e257
      have q262 := Dr.kept e257 hqk
      have hD263 := DiskAt.kept hD250 (Dr.kept e257 (Kept.refl (fun _ => False) _)) (fun _ _ h => h)
      have hD264 := DiskAt.kept hD251 (Dr.kept e257 (Kept.refl (fun _ => False) _)) (fun _ _ h => h)
      refine AH.take 0 rfl (by kernel_rfl) (by kernel_rfl) (by kernel_rfl) (by kernel_rfl) (fun _ _ _ h => h) rfl trivial (fun _ hS => (R.moveV (v := .slice (some ⟨ga, 0, none⟩) 6 rc246) rfl)) (⟨k258, k259⟩) ?_
      refine AH.take 1 rfl (by kernel_rfl) (by kernel_rfl) (by kernel_rfl) (by kernel_rfl) (fun _ _ _ h => h) rfl trivial (fun _ hS => (R.moveV (v := .int .i64 ((k : Nat) : Int)) rfl)) (⟨k258, k259⟩) ?_
      refine AH.take 2 rfl (by kernel_rfl) (by kernel_rfl) (by kernel_rfl) (by kernel_rfl) (fun _ _ _ h => h) rfl trivial (fun _ hS => (R.indexAddrV (m := k) (o2 := k * 64) s35 rfl rfl rfl (by omega) (by omega))) (⟨k258, k259⟩) ?_
      refine AH.take 3 rfl (by kernel_rfl) (by kernel_rfl) (by kernel_rfl) (by kernel_rfl) (fun _ _ _ h => h) rfl trivial (fun _ hS => (R.loadA (cs := bcells x) r27 rfl hS.1 (part_get hXa (by simp) hta hx) (bcells64 hx64))) (⟨k258, k259⟩) ?_
      refine AH.take 4 rfl (by kernel_rfl) (by kernel_rfl) (by kernel_rfl) (by kernel_rfl) (fun _ _ _ h => h) rfl trivial (fun _ hS => (R.moveV (v := .slice (some ⟨gb, 0, none⟩) 6 rc220) rfl)) (⟨k258, k259⟩) ?_
      refine AH.take 5 rfl (by kernel_rfl) (by kernel_rfl) (by kernel_rfl) (by kernel_rfl) (fun _ _ _ h => h) rfl trivial (fun _ hS => (R.moveV (v := .int .i64 ((k : Nat) : Int)) rfl)) (⟨k258, k259⟩) ?_
      refine AH.take 6 rfl (by kernel_rfl) (by kernel_rfl) (by kernel_rfl) (by kernel_rfl) (fun _ _ _ h => h) rfl trivial (fun _ hS => (R.indexAddrV (m := k) (o2 := k * 64) s35 rfl rfl rfl (by omega) (by omega))) (⟨k258, k259⟩) ?_
      refine AH.take 7 rfl (by kernel_rfl) (by kernel_rfl) (by kernel_rfl) (by kernel_rfl) (fun _ _ _ h => h) rfl trivial (fun _ hS => (R.loadA (cs := bcells y) r27 rfl hS.2 (part_get hXb (by simp) htb hy) (bcells64 hy64))) (⟨k258, k259⟩) ?_
      refine AH.take 8 rfl (by kernel_rfl) (by kernel_rfl) (by kernel_rfl) (by kernel_rfl) (fun _ _ _ h => h) rfl trivial (fun _ hS => (R.eqlAV (A := x) (B := y) (b := fineN Dh x y k 0) Try.underlying27 Try.underlying5 n5 gd27 rfl rfl hx64 hy64 rfl)) (⟨k258, k259⟩) ?_
      refine AH.take 9 rfl (by kernel_rfl) (by kernel_rfl) (by kernel_rfl) (by kernel_rfl) (fun _ _ _ h => h) rfl trivial (fun _ hS => (R.assignV (v := .bool (fineN Dh x y k 0)) rfl)) (⟨k258, k259⟩) ?_
      refine AH.done (by kernel_rfl) ?_
      refine C.seq ?_
      refine C.seq ?_
      refine C.region ?_
      refine L.step (R.moveV (v := .slice a185 Dh.pend.length c186) rfl) rfl ?_
      refine L.step (R.lenV (v := .int .i64 ((Dh.pend.length : Nat) : Int)) Try.underlying56 rfl rfl) rfl ?_
      refine L.step (R.moveV (v := .int .i64 0) rfl) rfl ?_
      refine L.nil ?_
      refine C.block ?_
      refine C.loop (α := Nat) (fun j => [(8, .pointer (some ⟨r30, 0, none⟩)), (12, .slice a185 Dh.pend.length c186), (13, .pointer (some ⟨r193, 0, none⟩)), (14, .slice (some ⟨gb, 0, none⟩) 6 rc220), (15, .slice (some ⟨ga, 0, none⟩) 6 rc246), (16, .int .i64 ((k : Nat) : Int)), (17, .bool (fineN Dh x y k j)), (98, .int .i64 6), (99, .int .i64 ((k : Nat) : Int)), (112, .int .i64 ((Dh.pend.length : Nat) : Int)), (113, .int .i64 ((j : Nat) : Int))]) (fun j W => j ≤ Dh.pend.length ∧ Kept (fun _ => False) w232 W) (fun j => Dh.pend.length - j) ⟨0, ⟨rfl, rfl, rfl, rfl, rfl, rfl, rfl, rfl, rfl, rfl, rfl, trivial⟩, ⟨Nat.zero_le _, q262⟩⟩ ?_
      intro j g266 w265 hI267
      obtain ⟨hj, hqj⟩ := hI267
      have hq9 := Kept.trans q244 hqj (fun _ _ h => h.elim)
      have hsz9 := (hqj).size
      have hD268 := DiskAt.kept hD234 hqj (fun _ _ h => h)
      have hD269 := DiskAt.kept hD242 hqj (fun _ _ h => h)
      have m270 := Row.kept m237 hqj (fun _ _ h => h)
      have k271 := Kept.old hqj hga (fun h => h)
      have k271l := at_lt _ _ k271
      have k272 := Kept.old hqj hgb (fun h => h)
      have k272l := at_lt _ _ k272
      refine C.seq ?_
      refine C.region ?_
      rcases Classical.em (((j : Nat) : Int) < ((Dh.pend.length : Nat) : Int)) with ht273 | ht273
      ·
        refine L.step (R.lssT rfl rfl (ht273)) rfl ?_
        refine L.nil ?_
        refine C.seq ?_
        refine C.condT rfl ?_
        refine C.skip ?_
        refine C.seq ?_
        refine C.block ?_
        refine C.seq ?_
        refine C.region ?_
        refine L.step (R.moveV (v := .int .i64 ((j : Nat) : Int)) rfl) rfl ?_
        refine L.step (R.assignV (v := .int .i64 ((j : Nat) : Int)) rfl) rfl ?_
        refine L.nil ?_
        refine C.seq ?_
        refine C.region ?_
        refine L.step (R.moveV (v := .int .i64 ((j : Nat) : Int)) rfl) rfl ?_
        refine L.step (R.add rfl rfl (by omega)) rfl ?_
        refine L.stepE (R.makeU (l := j + 1) (m := j + 1) e30 z4 rfl rfl (by omega) (by omega) (Nat.le_refl _) (by omega) (by omega)) rfl fun w275 e274 => ?_
        have m277 := Al.row e274 m270
        have k279 := Al.new e274
        have k280 := Al.old e274 k271
        have k281 := Al.old e274 k272
        have z282 := Al.size e274
        have q283 := Al.kept e274 hqj
        have hD284 := DiskAt.kept hD268 (Al.kept e274 (Kept.refl (fun _ => False) _)) (fun _ _ h => h)
        have hD285 := DiskAt.kept hD269 (Al.kept e274 (Kept.refl (fun _ => False) _)) (fun _ _ h => h)
        refine L.step (R.assignV (v := .slice (some ⟨w265.heap.size, 0, none⟩) (j + 1) (j + 1)) rfl) rfl ?_
        refine L.nil ?_
        refine C.seq ?_
        refine C.region ?_
        refine L.step (R.moveV (v := .slice (some ⟨w265.heap.size, 0, none⟩) (j + 1) (j + 1)) rfl) rfl ?_
        refine L.step (R.moveV (v := .int .i64 ((j : Nat) : Int)) rfl) rfl ?_
        refine L.step (R.indexAddrV (m := j) (o2 := j) s30 rfl rfl rfl (by omega) (by omega)) rfl ?_
        refine L.doesE (R.store1 c4 rfl (v := .bool true) rfl rfl k279 (by rw [Nat.blt_eq, List.length_replicate]; omega)) fun w287 e286 => ?_
        have m288 := So.rowE e286 m277 k279 (by decide)
        have k289 := So.old e286 (apartE k280 k279 (by decide)) k280
        have k290 := So.old e286 (apartE k281 k279 (by decide)) k281
        have k291 := So.hit e286 k279
        have z292 := So.size e286
        have q293 := So.kept e286 q283 (fun h => absurd h (by omega))
        have hD294 := DiskAt.kept hD284 (So.kept e286 (Kept.refl (fun k => k = w265.heap.size) _) (fun _ => rfl)) (fun k hk e => by have e9 : k = w265.heap.size := e; have h0_ := bd36 k hk; omega)
        have hD295 := DiskAt.kept hD285 (So.kept e286 (Kept.refl (fun k => k = w265.heap.size) _) (fun _ => rfl)) (fun k hk e => by have e9 : k = w265.heap.size := e; have h0_ := bd199 k hk; omega)
        refine L.nil ?_
        refine C.seq ?_
        refine C.region ?_
        refine L.step (R.moveV (v := .pointer (some ⟨r193, 0, none⟩)) rfl) rfl ?_
        refine L.call (E.call1 hb32) rfl (copy_calls hD295 (by omega) (by omega)) ?_
        rintro _ w297 ⟨r296, rfl, ge300, hD299, hk298⟩
        obtain ⟨F301, eF301⟩ : ∃ G, G = grow (fun _ => False) w287 w297 := ⟨_, rfl⟩
        rw [← eF301] at hD299
        have bd302 : ∀ k, F301 k → w287.heap.size ≤ k ∧ k < w297.heap.size := fun k hk => by rw [eF301] at hk; exact hk.elim (fun h => h.elim) (fun h => h)
        have k303 := Kept.old hk298 k289 (fun h => h)
        have k304 := Kept.old hk298 k290 (fun h => h)
        have k305 := Kept.old hk298 k291 (fun h => h)
        have z306 := (hk298).size
        have q307 := Kept.trans q293 hk298 (fun _ _ h => h.elim)
        have hD308 := DiskAt.kept hD294 hk298 (fun _ _ h => h)
        have hD309 := DiskAt.kept hD295 hk298 (fun _ _ h => h)
        have m310 := Row.kept m288 hk298 (fun _ _ h => h)
        refine L.step (R.assignV (v := .pointer (some ⟨r296, 0, none⟩)) rfl) rfl ?_
        refine L.nil ?_
        refine C.seq ?_
        refine C.region ?_
        refine L.step (R.moveV (v := .pointer (some ⟨r296, 0, none⟩)) rfl) rfl ?_
        refine L.step (R.moveV (v := .slice (some ⟨w265.heap.size, 0, none⟩) (j + 1) (j + 1)) rfl) rfl ?_
        refine L.call (E.call2 hb29) rfl (crash_calls hD299 (bools_only (c := j + 1) k305) (fun k hk e => by have e9 : k = w265.heap.size := e; have h0_ := bd302 k hk; omega) (fun k hk => by have h0_ := bd302 k hk; omega) (by omega)) ?_
        rintro _ w311 ⟨rfl, hD313, hk312⟩
        have k314 := Kept.old hk312 k303 (fun hF => by have h0_ := bd302 _ hF; omega)
        have k315 := Kept.old hk312 k304 (fun hF => by have h0_ := bd302 _ hF; omega)
        have k316 := Kept.old hk312 k305 (fun hF => by have h0_ := bd302 _ hF; omega)
        have m317 := Row.kept m310 hk312 (fun k hG hF => by have h0_ := bd302 k hF; have hg9 := hG.elim (fun h => h.elim) (fun h => h); omega)
        have hD318 := DiskAt.kept hD308 hk312 (fun k hk1 hk2 => by have h1_ := bd36 k hk1; have h2_ := bd302 k hk2; omega)
        have hD319 := DiskAt.kept hD309 hk312 (fun k hk1 hk2 => by have h1_ := bd199 k hk1; have h2_ := bd302 k hk2; omega)
        have z320 := hk312.size
        have q321 : Kept (fun _ => False) w232 w311 := Kept.trans q307 hk312 (fun k hlt9 hk9 => by have h0_ := bd302 k hk9; omega)
        refine L.nil ?_
        refine C.seq ?_
        refine C.region ?_
        refine L.step (R.moveV (v := .pointer (some ⟨r296, 0, none⟩)) rfl) rfl ?_
        refine L.step (R.moveV (v := .int .i64 ((k : Nat) : Int)) rfl) rfl ?_
        have hone64 := read_length hD313.ok (i := (k : Int))
        refine L.call (E.call2 hb22) rfl (read_calls hD313 (by show Dh.ops ≤ 1000000; omega) (by show ([] : List (Nat × Blk)).length ≤ 1000000; decide) (i := (k : Int))) ?_
        rintro _ w322 ⟨rfl, hD324, hk323⟩
        simp only [bval]
        have k325 := Kept.old hk323 k314 (fun hF => by have h0_ := bd302 _ hF; omega)
        have k326 := Kept.old hk323 k315 (fun hF => by have h0_ := bd302 _ hF; omega)
        have m327 := Row.kept m317 hk323 (fun k hG hF => by have h0_ := bd302 k hF; have hg9 := hG.elim (fun h => h.elim) (fun h => h); omega)
        have hD328 := DiskAt.kept hD318 hk323 (fun k hk1 hk2 => by have h1_ := bd36 k hk1; have h2_ := bd302 k hk2; omega)
        have hD329 := DiskAt.kept hD319 hk323 (fun k hk1 hk2 => by have h1_ := bd199 k hk1; have h2_ := bd302 k hk2; omega)
        have z330 := hk323.size
        have q331 : Kept (fun _ => False) w232 w322 := Kept.trans q321 hk323 (fun k hlt9 hk9 => by have h0_ := bd302 k hk9; omega)
        refine L.step (R.moveV (v := .tuple #[.agg (List.toArray (bcells ((Dh.crash fun k => (onlyN j).getD k false).read (k : Int)).2.1)), .int .i64 (((Dh.crash fun k => (onlyN j).getD k false).read (k : Int)).2.2)]) rfl) rfl ?_
        refine L.step (R.extract (v := .agg (List.toArray (bcells ((Dh.crash fun k => (onlyN j).getD k false).read (k : Int)).2.1))) rfl rfl) rfl ?_
        refine L.step (R.extract (v := .int .i64 (((Dh.crash fun k => (onlyN j).getD k false).read (k : Int)).2.2)) rfl rfl) rfl ?_
        refine L.stepE (R.alloc z27) rfl fun w333 e332 => ?_
        have m334 := Al.row e332 m327
        have k336 := Al.new e332
        have k337 := Al.old e332 k325
        have k338 := Al.old e332 k326
        have z339 := Al.size e332
        have q340 := Al.kept e332 q331
        have hD341 := DiskAt.kept hD328 (Al.kept e332 (Kept.refl (fun _ => False) _)) (fun _ _ h => h)
        have hD342 := DiskAt.kept hD329 (Al.kept e332 (Kept.refl (fun _ => False) _)) (fun _ _ h => h)
        refine L.doesE (R.storeAll (cs := bcells ((Dh.crash fun k => (onlyN j).getD k false).read (k : Int)).2.1) r27 rfl rfl (bcells64 hone64) (one_bcells _) k336 (List.length_replicate)) fun w344 e343 => ?_
        have m345 := So.rowE e343 m334 k336 (by decide)
        have k346 := So.old e343 (by omega) k337
        have k347 := So.old e343 (by omega) k338
        have k348 := So.hit e343 k336
        have z349 := So.size e343
        have q350 := So.kept e343 q340 (fun h => absurd h (by omega))
        have hD351 := DiskAt.kept hD341 (So.kept e343 (Kept.refl (fun k => k = w322.heap.size) _) (fun _ => rfl)) (fun k hk e => by have e9 : k = w322.heap.size := e; have h0_ := bd36 k hk; omega)
        have hD352 := DiskAt.kept hD342 (So.kept e343 (Kept.refl (fun k => k = w322.heap.size) _) (fun _ => rfl)) (fun k hk e => by have e9 : k = w322.heap.size := e; have h0_ := bd199 k hk; omega)
        refine L.step (R.assignV (v := .int .i64 (((Dh.crash fun k => (onlyN j).getD k false).read (k : Int)).2.2)) rfl) rfl ?_
        refine L.nil ?_
        obtain ⟨gp, lp, rfl, hFp, hgp, hnp, hcp, hlp, htp⟩ := Row.blockA m345 (by omega)
        obtain ⟨p, hp⟩ : ∃ p, Dh.pend[j]? = some p := ⟨_, List.getElem?_eq_getElem (by omega)⟩
        rcases Bool.eq_false_or_eq_true (fineN Dh x y k j) with hfn | hfn
        ·
          rw [hfn]
          refine C.drawE (fun W : World => W.heap[ga]? = some (blk (la) 27) ∧ W.heap[gp]? = some (blk (lp) 3) ∧ W.heap[w322.heap.size]? = some (blk (bcells ((Dh.crash fun k => (onlyN j).getD k false).read (k : Int)).2.1) 27)) (fun _ => true) mixed fun w353 e354 => ?_
          have k355 := Dr.old e354 k346
          have k356 := Dr.old e354 k347
          have k357 := Dr.old e354 k348
          have k358 := Dr.old e354 hgp
          have z359 := Dr.size e354
          have q360 := Dr.kept e354 q350
          have hD361 := DiskAt.kept hD351 (Dr.kept e354 (Kept.refl (fun _ => False) _)) (fun _ _ h => h)
          have hD362 := DiskAt.kept hD352 (Dr.kept e354 (Kept.refl (fun _ => False) _)) (fun _ _ h => h)
          refine AH.take 0 rfl (by kernel_rfl) (by kernel_rfl) (by kernel_rfl) (by kernel_rfl) (fun _ _ _ h => h) rfl trivial (fun _ hS => (R.moveV (v := .bool true) rfl)) (⟨k355, k358, k357⟩) ?_
          refine AH.take 1 rfl (by kernel_rfl) (by kernel_rfl) (by kernel_rfl) (by kernel_rfl) (fun _ _ _ h => h) rfl trivial (fun _ hS => (R.moveV (v := .bool true) rfl)) (⟨k355, k358, k357⟩) ?_
          refine AH.pass 2 rfl (by kernel_rfl) (by kernel_rfl) (by kernel_rfl) (by kernel_rfl) (fun _ _ _ h => h) rfl ⟨_, rfl, rfl, (.inl rfl)⟩ (⟨k355, k358, k357⟩) ?_
          refine AH.pass 3 rfl (by kernel_rfl) (by kernel_rfl) (by kernel_rfl) (by kernel_rfl) (fun _ _ _ h => h) rfl ⟨_, rfl, rfl, (.inl rfl)⟩ (⟨k355, k358, k357⟩) ?_
          refine AH.pass 4 rfl (by kernel_rfl) (by kernel_rfl) (by kernel_rfl) (by kernel_rfl) (fun _ _ _ h => h) rfl ⟨_, rfl, rfl, (.inl rfl)⟩ (⟨k355, k358, k357⟩) ?_
          refine AH.pass 5 rfl (by kernel_rfl) (by kernel_rfl) (by kernel_rfl) (by kernel_rfl) (fun _ _ _ h => h) rfl ⟨_, rfl, rfl, (.inl rfl)⟩ (⟨k355, k358, k357⟩) ?_
          refine AH.pass 6 rfl (by kernel_rfl) (by kernel_rfl) (by kernel_rfl) (by kernel_rfl) (fun _ _ _ h => h) rfl ⟨_, rfl, rfl, (.inl rfl)⟩ (⟨k355, k358, k357⟩) ?_
          refine AH.pass 7 rfl (by kernel_rfl) (by kernel_rfl) (by kernel_rfl) (by kernel_rfl) (fun _ _ _ h => h) rfl ⟨_, rfl, rfl, (.inl rfl)⟩ (⟨k355, k358, k357⟩) ?_
          refine AH.pass 8 rfl (by kernel_rfl) (by kernel_rfl) (by kernel_rfl) (by kernel_rfl) (fun _ _ _ h => h) rfl ⟨_, rfl, rfl, (.inl rfl)⟩ (⟨k355, k358, k357⟩) ?_
          refine AH.pass 9 rfl (by kernel_rfl) (by kernel_rfl) (by kernel_rfl) (by kernel_rfl) (fun _ _ _ h => h) rfl ⟨_, rfl, rfl, (.inr rfl)⟩ (⟨k355, k358, k357⟩) ?_
          refine AH.pass 10 rfl (by kernel_rfl) (by kernel_rfl) (by kernel_rfl) (by kernel_rfl) (fun _ _ _ h => h) rfl ⟨_, rfl, rfl, (.inr rfl)⟩ (⟨k355, k358, k357⟩) ?_
          refine AH.pass 11 rfl (by kernel_rfl) (by kernel_rfl) (by kernel_rfl) (by kernel_rfl) (fun _ _ _ h => h) rfl ⟨_, rfl, rfl, (.inr rfl)⟩ (⟨k355, k358, k357⟩) ?_
          refine AH.pass 12 rfl (by kernel_rfl) (by kernel_rfl) (by kernel_rfl) (by kernel_rfl) (fun _ _ _ h => h) rfl ⟨_, rfl, rfl, (.inr rfl)⟩ (⟨k355, k358, k357⟩) ?_
          refine AH.pass 13 rfl (by kernel_rfl) (by kernel_rfl) (by kernel_rfl) (by kernel_rfl) (fun _ _ _ h => h) rfl ⟨_, rfl, rfl, (.inr rfl)⟩ (⟨k355, k358, k357⟩) ?_
          refine AH.pass 14 rfl (by kernel_rfl) (by kernel_rfl) (by kernel_rfl) (by kernel_rfl) (fun _ _ _ h => h) rfl ⟨_, rfl, rfl, (.inr rfl)⟩ (⟨k355, k358, k357⟩) ?_
          refine AH.pass 15 rfl (by kernel_rfl) (by kernel_rfl) (by kernel_rfl) (by kernel_rfl) (fun _ _ _ h => h) rfl ⟨_, rfl, rfl, (.inl rfl)⟩ (⟨k355, k358, k357⟩) ?_
          refine AH.take 16 rfl (by kernel_rfl) (by kernel_rfl) (by kernel_rfl) (by kernel_rfl) (fun _ _ _ h => h) rfl trivial (fun _ hS => (R.pickTV (v := .bool true) rfl rfl)) (⟨k355, k358, k357⟩) ?_
          refine AH.take 17 rfl (by kernel_rfl) (by kernel_rfl) (by kernel_rfl) (by kernel_rfl) (fun _ _ _ h => h) rfl trivial (fun _ hS => (R.assignV (v := .bool (fineN Dh x y k (j + 1))) (by show Value.bool true = _; rw [fineN_succ hp, hfn, Bool.true_or]))) (⟨k355, k358, k357⟩) ?_
          refine AH.done (by kernel_rfl) ?_
          refine C.region ?_
          refine L.step (R.add rfl rfl (by omega)) rfl ?_
          refine L.step (R.moveV (v := .int .i64 (((j : Nat) : Int) + 1)) rfl) rfl ?_
          refine L.nil ?_
          refine thenP.mk ⟨j + 1, ⟨rfl, rfl, rfl, rfl, rfl, rfl, rfl, rfl, rfl, rfl, rfl, trivial⟩, ⟨by show j + 1 ≤ _; omega, q360⟩, by show Dh.pend.length - (j + 1) < Dh.pend.length - j; omega⟩
        ·
          rw [hfn]
          rcases Classical.em ((p.1 : Int) = (k : Int)) with hpk | hpk
          ·
            refine C.drawE (fun W : World => W.heap[ga]? = some (blk (la) 27) ∧ W.heap[gp]? = some (blk (lp) 3) ∧ W.heap[w322.heap.size]? = some (blk (bcells ((Dh.crash fun k => (onlyN j).getD k false).read (k : Int)).2.1) 27)) (fun _ => true) mixed fun w363 e364 => ?_
            have k365 := Dr.old e364 k346
            have k366 := Dr.old e364 k347
            have k367 := Dr.old e364 k348
            have k368 := Dr.old e364 hgp
            have z369 := Dr.size e364
            have q370 := Dr.kept e364 q350
            have hD371 := DiskAt.kept hD351 (Dr.kept e364 (Kept.refl (fun _ => False) _)) (fun _ _ h => h)
            have hD372 := DiskAt.kept hD352 (Dr.kept e364 (Kept.refl (fun _ => False) _)) (fun _ _ h => h)
            refine AH.take 0 rfl (by kernel_rfl) (by kernel_rfl) (by kernel_rfl) (by kernel_rfl) (fun _ _ _ h => h) rfl trivial (fun _ hS => (R.moveV (v := .bool false) rfl)) (⟨k365, k368, k367⟩) ?_
            refine AH.take 1 rfl (by kernel_rfl) (by kernel_rfl) (by kernel_rfl) (by kernel_rfl) (fun _ _ _ h => h) rfl trivial (fun _ hS => (R.moveV (v := .bool false) rfl)) (⟨k365, k368, k367⟩) ?_
            refine AH.take 2 rfl (by kernel_rfl) (by kernel_rfl) (by kernel_rfl) (by kernel_rfl) (fun _ _ _ h => h) rfl ⟨_, rfl, rfl, rfl⟩ (fun _ hS => (R.moveV (v := .slice (some ⟨gp, 0, none⟩) Dh.pend.length c186) rfl)) (⟨k365, k368, k367⟩) ?_
            refine AH.take 3 rfl (by kernel_rfl) (by kernel_rfl) (by kernel_rfl) (by kernel_rfl) (fun _ _ _ h => h) rfl ⟨_, rfl, rfl, rfl⟩ (fun _ hS => (R.moveV (v := .int .i64 ((j : Nat) : Int)) rfl)) (⟨k365, k368, k367⟩) ?_
            refine AH.take 4 rfl (by kernel_rfl) (by kernel_rfl) (by kernel_rfl) (by kernel_rfl) (fun _ _ _ h => h) rfl ⟨_, rfl, rfl, rfl⟩ (fun _ hS => (R.indexAddrV (m := j) (o2 := j * 1) s56 rfl rfl rfl (by omega) (by omega))) (⟨k365, k368, k367⟩) ?_
            refine AH.take 5 rfl (by kernel_rfl) (by kernel_rfl) (by kernel_rfl) (by kernel_rfl) (fun _ _ _ h => h) rfl ⟨_, rfl, rfl, rfl⟩ (fun _ hS => (R.load1 (v := .int .i64 (p.1 : Int)) c3 rfl hS.2.1 (pcell htp hp (by omega)))) (⟨k365, k368, k367⟩) ?_
            refine AH.take 6 rfl (by kernel_rfl) (by kernel_rfl) (by kernel_rfl) (by kernel_rfl) (fun _ _ _ h => h) rfl ⟨_, rfl, rfl, rfl⟩ (fun _ hS => (R.moveV (v := .int .i64 ((k : Nat) : Int)) rfl)) (⟨k365, k368, k367⟩) ?_
            refine AH.take 7 rfl (by kernel_rfl) (by kernel_rfl) (by kernel_rfl) (by kernel_rfl) (fun _ _ _ h => h) rfl ⟨_, rfl, rfl, rfl⟩ (fun _ hS => (R.eqlT rfl rfl (hpk))) (⟨k365, k368, k367⟩) ?_
            refine AH.take 8 rfl (by kernel_rfl) (by kernel_rfl) (by kernel_rfl) (by kernel_rfl) (fun _ _ _ h => h) rfl ⟨_, rfl, rfl, rfl⟩ (fun _ hS => (R.moveV (v := .bool true) rfl)) (⟨k365, k368, k367⟩) ?_
            refine AH.take 9 rfl (by kernel_rfl) (by kernel_rfl) (by kernel_rfl) (by kernel_rfl) (fun _ _ _ h => h) rfl ⟨_, rfl, rfl, rfl⟩ (fun _ hS => (R.moveV (v := .slice (some ⟨ga, 0, none⟩) 6 rc246) rfl)) (⟨k365, k368, k367⟩) ?_
            refine AH.take 10 rfl (by kernel_rfl) (by kernel_rfl) (by kernel_rfl) (by kernel_rfl) (fun _ _ _ h => h) rfl ⟨_, rfl, rfl, rfl⟩ (fun _ hS => (R.moveV (v := .int .i64 ((k : Nat) : Int)) rfl)) (⟨k365, k368, k367⟩) ?_
            refine AH.take 11 rfl (by kernel_rfl) (by kernel_rfl) (by kernel_rfl) (by kernel_rfl) (fun _ _ _ h => h) rfl ⟨_, rfl, rfl, rfl⟩ (fun _ hS => (R.indexAddrV (m := k) (o2 := k * 64) s35 rfl rfl rfl (by omega) (by omega))) (⟨k365, k368, k367⟩) ?_
            refine AH.take 12 rfl (by kernel_rfl) (by kernel_rfl) (by kernel_rfl) (by kernel_rfl) (fun _ _ _ h => h) rfl ⟨_, rfl, rfl, rfl⟩ (fun _ hS => (R.loadA (cs := bcells x) r27 rfl hS.1 (part_get hXa (by simp) hta hx) (bcells64 hx64))) (⟨k365, k368, k367⟩) ?_
            refine AH.take 13 rfl (by kernel_rfl) (by kernel_rfl) (by kernel_rfl) (by kernel_rfl) (fun _ _ _ h => h) rfl ⟨_, rfl, rfl, rfl⟩ (fun _ hS => (R.loadA (cs := bcells ((Dh.crash fun k => (onlyN j).getD k false).read (k : Int)).2.1) r27 rfl hS.2.2 (List.take_of_length_le (Nat.le_of_eq (bcells64 hone64))) (bcells64 hone64))) (⟨k365, k368, k367⟩) ?_
            refine AH.take 14 rfl (by kernel_rfl) (by kernel_rfl) (by kernel_rfl) (by kernel_rfl) (fun _ _ _ h => h) rfl ⟨_, rfl, rfl, rfl⟩ (fun _ hS => (R.eqlAV (A := x) (B := ((Dh.crash fun k => (onlyN j).getD k false).read (k : Int)).2.1) (b := decide (x = ((Dh.crash fun k => (onlyN j).getD k false).read (k : Int)).2.1)) Try.underlying27 Try.underlying5 n5 gd27 rfl rfl hx64 hone64 rfl)) (⟨k365, k368, k367⟩) ?_
            refine AH.take 15 rfl (by kernel_rfl) (by kernel_rfl) (by kernel_rfl) (by kernel_rfl) (fun _ _ _ h => h) rfl ⟨_, rfl, rfl, rfl⟩ (fun _ hS => (R.pickTV (v := .bool (decide (x = ((Dh.crash fun k => (onlyN j).getD k false).read (k : Int)).2.1))) rfl rfl)) (⟨k365, k368, k367⟩) ?_
            refine AH.take 16 rfl (by kernel_rfl) (by kernel_rfl) (by kernel_rfl) (by kernel_rfl) (fun _ _ _ h => h) rfl trivial (fun _ hS => (R.pickFV (v := .bool (decide (x = ((Dh.crash fun k => (onlyN j).getD k false).read (k : Int)).2.1))) rfl rfl)) (⟨k365, k368, k367⟩) ?_
            refine AH.take 17 rfl (by kernel_rfl) (by kernel_rfl) (by kernel_rfl) (by kernel_rfl) (fun _ _ _ h => h) rfl trivial (fun _ hS => (R.assignV (v := .bool (fineN Dh x y k (j + 1))) (by show Value.bool (decide (x = ((Dh.crash fun k => (onlyN j).getD k false).read (k : Int)).2.1)) = _; rw [fineN_succ hp, hfn, Bool.false_or, decide_eq_true hpk, Bool.true_and]))) (⟨k365, k368, k367⟩) ?_
            refine AH.done (by kernel_rfl) ?_
            refine C.region ?_
            refine L.step (R.add rfl rfl (by omega)) rfl ?_
            refine L.step (R.moveV (v := .int .i64 (((j : Nat) : Int) + 1)) rfl) rfl ?_
            refine L.nil ?_
            refine thenP.mk ⟨j + 1, ⟨rfl, rfl, rfl, rfl, rfl, rfl, rfl, rfl, rfl, rfl, rfl, trivial⟩, ⟨by show j + 1 ≤ _; omega, q370⟩, by show Dh.pend.length - (j + 1) < Dh.pend.length - j; omega⟩
          ·
            refine C.drawE (fun W : World => W.heap[ga]? = some (blk (la) 27) ∧ W.heap[gp]? = some (blk (lp) 3) ∧ W.heap[w322.heap.size]? = some (blk (bcells ((Dh.crash fun k => (onlyN j).getD k false).read (k : Int)).2.1) 27)) (fun _ => true) mixed fun w373 e374 => ?_
            have k375 := Dr.old e374 k346
            have k376 := Dr.old e374 k347
            have k377 := Dr.old e374 k348
            have k378 := Dr.old e374 hgp
            have z379 := Dr.size e374
            have q380 := Dr.kept e374 q350
            have hD381 := DiskAt.kept hD351 (Dr.kept e374 (Kept.refl (fun _ => False) _)) (fun _ _ h => h)
            have hD382 := DiskAt.kept hD352 (Dr.kept e374 (Kept.refl (fun _ => False) _)) (fun _ _ h => h)
            refine AH.take 0 rfl (by kernel_rfl) (by kernel_rfl) (by kernel_rfl) (by kernel_rfl) (fun _ _ _ h => h) rfl trivial (fun _ hS => (R.moveV (v := .bool false) rfl)) (⟨k375, k378, k377⟩) ?_
            refine AH.take 1 rfl (by kernel_rfl) (by kernel_rfl) (by kernel_rfl) (by kernel_rfl) (fun _ _ _ h => h) rfl trivial (fun _ hS => (R.moveV (v := .bool false) rfl)) (⟨k375, k378, k377⟩) ?_
            refine AH.take 2 rfl (by kernel_rfl) (by kernel_rfl) (by kernel_rfl) (by kernel_rfl) (fun _ _ _ h => h) rfl ⟨_, rfl, rfl, rfl⟩ (fun _ hS => (R.moveV (v := .slice (some ⟨gp, 0, none⟩) Dh.pend.length c186) rfl)) (⟨k375, k378, k377⟩) ?_
            refine AH.take 3 rfl (by kernel_rfl) (by kernel_rfl) (by kernel_rfl) (by kernel_rfl) (fun _ _ _ h => h) rfl ⟨_, rfl, rfl, rfl⟩ (fun _ hS => (R.moveV (v := .int .i64 ((j : Nat) : Int)) rfl)) (⟨k375, k378, k377⟩) ?_
            refine AH.take 4 rfl (by kernel_rfl) (by kernel_rfl) (by kernel_rfl) (by kernel_rfl) (fun _ _ _ h => h) rfl ⟨_, rfl, rfl, rfl⟩ (fun _ hS => (R.indexAddrV (m := j) (o2 := j * 1) s56 rfl rfl rfl (by omega) (by omega))) (⟨k375, k378, k377⟩) ?_
            refine AH.take 5 rfl (by kernel_rfl) (by kernel_rfl) (by kernel_rfl) (by kernel_rfl) (fun _ _ _ h => h) rfl ⟨_, rfl, rfl, rfl⟩ (fun _ hS => (R.load1 (v := .int .i64 (p.1 : Int)) c3 rfl hS.2.1 (pcell htp hp (by omega)))) (⟨k375, k378, k377⟩) ?_
            refine AH.take 6 rfl (by kernel_rfl) (by kernel_rfl) (by kernel_rfl) (by kernel_rfl) (fun _ _ _ h => h) rfl ⟨_, rfl, rfl, rfl⟩ (fun _ hS => (R.moveV (v := .int .i64 ((k : Nat) : Int)) rfl)) (⟨k375, k378, k377⟩) ?_
            refine AH.take 7 rfl (by kernel_rfl) (by kernel_rfl) (by kernel_rfl) (by kernel_rfl) (fun _ _ _ h => h) rfl ⟨_, rfl, rfl, rfl⟩ (fun _ hS => (R.eqlF rfl rfl (hpk))) (⟨k375, k378, k377⟩) ?_
            refine AH.take 8 rfl (by kernel_rfl) (by kernel_rfl) (by kernel_rfl) (by kernel_rfl) (fun _ _ _ h => h) rfl ⟨_, rfl, rfl, rfl⟩ (fun _ hS => (R.moveV (v := .bool false) rfl)) (⟨k375, k378, k377⟩) ?_
            refine AH.pass 9 rfl (by kernel_rfl) (by kernel_rfl) (by kernel_rfl) (by kernel_rfl) (fun _ _ _ h => h) rfl ⟨_, rfl, rfl, (.inl rfl)⟩ (⟨k375, k378, k377⟩) ?_
            refine AH.pass 10 rfl (by kernel_rfl) (by kernel_rfl) (by kernel_rfl) (by kernel_rfl) (fun _ _ _ h => h) rfl ⟨_, rfl, rfl, (.inl rfl)⟩ (⟨k375, k378, k377⟩) ?_
            refine AH.pass 11 rfl (by kernel_rfl) (by kernel_rfl) (by kernel_rfl) (by kernel_rfl) (fun _ _ _ h => h) rfl ⟨_, rfl, rfl, (.inl rfl)⟩ (⟨k375, k378, k377⟩) ?_
            refine AH.pass 12 rfl (by kernel_rfl) (by kernel_rfl) (by kernel_rfl) (by kernel_rfl) (fun _ _ _ h => h) rfl ⟨_, rfl, rfl, (.inl rfl)⟩ (⟨k375, k378, k377⟩) ?_
            refine AH.pass 13 rfl (by kernel_rfl) (by kernel_rfl) (by kernel_rfl) (by kernel_rfl) (fun _ _ _ h => h) rfl ⟨_, rfl, rfl, (.inl rfl)⟩ (⟨k375, k378, k377⟩) ?_
            refine AH.pass 14 rfl (by kernel_rfl) (by kernel_rfl) (by kernel_rfl) (by kernel_rfl) (fun _ _ _ h => h) rfl ⟨_, rfl, rfl, (.inl rfl)⟩ (⟨k375, k378, k377⟩) ?_
            refine AH.take 15 rfl (by kernel_rfl) (by kernel_rfl) (by kernel_rfl) (by kernel_rfl) (fun _ _ _ h => h) rfl ⟨_, rfl, rfl, rfl⟩ (fun _ hS => (R.pickFV (v := .bool false) rfl rfl)) (⟨k375, k378, k377⟩) ?_
            refine AH.take 16 rfl (by kernel_rfl) (by kernel_rfl) (by kernel_rfl) (by kernel_rfl) (fun _ _ _ h => h) rfl trivial (fun _ hS => (R.pickFV (v := .bool false) rfl rfl)) (⟨k375, k378, k377⟩) ?_
            refine AH.take 17 rfl (by kernel_rfl) (by kernel_rfl) (by kernel_rfl) (by kernel_rfl) (fun _ _ _ h => h) rfl trivial (fun _ hS => (R.assignV (v := .bool (fineN Dh x y k (j + 1))) (by show Value.bool false = _; rw [fineN_succ hp, hfn, Bool.false_or, decide_eq_false hpk, Bool.false_and]))) (⟨k375, k378, k377⟩) ?_
            refine AH.done (by kernel_rfl) ?_
            refine C.region ?_
            refine L.step (R.add rfl rfl (by omega)) rfl ?_
            refine L.step (R.moveV (v := .int .i64 (((j : Nat) : Int) + 1)) rfl) rfl ?_
            refine L.nil ?_
            refine thenP.mk ⟨j + 1, ⟨rfl, rfl, rfl, rfl, rfl, rfl, rfl, rfl, rfl, rfl, rfl, trivial⟩, ⟨by show j + 1 ≤ _; omega, q380⟩, by show Dh.pend.length - (j + 1) < Dh.pend.length - j; omega⟩
      ·
        refine L.step (R.lssF rfl rfl (Int.not_lt.1 ht273)) rfl ?_
        refine L.nil ?_
        refine C.seq ?_
        refine C.condF rfl ?_
        refine C.exit ?_
        refine C.seq ?_
        refine C.region ?_
        have hfa := safe_fine hEp hEs hk6 (fun k => ks.getD k false)
        rw [← hxe, ← hye] at hfa
        refine L.step (R.moveV (v := .bool true) (by show Value.bool (fineN Dh x y k j) = _; rw [show j = Dh.pend.length by omega, hfa])) rfl ?_
        refine L.step (R.notV (v := .bool false) rfl rfl) rfl ?_
        refine L.nil ?_
        refine C.condF rfl ?_
        refine C.skip ?_
        refine C.region ?_
        refine L.step (R.add rfl rfl (by omega)) rfl ?_
        refine L.step (R.moveV (v := .int .i64 (((k : Nat) : Int) + 1)) rfl) rfl ?_
        refine L.nil ?_
        refine thenP.mk ⟨k + 1, ⟨rfl, rfl, rfl, rfl, rfl, rfl, rfl, trivial⟩, ⟨by show k + 1 ≤ 6; omega, hqj⟩, by show 6 - (k + 1) < 6 - k; omega⟩
    ·
      refine L.step (R.lssF rfl rfl (Int.not_lt.1 ht255)) rfl ?_
      refine L.nil ?_
      refine C.seq ?_
      refine C.condF rfl ?_
      refine C.exit ?_
      refine C.seq ?_
      refine C.region ?_
      refine L.step (R.moveV (v := .pointer (some ⟨r30, 0, none⟩)) rfl) rfl ?_
      refine L.call (E.call1 hb28) rfl (pending_calls hD250 (by rw [hSp.2.2.1]; show ([] : List (Nat × Blk)).length ≤ _; decide)) ?_
      rintro v385 w383 ⟨hr386, hk384⟩
      obtain ⟨a387, c388, rfl, _⟩ := hr386.shape
      have k389 := Kept.old hk384 k253 (fun h => h)
      have k390 := Kept.old hk384 k254 (fun h => h)
      have z391 := (hk384).size
      have q392 := Kept.trans hqk hk384 (fun _ _ h => h.elim)
      have hD393 := DiskAt.kept hD250 hk384 (fun _ _ h => h)
      have hD394 := DiskAt.kept hD251 hk384 (fun _ _ h => h)
      have m395 := Row.kept m252 hk384 (fun _ _ h => h)
      refine L.step (R.lenV (v := .int .i64 ((S.pend.length : Nat) : Int)) Try.underlying56 rfl rfl) rfl ?_
      refine L.step (R.eqlT rfl rfl (by rw [hSp.2.2.1]; rfl)) rfl ?_
      refine L.step (R.moveV (v := .bool true) rfl) rfl ?_
      refine L.yes rfl rfl rfl ?_
      refine L.step (R.moveV (v := .pointer (some ⟨r30, 0, none⟩)) rfl) rfl ?_
      refine L.yes rfl rfl rfl ?_
      refine L.call (E.call1 hb25) rfl (dead_disk hD393) ?_
      rintro _ w396 ⟨rfl, ew⟩
      obtain rfl := ew.symm
      rw [hSp.1.dead]
      refine L.yes rfl rfl rfl ?_
      refine L.step (R.notV (v := .bool true) rfl rfl) rfl ?_
      refine L.step (R.pickTV (v := .bool true) rfl rfl) rfl ?_
      refine L.step (R.assignV (v := .bool true) rfl) rfl ?_
      refine L.nil ?_
      refine C.ret (?_ : RetOk _ _ _ _ _)
      refine RetOk.tV (v := .bool true) rfl rfl ?_
      exact ⟨rfl, Kept.trans q244 q392 (fun _ _ h => h.elim)⟩
end Go.Proofs.Ytpblppilknkdoaa
