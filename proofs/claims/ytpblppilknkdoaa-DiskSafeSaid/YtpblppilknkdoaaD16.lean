/- DiskLast: the walk. -/
import Derived.Test.YtpblppilknkdoaaD15
import Derived.Test.YtpblppilknkdoaaLaw
namespace Go.Proofs.Ytpblppilknkdoaa
open Go Go.Eng Go.Proofs
attribute [local irreducible] Go.Eng.C Go.Eng.L Go.Eng.Ret Go.Eng.Run Go.Eng.Does Go.Eng.Enters Go.Eng.AH Go.Eng.AO Go.Eng.RetOk
set_option maxHeartbeats 2000000 in
theorem last_calls {w : World} {lv : Value} {l : List OpV} {N : Nat} (h : OpsAt w lv l N) (hN : N ≤ w.heap.size) (hbig : l.length ≤ 9223372036854775807) :
    Ret Try.prog 3 #[lv] w fun v w' => v = .bool true ∧ Kept (fun _ => False) w w' := by
  obtain ⟨a, c, rfl, hc⟩ := h.shape
  obtain ⟨m, hm⟩ : ∃ m, m = l.take 120 := ⟨_, rfl⟩
  have hml : m.length ≤ 120 := by rw [hm, List.length_take]; omega
  have hops := h.first rfl
  rw [← hm] at hops
  have hq := Kept.refl (fun _ => False) w
  have hwp := worn_plain m m.length (Nat.le_refl _)
  rw [List.take_length] at hwp
  have hwf : PD.Few (PD.new 6) _ _ := PD.runW_few (D := PD.new 6) (l := m) m.length (Nat.le_refl _)
  rw [List.take_length] at hwf
  have hf1 := hwf.ops
  have hf2 := hwf.pend
  have hf3 : (PD.new 6).ops = 0 := rfl
  have hf4 : (PD.new 6).pend.length = 0 := rfl
  have hallL : ∀ k, ∀ b ∈ lastN m k, (bcells b).length = 64 := fun k b hb => bcells64 (all_lastN m k b hb)
  have hfl : ((lastN m m.length).flatMap bcells).length = 6 * 64 := by rw [flat_length (hallL _), length_lastN]
  have hl28 : ((lastN m m.length).flatMap bcells).take (6 * 64) = (lastN m m.length).flatMap bcells := List.take_of_length_le (Nat.le_of_eq hfl)
  refine Ret.intro [.slice a l.length c] Try.func3 rfl rfl ?_
  refine C.seq ?_
  refine C.region ?_
  refine L.step (R.assignV (v := .bool false) rfl) rfl ?_
  refine L.nil ?_
  refine C.seq ?_
  refine C.seq ?_
  refine C.region ?_
  refine L.call (E.call0 hb10) rfl wakes_calls ?_
  rintro _ w1 ⟨rfl, hk2⟩
  have z3 := (hk2).size
  have q4 := Kept.trans hq hk2 (fun _ _ h => h.elim)
  refine L.step (R.notV (v := .bool false) rfl rfl) rfl ?_
  refine L.nil ?_
  refine C.condF rfl ?_
  refine C.skip ?_
  refine C.seq ?_
  refine C.region ?_
  refine L.step (R.moveV (v := .slice a l.length c) rfl) rfl ?_
  have hsw := (q4).size
  refine L.call (E.call1 hb11) rfl (worn_calls (h.kept q4 (fun k hk h => h)) (by omega) hbig) ?_
  rintro _ w5 ⟨r, F, rfl, hD, hlt, hkw⟩
  rw [← hm] at hD
  have z6 := (hkw).size
  have q7 := Kept.trans q4 hkw (fun _ _ h => h.elim)
  have hltD : ∀ k, F k → k < w5.heap.size := fun k hk => (hlt k hk).2
  refine L.step (R.assignV (v := .pointer (some ⟨r, 0, none⟩)) rfl) rfl ?_
  refine L.nil ?_
  refine C.seq ?_
  refine C.seq ?_
  refine C.region ?_
  refine L.step (R.moveV (v := .pointer (some ⟨r, 0, none⟩)) rfl) rfl ?_
  refine L.step (R.eqlP Try.underlying24 rfl rfl) rfl ?_
  refine L.nil ?_
  refine C.condF rfl ?_
  refine C.skip ?_
  refine C.seq ?_
  refine C.region ?_
  refine L.stepE (R.alloc z28) rfl fun w9 e8 => ?_
  have k11 := Al.new e8
  have z12 := Al.size e8
  have q13 := Al.kept e8 q7
  have hD14 := DiskAt.kept hD (Al.kept e8 (Kept.refl (fun _ => False) _)) (fun _ _ h => h)
  refine L.nil ?_
  refine C.seq ?_
  refine C.seq ?_
  refine C.region ?_
  refine L.step (R.moveV (v := .slice a l.length c) rfl) rfl ?_
  refine L.call (E.call1 hb12) rfl (few_calls (m := m.length) hc (by omega) (by rw [hm, List.length_take, Nat.min_comm])) ?_
  rintro _ w15 ⟨rfl, ew⟩
  obtain rfl := ew.symm
  refine L.step (R.lenV (v := .int .i64 ((m.length : Nat) : Int)) Try.underlying22 rfl rfl) rfl ?_
  refine L.step (R.moveV (v := .int .i64 0) rfl) rfl ?_
  refine L.nil ?_
  refine C.block ?_
  refine C.loop (α := Nat) (fun k => [(0, .slice a l.length c), (3, .pointer (some ⟨r, 0, none⟩)), (4, .pointer (some ⟨w5.heap.size, 0, none⟩)), (16, .slice a m.length c), (17, .int .i64 ((m.length : Nat) : Int)), (18, .int .i64 ((k : Nat) : Int))]) (fun k W => k ≤ m.length ∧ Kept (fun _ => False) w W ∧ DiskAt W r ((PD.new 6).runW m) F ∧ W.heap[w5.heap.size]? = some (blk ((lastN m k).flatMap bcells) 28)) (fun k => m.length - k) ⟨0, ⟨rfl, rfl, rfl, rfl, rfl, rfl, trivial⟩, ⟨Nat.zero_le _, q13, hD14, by rw [show (lastN m 0).flatMap bcells = List.replicate 384 (.int .u8 0) from new_flat 6]; exact k11⟩⟩ ?_
  intro k g17 w16 hI18
  obtain ⟨hk, hq, hDk, h28⟩ := hI18
  have hsz := hq.size
  have hb28 := at_lt _ _ h28
  refine C.seq ?_
  refine C.region ?_
  rcases Classical.em (((k : Nat) : Int) < ((m.length : Nat) : Int)) with ht19 | ht19
  ·
    refine L.step (R.lssT rfl rfl (ht19)) rfl ?_
    refine L.nil ?_
    refine C.seq ?_
    refine C.condT rfl ?_
    refine C.skip ?_
    refine C.seq ?_
    refine C.block ?_
    refine C.seq ?_
    refine C.region ?_
    obtain ⟨bo, oo, hao, hbo, hcell0⟩ := hops.blockA (by omega)
    have hcellW := (hops.kept hq (fun _ _ h => h))
    obtain ⟨x1, hx1⟩ : ∃ y, m[k]? = some y := ⟨_, List.getElem?_eq_getElem (by omega)⟩
    have hokx1 := (hcell0 _ _ hx1).2
    have hsl : a = some ⟨bo, oo, none⟩ := hao
    obtain ⟨bo2, oo2, hao2, _, hcellW⟩ := hcellW.blockA (by omega)
    have hcx := (hcellW _ _ hx1).1
    have hbb : bo2 = bo ∧ oo2 = oo := by rw [hao] at hao2; cases hao2; exact ⟨rfl, rfl⟩
    obtain ⟨rfl, rfl⟩ := hbb
    refine L.step (R.indexAddrV (m := k) (o2 := oo2 + k * 4) (b := bo2) (o := oo2) (len := m.length) (cap := c) s22 (by show Value.slice a m.length c = _; rw [hao]) rfl rfl (by omega) rfl) rfl ?_
    refine L.step (R.loadCA (cs := x1.cells) r32 rfl hcx rfl) rfl ?_
    refine L.stepE (R.alloc z32) rfl fun w21 e20 => ?_
    have k23 := Al.new e20
    have k24 := Al.old e20 h28
    have z25 := Al.size e20
    have q26 := Al.kept e20 hq
    have hD27 := DiskAt.kept hDk (Al.kept e20 (Kept.refl (fun _ => False) _)) (fun _ _ h => h)
    refine L.doesE (R.storeAll (cs := x1.cells) r32 rfl rfl rfl (hokx1.ones) k23 rfl) fun w29 e28 => ?_
    have k30 := So.old e28 (apartE k24 k23 (by decide)) k24
    have k31 := So.hit e28 k23
    have z32 := So.size e28
    have q33 := So.kept e28 q26 (fun h => absurd h (by omega))
    have hD34 := DiskAt.kept hD27 (So.kept e28 (Kept.refl (fun k => k = w16.heap.size) _) (fun _ => rfl)) (fun k hk e => by have hk9 := hltD k hk; have e9 : k = w16.heap.size := e; omega)
    refine L.nil ?_
    refine C.seq ?_
    refine C.region ?_
    refine L.step (R.loadA (cs := x1.cells) r32 rfl k31 rfl rfl) rfl ?_
    refine L.call (E.call1 hb13) rfl (kind_calls (hokx1.one)) ?_
    rintro _ w35 ⟨rfl, hk36⟩
    have k37 := Kept.old hk36 k30 (fun h => h)
    have k38 := Kept.old hk36 k31 (fun h => h)
    have z39 := (hk36).size
    have q40 := Kept.trans q33 hk36 (fun _ _ h => h.elim)
    have hD41 := DiskAt.kept hD34 hk36 (fun _ _ h => h)
    rcases Classical.em ((kindOf x1.o.k) = 1) with ht42 | ht42
    ·
      refine L.step (R.eqlT rfl rfl (ht42)) rfl ?_
      refine L.step (R.moveV (v := .bool true) rfl) rfl ?_
      refine L.yes rfl rfl rfl ?_
      refine L.step (R.fieldAddrV (o2 := 1) f32_1 rfl rfl) rfl ?_
      refine L.yes rfl rfl rfl ?_
      refine L.step (R.load1 (v := .int .i64 x1.o.a) c3 rfl k38 rfl) rfl ?_
      refine L.yes rfl rfl rfl ?_
      rcases Classical.em (0 ≤ x1.o.a) with ht43 | ht43
      ·
        refine L.step (R.geqT rfl rfl (ht43)) rfl ?_
        refine L.step (R.pickTV (v := .bool true) rfl rfl) rfl ?_
        refine L.step (R.moveV (v := .bool true) rfl) rfl ?_
        refine L.yes rfl rfl rfl ?_
        refine L.step (R.fieldAddrV (o2 := 1) f32_1 rfl rfl) rfl ?_
        refine L.yes rfl rfl rfl ?_
        refine L.step (R.load1 (v := .int .i64 x1.o.a) c3 rfl k38 rfl) rfl ?_
        refine L.yes rfl rfl rfl ?_
        rcases Classical.em (x1.o.a < 6) with ht44 | ht44
        ·
          refine L.step (R.lssT rfl rfl (ht44)) rfl ?_
          refine L.step (R.pickTV (v := .bool true) rfl rfl) rfl ?_
          refine L.nil ?_
          refine C.condT rfl ?_
          obtain ⟨i, hi⟩ := Int.eq_ofNat_of_zero_le (show 0 ≤ x1.o.a by omega)
          refine C.drawE (fun W : World => W.heap[w16.heap.size]? = some (blk ([.int .i64 x1.o.k, .int .i64 x1.o.a, .int .u8 x1.o.f, x1.kv]) 32)) (fun j => !(Nat.beq j 6)) mixed fun w45 e46 => ?_
          have k47 := Dr.old e46 k37
          have k48 := Dr.old e46 k38
          have z49 := Dr.size e46
          have q50 := Dr.kept e46 q40
          have hD51 := DiskAt.kept hD41 (Dr.kept e46 (Kept.refl (fun _ => False) _)) (fun _ _ h => h)
          refine AH.take 0 rfl (by kernel_rfl) (by kernel_rfl) (by kernel_rfl) (by kernel_rfl) (fun _ _ _ h => h) rfl trivial (fun _ hS => (R.fieldAddrV (o2 := 1) f32_1 rfl rfl)) k48 ?_
          refine AH.take 1 rfl (by kernel_rfl) (by kernel_rfl) (by kernel_rfl) (by kernel_rfl) (fun _ _ _ h => h) rfl trivial (fun _ hS => (R.load1 (v := .int .i64 x1.o.a) c3 rfl hS rfl)) k48 ?_
          refine AH.take 2 rfl (by kernel_rfl) (by kernel_rfl) (by kernel_rfl) (by kernel_rfl) (fun _ _ _ h => h) rfl trivial (fun _ hS => (R.fieldAddrV (o2 := 2) f32_2 rfl rfl)) k48 ?_
          refine AH.take 3 rfl (by kernel_rfl) (by kernel_rfl) (by kernel_rfl) (by kernel_rfl) (fun _ _ _ h => h) rfl trivial (fun _ hS => (R.load1 (v := .int .u8 x1.o.f) c5 rfl hS rfl)) k48 ?_
          refine AH.one 4 (by kernel_rfl) (AO.call rfl trivial (E.call1 hb14) rfl (block_calls (x := x1.o.f)) ?_)
          rintro _ w52 ⟨rfl, hk53⟩
          have k54 := Kept.old hk53 k47 (fun h => h)
          have k55 := Kept.old hk53 k48 (fun h => h)
          have z56 := (hk53).size
          have q57 := Kept.trans q50 hk53 (fun _ _ h => h.elim)
          have hD58 := DiskAt.kept hD51 hk53 (fun _ _ h => h)
          refine ⟨fun _ => k55, ?_⟩
          refine AH.take 5 rfl (by kernel_rfl) (by kernel_rfl) (by kernel_rfl) (by kernel_rfl) (fun _ _ _ h => h) rfl trivial (fun _ hS => (R.indexArrV (m := i) (o2 := i * 64) Try.underlying28 n27 rfl rfl hi (by omega) (by omega))) k55 ?_
          refine AH.one 6 (by kernel_rfl) (AO.doesE rfl trivial (R.storeA (cs := bcells (fblock x1.o.f)) (o := i * 64) r27 rfl rfl (bcells64 (length_fblock _)) (one_bcells _) k54 (by rw [flat_length (hallL k), length_lastN]; omega)) fun w60 e59 => ?_)
          rw [part_set_all (hallL k) (by rw [length_lastN]; omega) _ (bcells64 (length_fblock _))] at e59
          have hln : lastN m (k + 1) = (lastN m k).set i (fblock x1.o.f) := by rw [lastN_succ hx1, if_pos (by omega), show x1.o.a.toNat = i by omega]
          rw [← hln] at e59
          have k61 := So.hit e59 k54
          have k62 := So.old e59 (apartE k55 k54 (by decide)) k55
          have z63 := So.size e59
          have q64 := So.kept e59 q57 (fun h => absurd h (by omega))
          have hD65 := DiskAt.kept hD58 (So.kept e59 (Kept.refl (fun k => k = w5.heap.size) _) (fun _ => rfl)) (fun k hk e => by have hk9 := hltD k hk; have e9 : k = w5.heap.size := e; omega)
          refine ⟨fun h => absurd h (by decide), ?_⟩
          refine AH.done (by kernel_rfl) ?_
          refine C.region ?_
          refine L.step (R.add rfl rfl (by omega)) rfl ?_
          refine L.step (R.moveV (v := .int .i64 (((k : Nat) : Int) + 1)) rfl) rfl ?_
          refine L.nil ?_
          refine thenP.mk ⟨k + 1, ⟨rfl, rfl, rfl, rfl, rfl, rfl, trivial⟩, ⟨by show k + 1 ≤ _; omega, q64, hD65, k61⟩, by show m.length - (k + 1) < m.length - k; omega⟩
        ·
          refine L.step (R.lssF rfl rfl (Int.not_lt.1 ht44)) rfl ?_
          refine L.step (R.pickTV (v := .bool false) rfl rfl) rfl ?_
          refine L.nil ?_
          refine C.condF rfl ?_
          refine C.skip ?_
          refine C.region ?_
          refine L.step (R.add rfl rfl (by omega)) rfl ?_
          refine L.step (R.moveV (v := .int .i64 (((k : Nat) : Int) + 1)) rfl) rfl ?_
          refine L.nil ?_
          refine thenP.mk ⟨k + 1, ⟨rfl, rfl, rfl, rfl, rfl, rfl, trivial⟩, ⟨by show k + 1 ≤ _; omega, q40, hD41, by rw [lastN_succ hx1, if_neg (by omega)]; exact k37⟩, by show m.length - (k + 1) < m.length - k; omega⟩
      ·
        refine L.step (R.geqF rfl rfl (Int.not_le.1 ht43)) rfl ?_
        refine L.step (R.pickTV (v := .bool false) rfl rfl) rfl ?_
        refine L.step (R.moveV (v := .bool false) rfl) rfl ?_
        refine L.no rfl rfl rfl (.inl rfl) ?_
        refine L.no rfl rfl rfl (.inl rfl) ?_
        refine L.no rfl rfl rfl (.inl rfl) ?_
        refine L.step (R.pickFV (v := .bool false) rfl rfl) rfl ?_
        refine L.nil ?_
        refine C.condF rfl ?_
        refine C.skip ?_
        refine C.region ?_
        refine L.step (R.add rfl rfl (by omega)) rfl ?_
        refine L.step (R.moveV (v := .int .i64 (((k : Nat) : Int) + 1)) rfl) rfl ?_
        refine L.nil ?_
        refine thenP.mk ⟨k + 1, ⟨rfl, rfl, rfl, rfl, rfl, rfl, trivial⟩, ⟨by show k + 1 ≤ _; omega, q40, hD41, by rw [lastN_succ hx1, if_neg (by omega)]; exact k37⟩, by show m.length - (k + 1) < m.length - k; omega⟩
    ·
      refine L.step (R.eqlF rfl rfl (ht42)) rfl ?_
      refine L.step (R.moveV (v := .bool false) rfl) rfl ?_
      refine L.no rfl rfl rfl (.inl rfl) ?_
      refine L.no rfl rfl rfl (.inl rfl) ?_
      refine L.no rfl rfl rfl (.inl rfl) ?_
      refine L.step (R.pickFV (v := .bool false) rfl rfl) rfl ?_
      refine L.step (R.moveV (v := .bool false) rfl) rfl ?_
      refine L.no rfl rfl rfl (.inl rfl) ?_
      refine L.no rfl rfl rfl (.inl rfl) ?_
      refine L.no rfl rfl rfl (.inl rfl) ?_
      refine L.step (R.pickFV (v := .bool false) rfl rfl) rfl ?_
      refine L.nil ?_
      refine C.condF rfl ?_
      refine C.skip ?_
      refine C.region ?_
      refine L.step (R.add rfl rfl (by omega)) rfl ?_
      refine L.step (R.moveV (v := .int .i64 (((k : Nat) : Int) + 1)) rfl) rfl ?_
      refine L.nil ?_
      refine thenP.mk ⟨k + 1, ⟨rfl, rfl, rfl, rfl, rfl, rfl, trivial⟩, ⟨by show k + 1 ≤ _; omega, q40, hD41, by rw [lastN_succ hx1, if_neg (by omega)]; exact k37⟩, by show m.length - (k + 1) < m.length - k; omega⟩
  ·
    refine L.step (R.lssF rfl rfl (Int.not_lt.1 ht19)) rfl ?_
    refine L.nil ?_
    refine C.seq ?_
    refine C.condF rfl ?_
    refine C.exit ?_
    refine C.seq ?_
    refine C.seq ?_
    refine C.region ?_
    refine L.step (R.moveV (v := .pointer (some ⟨r, 0, none⟩)) rfl) rfl ?_
    have hkm : k = m.length := by omega
    have h28e := h28
    rw [hkm] at h28e
    refine L.call (E.call1 hb15) rfl (held_calls (n := 6) hDk (fun k hk => by have := hltD k hk; omega) hwp.2.1 (by decide) (by omega) (by omega)) ?_
    rintro vh w66 ⟨hrow, _, hkh⟩
    rw [last_plain] at hrow
    obtain ⟨ha, hcp, rfl, _⟩ := hrow.shape
    have hszh := (hq).size
    have h28f := Kept.old hkh h28e (fun hF => absurd (hltD _ hF) (by omega))
    have q67 : Kept (fun _ => False) w w66 := Kept.trans hq hkh (fun k hlt9 hk9 => by have := (hlt k hk9).1; omega)
    obtain ⟨G, hG⟩ : ∃ G, grow (fun _ => False) w16 w66 = G := ⟨_, rfl⟩
    rw [hG] at hrow
    refine L.step (R.lenV (v := .int .i64 6) Try.underlying35 rfl rfl) rfl ?_
    refine L.step (R.moveV (v := .int .i64 0) rfl) rfl ?_
    refine L.nil ?_
    refine C.block ?_
    refine C.loop (α := Nat) (fun k => [(4, .pointer (some ⟨w5.heap.size, 0, none⟩)), (43, .slice ha 6 hcp), (44, .int .i64 6), (45, .int .i64 ((k : Nat) : Int))]) (fun k W => k ≤ 6 ∧ Kept (fun _ => False) w W ∧ W.heap[w5.heap.size]? = some (blk ((lastN m m.length).flatMap bcells) 28) ∧ Row W 27 64 (.slice ha 6 hcp) 6 ((lastN m m.length).flatMap bcells) G) (fun k => 6 - k) ⟨0, ⟨rfl, rfl, rfl, rfl, trivial⟩, ⟨Nat.zero_le _, q67, h28f, hrow⟩⟩ ?_
    intro k g69 w68 hI70
    obtain ⟨hk, hq, h28, hv⟩ := hI70
    have hsz := hq.size
    refine C.seq ?_
    refine C.region ?_
    rcases Classical.em (((k : Nat) : Int) < 6) with ht71 | ht71
    ·
      refine L.step (R.lssT rfl rfl (ht71)) rfl ?_
      refine L.nil ?_
      refine C.seq ?_
      refine C.condT rfl ?_
      refine C.skip ?_
      refine C.seq ?_
      refine C.block ?_
      refine C.seq ?_
      refine C.region ?_
      refine L.step (R.moveV (v := .int .i64 ((k : Nat) : Int)) rfl) rfl ?_
      obtain ⟨gr, lr, rfl, hFr, hgr, hnr, hcr, hlr, htr⟩ := Row.blockA hv (by omega)
      obtain ⟨y, hy⟩ : ∃ b, (lastN m m.length)[k]? = some b := ⟨_, List.getElem?_eq_getElem (by rw [length_lastN]; omega)⟩
      have hy64 := all_lastN m m.length y (List.mem_of_getElem? hy)
      have hgrlt := at_lt _ _ hgr
      have hvlt := hv.lt
      refine L.step (R.indexAddrV (m := k) (o2 := k * 64) s35 rfl rfl rfl (by omega) (by omega)) rfl ?_
      refine L.step (R.loadA (cs := bcells y) r27 rfl hgr (part_get (hallL _) (length_lastN m _) htr hy) (bcells64 hy64)) rfl ?_
      refine L.stepE (R.alloc z27) rfl fun w73 e72 => ?_
      have m74 := Al.row e72 hv
      have k76 := Al.new e72
      have k77 := Al.old e72 h28
      have k78 := Al.old e72 hgr
      have z79 := Al.size e72
      have q80 := Al.kept e72 hq
      refine L.step (R.assignV (v := .int .i64 ((k : Nat) : Int)) rfl) rfl ?_
      refine L.doesE (R.storeAll (cs := bcells y) r27 rfl rfl (bcells64 hy64) (one_bcells _) k76 (List.length_replicate)) fun w82 e81 => ?_
      have m83 := So.rowLt e81 m74 hvlt (by omega)
      have k84 := So.old e81 (apartE k77 k76 (by decide)) k77
      have k85 := So.old e81 (by omega) k78
      have k86 := So.hit e81 k76
      have z87 := So.size e81
      have q88 := So.kept e81 q80 (fun h => absurd h (by omega))
      refine L.nil ?_
      refine C.seq ?_
      refine C.drawE (fun W : World => W.heap[w68.heap.size]? = some (blk (bcells y) 27) ∧ W.heap[w5.heap.size]? = some (blk (((lastN m m.length).flatMap bcells)) 28)) (fun _ => true) mixed fun w89 e90 => ?_
      have k91 := Dr.old e90 k84
      have k92 := Dr.old e90 k85
      have k93 := Dr.old e90 k86
      have m94 := Dr.row e90 m83
      have z95 := Dr.size e90
      have q96 := Dr.kept e90 q88
      refine AH.take 0 rfl (by kernel_rfl) (by kernel_rfl) (by kernel_rfl) (by kernel_rfl) (fun _ _ _ h => h) rfl trivial (fun _ hS => (R.loadA (cs := bcells y) r27 rfl hS.1 (List.take_of_length_le (Nat.le_of_eq (bcells64 hy64))) (bcells64 hy64))) (⟨k93, k91⟩) ?_
      refine AH.take 1 rfl (by kernel_rfl) (by kernel_rfl) (by kernel_rfl) (by kernel_rfl) (fun _ _ _ h => h) rfl trivial (fun _ hS => (R.moveV (v := .int .i64 ((k : Nat) : Int)) rfl)) (⟨k93, k91⟩) ?_
      refine AH.take 2 rfl (by kernel_rfl) (by kernel_rfl) (by kernel_rfl) (by kernel_rfl) (fun _ _ _ h => h) rfl trivial (fun _ hS => (R.indexArrV (m := k) (o2 := k * 64) Try.underlying28 n27 rfl rfl rfl (by omega) (by omega))) (⟨k93, k91⟩) ?_
      refine AH.take 3 rfl (by kernel_rfl) (by kernel_rfl) (by kernel_rfl) (by kernel_rfl) (fun _ _ _ h => h) rfl trivial (fun _ hS => (R.loadA (cs := bcells y) r27 rfl hS.2 (part_get (hallL _) (length_lastN m _) hl28 hy) (bcells64 hy64))) (⟨k93, k91⟩) ?_
      refine AH.take 4 rfl (by kernel_rfl) (by kernel_rfl) (by kernel_rfl) (by kernel_rfl) (fun _ _ _ h => h) rfl trivial (fun _ hS => (R.neqAV (A := y) (B := y) (b := false) Try.underlying27 Try.underlying5 n5 gd27 rfl rfl hy64 hy64 (by rw [decide_eq_true rfl]; rfl))) (⟨k93, k91⟩) ?_
      refine AH.done (by kernel_rfl) ?_
      refine C.condF rfl ?_
      refine C.skip ?_
      refine C.region ?_
      refine L.step (R.add rfl rfl (by omega)) rfl ?_
      refine L.step (R.moveV (v := .int .i64 (((k : Nat) : Int) + 1)) rfl) rfl ?_
      refine L.nil ?_
      refine thenP.mk ⟨k + 1, ⟨rfl, rfl, rfl, rfl, trivial⟩, ⟨by show k + 1 ≤ _; omega, q96, k91, m94⟩, by show 6 - (k + 1) < 6 - k; omega⟩
    ·
      refine L.step (R.lssF rfl rfl (Int.not_lt.1 ht71)) rfl ?_
      refine L.nil ?_
      refine C.seq ?_
      refine C.condF rfl ?_
      refine C.exit ?_
      refine C.seq ?_
      refine C.region ?_
      refine L.step (R.assignV (v := .bool true) rfl) rfl ?_
      refine L.nil ?_
      refine C.ret (?_ : RetOk _ _ _ _ _)
      refine RetOk.tV (v := .bool true) rfl rfl ?_
      exact ⟨rfl, hq⟩
end Go.Proofs.Ytpblppilknkdoaa
