/- DiskFails: the walk. -/
import Derived.Test.YtpblppilknkdoaaD16
import Derived.Test.YtpblppilknkdoaaLaw2
namespace Go.Proofs.Ytpblppilknkdoaa
open Go Go.Eng Go.Proofs
attribute [local irreducible] Go.Eng.C Go.Eng.L Go.Eng.Ret Go.Eng.Run Go.Eng.Does Go.Eng.Enters Go.Eng.AH Go.Eng.AO Go.Eng.RetOk
theorem does_length {D : PD} (h : D.Ok) {o : POp} : (D.does o).2.1.length = 64 := by
  unfold PD.does
  split
  · exact read_length h
  · repeat' split
    all_goals rfl
set_option maxHeartbeats 4000000 in
theorem fails_calls {w : World} {lv : Value} {l : List OpV} {N : Nat} {n : Int} (h : OpsAt w lv l N) (hN : N ≤ w.heap.size) (hbig : l.length ≤ 9223372036854775807) :
    Ret Try.prog 6 #[lv, .int .i64 n] w fun v w' => v = .bool true ∧ Kept (fun _ => False) w w' := by
  obtain ⟨a, c, rfl, hc⟩ := h.shape
  obtain ⟨m, hm⟩ : ∃ m, m = l.take 120 := ⟨_, rfl⟩
  have hml : m.length ≤ 120 := by rw [hm, List.length_take]; omega
  have hops := h.first rfl
  rw [← hm] at hops
  have hq := Kept.refl (fun _ => False) w
  obtain ⟨n0, hn0⟩ : ∃ n0, (if n < 0 then 0 else n) = n0 := ⟨_, rfl⟩
  have hn1 : 0 ≤ n0 := by rw [← hn0]; split <;> omega
  obtain ⟨nn, hnn⟩ : ∃ nn, n0.tmod 40 = nn := ⟨_, rfl⟩
  have hnn1 : 0 ≤ nn := by rw [← hnn]; exact Int.tmod_nonneg _ hn1
  have hnn2 : nn < 40 := by rw [← hnn]; exact Int.tmod_lt_of_pos _ (by decide)
  have hno : (PD.new 6).ops = 0 := rfl
  have hnp : (PD.new 6).pend.length = 0 := rfl
  refine Ret.intro [.slice a l.length c, .int .i64 n] Try.func6 rfl rfl ?_
  refine C.seq ?_
  refine C.region ?_
  refine L.step (R.assignV (v := .bool false) rfl) rfl ?_
  refine L.nil ?_
  refine C.seq ?_
  refine C.seq ?_
  refine C.region ?_
  refine L.call (E.call0 hb10) rfl wakes_calls ?_
  rintro _ w1 ⟨rfl, hk2⟩
  have z3 := (hk2).size
  have q4 := Kept.trans hq hk2 (fun _ _ h => h.elim)
  refine L.step (R.notV (v := .bool false) rfl rfl) rfl ?_
  refine L.nil ?_
  refine C.condF rfl ?_
  refine C.skip ?_
  refine C.seq ?_
  refine C.region ?_
  refine L.step (R.moveV (v := .int .i64 n) rfl) rfl ?_
  refine L.step (R.max2V (v := .int .i64 n0) rfl rfl (by rw [hn0])) rfl ?_
  refine L.step (R.remV (b := 40) (v := .int .i64 nn) rfl rfl (by decide) (by rw [hnn])) rfl ?_
  refine L.step (R.assignV (v := .int .i64 nn) rfl) rfl ?_
  refine L.nil ?_
  refine C.seq ?_
  refine C.region ?_
  have hswa := (q4).size
  refine L.call (E.call1 hb11) rfl (worn_calls (l := []) (N := 0) (.inl ⟨rfl, none, 0, rfl⟩) (Nat.zero_le _) (by decide)) ?_
  rintro _ w5 ⟨ra, Fa, rfl, hD7, lta, hk6⟩
  have hD7 : DiskAt w5 ra (PD.new 6) Fa := hD7
  have z8 := (hk6).size
  have q9 := Kept.trans q4 hk6 (fun _ _ h => h.elim)
  have bda : ∀ k, Fa k → w.heap.size ≤ k ∧ k < w5.heap.size := fun k hk => by have := lta k hk; omega
  have hswb := (q9).size
  refine L.call (E.call1 hb11) rfl (worn_calls (l := []) (N := 0) (.inl ⟨rfl, none, 0, rfl⟩) (Nat.zero_le _) (by decide)) ?_
  rintro _ w10 ⟨rb, Fb, rfl, hD12, ltb, hk11⟩
  have hD12 : DiskAt w10 rb (PD.new 6) Fb := hD12
  have z13 := (hk11).size
  have q14 := Kept.trans q9 hk11 (fun _ _ h => h.elim)
  have hD15 := DiskAt.kept hD7 hk11 (fun _ _ h => h)
  have bdb : ∀ k, Fb k → w.heap.size ≤ k ∧ k < w10.heap.size := fun k hk => by have := ltb k hk; omega
  have djab : ∀ k, Fa k → ¬ Fb k := fun k ha hb => by have h1 := bda k ha; have h2 := ltb k hb; omega
  have djba : ∀ k, Fb k → ¬ Fa k := fun k hb ha => djab k ha hb
  refine L.step (R.assignV (v := .pointer (some ⟨ra, 0, none⟩)) rfl) rfl ?_
  refine L.step (R.assignV (v := .pointer (some ⟨rb, 0, none⟩)) rfl) rfl ?_
  refine L.nil ?_
  refine C.seq ?_
  refine C.seq ?_
  refine C.region ?_
  refine L.step (R.moveV (v := .pointer (some ⟨ra, 0, none⟩)) rfl) rfl ?_
  refine L.step (R.eqlP Try.underlying24 rfl rfl) rfl ?_
  refine L.step (R.moveV (v := .bool false) rfl) rfl ?_
  refine L.yes rfl rfl rfl ?_
  refine L.step (R.moveV (v := .pointer (some ⟨rb, 0, none⟩)) rfl) rfl ?_
  refine L.yes rfl rfl rfl ?_
  refine L.step (R.eqlP Try.underlying24 rfl rfl) rfl ?_
  refine L.step (R.pickFV (v := .bool false) rfl rfl) rfl ?_
  refine L.step (R.moveV (v := .bool false) rfl) rfl ?_
  refine L.yes rfl rfl rfl ?_
  refine L.step (R.moveV (v := .pointer (some ⟨ra, 0, none⟩)) rfl) rfl ?_
  refine L.yes rfl rfl rfl ?_
  refine L.step (R.moveV (v := .int .i64 nn) rfl) rfl ?_
  refine L.yes rfl rfl rfl ?_
  refine L.call (E.call2 hb27) rfl (fail_disk hD15 (by omega)) ?_
  rintro _ w16 ⟨rfl, hD18, hk17⟩
  rw [failing_start (by omega)] at hD18
  rw [failing_start (by omega)]
  have hD19 := DiskAt.kept hD12 hk17 djba
  have z20 := hk17.size
  have q21 : Kept (fun _ => False) w w16 := Kept.trans q14 hk17 (fun k hlt9 hk9 => by have h0_ := bda k hk9; omega)
  refine L.yes rfl rfl rfl ?_
  refine L.step (R.neqF rfl rfl (by omega)) rfl ?_
  refine L.step (R.pickFV (v := .bool false) rfl rfl) rfl ?_
  refine L.nil ?_
  refine C.condF rfl ?_
  refine C.skip ?_
  refine C.seq ?_
  refine C.region ?_
  refine L.step (R.assignV (v := .int .i64 0) rfl) rfl ?_
  refine L.nil ?_
  refine C.seq ?_
  refine C.seq ?_
  refine C.region ?_
  refine L.step (R.moveV (v := .slice a l.length c) rfl) rfl ?_
  refine L.call (E.call1 hb12) rfl (few_calls (m := m.length) hc (by omega) (by rw [hm, List.length_take, Nat.min_comm])) ?_
  rintro _ w22 ⟨rfl, ew⟩
  obtain rfl := ew.symm
  refine L.step (R.lenV (v := .int .i64 ((m.length : Nat) : Int)) Try.underlying22 rfl rfl) rfl ?_
  refine L.step (R.moveV (v := .int .i64 0) rfl) rfl ?_
  refine L.nil ?_
  refine C.block ?_
  refine C.loop (α := Nat × (Nat → Prop) × (Nat → Prop)) (fun x => [(0, .slice a l.length c), (1, .int .i64 nn), (5, .pointer (some ⟨ra, 0, none⟩)), (6, .pointer (some ⟨rb, 0, none⟩)), (7, .int .i64 ((failsN m nn x.1).2)), (37, .slice a m.length c), (38, .int .i64 ((m.length : Nat) : Int)), (39, .int .i64 ((x.1 : Nat) : Int))]) (fun x W => x.1 ≤ m.length ∧ Kept (fun _ => False) w W ∧ DiskAt W ra ((failsN m nn x.1).1.failing nn (failsN m nn x.1).2) x.2.1 ∧ DiskAt W rb (failsN m nn x.1).1 x.2.2 ∧ (∀ k, x.2.1 k → w.heap.size ≤ k ∧ k < W.heap.size) ∧ (∀ k, x.2.2 k → w.heap.size ≤ k ∧ k < W.heap.size) ∧ (∀ k, x.2.1 k → ¬ x.2.2 k)) (fun x => m.length - x.1) ⟨(0, Fa, Fb), ⟨rfl, rfl, rfl, rfl, rfl, rfl, rfl, rfl, trivial⟩, ⟨Nat.zero_le _, q21, hD18, hD19, fun k hk => by have := bda k hk; omega, fun k hk => by have := bdb k hk; omega, djab⟩⟩ ?_
  intro x g24 w23 hI25
  obtain ⟨hk, hq, hDa, hDb, ba, bb, dab⟩ := hI25
  have hsz := hq.size
  have hfo := failsN_ok m nn x.1 hk
  have hf1 := hfo.few.ops
  have hf2 := hfo.few.pend
  have hf3 := hfo.count
  have dba : ∀ k, x.2.2 k → ¬ x.2.1 k := fun k hb ha => dab k ha hb
  refine C.seq ?_
  refine C.region ?_
  rcases Classical.em (((x.1 : Nat) : Int) < ((m.length : Nat) : Int)) with ht26 | ht26
  ·
    refine L.step (R.lssT rfl rfl (ht26)) rfl ?_
    refine L.nil ?_
    refine C.seq ?_
    refine C.condT rfl ?_
    refine C.skip ?_
    refine C.seq ?_
    refine C.block ?_
    refine C.seq ?_
    refine C.region ?_
    obtain ⟨bo, oo, hao, hbo, hcell0⟩ := hops.blockA (by omega)
    have hcellW := (hops.kept hq (fun _ _ h => h))
    obtain ⟨x1, hx1⟩ : ∃ y, m[x.1]? = some y := ⟨_, List.getElem?_eq_getElem (by omega)⟩
    have hokx1 := (hcell0 _ _ hx1).2
    have hsl : a = some ⟨bo, oo, none⟩ := hao
    obtain ⟨bo2, oo2, hao2, _, hcellW⟩ := hcellW.blockA (by omega)
    have hcx := (hcellW _ _ hx1).1
    have hbb : bo2 = bo ∧ oo2 = oo := by rw [hao] at hao2; cases hao2; exact ⟨rfl, rfl⟩
    obtain ⟨rfl, rfl⟩ := hbb
    refine L.step (R.indexAddrV (m := x.1) (o2 := oo2 + x.1 * 4) (b := bo2) (o := oo2) (len := m.length) (cap := c) s22 (by show Value.slice a m.length c = _; rw [hao]) rfl rfl (by omega) rfl) rfl ?_
    refine L.step (R.loadCA (cs := x1.cells) r32 rfl hcx rfl) rfl ?_
    refine L.stepE (R.alloc z32) rfl fun w28 e27 => ?_
    have k30 := Al.new e27
    have z31 := Al.size e27
    have q32 := Al.kept e27 hq
    have hD33 := DiskAt.kept hDa (Al.kept e27 (Kept.refl (fun _ => False) _)) (fun _ _ h => h)
    have hD34 := DiskAt.kept hDb (Al.kept e27 (Kept.refl (fun _ => False) _)) (fun _ _ h => h)
    refine L.doesE (R.storeAll (cs := x1.cells) r32 rfl rfl rfl (hokx1.ones) k30 rfl) fun w36 e35 => ?_
    have k37 := So.hit e35 k30
    have z38 := So.size e35
    have q39 := So.kept e35 q32 (fun h => absurd h (by omega))
    have hD40 := DiskAt.kept hD33 (So.kept e35 (Kept.refl (fun k => k = w23.heap.size) _) (fun _ => rfl)) (fun k hk e => by have e9 : k = w23.heap.size := e; have h0_ := ba k hk; omega)
    have hD41 := DiskAt.kept hD34 (So.kept e35 (Kept.refl (fun k => k = w23.heap.size) _) (fun _ => rfl)) (fun k hk e => by have e9 : k = w23.heap.size := e; have h0_ := bb k hk; omega)
    refine L.nil ?_
    refine C.seq ?_
    refine C.seq ?_
    refine C.region ?_
    refine L.step (R.loadA (cs := x1.cells) r32 rfl k37 rfl rfl) rfl ?_
    refine L.call (E.call1 hb13) rfl (kind_calls (hokx1.one)) ?_
    rintro _ w42 ⟨rfl, hk43⟩
    have k44 := Kept.old hk43 k37 (fun h => h)
    have z45 := (hk43).size
    have q46 := Kept.trans q39 hk43 (fun _ _ h => h.elim)
    have hD47 := DiskAt.kept hD40 hk43 (fun _ _ h => h)
    have hD48 := DiskAt.kept hD41 hk43 (fun _ _ h => h)
    rcases Classical.em (2 < (kindOf x1.o.k)) with ht49 | ht49
    ·
      refine L.step (R.gtrT rfl rfl (ht49)) rfl ?_
      refine L.step (R.moveV (v := .bool true) rfl) rfl ?_
      refine L.no rfl rfl rfl (.inl rfl) ?_
      refine L.no rfl rfl rfl (.inl rfl) ?_
      refine L.no rfl rfl rfl (.inl rfl) ?_
      refine L.no rfl rfl rfl (.inl rfl) ?_
      refine L.no rfl rfl rfl (.inr rfl) ?_
      refine L.no rfl rfl rfl (.inr rfl) ?_
      refine L.no rfl rfl rfl (.inr rfl) ?_
      refine L.no rfl rfl rfl (.inr rfl) ?_
      refine L.no rfl rfl rfl (.inr rfl) ?_
      refine L.no rfl rfl rfl (.inr rfl) ?_
      refine L.no rfl rfl rfl (.inr rfl) ?_
      refine L.no rfl rfl rfl (.inr rfl) ?_
      refine L.no rfl rfl rfl (.inl rfl) ?_
      refine L.step (R.pickTV (v := .bool true) rfl rfl) rfl ?_
      refine L.nil ?_
      refine C.condT rfl ?_
      refine C.exit ?_
      refine C.region ?_
      refine L.step (R.add rfl rfl (by omega)) rfl ?_
      refine L.step (R.moveV (v := .int .i64 (((x.1 : Nat) : Int) + 1)) rfl) rfl ?_
      refine L.nil ?_
      have hfe := failsN_succ (n := nn) hx1
      rw [if_pos (show skipF x1.o by unfold skipF; omega)] at hfe
      have hsq := (q46).size
      refine thenP.mk ⟨(x.1 + 1, x.2.1, x.2.2), ⟨rfl, rfl, rfl, rfl, (by show _ = Value.int .i64 (failsN m nn (x.1 + 1)).2; rw [hfe]; rfl), rfl, rfl, rfl, trivial⟩, ⟨by show x.1 + 1 ≤ _; omega, q46, by show DiskAt _ _ ((failsN m nn (x.1 + 1)).1.failing nn (failsN m nn (x.1 + 1)).2) _; rw [hfe]; exact hD47, by show DiskAt _ _ (failsN m nn (x.1 + 1)).1 _; rw [hfe]; exact hD48, fun k hk => by have h0_ := ba k hk; omega, fun k hk => by have h0_ := bb k hk; omega, dab⟩, by show m.length - (x.1 + 1) < m.length - x.1; omega⟩
    ·
      refine L.step (R.gtrF rfl rfl (Int.not_lt.1 ht49)) rfl ?_
      refine L.step (R.moveV (v := .bool false) rfl) rfl ?_
      refine L.yes rfl rfl rfl ?_
      refine L.step (R.loadA (cs := x1.cells) r32 rfl k44 rfl rfl) rfl ?_
      refine L.yes rfl rfl rfl ?_
      refine L.call (E.call1 hb13) rfl (kind_calls (hokx1.one)) ?_
      rintro _ w50 ⟨rfl, hk51⟩
      have k52 := Kept.old hk51 k44 (fun h => h)
      have z53 := (hk51).size
      have q54 := Kept.trans q46 hk51 (fun _ _ h => h.elim)
      have hD55 := DiskAt.kept hD47 hk51 (fun _ _ h => h)
      have hD56 := DiskAt.kept hD48 hk51 (fun _ _ h => h)
      refine L.yes rfl rfl rfl ?_
      rcases Classical.em ((kindOf x1.o.k) < 2) with ht57 | ht57
      ·
        refine L.step (R.lssT rfl rfl (ht57)) rfl ?_
        refine L.yes rfl rfl rfl ?_
        refine L.step (R.moveV (v := .bool true) rfl) rfl ?_
        refine L.yes rfl rfl rfl ?_
        refine L.step (R.fieldAddrV (o2 := 1) f32_1 rfl rfl) rfl ?_
        refine L.yes rfl rfl rfl ?_
        refine L.step (R.load1 (v := .int .i64 x1.o.a) c3 rfl k52 rfl) rfl ?_
        refine L.yes rfl rfl rfl ?_
        rcases Classical.em (x1.o.a < 0) with ht58 | ht58
        ·
          refine L.step (R.lssT rfl rfl (ht58)) rfl ?_
          refine L.yes rfl rfl rfl ?_
          refine L.step (R.moveV (v := .bool true) rfl) rfl ?_
          refine L.no rfl rfl rfl (.inl rfl) ?_
          refine L.no rfl rfl rfl (.inl rfl) ?_
          refine L.no rfl rfl rfl (.inl rfl) ?_
          refine L.yes rfl rfl rfl ?_
          refine L.step (R.pickTV (v := .bool true) rfl rfl) rfl ?_
          refine L.yes rfl rfl rfl ?_
          refine L.step (R.pickTV (v := .bool true) rfl rfl) rfl ?_
          refine L.step (R.pickFV (v := .bool true) rfl rfl) rfl ?_
          refine L.nil ?_
          refine C.condT rfl ?_
          refine C.exit ?_
          refine C.region ?_
          refine L.step (R.add rfl rfl (by omega)) rfl ?_
          refine L.step (R.moveV (v := .int .i64 (((x.1 : Nat) : Int) + 1)) rfl) rfl ?_
          refine L.nil ?_
          have hfe := failsN_succ (n := nn) hx1
          rw [if_pos (show skipF x1.o by unfold skipF; omega)] at hfe
          have hsq := (q54).size
          refine thenP.mk ⟨(x.1 + 1, x.2.1, x.2.2), ⟨rfl, rfl, rfl, rfl, (by show _ = Value.int .i64 (failsN m nn (x.1 + 1)).2; rw [hfe]; rfl), rfl, rfl, rfl, trivial⟩, ⟨by show x.1 + 1 ≤ _; omega, q54, by show DiskAt _ _ ((failsN m nn (x.1 + 1)).1.failing nn (failsN m nn (x.1 + 1)).2) _; rw [hfe]; exact hD55, by show DiskAt _ _ (failsN m nn (x.1 + 1)).1 _; rw [hfe]; exact hD56, fun k hk => by have h0_ := ba k hk; omega, fun k hk => by have h0_ := bb k hk; omega, dab⟩, by show m.length - (x.1 + 1) < m.length - x.1; omega⟩
        ·
          refine L.step (R.lssF rfl rfl (Int.not_lt.1 ht58)) rfl ?_
          refine L.yes rfl rfl rfl ?_
          refine L.step (R.moveV (v := .bool false) rfl) rfl ?_
          refine L.yes rfl rfl rfl ?_
          refine L.step (R.fieldAddrV (o2 := 1) f32_1 rfl rfl) rfl ?_
          refine L.yes rfl rfl rfl ?_
          refine L.step (R.load1 (v := .int .i64 x1.o.a) c3 rfl k52 rfl) rfl ?_
          refine L.yes rfl rfl rfl ?_
          rcases Classical.em (6 ≤ x1.o.a) with ht59 | ht59
          ·
            refine L.step (R.geqT rfl rfl (ht59)) rfl ?_
            refine L.yes rfl rfl rfl ?_
            refine L.step (R.pickFV (v := .bool true) rfl rfl) rfl ?_
            refine L.yes rfl rfl rfl ?_
            refine L.step (R.pickTV (v := .bool true) rfl rfl) rfl ?_
            refine L.step (R.pickFV (v := .bool true) rfl rfl) rfl ?_
            refine L.nil ?_
            refine C.condT rfl ?_
            refine C.exit ?_
            refine C.region ?_
            refine L.step (R.add rfl rfl (by omega)) rfl ?_
            refine L.step (R.moveV (v := .int .i64 (((x.1 : Nat) : Int) + 1)) rfl) rfl ?_
            refine L.nil ?_
            have hfe := failsN_succ (n := nn) hx1
            rw [if_pos (show skipF x1.o by unfold skipF; omega)] at hfe
            have hsq := (q54).size
            refine thenP.mk ⟨(x.1 + 1, x.2.1, x.2.2), ⟨rfl, rfl, rfl, rfl, (by show _ = Value.int .i64 (failsN m nn (x.1 + 1)).2; rw [hfe]; rfl), rfl, rfl, rfl, trivial⟩, ⟨by show x.1 + 1 ≤ _; omega, q54, by show DiskAt _ _ ((failsN m nn (x.1 + 1)).1.failing nn (failsN m nn (x.1 + 1)).2) _; rw [hfe]; exact hD55, by show DiskAt _ _ (failsN m nn (x.1 + 1)).1 _; rw [hfe]; exact hD56, fun k hk => by have h0_ := ba k hk; omega, fun k hk => by have h0_ := bb k hk; omega, dab⟩, by show m.length - (x.1 + 1) < m.length - x.1; omega⟩
          ·
            refine L.step (R.geqF rfl rfl (Int.not_le.1 ht59)) rfl ?_
            refine L.yes rfl rfl rfl ?_
            refine L.step (R.pickFV (v := .bool false) rfl rfl) rfl ?_
            refine L.yes rfl rfl rfl ?_
            refine L.step (R.pickTV (v := .bool false) rfl rfl) rfl ?_
            refine L.step (R.pickFV (v := .bool false) rfl rfl) rfl ?_
            refine L.nil ?_
            refine C.condF rfl ?_
            refine C.skip ?_
            refine C.seq ?_
            refine C.seq ?_
            refine C.region ?_
            refine L.step (R.moveV (v := .int .i64 ((failsN m nn x.1).2)) rfl) rfl ?_
            refine L.step (R.moveV (v := .int .i64 nn) rfl) rfl ?_
            have hsk : ¬ skipF x1.o := by unfold skipF; omega
            rcases Classical.em ((failsN m nn x.1).2 = nn) with heq | heq
            ·
              refine L.step (R.eqlT rfl rfl heq) rfl ?_
              refine L.nil ?_
              refine C.condT rfl ?_
              refine C.seq ?_
              refine C.region ?_
              refine L.step (R.moveV (v := .int .i64 ((failsN m nn x.1).2)) rfl) rfl ?_
              refine L.step (R.add rfl rfl (by omega)) rfl ?_
              refine L.step (R.assignV (v := .int .i64 (((failsN m nn x.1).2) + 1)) rfl) rfl ?_
              refine L.nil ?_
              refine C.seq ?_
              refine C.region ?_
              refine L.step (R.moveV (v := .pointer (some ⟨ra, 0, none⟩)) rfl) rfl ?_
              refine L.call (E.call1 hb31) rfl (ops_disk hD55) ?_
              rintro _ w60 ⟨rfl, ew⟩
              obtain rfl := ew.symm
              refine L.step (R.assignV (v := .int .i64 ((failsN m nn x.1).1.ops)) rfl) rfl ?_
              refine L.nil ?_
              refine C.seq ?_
              refine C.seq ?_
              refine C.region ?_
              refine L.step (R.moveV (v := .pointer (some ⟨ra, 0, none⟩)) rfl) rfl ?_
              refine L.step (R.loadA (cs := x1.cells) r32 rfl k52 rfl rfl) rfl ?_
              have hokD := hD55.ok
              refine L.call (E.call2 hb18) rfl (does_calls (o := x1.o) hD55 (by show (failsN m nn x.1).1.ops ≤ 1000000; omega) (by show (failsN m nn x.1).1.pend.length ≤ 1000000; omega) (hokx1.bools.kept q54 (fun _ _ h => h)) hokx1.len hokx1.at_ (fun k hk => by have h0_ := ba k hk; omega)) ?_
              rintro _ w61 ⟨rfl, hD63, hk62⟩
              have hfd := (failing_does hfo.plain hfo.safe hsk nn (failsN m nn x.1).2).1 heq
              rw [hfd] at hD63
              rw [hfd]
              simp only [bval]
              have k64 := Kept.old hk62 k52 (fun hF => by have h0_ := ba _ hF; omega)
              have hD65 := DiskAt.kept hD56 hk62 dba
              have z66 := hk62.size
              have q67 : Kept (fun _ => False) w w61 := Kept.trans q54 hk62 (fun k hlt9 hk9 => by have h0_ := ba k hk9; omega)
              obtain ⟨F68, eF68⟩ : ∃ G, G = grow x.2.1 w50 w61 := ⟨_, rfl⟩
              rw [← eF68] at hD63
              have mm70 : ∀ k, F68 k → x.2.1 k ∨ (w50.heap.size ≤ k ∧ k < w61.heap.size) := fun k hk => by rw [eF68] at hk; exact hk
              have hsq := (q67).size
              have bd69 : ∀ k, F68 k → w.heap.size ≤ k ∧ k < w61.heap.size := fun k hk => by
                rcases mm70 k hk with h | h
                · have h0_ := ba k h; omega
                · omega
              have dj71 : ∀ k, F68 k → ¬ x.2.2 k := fun k hk hy => by
                rcases mm70 k hk with h | h
                · exact dab k h hy
                · have h0_ := bb k hy; omega
              have dj72 : ∀ k, x.2.2 k → ¬ F68 k := fun k hy hk => by
                rcases mm70 k hk with h | h
                · exact dba k hy h
                · have h0_ := bb k hy; omega
              refine L.step (R.moveV (v := .tuple #[.agg (List.toArray (bcells z64)), .int .i64 8]) rfl) rfl ?_
              refine L.step (R.extract (v := .agg (List.toArray (bcells z64))) rfl rfl) rfl ?_
              refine L.step (R.extract (v := .int .i64 8) rfl rfl) rfl ?_
              refine L.stepE (R.alloc z27) rfl fun w74 e73 => ?_
              have k76 := Al.new e73
              have k77 := Al.old e73 k64
              have z78 := Al.size e73
              have q79 := Al.kept e73 q67
              have hD80 := DiskAt.kept hD63 (Al.kept e73 (Kept.refl (fun _ => False) _)) (fun _ _ h => h)
              have hD81 := DiskAt.kept hD65 (Al.kept e73 (Kept.refl (fun _ => False) _)) (fun _ _ h => h)
              refine L.doesE (R.storeAll (cs := bcells z64) r27 rfl rfl (bcells64 (b := z64) rfl) (one_bcells _) k76 (List.length_replicate)) fun w83 e82 => ?_
              have k84 := So.old e82 (apartE k77 k76 (by decide)) k77
              have k85 := So.hit e82 k76
              have z86 := So.size e82
              have q87 := So.kept e82 q79 (fun h => absurd h (by omega))
              have hD88 := DiskAt.kept hD80 (So.kept e82 (Kept.refl (fun k => k = w61.heap.size) _) (fun _ => rfl)) (fun k hk e => by have e9 : k = w61.heap.size := e; have h0_ := bd69 k hk; omega)
              have hD89 := DiskAt.kept hD81 (So.kept e82 (Kept.refl (fun k => k = w61.heap.size) _) (fun _ => rfl)) (fun k hk e => by have e9 : k = w61.heap.size := e; have h0_ := bb k hk; omega)
              refine L.step (R.assignV (v := .int .i64 8) rfl) rfl ?_
              refine L.nil ?_
              refine C.seq ?_
              refine C.region ?_
              refine L.step (R.moveV (v := .int .i64 8) rfl) rfl ?_
              refine L.step (R.neqF rfl rfl (by omega)) rfl ?_
              refine L.step (R.moveV (v := .bool false) rfl) rfl ?_
              refine L.yes rfl rfl rfl ?_
              refine L.step (R.loadA (cs := bcells z64) r27 rfl k85 (List.take_of_length_le (Nat.le_of_eq (bcells64 (b := z64) rfl))) (bcells64 (b := z64) rfl)) rfl ?_
              refine L.yes rfl rfl rfl ?_
              refine L.step build27 rfl ?_
              refine L.yes rfl rfl rfl ?_
              refine L.step (R.neqAV (A := z64) (B := z64) (b := false) Try.underlying27 Try.underlying5 n5 gd27 rfl rfl rfl rfl (by rw [decide_eq_true rfl]; rfl)) rfl ?_
              refine L.step (R.pickFV (v := .bool false) rfl rfl) rfl ?_
              refine L.step (R.moveV (v := .bool false) rfl) rfl ?_
              refine L.yes rfl rfl rfl ?_
              refine L.step (R.moveV (v := .pointer (some ⟨ra, 0, none⟩)) rfl) rfl ?_
              refine L.yes rfl rfl rfl ?_
              refine L.call (E.call1 hb25) rfl (dead_disk hD88) ?_
              rintro _ w90 ⟨rfl, ew⟩
              obtain rfl := ew.symm
              rw [show ((failsN m nn x.1).1.failing nn ((failsN m nn x.1).2 + 1)).dead = false from hfo.plain.dead]
              refine L.step (R.pickFV (v := .bool false) rfl rfl) rfl ?_
              refine L.step (R.moveV (v := .bool false) rfl) rfl ?_
              refine L.yes rfl rfl rfl ?_
              refine L.step (R.moveV (v := .pointer (some ⟨ra, 0, none⟩)) rfl) rfl ?_
              refine L.yes rfl rfl rfl ?_
              refine L.call (E.call1 hb31) rfl (ops_disk hD88) ?_
              rintro _ w91 ⟨rfl, ew⟩
              obtain rfl := ew.symm
              refine L.yes rfl rfl rfl ?_
              refine L.step (R.moveV (v := .int .i64 ((failsN m nn x.1).1.ops)) rfl) rfl ?_
              refine L.yes rfl rfl rfl ?_
              refine L.step (R.neqF rfl rfl rfl) rfl ?_
              refine L.step (R.pickFV (v := .bool false) rfl rfl) rfl ?_
              refine L.step (R.moveV (v := .bool false) rfl) rfl ?_
              refine L.yes rfl rfl rfl ?_
              refine L.step (R.moveV (v := .pointer (some ⟨ra, 0, none⟩)) rfl) rfl ?_
              refine L.yes rfl rfl rfl ?_
              refine L.call (E.call1 hb28) rfl (pending_calls hD88 (by show (failsN m nn x.1).1.pend.length ≤ 1000000; omega)) ?_
              rintro v94 w92 ⟨hr95, hk93⟩
              obtain ⟨a96, c97, rfl, _⟩ := hr95.shape
              have k98 := Kept.old hk93 k84 (fun h => h)
              have k99 := Kept.old hk93 k85 (fun h => h)
              have z100 := (hk93).size
              have q101 := Kept.trans q87 hk93 (fun _ _ h => h.elim)
              have hD102 := DiskAt.kept hD88 hk93 (fun _ _ h => h)
              have hD103 := DiskAt.kept hD89 hk93 (fun _ _ h => h)
              refine L.yes rfl rfl rfl ?_
              refine L.step (R.lenV (v := .int .i64 (((failsN m nn x.1).1.pend.length : Nat) : Int)) Try.underlying56 rfl rfl) rfl ?_
              refine L.yes rfl rfl rfl ?_
              refine L.step (R.moveV (v := .pointer (some ⟨rb, 0, none⟩)) rfl) rfl ?_
              refine L.yes rfl rfl rfl ?_
              refine L.call (E.call1 hb28) rfl (pending_calls hD103 (by show (failsN m nn x.1).1.pend.length ≤ 1000000; omega)) ?_
              rintro v106 w104 ⟨hr107, hk105⟩
              obtain ⟨a108, c109, rfl, _⟩ := hr107.shape
              have k110 := Kept.old hk105 k98 (fun h => h)
              have k111 := Kept.old hk105 k99 (fun h => h)
              have z112 := (hk105).size
              have q113 := Kept.trans q101 hk105 (fun _ _ h => h.elim)
              have hD114 := DiskAt.kept hD102 hk105 (fun _ _ h => h)
              have hD115 := DiskAt.kept hD103 hk105 (fun _ _ h => h)
              refine L.yes rfl rfl rfl ?_
              refine L.step (R.lenV (v := .int .i64 (((failsN m nn x.1).1.pend.length : Nat) : Int)) Try.underlying56 rfl rfl) rfl ?_
              refine L.yes rfl rfl rfl ?_
              refine L.step (R.neqF rfl rfl rfl) rfl ?_
              refine L.step (R.pickFV (v := .bool false) rfl rfl) rfl ?_
              refine L.nil ?_
              refine C.condF rfl ?_
              refine C.skip ?_
              refine C.exit ?_
              refine C.region ?_
              refine L.step (R.add rfl rfl (by omega)) rfl ?_
              refine L.step (R.moveV (v := .int .i64 (((x.1 : Nat) : Int) + 1)) rfl) rfl ?_
              refine L.nil ?_
              have hfe := failsN_succ (n := nn) hx1
              rw [if_neg hsk, if_pos heq] at hfe
              have hsq := (q113).size
              refine thenP.mk ⟨(x.1 + 1, F68, x.2.2), ⟨rfl, rfl, rfl, rfl, (by show _ = Value.int .i64 (failsN m nn (x.1 + 1)).2; rw [hfe]; rfl), rfl, rfl, rfl, trivial⟩, ⟨by show x.1 + 1 ≤ _; omega, q113, by show DiskAt _ _ ((failsN m nn (x.1 + 1)).1.failing nn (failsN m nn (x.1 + 1)).2) _; rw [hfe]; exact hD114, by show DiskAt _ _ (failsN m nn (x.1 + 1)).1 _; rw [hfe]; exact hD115, fun k hk => by have h0_ := bd69 k hk; omega, fun k hk => by have h0_ := bb k hk; omega, dj71⟩, by show m.length - (x.1 + 1) < m.length - x.1; omega⟩
            ·
              refine L.step (R.eqlF rfl rfl heq) rfl ?_
              refine L.nil ?_
              refine C.condF rfl ?_
              refine C.skip ?_
              refine C.seq ?_
              refine C.region ?_
              refine L.step (R.moveV (v := .int .i64 ((failsN m nn x.1).2)) rfl) rfl ?_
              refine L.step (R.add rfl rfl (by omega)) rfl ?_
              refine L.step (R.assignV (v := .int .i64 (((failsN m nn x.1).2) + 1)) rfl) rfl ?_
              refine L.nil ?_
              refine C.seq ?_
              refine C.region ?_
              refine L.step (R.moveV (v := .pointer (some ⟨ra, 0, none⟩)) rfl) rfl ?_
              refine L.step (R.loadA (cs := x1.cells) r32 rfl k52 rfl rfl) rfl ?_
              have hokD := hD55.ok
              refine L.call (E.call2 hb18) rfl (does_calls (o := x1.o) hD55 (by show (failsN m nn x.1).1.ops ≤ 1000000; omega) (by show (failsN m nn x.1).1.pend.length ≤ 1000000; omega) (hokx1.bools.kept q54 (fun _ _ h => h)) hokx1.len hokx1.at_ (fun k hk => by have h0_ := ba k hk; omega)) ?_
              rintro _ w116 ⟨rfl, hD118, hk117⟩
              have hfd := (failing_does hfo.plain hfo.safe hsk nn (failsN m nn x.1).2).2 heq
              rw [hfd] at hD118
              rw [hfd]
              have hokE : ((failsN m nn x.1).1.does x1.o).2.1.length = 64 := does_length hD56.ok
              simp only [bval]
              have k119 := Kept.old hk117 k52 (fun hF => by have h0_ := ba _ hF; omega)
              have hD120 := DiskAt.kept hD56 hk117 dba
              have z121 := hk117.size
              have q122 : Kept (fun _ => False) w w116 := Kept.trans q54 hk117 (fun k hlt9 hk9 => by have h0_ := ba k hk9; omega)
              obtain ⟨F123, eF123⟩ : ∃ G, G = grow x.2.1 w50 w116 := ⟨_, rfl⟩
              rw [← eF123] at hD118
              have mm125 : ∀ k, F123 k → x.2.1 k ∨ (w50.heap.size ≤ k ∧ k < w116.heap.size) := fun k hk => by rw [eF123] at hk; exact hk
              have hsq := (q122).size
              have bd124 : ∀ k, F123 k → w.heap.size ≤ k ∧ k < w116.heap.size := fun k hk => by
                rcases mm125 k hk with h | h
                · have h0_ := ba k h; omega
                · omega
              have dj126 : ∀ k, F123 k → ¬ x.2.2 k := fun k hk hy => by
                rcases mm125 k hk with h | h
                · exact dab k h hy
                · have h0_ := bb k hy; omega
              have dj127 : ∀ k, x.2.2 k → ¬ F123 k := fun k hy hk => by
                rcases mm125 k hk with h | h
                · exact dba k hy h
                · have h0_ := bb k hy; omega
              refine L.step (R.moveV (v := .tuple #[.agg (List.toArray (bcells (((failsN m nn x.1).1.does x1.o).2.1))), .int .i64 (((failsN m nn x.1).1.does x1.o).2.2)]) rfl) rfl ?_
              refine L.step (R.extract (v := .agg (List.toArray (bcells (((failsN m nn x.1).1.does x1.o).2.1)))) rfl rfl) rfl ?_
              refine L.step (R.extract (v := .int .i64 (((failsN m nn x.1).1.does x1.o).2.2)) rfl rfl) rfl ?_
              refine L.stepE (R.alloc z27) rfl fun w129 e128 => ?_
              have k131 := Al.new e128
              have k132 := Al.old e128 k119
              have z133 := Al.size e128
              have q134 := Al.kept e128 q122
              have hD135 := DiskAt.kept hD118 (Al.kept e128 (Kept.refl (fun _ => False) _)) (fun _ _ h => h)
              have hD136 := DiskAt.kept hD120 (Al.kept e128 (Kept.refl (fun _ => False) _)) (fun _ _ h => h)
              refine L.doesE (R.storeAll (cs := bcells (((failsN m nn x.1).1.does x1.o).2.1)) r27 rfl rfl (bcells64 hokE) (one_bcells _) k131 (List.length_replicate)) fun w138 e137 => ?_
              have k139 := So.old e137 (apartE k132 k131 (by decide)) k132
              have k140 := So.hit e137 k131
              have z141 := So.size e137
              have q142 := So.kept e137 q134 (fun h => absurd h (by omega))
              have hD143 := DiskAt.kept hD135 (So.kept e137 (Kept.refl (fun k => k = w116.heap.size) _) (fun _ => rfl)) (fun k hk e => by have e9 : k = w116.heap.size := e; have h0_ := bd124 k hk; omega)
              have hD144 := DiskAt.kept hD136 (So.kept e137 (Kept.refl (fun k => k = w116.heap.size) _) (fun _ => rfl)) (fun k hk e => by have e9 : k = w116.heap.size := e; have h0_ := bb k hk; omega)
              refine L.step (R.assignV (v := .int .i64 (((failsN m nn x.1).1.does x1.o).2.2)) rfl) rfl ?_
              refine L.nil ?_
              refine C.seq ?_
              refine C.region ?_
              refine L.step (R.moveV (v := .pointer (some ⟨rb, 0, none⟩)) rfl) rfl ?_
              refine L.step (R.loadA (cs := x1.cells) r32 rfl k139 rfl rfl) rfl ?_
              have hokD := hD144.ok
              refine L.call (E.call2 hb18) rfl (does_calls (o := x1.o) hD144 (by show (failsN m nn x.1).1.ops ≤ 1000000; omega) (by show (failsN m nn x.1).1.pend.length ≤ 1000000; omega) (hokx1.bools.kept q142 (fun _ _ h => h)) hokx1.len hokx1.at_ (fun k hk => by have h0_ := bb k hk; omega)) ?_
              rintro _ w145 ⟨rfl, hD147, hk146⟩
              simp only [bval]
              have k148 := Kept.old hk146 k139 (fun hF => by have h0_ := bb _ hF; omega)
              have k149 := Kept.old hk146 k140 (fun hF => by have h0_ := bb _ hF; omega)
              have hD150 := DiskAt.kept hD143 hk146 dj126
              have z151 := hk146.size
              have q152 : Kept (fun _ => False) w w145 := Kept.trans q142 hk146 (fun k hlt9 hk9 => by have h0_ := bb k hk9; omega)
              obtain ⟨F153, eF153⟩ : ∃ G, G = grow x.2.2 w138 w145 := ⟨_, rfl⟩
              rw [← eF153] at hD147
              have mm155 : ∀ k, F153 k → x.2.2 k ∨ (w138.heap.size ≤ k ∧ k < w145.heap.size) := fun k hk => by rw [eF153] at hk; exact hk
              have hsq := (q152).size
              have bd154 : ∀ k, F153 k → w.heap.size ≤ k ∧ k < w145.heap.size := fun k hk => by
                rcases mm155 k hk with h | h
                · have h0_ := bb k h; omega
                · omega
              have dj156 : ∀ k, F123 k → ¬ F153 k := fun k hy hk => by
                rcases mm155 k hk with h | h
                · exact dj126 k hy h
                · have h0_ := bd124 k hy; omega
              have dj157 : ∀ k, F153 k → ¬ F123 k := fun k hk hy => by
                rcases mm155 k hk with h | h
                · exact dj127 k h hy
                · have h0_ := bd124 k hy; omega
              refine L.step (R.moveV (v := .tuple #[.agg (List.toArray (bcells (((failsN m nn x.1).1.does x1.o).2.1))), .int .i64 (((failsN m nn x.1).1.does x1.o).2.2)]) rfl) rfl ?_
              refine L.step (R.extract (v := .agg (List.toArray (bcells (((failsN m nn x.1).1.does x1.o).2.1)))) rfl rfl) rfl ?_
              refine L.step (R.extract (v := .int .i64 (((failsN m nn x.1).1.does x1.o).2.2)) rfl rfl) rfl ?_
              refine L.stepE (R.alloc z27) rfl fun w159 e158 => ?_
              have k161 := Al.new e158
              have k162 := Al.old e158 k148
              have k163 := Al.old e158 k149
              have z164 := Al.size e158
              have q165 := Al.kept e158 q152
              have hD166 := DiskAt.kept hD150 (Al.kept e158 (Kept.refl (fun _ => False) _)) (fun _ _ h => h)
              have hD167 := DiskAt.kept hD147 (Al.kept e158 (Kept.refl (fun _ => False) _)) (fun _ _ h => h)
              refine L.doesE (R.storeAll (cs := bcells (((failsN m nn x.1).1.does x1.o).2.1)) r27 rfl rfl (bcells64 (does_length hokD)) (one_bcells _) k161 (List.length_replicate)) fun w169 e168 => ?_
              have k170 := So.old e168 (apartE k162 k161 (by decide)) k162
              have k171 := So.old e168 (by omega) k163
              have k172 := So.hit e168 k161
              have z173 := So.size e168
              have q174 := So.kept e168 q165 (fun h => absurd h (by omega))
              have hD175 := DiskAt.kept hD166 (So.kept e168 (Kept.refl (fun k => k = w145.heap.size) _) (fun _ => rfl)) (fun k hk e => by have e9 : k = w145.heap.size := e; have h0_ := bd124 k hk; omega)
              have hD176 := DiskAt.kept hD167 (So.kept e168 (Kept.refl (fun k => k = w145.heap.size) _) (fun _ => rfl)) (fun k hk e => by have e9 : k = w145.heap.size := e; have h0_ := bd154 k hk; omega)
              refine L.step (R.assignV (v := .int .i64 (((failsN m nn x.1).1.does x1.o).2.2)) rfl) rfl ?_
              refine L.nil ?_
              refine C.seq ?_
              refine C.region ?_
              refine L.step (R.loadA (cs := bcells (((failsN m nn x.1).1.does x1.o).2.1)) r27 rfl k171 (List.take_of_length_le (Nat.le_of_eq (bcells64 hokE))) (bcells64 hokE)) rfl ?_
              refine L.step (R.loadA (cs := bcells (((failsN m nn x.1).1.does x1.o).2.1)) r27 rfl k172 (List.take_of_length_le (Nat.le_of_eq (bcells64 (does_length hokD)))) (bcells64 (does_length hokD))) rfl ?_
              refine L.step (R.neqAV (A := ((failsN m nn x.1).1.does x1.o).2.1) (B := ((failsN m nn x.1).1.does x1.o).2.1) (b := false) Try.underlying27 Try.underlying5 n5 gd27 rfl rfl hokE hokE (by rw [decide_eq_true rfl]; rfl)) rfl ?_
              refine L.step (R.moveV (v := .bool false) rfl) rfl ?_
              refine L.yes rfl rfl rfl ?_
              refine L.step (R.moveV (v := .int .i64 (((failsN m nn x.1).1.does x1.o).2.2)) rfl) rfl ?_
              refine L.yes rfl rfl rfl ?_
              refine L.step (R.moveV (v := .int .i64 (((failsN m nn x.1).1.does x1.o).2.2)) rfl) rfl ?_
              refine L.yes rfl rfl rfl ?_
              refine L.step (R.neqF rfl rfl rfl) rfl ?_
              refine L.step (R.pickFV (v := .bool false) rfl rfl) rfl ?_
              refine L.nil ?_
              refine C.condF rfl ?_
              refine C.skip ?_
              refine C.region ?_
              refine L.step (R.add rfl rfl (by omega)) rfl ?_
              refine L.step (R.moveV (v := .int .i64 (((x.1 : Nat) : Int) + 1)) rfl) rfl ?_
              refine L.nil ?_
              have hfe := failsN_succ (n := nn) hx1
              rw [if_neg hsk, if_neg heq] at hfe
              have hsq := (q174).size
              refine thenP.mk ⟨(x.1 + 1, F123, F153), ⟨rfl, rfl, rfl, rfl, (by show _ = Value.int .i64 (failsN m nn (x.1 + 1)).2; rw [hfe]; rfl), rfl, rfl, rfl, trivial⟩, ⟨by show x.1 + 1 ≤ _; omega, q174, by show DiskAt _ _ ((failsN m nn (x.1 + 1)).1.failing nn (failsN m nn (x.1 + 1)).2) _; rw [hfe]; exact hD175, by show DiskAt _ _ (failsN m nn (x.1 + 1)).1 _; rw [hfe]; exact hD176, fun k hk => by have h0_ := bd124 k hk; omega, fun k hk => by have h0_ := bd154 k hk; omega, dj156⟩, by show m.length - (x.1 + 1) < m.length - x.1; omega⟩
      ·
        refine L.step (R.lssF rfl rfl (Int.not_lt.1 ht57)) rfl ?_
        refine L.yes rfl rfl rfl ?_
        refine L.step (R.moveV (v := .bool false) rfl) rfl ?_
        refine L.no rfl rfl rfl (.inl rfl) ?_
        refine L.no rfl rfl rfl (.inl rfl) ?_
        refine L.no rfl rfl rfl (.inl rfl) ?_
        refine L.no rfl rfl rfl (.inl rfl) ?_
        refine L.no rfl rfl rfl (.inr rfl) ?_
        refine L.no rfl rfl rfl (.inr rfl) ?_
        refine L.no rfl rfl rfl (.inr rfl) ?_
        refine L.no rfl rfl rfl (.inl rfl) ?_
        refine L.yes rfl rfl rfl ?_
        refine L.step (R.pickFV (v := .bool false) rfl rfl) rfl ?_
        refine L.step (R.pickFV (v := .bool false) rfl rfl) rfl ?_
        refine L.nil ?_
        refine C.condF rfl ?_
        refine C.skip ?_
        refine C.seq ?_
        refine C.seq ?_
        refine C.region ?_
        refine L.step (R.moveV (v := .int .i64 ((failsN m nn x.1).2)) rfl) rfl ?_
        refine L.step (R.moveV (v := .int .i64 nn) rfl) rfl ?_
        have hsk : ¬ skipF x1.o := by unfold skipF; omega
        rcases Classical.em ((failsN m nn x.1).2 = nn) with heq | heq
        ·
          refine L.step (R.eqlT rfl rfl heq) rfl ?_
          refine L.nil ?_
          refine C.condT rfl ?_
          refine C.seq ?_
          refine C.region ?_
          refine L.step (R.moveV (v := .int .i64 ((failsN m nn x.1).2)) rfl) rfl ?_
          refine L.step (R.add rfl rfl (by omega)) rfl ?_
          refine L.step (R.assignV (v := .int .i64 (((failsN m nn x.1).2) + 1)) rfl) rfl ?_
          refine L.nil ?_
          refine C.seq ?_
          refine C.region ?_
          refine L.step (R.moveV (v := .pointer (some ⟨ra, 0, none⟩)) rfl) rfl ?_
          refine L.call (E.call1 hb31) rfl (ops_disk hD55) ?_
          rintro _ w177 ⟨rfl, ew⟩
          obtain rfl := ew.symm
          refine L.step (R.assignV (v := .int .i64 ((failsN m nn x.1).1.ops)) rfl) rfl ?_
          refine L.nil ?_
          refine C.seq ?_
          refine C.seq ?_
          refine C.region ?_
          refine L.step (R.moveV (v := .pointer (some ⟨ra, 0, none⟩)) rfl) rfl ?_
          refine L.step (R.loadA (cs := x1.cells) r32 rfl k52 rfl rfl) rfl ?_
          have hokD := hD55.ok
          refine L.call (E.call2 hb18) rfl (does_calls (o := x1.o) hD55 (by show (failsN m nn x.1).1.ops ≤ 1000000; omega) (by show (failsN m nn x.1).1.pend.length ≤ 1000000; omega) (hokx1.bools.kept q54 (fun _ _ h => h)) hokx1.len hokx1.at_ (fun k hk => by have h0_ := ba k hk; omega)) ?_
          rintro _ w178 ⟨rfl, hD180, hk179⟩
          have hfd := (failing_does hfo.plain hfo.safe hsk nn (failsN m nn x.1).2).1 heq
          rw [hfd] at hD180
          rw [hfd]
          simp only [bval]
          have k181 := Kept.old hk179 k52 (fun hF => by have h0_ := ba _ hF; omega)
          have hD182 := DiskAt.kept hD56 hk179 dba
          have z183 := hk179.size
          have q184 : Kept (fun _ => False) w w178 := Kept.trans q54 hk179 (fun k hlt9 hk9 => by have h0_ := ba k hk9; omega)
          obtain ⟨F185, eF185⟩ : ∃ G, G = grow x.2.1 w50 w178 := ⟨_, rfl⟩
          rw [← eF185] at hD180
          have mm187 : ∀ k, F185 k → x.2.1 k ∨ (w50.heap.size ≤ k ∧ k < w178.heap.size) := fun k hk => by rw [eF185] at hk; exact hk
          have hsq := (q184).size
          have bd186 : ∀ k, F185 k → w.heap.size ≤ k ∧ k < w178.heap.size := fun k hk => by
            rcases mm187 k hk with h | h
            · have h0_ := ba k h; omega
            · omega
          have dj188 : ∀ k, F185 k → ¬ x.2.2 k := fun k hk hy => by
            rcases mm187 k hk with h | h
            · exact dab k h hy
            · have h0_ := bb k hy; omega
          have dj189 : ∀ k, x.2.2 k → ¬ F185 k := fun k hy hk => by
            rcases mm187 k hk with h | h
            · exact dba k hy h
            · have h0_ := bb k hy; omega
          refine L.step (R.moveV (v := .tuple #[.agg (List.toArray (bcells z64)), .int .i64 8]) rfl) rfl ?_
          refine L.step (R.extract (v := .agg (List.toArray (bcells z64))) rfl rfl) rfl ?_
          refine L.step (R.extract (v := .int .i64 8) rfl rfl) rfl ?_
          refine L.stepE (R.alloc z27) rfl fun w191 e190 => ?_
          have k193 := Al.new e190
          have k194 := Al.old e190 k181
          have z195 := Al.size e190
          have q196 := Al.kept e190 q184
          have hD197 := DiskAt.kept hD180 (Al.kept e190 (Kept.refl (fun _ => False) _)) (fun _ _ h => h)
          have hD198 := DiskAt.kept hD182 (Al.kept e190 (Kept.refl (fun _ => False) _)) (fun _ _ h => h)
          refine L.doesE (R.storeAll (cs := bcells z64) r27 rfl rfl (bcells64 (b := z64) rfl) (one_bcells _) k193 (List.length_replicate)) fun w200 e199 => ?_
          have k201 := So.old e199 (apartE k194 k193 (by decide)) k194
          have k202 := So.hit e199 k193
          have z203 := So.size e199
          have q204 := So.kept e199 q196 (fun h => absurd h (by omega))
          have hD205 := DiskAt.kept hD197 (So.kept e199 (Kept.refl (fun k => k = w178.heap.size) _) (fun _ => rfl)) (fun k hk e => by have e9 : k = w178.heap.size := e; have h0_ := bd186 k hk; omega)
          have hD206 := DiskAt.kept hD198 (So.kept e199 (Kept.refl (fun k => k = w178.heap.size) _) (fun _ => rfl)) (fun k hk e => by have e9 : k = w178.heap.size := e; have h0_ := bb k hk; omega)
          refine L.step (R.assignV (v := .int .i64 8) rfl) rfl ?_
          refine L.nil ?_
          refine C.seq ?_
          refine C.region ?_
          refine L.step (R.moveV (v := .int .i64 8) rfl) rfl ?_
          refine L.step (R.neqF rfl rfl (by omega)) rfl ?_
          refine L.step (R.moveV (v := .bool false) rfl) rfl ?_
          refine L.yes rfl rfl rfl ?_
          refine L.step (R.loadA (cs := bcells z64) r27 rfl k202 (List.take_of_length_le (Nat.le_of_eq (bcells64 (b := z64) rfl))) (bcells64 (b := z64) rfl)) rfl ?_
          refine L.yes rfl rfl rfl ?_
          refine L.step build27 rfl ?_
          refine L.yes rfl rfl rfl ?_
          refine L.step (R.neqAV (A := z64) (B := z64) (b := false) Try.underlying27 Try.underlying5 n5 gd27 rfl rfl rfl rfl (by rw [decide_eq_true rfl]; rfl)) rfl ?_
          refine L.step (R.pickFV (v := .bool false) rfl rfl) rfl ?_
          refine L.step (R.moveV (v := .bool false) rfl) rfl ?_
          refine L.yes rfl rfl rfl ?_
          refine L.step (R.moveV (v := .pointer (some ⟨ra, 0, none⟩)) rfl) rfl ?_
          refine L.yes rfl rfl rfl ?_
          refine L.call (E.call1 hb25) rfl (dead_disk hD205) ?_
          rintro _ w207 ⟨rfl, ew⟩
          obtain rfl := ew.symm
          rw [show ((failsN m nn x.1).1.failing nn ((failsN m nn x.1).2 + 1)).dead = false from hfo.plain.dead]
          refine L.step (R.pickFV (v := .bool false) rfl rfl) rfl ?_
          refine L.step (R.moveV (v := .bool false) rfl) rfl ?_
          refine L.yes rfl rfl rfl ?_
          refine L.step (R.moveV (v := .pointer (some ⟨ra, 0, none⟩)) rfl) rfl ?_
          refine L.yes rfl rfl rfl ?_
          refine L.call (E.call1 hb31) rfl (ops_disk hD205) ?_
          rintro _ w208 ⟨rfl, ew⟩
          obtain rfl := ew.symm
          refine L.yes rfl rfl rfl ?_
          refine L.step (R.moveV (v := .int .i64 ((failsN m nn x.1).1.ops)) rfl) rfl ?_
          refine L.yes rfl rfl rfl ?_
          refine L.step (R.neqF rfl rfl rfl) rfl ?_
          refine L.step (R.pickFV (v := .bool false) rfl rfl) rfl ?_
          refine L.step (R.moveV (v := .bool false) rfl) rfl ?_
          refine L.yes rfl rfl rfl ?_
          refine L.step (R.moveV (v := .pointer (some ⟨ra, 0, none⟩)) rfl) rfl ?_
          refine L.yes rfl rfl rfl ?_
          refine L.call (E.call1 hb28) rfl (pending_calls hD205 (by show (failsN m nn x.1).1.pend.length ≤ 1000000; omega)) ?_
          rintro v211 w209 ⟨hr212, hk210⟩
          obtain ⟨a213, c214, rfl, _⟩ := hr212.shape
          have k215 := Kept.old hk210 k201 (fun h => h)
          have k216 := Kept.old hk210 k202 (fun h => h)
          have z217 := (hk210).size
          have q218 := Kept.trans q204 hk210 (fun _ _ h => h.elim)
          have hD219 := DiskAt.kept hD205 hk210 (fun _ _ h => h)
          have hD220 := DiskAt.kept hD206 hk210 (fun _ _ h => h)
          refine L.yes rfl rfl rfl ?_
          refine L.step (R.lenV (v := .int .i64 (((failsN m nn x.1).1.pend.length : Nat) : Int)) Try.underlying56 rfl rfl) rfl ?_
          refine L.yes rfl rfl rfl ?_
          refine L.step (R.moveV (v := .pointer (some ⟨rb, 0, none⟩)) rfl) rfl ?_
          refine L.yes rfl rfl rfl ?_
          refine L.call (E.call1 hb28) rfl (pending_calls hD220 (by show (failsN m nn x.1).1.pend.length ≤ 1000000; omega)) ?_
          rintro v223 w221 ⟨hr224, hk222⟩
          obtain ⟨a225, c226, rfl, _⟩ := hr224.shape
          have k227 := Kept.old hk222 k215 (fun h => h)
          have k228 := Kept.old hk222 k216 (fun h => h)
          have z229 := (hk222).size
          have q230 := Kept.trans q218 hk222 (fun _ _ h => h.elim)
          have hD231 := DiskAt.kept hD219 hk222 (fun _ _ h => h)
          have hD232 := DiskAt.kept hD220 hk222 (fun _ _ h => h)
          refine L.yes rfl rfl rfl ?_
          refine L.step (R.lenV (v := .int .i64 (((failsN m nn x.1).1.pend.length : Nat) : Int)) Try.underlying56 rfl rfl) rfl ?_
          refine L.yes rfl rfl rfl ?_
          refine L.step (R.neqF rfl rfl rfl) rfl ?_
          refine L.step (R.pickFV (v := .bool false) rfl rfl) rfl ?_
          refine L.nil ?_
          refine C.condF rfl ?_
          refine C.skip ?_
          refine C.exit ?_
          refine C.region ?_
          refine L.step (R.add rfl rfl (by omega)) rfl ?_
          refine L.step (R.moveV (v := .int .i64 (((x.1 : Nat) : Int) + 1)) rfl) rfl ?_
          refine L.nil ?_
          have hfe := failsN_succ (n := nn) hx1
          rw [if_neg hsk, if_pos heq] at hfe
          have hsq := (q230).size
          refine thenP.mk ⟨(x.1 + 1, F185, x.2.2), ⟨rfl, rfl, rfl, rfl, (by show _ = Value.int .i64 (failsN m nn (x.1 + 1)).2; rw [hfe]; rfl), rfl, rfl, rfl, trivial⟩, ⟨by show x.1 + 1 ≤ _; omega, q230, by show DiskAt _ _ ((failsN m nn (x.1 + 1)).1.failing nn (failsN m nn (x.1 + 1)).2) _; rw [hfe]; exact hD231, by show DiskAt _ _ (failsN m nn (x.1 + 1)).1 _; rw [hfe]; exact hD232, fun k hk => by have h0_ := bd186 k hk; omega, fun k hk => by have h0_ := bb k hk; omega, dj188⟩, by show m.length - (x.1 + 1) < m.length - x.1; omega⟩
        ·
          refine L.step (R.eqlF rfl rfl heq) rfl ?_
          refine L.nil ?_
          refine C.condF rfl ?_
          refine C.skip ?_
          refine C.seq ?_
          refine C.region ?_
          refine L.step (R.moveV (v := .int .i64 ((failsN m nn x.1).2)) rfl) rfl ?_
          refine L.step (R.add rfl rfl (by omega)) rfl ?_
          refine L.step (R.assignV (v := .int .i64 (((failsN m nn x.1).2) + 1)) rfl) rfl ?_
          refine L.nil ?_
          refine C.seq ?_
          refine C.region ?_
          refine L.step (R.moveV (v := .pointer (some ⟨ra, 0, none⟩)) rfl) rfl ?_
          refine L.step (R.loadA (cs := x1.cells) r32 rfl k52 rfl rfl) rfl ?_
          have hokD := hD55.ok
          refine L.call (E.call2 hb18) rfl (does_calls (o := x1.o) hD55 (by show (failsN m nn x.1).1.ops ≤ 1000000; omega) (by show (failsN m nn x.1).1.pend.length ≤ 1000000; omega) (hokx1.bools.kept q54 (fun _ _ h => h)) hokx1.len hokx1.at_ (fun k hk => by have h0_ := ba k hk; omega)) ?_
          rintro _ w233 ⟨rfl, hD235, hk234⟩
          have hfd := (failing_does hfo.plain hfo.safe hsk nn (failsN m nn x.1).2).2 heq
          rw [hfd] at hD235
          rw [hfd]
          have hokE : ((failsN m nn x.1).1.does x1.o).2.1.length = 64 := does_length hD56.ok
          simp only [bval]
          have k236 := Kept.old hk234 k52 (fun hF => by have h0_ := ba _ hF; omega)
          have hD237 := DiskAt.kept hD56 hk234 dba
          have z238 := hk234.size
          have q239 : Kept (fun _ => False) w w233 := Kept.trans q54 hk234 (fun k hlt9 hk9 => by have h0_ := ba k hk9; omega)
          obtain ⟨F240, eF240⟩ : ∃ G, G = grow x.2.1 w50 w233 := ⟨_, rfl⟩
          rw [← eF240] at hD235
          have mm242 : ∀ k, F240 k → x.2.1 k ∨ (w50.heap.size ≤ k ∧ k < w233.heap.size) := fun k hk => by rw [eF240] at hk; exact hk
          have hsq := (q239).size
          have bd241 : ∀ k, F240 k → w.heap.size ≤ k ∧ k < w233.heap.size := fun k hk => by
            rcases mm242 k hk with h | h
            · have h0_ := ba k h; omega
            · omega
          have dj243 : ∀ k, F240 k → ¬ x.2.2 k := fun k hk hy => by
            rcases mm242 k hk with h | h
            · exact dab k h hy
            · have h0_ := bb k hy; omega
          have dj244 : ∀ k, x.2.2 k → ¬ F240 k := fun k hy hk => by
            rcases mm242 k hk with h | h
            · exact dba k hy h
            · have h0_ := bb k hy; omega
          refine L.step (R.moveV (v := .tuple #[.agg (List.toArray (bcells (((failsN m nn x.1).1.does x1.o).2.1))), .int .i64 (((failsN m nn x.1).1.does x1.o).2.2)]) rfl) rfl ?_
          refine L.step (R.extract (v := .agg (List.toArray (bcells (((failsN m nn x.1).1.does x1.o).2.1)))) rfl rfl) rfl ?_
          refine L.step (R.extract (v := .int .i64 (((failsN m nn x.1).1.does x1.o).2.2)) rfl rfl) rfl ?_
          refine L.stepE (R.alloc z27) rfl fun w246 e245 => ?_
          have k248 := Al.new e245
          have k249 := Al.old e245 k236
          have z250 := Al.size e245
          have q251 := Al.kept e245 q239
          have hD252 := DiskAt.kept hD235 (Al.kept e245 (Kept.refl (fun _ => False) _)) (fun _ _ h => h)
          have hD253 := DiskAt.kept hD237 (Al.kept e245 (Kept.refl (fun _ => False) _)) (fun _ _ h => h)
          refine L.doesE (R.storeAll (cs := bcells (((failsN m nn x.1).1.does x1.o).2.1)) r27 rfl rfl (bcells64 hokE) (one_bcells _) k248 (List.length_replicate)) fun w255 e254 => ?_
          have k256 := So.old e254 (apartE k249 k248 (by decide)) k249
          have k257 := So.hit e254 k248
          have z258 := So.size e254
          have q259 := So.kept e254 q251 (fun h => absurd h (by omega))
          have hD260 := DiskAt.kept hD252 (So.kept e254 (Kept.refl (fun k => k = w233.heap.size) _) (fun _ => rfl)) (fun k hk e => by have e9 : k = w233.heap.size := e; have h0_ := bd241 k hk; omega)
          have hD261 := DiskAt.kept hD253 (So.kept e254 (Kept.refl (fun k => k = w233.heap.size) _) (fun _ => rfl)) (fun k hk e => by have e9 : k = w233.heap.size := e; have h0_ := bb k hk; omega)
          refine L.step (R.assignV (v := .int .i64 (((failsN m nn x.1).1.does x1.o).2.2)) rfl) rfl ?_
          refine L.nil ?_
          refine C.seq ?_
          refine C.region ?_
          refine L.step (R.moveV (v := .pointer (some ⟨rb, 0, none⟩)) rfl) rfl ?_
          refine L.step (R.loadA (cs := x1.cells) r32 rfl k256 rfl rfl) rfl ?_
          have hokD := hD261.ok
          refine L.call (E.call2 hb18) rfl (does_calls (o := x1.o) hD261 (by show (failsN m nn x.1).1.ops ≤ 1000000; omega) (by show (failsN m nn x.1).1.pend.length ≤ 1000000; omega) (hokx1.bools.kept q259 (fun _ _ h => h)) hokx1.len hokx1.at_ (fun k hk => by have h0_ := bb k hk; omega)) ?_
          rintro _ w262 ⟨rfl, hD264, hk263⟩
          simp only [bval]
          have k265 := Kept.old hk263 k256 (fun hF => by have h0_ := bb _ hF; omega)
          have k266 := Kept.old hk263 k257 (fun hF => by have h0_ := bb _ hF; omega)
          have hD267 := DiskAt.kept hD260 hk263 dj243
          have z268 := hk263.size
          have q269 : Kept (fun _ => False) w w262 := Kept.trans q259 hk263 (fun k hlt9 hk9 => by have h0_ := bb k hk9; omega)
          obtain ⟨F270, eF270⟩ : ∃ G, G = grow x.2.2 w255 w262 := ⟨_, rfl⟩
          rw [← eF270] at hD264
          have mm272 : ∀ k, F270 k → x.2.2 k ∨ (w255.heap.size ≤ k ∧ k < w262.heap.size) := fun k hk => by rw [eF270] at hk; exact hk
          have hsq := (q269).size
          have bd271 : ∀ k, F270 k → w.heap.size ≤ k ∧ k < w262.heap.size := fun k hk => by
            rcases mm272 k hk with h | h
            · have h0_ := bb k h; omega
            · omega
          have dj273 : ∀ k, F240 k → ¬ F270 k := fun k hy hk => by
            rcases mm272 k hk with h | h
            · exact dj243 k hy h
            · have h0_ := bd241 k hy; omega
          have dj274 : ∀ k, F270 k → ¬ F240 k := fun k hk hy => by
            rcases mm272 k hk with h | h
            · exact dj244 k h hy
            · have h0_ := bd241 k hy; omega
          refine L.step (R.moveV (v := .tuple #[.agg (List.toArray (bcells (((failsN m nn x.1).1.does x1.o).2.1))), .int .i64 (((failsN m nn x.1).1.does x1.o).2.2)]) rfl) rfl ?_
          refine L.step (R.extract (v := .agg (List.toArray (bcells (((failsN m nn x.1).1.does x1.o).2.1)))) rfl rfl) rfl ?_
          refine L.step (R.extract (v := .int .i64 (((failsN m nn x.1).1.does x1.o).2.2)) rfl rfl) rfl ?_
          refine L.stepE (R.alloc z27) rfl fun w276 e275 => ?_
          have k278 := Al.new e275
          have k279 := Al.old e275 k265
          have k280 := Al.old e275 k266
          have z281 := Al.size e275
          have q282 := Al.kept e275 q269
          have hD283 := DiskAt.kept hD267 (Al.kept e275 (Kept.refl (fun _ => False) _)) (fun _ _ h => h)
          have hD284 := DiskAt.kept hD264 (Al.kept e275 (Kept.refl (fun _ => False) _)) (fun _ _ h => h)
          refine L.doesE (R.storeAll (cs := bcells (((failsN m nn x.1).1.does x1.o).2.1)) r27 rfl rfl (bcells64 (does_length hokD)) (one_bcells _) k278 (List.length_replicate)) fun w286 e285 => ?_
          have k287 := So.old e285 (apartE k279 k278 (by decide)) k279
          have k288 := So.old e285 (by omega) k280
          have k289 := So.hit e285 k278
          have z290 := So.size e285
          have q291 := So.kept e285 q282 (fun h => absurd h (by omega))
          have hD292 := DiskAt.kept hD283 (So.kept e285 (Kept.refl (fun k => k = w262.heap.size) _) (fun _ => rfl)) (fun k hk e => by have e9 : k = w262.heap.size := e; have h0_ := bd241 k hk; omega)
          have hD293 := DiskAt.kept hD284 (So.kept e285 (Kept.refl (fun k => k = w262.heap.size) _) (fun _ => rfl)) (fun k hk e => by have e9 : k = w262.heap.size := e; have h0_ := bd271 k hk; omega)
          refine L.step (R.assignV (v := .int .i64 (((failsN m nn x.1).1.does x1.o).2.2)) rfl) rfl ?_
          refine L.nil ?_
          refine C.seq ?_
          refine C.region ?_
          refine L.step (R.loadA (cs := bcells (((failsN m nn x.1).1.does x1.o).2.1)) r27 rfl k288 (List.take_of_length_le (Nat.le_of_eq (bcells64 hokE))) (bcells64 hokE)) rfl ?_
          refine L.step (R.loadA (cs := bcells (((failsN m nn x.1).1.does x1.o).2.1)) r27 rfl k289 (List.take_of_length_le (Nat.le_of_eq (bcells64 (does_length hokD)))) (bcells64 (does_length hokD))) rfl ?_
          refine L.step (R.neqAV (A := ((failsN m nn x.1).1.does x1.o).2.1) (B := ((failsN m nn x.1).1.does x1.o).2.1) (b := false) Try.underlying27 Try.underlying5 n5 gd27 rfl rfl hokE hokE (by rw [decide_eq_true rfl]; rfl)) rfl ?_
          refine L.step (R.moveV (v := .bool false) rfl) rfl ?_
          refine L.yes rfl rfl rfl ?_
          refine L.step (R.moveV (v := .int .i64 (((failsN m nn x.1).1.does x1.o).2.2)) rfl) rfl ?_
          refine L.yes rfl rfl rfl ?_
          refine L.step (R.moveV (v := .int .i64 (((failsN m nn x.1).1.does x1.o).2.2)) rfl) rfl ?_
          refine L.yes rfl rfl rfl ?_
          refine L.step (R.neqF rfl rfl rfl) rfl ?_
          refine L.step (R.pickFV (v := .bool false) rfl rfl) rfl ?_
          refine L.nil ?_
          refine C.condF rfl ?_
          refine C.skip ?_
          refine C.region ?_
          refine L.step (R.add rfl rfl (by omega)) rfl ?_
          refine L.step (R.moveV (v := .int .i64 (((x.1 : Nat) : Int) + 1)) rfl) rfl ?_
          refine L.nil ?_
          have hfe := failsN_succ (n := nn) hx1
          rw [if_neg hsk, if_neg heq] at hfe
          have hsq := (q291).size
          refine thenP.mk ⟨(x.1 + 1, F240, F270), ⟨rfl, rfl, rfl, rfl, (by show _ = Value.int .i64 (failsN m nn (x.1 + 1)).2; rw [hfe]; rfl), rfl, rfl, rfl, trivial⟩, ⟨by show x.1 + 1 ≤ _; omega, q291, by show DiskAt _ _ ((failsN m nn (x.1 + 1)).1.failing nn (failsN m nn (x.1 + 1)).2) _; rw [hfe]; exact hD292, by show DiskAt _ _ (failsN m nn (x.1 + 1)).1 _; rw [hfe]; exact hD293, fun k hk => by have h0_ := bd241 k hk; omega, fun k hk => by have h0_ := bd271 k hk; omega, dj273⟩, by show m.length - (x.1 + 1) < m.length - x.1; omega⟩
  ·
    refine L.step (R.lssF rfl rfl (Int.not_lt.1 ht26)) rfl ?_
    refine L.nil ?_
    refine C.seq ?_
    refine C.condF rfl ?_
    refine C.exit ?_
    refine C.seq ?_
    refine C.seq ?_
    refine C.region ?_
    refine L.step (R.moveV (v := .int .i64 ((failsN m nn x.1).2)) rfl) rfl ?_
    refine L.step (R.moveV (v := .int .i64 nn) rfl) rfl ?_
    have hkm : x.1 = m.length := by omega
    rcases Classical.em ((failsN m nn x.1).2 ≤ nn) with ht294 | ht294
    ·
      refine L.step (R.leqT rfl rfl (ht294)) rfl ?_
      refine L.step (R.moveV (v := .bool true) rfl) rfl ?_
      refine L.yes rfl rfl rfl ?_
      refine L.step (R.moveV (v := .pointer (some ⟨ra, 0, none⟩)) rfl) rfl ?_
      refine L.yes rfl rfl rfl ?_
      refine L.call (E.call2 hb27) rfl (fail_disk hDa (by omega)) ?_
      rintro _ w295 ⟨rfl, hD297, hk296⟩
      rw [(failing_end hfo.plain).2] at hD297
      rw [(failing_end hfo.plain).2]
      have hD298 := DiskAt.kept hDb hk296 dba
      have z299 := hk296.size
      have q300 : Kept (fun _ => False) w w295 := Kept.trans hq hk296 (fun k hlt9 hk9 => by have h0_ := ba k hk9; omega)
      refine L.yes rfl rfl rfl ?_
      refine L.step (R.neqF rfl rfl (by omega)) rfl ?_
      refine L.step (R.pickTV (v := .bool false) rfl rfl) rfl ?_
      refine L.nil ?_
      refine C.condF rfl ?_
      refine C.skip ?_
      refine C.seq ?_
      refine C.region ?_
      refine L.step (R.moveV (v := .pointer (some ⟨ra, 0, none⟩)) rfl) rfl ?_
      have hokM0 := hD298.ok
      obtain ⟨Dm, hDm⟩ : ∃ D, D = (failsN m nn x.1).1 := ⟨_, rfl⟩
      have hPl := hfo.plain
      have hSa := hfo.safe
      rw [← hDm] at hPl hSa hf1 hf2
      have hD306 := hD297
      rw [← hDm] at hD306
      have hD307 := hD298
      rw [← hDm] at hD307
      refine L.call (E.call1 hb15) rfl (held_calls (n := 6) hD306 (fun k hk => by have h0_ := ba k hk; omega) hSa (by decide) (by omega) (by omega)) ?_
      rintro v305 w301 ⟨hr304, hD303, hk302⟩
      have hD308 := DiskAt.kept hD307 hk302 dba
      have z309 := hk302.size
      have q310 : Kept (fun _ => False) w w301 := Kept.trans q300 hk302 (fun k hlt9 hk9 => by have h0_ := ba k hk9; omega)
      have hokM : Dm.Ok := by rw [hDm]; exact hokM0
      refine L.step (R.moveV (v := .pointer (some ⟨rb, 0, none⟩)) rfl) rfl ?_
      refine L.call (E.call1 hb15) rfl (held_calls (n := 6) hD308 (fun k hk => by have h0_ := bb k hk; omega) hSa (by decide) (by omega) (by omega)) ?_
      rintro v315 w311 ⟨hr314, hD313, hk312⟩
      have m316 := Row.kept hr304 hk312 (fun k hG hF => by have h0_ := bb k hF; have hg9 := hG.elim (fun h => h.elim) (fun h => h); omega)
      have hD317 := DiskAt.kept hD303 hk312 dab
      have z318 := hk312.size
      have q319 : Kept (fun _ => False) w w311 := Kept.trans q310 hk312 (fun k hlt9 hk9 => by have h0_ := bb k hk9; omega)
      have hhp := held_plain hPl 6 (by rw [hSa]; decide)
      have hh64 : ∀ b ∈ (Dm.held 6).2, b.length = 64 := fun b hb => by
        rw [hhp.2.2.2] at hb
        obtain ⟨i, hi, rfl⟩ := List.mem_map.1 hb
        have hi := List.mem_range.1 hi
        exact look_length hokM ⟨by omega, by rw [hSa]; omega⟩
      refine L.call (E.call2 hb30) rfl (same_calls m316 hr314 (PD.held_length 6) (PD.held_length 6) (by decide) hh64 hh64) ?_
      rintro _ w320 ⟨rfl, hk321⟩
      rw [decide_eq_true rfl]
      have z322 := (hk321).size
      have q323 := Kept.trans q319 hk321 (fun _ _ h => h.elim)
      have hD324 := DiskAt.kept hD317 hk321 (fun _ _ h => h)
      have hD325 := DiskAt.kept hD313 hk321 (fun _ _ h => h)
      refine L.step (R.moveV (v := .bool true) rfl) rfl ?_
      refine L.yes rfl rfl rfl ?_
      refine L.step (R.moveV (v := .pointer (some ⟨ra, 0, none⟩)) rfl) rfl ?_
      refine L.yes rfl rfl rfl ?_
      refine L.call (E.call1 hb31) rfl (ops_disk hD324) ?_
      rintro _ w326 ⟨rfl, ew⟩
      obtain rfl := ew.symm
      refine L.yes rfl rfl rfl ?_
      refine L.step (R.moveV (v := .pointer (some ⟨rb, 0, none⟩)) rfl) rfl ?_
      refine L.yes rfl rfl rfl ?_
      refine L.call (E.call1 hb31) rfl (ops_disk hD325) ?_
      rintro _ w327 ⟨rfl, ew⟩
      obtain rfl := ew.symm
      refine L.yes rfl rfl rfl ?_
      refine L.step (R.eqlT rfl rfl rfl) rfl ?_
      refine L.step (R.pickTV (v := .bool true) rfl rfl) rfl ?_
      refine L.step (R.assignV (v := .bool true) rfl) rfl ?_
      refine L.nil ?_
      refine C.ret (?_ : RetOk _ _ _ _ _)
      refine RetOk.tV (v := .bool true) rfl rfl ?_
      exact ⟨rfl, q323⟩
    ·
      have hD328 := hDa
      rw [(failing_end hfo.plain).1 (by omega)] at hD328
      refine L.step (R.leqF rfl rfl (Int.not_le.1 ht294)) rfl ?_
      refine L.step (R.moveV (v := .bool false) rfl) rfl ?_
      refine L.no rfl rfl rfl (.inl rfl) ?_
      refine L.no rfl rfl rfl (.inl rfl) ?_
      refine L.no rfl rfl rfl (.inl rfl) ?_
      refine L.step (R.pickFV (v := .bool false) rfl rfl) rfl ?_
      refine L.nil ?_
      refine C.condF rfl ?_
      refine C.skip ?_
      refine C.seq ?_
      refine C.region ?_
      refine L.step (R.moveV (v := .pointer (some ⟨ra, 0, none⟩)) rfl) rfl ?_
      have hokM0 := hDb.ok
      obtain ⟨Dm, hDm⟩ : ∃ D, D = (failsN m nn x.1).1 := ⟨_, rfl⟩
      have hPl := hfo.plain
      have hSa := hfo.safe
      rw [← hDm] at hPl hSa hf1 hf2
      have hD334 := hD328
      rw [← hDm] at hD334
      have hD335 := hDb
      rw [← hDm] at hD335
      refine L.call (E.call1 hb15) rfl (held_calls (n := 6) hD334 (fun k hk => by have h0_ := ba k hk; omega) hSa (by decide) (by omega) (by omega)) ?_
      rintro v333 w329 ⟨hr332, hD331, hk330⟩
      have hD336 := DiskAt.kept hD335 hk330 dba
      have z337 := hk330.size
      have q338 : Kept (fun _ => False) w w329 := Kept.trans hq hk330 (fun k hlt9 hk9 => by have h0_ := ba k hk9; omega)
      have hokM : Dm.Ok := by rw [hDm]; exact hokM0
      refine L.step (R.moveV (v := .pointer (some ⟨rb, 0, none⟩)) rfl) rfl ?_
      refine L.call (E.call1 hb15) rfl (held_calls (n := 6) hD336 (fun k hk => by have h0_ := bb k hk; omega) hSa (by decide) (by omega) (by omega)) ?_
      rintro v343 w339 ⟨hr342, hD341, hk340⟩
      have m344 := Row.kept hr332 hk340 (fun k hG hF => by have h0_ := bb k hF; have hg9 := hG.elim (fun h => h.elim) (fun h => h); omega)
      have hD345 := DiskAt.kept hD331 hk340 dab
      have z346 := hk340.size
      have q347 : Kept (fun _ => False) w w339 := Kept.trans q338 hk340 (fun k hlt9 hk9 => by have h0_ := bb k hk9; omega)
      have hhp := held_plain hPl 6 (by rw [hSa]; decide)
      have hh64 : ∀ b ∈ (Dm.held 6).2, b.length = 64 := fun b hb => by
        rw [hhp.2.2.2] at hb
        obtain ⟨i, hi, rfl⟩ := List.mem_map.1 hb
        have hi := List.mem_range.1 hi
        exact look_length hokM ⟨by omega, by rw [hSa]; omega⟩
      refine L.call (E.call2 hb30) rfl (same_calls m344 hr342 (PD.held_length 6) (PD.held_length 6) (by decide) hh64 hh64) ?_
      rintro _ w348 ⟨rfl, hk349⟩
      rw [decide_eq_true rfl]
      have z350 := (hk349).size
      have q351 := Kept.trans q347 hk349 (fun _ _ h => h.elim)
      have hD352 := DiskAt.kept hD345 hk349 (fun _ _ h => h)
      have hD353 := DiskAt.kept hD341 hk349 (fun _ _ h => h)
      refine L.step (R.moveV (v := .bool true) rfl) rfl ?_
      refine L.yes rfl rfl rfl ?_
      refine L.step (R.moveV (v := .pointer (some ⟨ra, 0, none⟩)) rfl) rfl ?_
      refine L.yes rfl rfl rfl ?_
      refine L.call (E.call1 hb31) rfl (ops_disk hD352) ?_
      rintro _ w354 ⟨rfl, ew⟩
      obtain rfl := ew.symm
      refine L.yes rfl rfl rfl ?_
      refine L.step (R.moveV (v := .pointer (some ⟨rb, 0, none⟩)) rfl) rfl ?_
      refine L.yes rfl rfl rfl ?_
      refine L.call (E.call1 hb31) rfl (ops_disk hD353) ?_
      rintro _ w355 ⟨rfl, ew⟩
      obtain rfl := ew.symm
      refine L.yes rfl rfl rfl ?_
      refine L.step (R.eqlT rfl rfl rfl) rfl ?_
      refine L.step (R.pickTV (v := .bool true) rfl rfl) rfl ?_
      refine L.step (R.assignV (v := .bool true) rfl) rfl ?_
      refine L.nil ?_
      refine C.ret (?_ : RetOk _ _ _ _ _)
      refine RetOk.tV (v := .bool true) rfl rfl ?_
      exact ⟨rfl, q351⟩
end Go.Proofs.Ytpblppilknkdoaa
