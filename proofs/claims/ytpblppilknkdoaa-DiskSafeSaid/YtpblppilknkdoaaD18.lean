/- DiskArmed: the walk. -/
import Derived.Test.YtpblppilknkdoaaD17
import Derived.Test.YtpblppilknkdoaaLaw3
namespace Go.Proofs.Ytpblppilknkdoaa
open Go Go.Eng Go.Proofs
attribute [local irreducible] Go.Eng.C Go.Eng.L Go.Eng.Ret Go.Eng.Run Go.Eng.Does Go.Eng.Enters Go.Eng.AH Go.Eng.AO Go.Eng.RetOk
theorem fill_true {j n : Nat} (h : j < n) : (List.replicate j (Value.bool true) ++ List.replicate (n - j) (Value.bool false)).set j (.bool true) = List.replicate (j + 1) (.bool true) ++ List.replicate (n - (j + 1)) (.bool false) := by
  obtain ⟨d, rfl⟩ := Nat.exists_eq_add_of_lt h
  rw [show j + d + 1 - j = d + 1 by omega, show j + d + 1 - (j + 1) = d by omega, List.set_append_right _ _ (by simp), List.length_replicate, Nat.sub_self, List.replicate_succ, List.set_cons_zero, List.replicate_succ', List.append_assoc]
  rfl
theorem bools_true {w : World} {b n c : Nat} (h : w.heap[b]? = some (blk (List.replicate n (.bool true)) 4)) : BoolsAt w (.slice (some ⟨b, 0, none⟩) n c) (List.replicate n true) (fun k => k = b) := by
  refine .inr ⟨b, 0, c, by simp, rfl, fun k x hx => ?_⟩
  have hk : k < n := by simpa using (List.getElem?_eq_some_iff.1 hx).1
  have hx' : x = true := by rw [List.getElem?_replicate, if_pos hk] at hx; exact (Option.some.inj hx).symm
  rw [cell_at h, Nat.zero_add, List.getElem?_replicate, if_pos hk, hx']
theorem getD_true {n k : Nat} (h : k < n) : (List.replicate n true).getD k false = true := by rw [List.getD_eq_getElem?_getD, List.getElem?_replicate, if_pos h]; rfl
set_option maxHeartbeats 8000000 in
theorem armed_calls {w : World} {lv : Value} {l : List OpV} {N : Nat} {n : Int} (h : OpsAt w lv l N) (hN : N ≤ w.heap.size) (hbig : l.length ≤ 9223372036854775807) :
    Ret Try.prog 5 #[lv, .int .i64 n] w fun v w' => v = .bool true ∧ Kept (fun _ => False) w w' := by
  obtain ⟨a, c, rfl, hc⟩ := h.shape
  obtain ⟨m, hm⟩ : ∃ m, m = l.take 120 := ⟨_, rfl⟩
  have hml : m.length ≤ 120 := by rw [hm, List.length_take]; omega
  have hops := h.first rfl
  rw [← hm] at hops
  have hq := Kept.refl (fun _ => False) w
  obtain ⟨n0, hn0⟩ : ∃ n0, (if n < 0 then 0 else n) = n0 := ⟨_, rfl⟩
  have hn1 : 0 ≤ n0 := by rw [← hn0]; split <;> omega
  obtain ⟨nn, hnn⟩ : ∃ nn, n0.tmod 40 = nn := ⟨_, rfl⟩
  have hnn1 : 0 ≤ nn := by rw [← hnn]; exact Int.tmod_nonneg _ hn1
  have hnn2 : nn < 40 := by rw [← hnn]; exact Int.tmod_lt_of_pos _ (by decide)
  have hno : (PD.new 6).ops = 0 := rfl
  have hnp : (PD.new 6).pend.length = 0 := rfl
  refine Ret.intro [.slice a l.length c, .int .i64 n] Try.func5 rfl rfl ?_
  refine C.seq ?_
  refine C.region ?_
  refine L.step (R.assignV (v := .bool false) rfl) rfl ?_
  refine L.nil ?_
  refine C.seq ?_
  refine C.seq ?_
  refine C.region ?_
  refine L.call (E.call0 hb10) rfl wakes_calls ?_
  rintro _ w1 ⟨rfl, hk2⟩
  have z3 := (hk2).size
  have q4 := Kept.trans hq hk2 (fun _ _ h => h.elim)
  refine L.step (R.notV (v := .bool false) rfl rfl) rfl ?_
  refine L.nil ?_
  refine C.condF rfl ?_
  refine C.skip ?_
  refine C.seq ?_
  refine C.region ?_
  refine L.step (R.moveV (v := .int .i64 n) rfl) rfl ?_
  refine L.step (R.max2V (v := .int .i64 n0) rfl rfl (by rw [hn0])) rfl ?_
  refine L.step (R.remV (b := 40) (v := .int .i64 nn) rfl rfl (by decide) (by rw [hnn])) rfl ?_
  refine L.step (R.assignV (v := .int .i64 nn) rfl) rfl ?_
  refine L.nil ?_
  refine C.seq ?_
  refine C.region ?_
  have hswa := (q4).size
  refine L.call (E.call1 hb11) rfl (worn_calls (l := []) (N := 0) (.inl ⟨rfl, none, 0, rfl⟩) (Nat.zero_le _) (by decide)) ?_
  rintro _ w5 ⟨ra, Fa, rfl, hD7, lta, hk6⟩
  have hD7 : DiskAt w5 ra (PD.new 6) Fa := hD7
  have z8 := (hk6).size
  have q9 := Kept.trans q4 hk6 (fun _ _ h => h.elim)
  have bda : ∀ k, Fa k → w.heap.size ≤ k ∧ k < w5.heap.size := fun k hk => by have := lta k hk; omega
  have hswb := (q9).size
  refine L.call (E.call1 hb11) rfl (worn_calls (l := []) (N := 0) (.inl ⟨rfl, none, 0, rfl⟩) (Nat.zero_le _) (by decide)) ?_
  rintro _ w10 ⟨rb, Fb, rfl, hD12, ltb, hk11⟩
  have hD12 : DiskAt w10 rb (PD.new 6) Fb := hD12
  have z13 := (hk11).size
  have q14 := Kept.trans q9 hk11 (fun _ _ h => h.elim)
  have hD15 := DiskAt.kept hD7 hk11 (fun _ _ h => h)
  have bdb : ∀ k, Fb k → w.heap.size ≤ k ∧ k < w10.heap.size := fun k hk => by have := ltb k hk; omega
  have djab : ∀ k, Fa k → ¬ Fb k := fun k ha hb => by have h1 := bda k ha; have h2 := ltb k hb; omega
  have djba : ∀ k, Fb k → ¬ Fa k := fun k hb ha => djab k ha hb
  refine L.step (R.assignV (v := .pointer (some ⟨ra, 0, none⟩)) rfl) rfl ?_
  refine L.step (R.assignV (v := .pointer (some ⟨rb, 0, none⟩)) rfl) rfl ?_
  refine L.nil ?_
  refine C.seq ?_
  refine C.seq ?_
  refine C.region ?_
  refine L.step (R.moveV (v := .pointer (some ⟨ra, 0, none⟩)) rfl) rfl ?_
  refine L.step (R.eqlP Try.underlying24 rfl rfl) rfl ?_
  refine L.step (R.moveV (v := .bool false) rfl) rfl ?_
  refine L.yes rfl rfl rfl ?_
  refine L.step (R.moveV (v := .pointer (some ⟨rb, 0, none⟩)) rfl) rfl ?_
  refine L.yes rfl rfl rfl ?_
  refine L.step (R.eqlP Try.underlying24 rfl rfl) rfl ?_
  refine L.step (R.pickFV (v := .bool false) rfl rfl) rfl ?_
  refine L.step (R.moveV (v := .bool false) rfl) rfl ?_
  refine L.yes rfl rfl rfl ?_
  refine L.step (R.moveV (v := .pointer (some ⟨ra, 0, none⟩)) rfl) rfl ?_
  refine L.yes rfl rfl rfl ?_
  refine L.step (R.moveV (v := .int .i64 nn) rfl) rfl ?_
  refine L.yes rfl rfl rfl ?_
  refine L.call (E.call2 hb24) rfl (arm_disk hD15 (by omega)) ?_
  rintro _ w16 ⟨rfl, hD18, hk17⟩
  rw [armed_start hnn1] at hD18
  rw [armed_start hnn1]
  have hD19 := DiskAt.kept hD12 hk17 djba
  have z20 := hk17.size
  have q21 : Kept (fun _ => False) w w16 := Kept.trans q14 hk17 (fun k hlt9 hk9 => by have h0_ := bda k hk9; omega)
  refine L.yes rfl rfl rfl ?_
  refine L.step (R.neqF rfl rfl (by omega)) rfl ?_
  refine L.step (R.pickFV (v := .bool false) rfl rfl) rfl ?_
  refine L.nil ?_
  refine C.condF rfl ?_
  refine C.skip ?_
  refine C.seq ?_
  refine C.region ?_
  refine L.step (R.assignV (v := .int .i64 0) rfl) rfl ?_
  refine L.nil ?_
  refine C.seq ?_
  refine C.seq ?_
  refine C.region ?_
  refine L.step (R.moveV (v := .slice a l.length c) rfl) rfl ?_
  refine L.call (E.call1 hb12) rfl (few_calls (m := m.length) hc (by omega) (by rw [hm, List.length_take, Nat.min_comm])) ?_
  rintro _ w22 ⟨rfl, ew⟩
  obtain rfl := ew.symm
  refine L.step (R.lenV (v := .int .i64 ((m.length : Nat) : Int)) Try.underlying22 rfl rfl) rfl ?_
  refine L.step (R.moveV (v := .int .i64 0) rfl) rfl ?_
  refine L.nil ?_
  refine C.block ?_
  refine C.loop (α := Nat × (Nat → Prop) × (Nat → Prop)) (fun x => [(0, .slice a l.length c), (1, .int .i64 nn), (5, .pointer (some ⟨ra, 0, none⟩)), (6, .pointer (some ⟨rb, 0, none⟩)), (7, .int .i64 ((armN m x.1).2)), (41, .slice a m.length c), (42, .int .i64 ((m.length : Nat) : Int)), (43, .int .i64 ((x.1 : Nat) : Int))]) (fun x W => x.1 ≤ m.length ∧ Kept (fun _ => False) w W ∧ (armN m x.1).2 ≤ nn ∧ DiskAt W ra ((armN m x.1).1.armedN (nn - (armN m x.1).2)) x.2.1 ∧ DiskAt W rb (armN m x.1).1 x.2.2 ∧ (∀ k, x.2.1 k → w.heap.size ≤ k ∧ k < W.heap.size) ∧ (∀ k, x.2.2 k → w.heap.size ≤ k ∧ k < W.heap.size) ∧ (∀ k, x.2.1 k → ¬ x.2.2 k)) (fun x => m.length - x.1) ⟨(0, Fa, Fb), ⟨rfl, rfl, rfl, rfl, rfl, rfl, rfl, rfl, trivial⟩, ⟨Nat.zero_le _, q21, hnn1, by show DiskAt _ _ ((PD.new 6).armedN (nn - 0)) _; rw [Int.sub_zero]; exact hD18, hD19, fun k hk => by have := bda k hk; omega, fun k hk => by have := bdb k hk; omega, djab⟩⟩ ?_
  intro x g24 w23 hI25
  obtain ⟨hk, hq, hle, hDa, hDb, ba, bb, dab⟩ := hI25
  have hsz := hq.size
  have hfo := armN_ok m x.1 hk
  have hf1 := hfo.few.ops
  have hf2 := hfo.few.pend
  have hf3 := hfo.count
  have dba : ∀ k, x.2.2 k → ¬ x.2.1 k := fun k hb ha => dab k ha hb
  refine C.seq ?_
  refine C.region ?_
  rcases Classical.em (((x.1 : Nat) : Int) < ((m.length : Nat) : Int)) with ht26 | ht26
  ·
    refine L.step (R.lssT rfl rfl (ht26)) rfl ?_
    refine L.nil ?_
    refine C.seq ?_
    refine C.condT rfl ?_
    refine C.skip ?_
    refine C.seq ?_
    refine C.block ?_
    refine C.seq ?_
    refine C.region ?_
    obtain ⟨bo, oo, hao, hbo, hcell0⟩ := hops.blockA (by omega)
    have hcellW := (hops.kept hq (fun _ _ h => h))
    obtain ⟨x1, hx1⟩ : ∃ y, m[x.1]? = some y := ⟨_, List.getElem?_eq_getElem (by omega)⟩
    have hokx1 := (hcell0 _ _ hx1).2
    have hsl : a = some ⟨bo, oo, none⟩ := hao
    obtain ⟨bo2, oo2, hao2, _, hcellW⟩ := hcellW.blockA (by omega)
    have hcx := (hcellW _ _ hx1).1
    have hbb : bo2 = bo ∧ oo2 = oo := by rw [hao] at hao2; cases hao2; exact ⟨rfl, rfl⟩
    obtain ⟨rfl, rfl⟩ := hbb
    refine L.step (R.indexAddrV (m := x.1) (o2 := oo2 + x.1 * 4) (b := bo2) (o := oo2) (len := m.length) (cap := c) s22 (by show Value.slice a m.length c = _; rw [hao]) rfl rfl (by omega) rfl) rfl ?_
    refine L.step (R.loadCA (cs := x1.cells) r32 rfl hcx rfl) rfl ?_
    refine L.stepE (R.alloc z32) rfl fun w28 e27 => ?_
    have k30 := Al.new e27
    have z31 := Al.size e27
    have q32 := Al.kept e27 hq
    have hD33 := DiskAt.kept hDa (Al.kept e27 (Kept.refl (fun _ => False) _)) (fun _ _ h => h)
    have hD34 := DiskAt.kept hDb (Al.kept e27 (Kept.refl (fun _ => False) _)) (fun _ _ h => h)
    refine L.doesE (R.storeAll (cs := x1.cells) r32 rfl rfl rfl (hokx1.ones) k30 rfl) fun w36 e35 => ?_
    have k37 := So.hit e35 k30
    have z38 := So.size e35
    have q39 := So.kept e35 q32 (fun h => absurd h (by omega))
    have hD40 := DiskAt.kept hD33 (So.kept e35 (Kept.refl (fun k => k = w23.heap.size) _) (fun _ => rfl)) (fun k hk e => by have e9 : k = w23.heap.size := e; have h0_ := ba k hk; omega)
    have hD41 := DiskAt.kept hD34 (So.kept e35 (Kept.refl (fun k => k = w23.heap.size) _) (fun _ => rfl)) (fun k hk e => by have e9 : k = w23.heap.size := e; have h0_ := bb k hk; omega)
    refine L.nil ?_
    refine C.seq ?_
    refine C.seq ?_
    refine C.region ?_
    refine L.step (R.loadA (cs := x1.cells) r32 rfl k37 rfl rfl) rfl ?_
    refine L.call (E.call1 hb13) rfl (kind_calls (hokx1.one)) ?_
    rintro _ w42 ⟨rfl, hk43⟩
    have k44 := Kept.old hk43 k37 (fun h => h)
    have z45 := (hk43).size
    have q46 := Kept.trans q39 hk43 (fun _ _ h => h.elim)
    have hD47 := DiskAt.kept hD40 hk43 (fun _ _ h => h)
    have hD48 := DiskAt.kept hD41 hk43 (fun _ _ h => h)
    rcases Classical.em (2 < (kindOf x1.o.k)) with ht49 | ht49
    ·
      refine L.step (R.gtrT rfl rfl (ht49)) rfl ?_
      refine L.nil ?_
      refine C.condT rfl ?_
      refine C.exit ?_
      refine C.region ?_
      refine L.step (R.add rfl rfl (by omega)) rfl ?_
      refine L.step (R.moveV (v := .int .i64 (((x.1 : Nat) : Int) + 1)) rfl) rfl ?_
      refine L.nil ?_
      have hfe := armN_succ hx1
      rw [if_pos (by omega)] at hfe
      have hsq := (q46).size
      refine thenP.mk ⟨(x.1 + 1, x.2.1, x.2.2), ⟨rfl, rfl, rfl, rfl, (by show _ = Value.int .i64 (armN m (x.1 + 1)).2; rw [hfe]; rfl), rfl, rfl, rfl, trivial⟩, ⟨by show x.1 + 1 ≤ _; omega, q46, by show (armN m (x.1 + 1)).2 ≤ nn; rw [hfe]; show _ ≤ _; omega, by show DiskAt _ _ ((armN m (x.1 + 1)).1.armedN (nn - (armN m (x.1 + 1)).2)) _; rw [hfe]; exact hD47, by show DiskAt _ _ (armN m (x.1 + 1)).1 _; rw [hfe]; exact hD48, fun k hk => by have h0_ := ba k hk; omega, fun k hk => by have h0_ := bb k hk; omega, dab⟩, by show m.length - (x.1 + 1) < m.length - x.1; omega⟩
    ·
      refine L.step (R.gtrF rfl rfl (Int.not_lt.1 ht49)) rfl ?_
      refine L.nil ?_
      refine C.condF rfl ?_
      refine C.skip ?_
      refine C.seq ?_
      refine C.seq ?_
      refine C.region ?_
      refine L.step (R.moveV (v := .int .i64 ((armN m x.1).2)) rfl) rfl ?_
      refine L.step (R.moveV (v := .int .i64 nn) rfl) rfl ?_
      rcases Classical.em (((armN m x.1).2) = nn) with ht50 | ht50
      ·
        refine L.step (R.eqlT rfl rfl (ht50)) rfl ?_
        refine L.step (R.moveV (v := .bool true) rfl) rfl ?_
        refine L.yes rfl rfl rfl ?_
        refine L.step (R.loadA (cs := x1.cells) r32 rfl k44 rfl rfl) rfl ?_
        refine L.yes rfl rfl rfl ?_
        refine L.call (E.call1 hb13) rfl (kind_calls (hokx1.one)) ?_
        rintro _ w51 ⟨rfl, hk52⟩
        have k53 := Kept.old hk52 k44 (fun h => h)
        have z54 := (hk52).size
        have q55 := Kept.trans q46 hk52 (fun _ _ h => h.elim)
        have hD56 := DiskAt.kept hD47 hk52 (fun _ _ h => h)
        have hD57 := DiskAt.kept hD48 hk52 (fun _ _ h => h)
        refine L.yes rfl rfl rfl ?_
        rcases Classical.em (0 < (kindOf x1.o.k)) with ht58 | ht58
        ·
          refine L.step (R.gtrT rfl rfl (ht58)) rfl ?_
          refine L.step (R.pickTV (v := .bool true) rfl rfl) rfl ?_
          refine L.step (R.moveV (v := .bool true) rfl) rfl ?_
          refine L.yes rfl rfl rfl ?_
          refine L.step (R.loadA (cs := x1.cells) r32 rfl k53 rfl rfl) rfl ?_
          refine L.yes rfl rfl rfl ?_
          refine L.call (E.call1 hb13) rfl (kind_calls (hokx1.one)) ?_
          rintro _ w59 ⟨rfl, hk60⟩
          have k61 := Kept.old hk60 k53 (fun h => h)
          have z62 := (hk60).size
          have q63 := Kept.trans q55 hk60 (fun _ _ h => h.elim)
          have hD64 := DiskAt.kept hD56 hk60 (fun _ _ h => h)
          have hD65 := DiskAt.kept hD57 hk60 (fun _ _ h => h)
          refine L.yes rfl rfl rfl ?_
          rcases Classical.em ((kindOf x1.o.k) = 2) with ht66 | ht66
          ·
            refine L.step (R.eqlT rfl rfl (ht66)) rfl ?_
            refine L.yes rfl rfl rfl ?_
            refine L.step (R.moveV (v := .bool true) rfl) rfl ?_
            refine L.no rfl rfl rfl (.inl rfl) ?_
            refine L.no rfl rfl rfl (.inl rfl) ?_
            refine L.no rfl rfl rfl (.inl rfl) ?_
            refine L.no rfl rfl rfl (.inl rfl) ?_
            refine L.no rfl rfl rfl (.inr rfl) ?_
            refine L.no rfl rfl rfl (.inr rfl) ?_
            refine L.no rfl rfl rfl (.inr rfl) ?_
            refine L.no rfl rfl rfl (.inl rfl) ?_
            refine L.yes rfl rfl rfl ?_
            refine L.step (R.pickTV (v := .bool true) rfl rfl) rfl ?_
            refine L.step (R.pickTV (v := .bool true) rfl rfl) rfl ?_
            refine L.nil ?_
            refine C.condT rfl ?_
            refine C.seq ?_
            refine C.seq ?_
            refine C.region ?_
            have hkr := kindOf_range x1.o.k
            have hct : counts x1.o 6 := by unfold counts; omega
            have hz0 : nn - (armN m x.1).2 = 0 := by omega
            have hD67 := hD64
            rw [hz0] at hD67
            refine L.step (R.moveV (v := .pointer (some ⟨ra, 0, none⟩)) rfl) rfl ?_
            refine L.step (R.loadA (cs := x1.cells) r32 rfl k61 rfl rfl) rfl ?_
            have hokD := hD67.ok
            refine L.call (E.call2 hb18) rfl (does_calls (o := x1.o) hD67 (by show (armN m x.1).1.ops ≤ 1000000; omega) (by show (armN m x.1).1.pend.length ≤ 1000000; omega) (hokx1.bools.kept q63 (fun _ _ h => h)) hokx1.len hokx1.at_ (fun k hk => by have h0_ := ba k hk; omega)) ?_
            rintro _ w68 ⟨rfl, hD70, hk69⟩
            have hfd := armed_dies hfo.plain hfo.safe hct
            rw [hfd] at hD70
            rw [hfd]
            simp only [bval]
            have k71 := Kept.old hk69 k61 (fun hF => by have h0_ := ba _ hF; omega)
            have hD72 := DiskAt.kept hD65 hk69 dba
            have z73 := hk69.size
            have q74 : Kept (fun _ => False) w w68 := Kept.trans q63 hk69 (fun k hlt9 hk9 => by have h0_ := ba k hk9; omega)
            obtain ⟨F75, eF75⟩ : ∃ G, G = grow x.2.1 w59 w68 := ⟨_, rfl⟩
            rw [← eF75] at hD70
            have mm77 : ∀ k, F75 k → x.2.1 k ∨ (w59.heap.size ≤ k ∧ k < w68.heap.size) := fun k hk => by rw [eF75] at hk; exact hk
            have hsq := (q74).size
            have bd76 : ∀ k, F75 k → w.heap.size ≤ k ∧ k < w68.heap.size := fun k hk => by
              rcases mm77 k hk with h | h
              · have h0_ := ba k h; omega
              · omega
            have dj78 : ∀ k, F75 k → ¬ x.2.2 k := fun k hk hy => by
              rcases mm77 k hk with h | h
              · exact dab k h hy
              · have h0_ := bb k hy; omega
            have dj79 : ∀ k, x.2.2 k → ¬ F75 k := fun k hy hk => by
              rcases mm77 k hk with h | h
              · exact dba k hy h
              · have h0_ := bb k hy; omega
            refine L.step (R.moveV (v := .tuple #[.agg (List.toArray (bcells z64)), .int .i64 9]) rfl) rfl ?_
            refine L.step (R.extract (v := .agg (List.toArray (bcells z64))) rfl rfl) rfl ?_
            refine L.step (R.extract (v := .int .i64 9) rfl rfl) rfl ?_
            refine L.stepE (R.alloc z27) rfl fun w81 e80 => ?_
            have k83 := Al.new e80
            have k84 := Al.old e80 k71
            have z85 := Al.size e80
            have q86 := Al.kept e80 q74
            have hD87 := DiskAt.kept hD70 (Al.kept e80 (Kept.refl (fun _ => False) _)) (fun _ _ h => h)
            have hD88 := DiskAt.kept hD72 (Al.kept e80 (Kept.refl (fun _ => False) _)) (fun _ _ h => h)
            refine L.doesE (R.storeAll (cs := bcells z64) r27 rfl rfl (bcells64 (b := z64) rfl) (one_bcells _) k83 (List.length_replicate)) fun w90 e89 => ?_
            have k91 := So.old e89 (apartE k84 k83 (by decide)) k84
            have k92 := So.hit e89 k83
            have z93 := So.size e89
            have q94 := So.kept e89 q86 (fun h => absurd h (by omega))
            have hD95 := DiskAt.kept hD87 (So.kept e89 (Kept.refl (fun k => k = w68.heap.size) _) (fun _ => rfl)) (fun k hk e => by have e9 : k = w68.heap.size := e; have h0_ := bd76 k hk; omega)
            have hD96 := DiskAt.kept hD88 (So.kept e89 (Kept.refl (fun k => k = w68.heap.size) _) (fun _ => rfl)) (fun k hk e => by have e9 : k = w68.heap.size := e; have h0_ := bb k hk; omega)
            refine L.step (R.assignV (v := .int .i64 9) rfl) rfl ?_
            refine L.nil ?_
            refine C.seq ?_
            refine C.region ?_
            refine L.step (R.moveV (v := .int .i64 9) rfl) rfl ?_
            refine L.step (R.neqF rfl rfl (by omega)) rfl ?_
            refine L.step (R.moveV (v := .bool false) rfl) rfl ?_
            refine L.yes rfl rfl rfl ?_
            refine L.step (R.moveV (v := .pointer (some ⟨ra, 0, none⟩)) rfl) rfl ?_
            refine L.yes rfl rfl rfl ?_
            refine L.call (E.call1 hb25) rfl (dead_disk hD95) ?_
            rintro _ w97 ⟨rfl, ew⟩
            obtain rfl := ew.symm
            rw [gone_dead]
            refine L.yes rfl rfl rfl ?_
            refine L.step (R.notV (v := .bool false) rfl rfl) rfl ?_
            refine L.step (R.pickFV (v := .bool false) rfl rfl) rfl ?_
            refine L.nil ?_
            refine C.condF rfl ?_
            refine C.skip ?_
            refine C.seq ?_
            refine C.seq ?_
            refine C.region ?_
            refine L.step (R.moveV (v := .pointer (some ⟨ra, 0, none⟩)) rfl) rfl ?_
            refine L.call (E.call2 hb22) rfl (read_calls hD95 (by show (armN m x.1).1.ops ≤ 1000000; omega) (by show (armN m x.1).1.pend.length ≤ 1000000; omega) (i := 0)) ?_
            rintro _ w98 ⟨rfl, hD100, hk99⟩
            rw [gone_read] at hD100
            rw [gone_read]
            simp only [bval]
            have hD101 := DiskAt.kept hD96 hk99 dj79
            have z102 := hk99.size
            have q103 : Kept (fun _ => False) w w98 := Kept.trans q94 hk99 (fun k hlt9 hk9 => by have h0_ := bd76 k hk9; omega)
            refine L.step (R.moveV (v := .tuple #[.agg (List.toArray (bcells z64)), .int .i64 9]) rfl) rfl ?_
            refine L.step (R.extract (v := .agg (List.toArray (bcells z64))) rfl rfl) rfl ?_
            refine L.step (R.extract (v := .int .i64 9) rfl rfl) rfl ?_
            refine L.stepE (R.alloc z27) rfl fun w105 e104 => ?_
            have k107 := Al.new e104
            have z108 := Al.size e104
            have q109 := Al.kept e104 q103
            have hD110 := DiskAt.kept hD100 (Al.kept e104 (Kept.refl (fun _ => False) _)) (fun _ _ h => h)
            have hD111 := DiskAt.kept hD101 (Al.kept e104 (Kept.refl (fun _ => False) _)) (fun _ _ h => h)
            refine L.doesE (R.storeAll (cs := bcells z64) r27 rfl rfl (bcells64 (b := z64) rfl) (one_bcells _) k107 (List.length_replicate)) fun w113 e112 => ?_
            have k114 := So.hit e112 k107
            have z115 := So.size e112
            have q116 := So.kept e112 q109 (fun h => absurd h (by omega))
            have hD117 := DiskAt.kept hD110 (So.kept e112 (Kept.refl (fun k => k = w98.heap.size) _) (fun _ => rfl)) (fun k hk e => by have e9 : k = w98.heap.size := e; have h0_ := bd76 k hk; omega)
            have hD118 := DiskAt.kept hD111 (So.kept e112 (Kept.refl (fun k => k = w98.heap.size) _) (fun _ => rfl)) (fun k hk e => by have e9 : k = w98.heap.size := e; have h0_ := bb k hk; omega)
            refine L.step (R.assignV (v := .int .i64 9) rfl) rfl ?_
            refine L.nil ?_
            refine C.seq ?_
            refine C.region ?_
            refine L.step (R.moveV (v := .int .i64 9) rfl) rfl ?_
            refine L.step (R.neqF rfl rfl (by omega)) rfl ?_
            refine L.step (R.moveV (v := .bool false) rfl) rfl ?_
            refine L.yes rfl rfl rfl ?_
            refine L.step (R.moveV (v := .pointer (some ⟨ra, 0, none⟩)) rfl) rfl ?_
            refine L.yes rfl rfl rfl ?_
            refine L.call (E.call2 hb24) rfl (arm_disk hD117 (by omega)) ?_
            rintro _ w119 ⟨rfl, hD121, hk120⟩
            rw [gone_arm] at hD121
            rw [gone_arm]
            have hD122 := DiskAt.kept hD118 hk120 dj79
            have z123 := hk120.size
            have q124 : Kept (fun _ => False) w w119 := Kept.trans q116 hk120 (fun k hlt9 hk9 => by have h0_ := bd76 k hk9; omega)
            refine L.yes rfl rfl rfl ?_
            refine L.step (R.neqF rfl rfl (by omega)) rfl ?_
            refine L.step (R.pickFV (v := .bool false) rfl rfl) rfl ?_
            refine L.step (R.moveV (v := .bool false) rfl) rfl ?_
            refine L.yes rfl rfl rfl ?_
            refine L.step (R.moveV (v := .pointer (some ⟨ra, 0, none⟩)) rfl) rfl ?_
            refine L.yes rfl rfl rfl ?_
            refine L.call (E.call1 hb26) rfl (sync_calls hD121 (by show (armN m x.1).1.ops ≤ 1000000; omega)) ?_
            rintro _ w125 ⟨rfl, hD127, hk126⟩
            rw [gone_sync] at hD127
            rw [gone_sync]
            have hD128 := DiskAt.kept hD122 hk126 dj79
            have z129 := hk126.size
            have q130 : Kept (fun _ => False) w w125 := Kept.trans q124 hk126 (fun k hlt9 hk9 => by have h0_ := bd76 k hk9; omega)
            refine L.yes rfl rfl rfl ?_
            refine L.step (R.neqF rfl rfl (by omega)) rfl ?_
            refine L.step (R.pickFV (v := .bool false) rfl rfl) rfl ?_
            refine L.step (R.moveV (v := .bool false) rfl) rfl ?_
            refine L.yes rfl rfl rfl ?_
            refine L.step (R.moveV (v := .pointer (some ⟨ra, 0, none⟩)) rfl) rfl ?_
            refine L.yes rfl rfl rfl ?_
            refine L.call (E.call2 hb27) rfl (fail_disk hD127 (by omega)) ?_
            rintro _ w131 ⟨rfl, hD133, hk132⟩
            rw [gone_fail] at hD133
            rw [gone_fail]
            have hD134 := DiskAt.kept hD128 hk132 dj79
            have z135 := hk132.size
            have q136 : Kept (fun _ => False) w w131 := Kept.trans q130 hk132 (fun k hlt9 hk9 => by have h0_ := bd76 k hk9; omega)
            refine L.yes rfl rfl rfl ?_
            refine L.step (R.neqF rfl rfl (by omega)) rfl ?_
            refine L.step (R.pickFV (v := .bool false) rfl rfl) rfl ?_
            refine L.nil ?_
            refine C.condF rfl ?_
            refine C.skip ?_
            refine C.seq ?_
            refine C.region ?_
            refine L.step (R.moveV (v := .pointer (some ⟨ra, 0, none⟩)) rfl) rfl ?_
            refine L.call (E.call1 hb28) rfl (pending_calls hD133 (by show (armN m x.1).1.pend.length ≤ 1000000; omega)) ?_
            rintro v139 w137 ⟨hr140, hk138⟩
            obtain ⟨a141, c142, rfl, _⟩ := hr140.shape
            have z143 := (hk138).size
            have q144 := Kept.trans q136 hk138 (fun _ _ h => h.elim)
            have hD145 := DiskAt.kept hD133 hk138 (fun _ _ h => h)
            have hD146 := DiskAt.kept hD134 hk138 (fun _ _ h => h)
            refine L.step (R.assignV (v := .slice a141 ((armN m x.1).1.pend.length) c142) rfl) rfl ?_
            refine L.nil ?_
            refine C.seq ?_
            refine C.region ?_
            refine L.step (R.moveV (v := .slice a141 ((armN m x.1).1.pend.length) c142) rfl) rfl ?_
            refine L.step (R.lenV (v := .int .i64 (((armN m x.1).1.pend.length : Nat) : Int)) Try.underlying56 rfl rfl) rfl ?_
            refine L.stepE (R.makeU (l := (armN m x.1).1.pend.length) (m := (armN m x.1).1.pend.length) e30 z4 rfl rfl rfl rfl (Nat.le_refl _) (by omega) (by omega)) rfl fun w148 e147 => ?_
            have k150 := Al.new e147
            have z151 := Al.size e147
            have q152 := Al.kept e147 q144
            have hD153 := DiskAt.kept hD145 (Al.kept e147 (Kept.refl (fun _ => False) _)) (fun _ _ h => h)
            have hD154 := DiskAt.kept hD146 (Al.kept e147 (Kept.refl (fun _ => False) _)) (fun _ _ h => h)
            refine L.step (R.assignV (v := .slice (some ⟨w137.heap.size, 0, none⟩) ((armN m x.1).1.pend.length) ((armN m x.1).1.pend.length)) rfl) rfl ?_
            refine L.nil ?_
            refine C.seq ?_
            refine C.seq ?_
            refine C.region ?_
            refine L.step (R.moveV (v := .slice (some ⟨w137.heap.size, 0, none⟩) ((armN m x.1).1.pend.length) ((armN m x.1).1.pend.length)) rfl) rfl ?_
            refine L.step (R.lenV (v := .int .i64 (((armN m x.1).1.pend.length : Nat) : Int)) Try.underlying30 rfl rfl) rfl ?_
            refine L.step (R.moveV (v := .int .i64 0) rfl) rfl ?_
            refine L.nil ?_
            refine C.block ?_
            refine C.loop (α := Nat) (fun j => [(5, .pointer (some ⟨ra, 0, none⟩)), (6, .pointer (some ⟨rb, 0, none⟩)), (15, .slice (some ⟨w137.heap.size, 0, none⟩) ((armN m x.1).1.pend.length) ((armN m x.1).1.pend.length)), (114, .int .i64 (((armN m x.1).1.pend.length : Nat) : Int)), (115, .int .i64 ((j : Nat) : Int))]) (fun j W => j ≤ (armN m x.1).1.pend.length ∧ Kept (fun _ => False) w W ∧ DiskAt W ra (armN m x.1).1.gone F75 ∧ DiskAt W rb (armN m x.1).1 x.2.2 ∧ W.heap[w137.heap.size]? = some (blk (List.replicate j (.bool true) ++ List.replicate ((armN m x.1).1.pend.length - j) (.bool false)) 4)) (fun j => (armN m x.1).1.pend.length - j) ⟨0, ⟨rfl, rfl, rfl, rfl, rfl, trivial⟩, ⟨Nat.zero_le _, q152, hD153, hD154, by simpa using k150⟩⟩ ?_
            intro j g156 w155 hI157
            obtain ⟨hj, hq, hDa, hDb, hbk⟩ := hI157
            have hszj := hq.size
            have hbkl := at_lt _ _ hbk
            refine C.seq ?_
            refine C.region ?_
            rcases Classical.em (((j : Nat) : Int) < (((armN m x.1).1.pend.length : Nat) : Int)) with ht158 | ht158
            ·
              refine L.step (R.lssT rfl rfl (ht158)) rfl ?_
              refine L.nil ?_
              refine C.seq ?_
              refine C.condT rfl ?_
              refine C.skip ?_
              refine C.seq ?_
              refine C.block ?_
              refine C.seq ?_
              refine C.region ?_
              refine L.step (R.moveV (v := .int .i64 ((j : Nat) : Int)) rfl) rfl ?_
              refine L.step (R.assignV (v := .int .i64 ((j : Nat) : Int)) rfl) rfl ?_
              refine L.nil ?_
              refine C.region ?_
              refine L.step (R.moveV (v := .slice (some ⟨w137.heap.size, 0, none⟩) ((armN m x.1).1.pend.length) ((armN m x.1).1.pend.length)) rfl) rfl ?_
              refine L.step (R.moveV (v := .int .i64 ((j : Nat) : Int)) rfl) rfl ?_
              refine L.step (R.indexAddrV (m := j) (o2 := j) s30 rfl rfl rfl (by omega) (by omega)) rfl ?_
              refine L.doesE (R.store1 c4 rfl (v := .bool true) rfl rfl hbk (by rw [Nat.blt_eq, List.length_append, List.length_replicate, List.length_replicate]; omega)) fun w160 e159 => ?_
              rw [fill_true (by omega)] at e159
              have k161 := So.hit e159 hbk
              have z162 := So.size e159
              have q163 := So.kept e159 hq (fun h => absurd h (by omega))
              have hD164 := DiskAt.kept hDa (So.kept e159 (Kept.refl (fun k => k = w137.heap.size) _) (fun _ => rfl)) (fun k hk e => by have e9 : k = w137.heap.size := e; have h0_ := bd76 k hk; omega)
              have hD165 := DiskAt.kept hDb (So.kept e159 (Kept.refl (fun k => k = w137.heap.size) _) (fun _ => rfl)) (fun k hk e => by have e9 : k = w137.heap.size := e; have h0_ := bb k hk; omega)
              refine L.nil ?_
              refine C.region ?_
              refine L.step (R.add rfl rfl (by omega)) rfl ?_
              refine L.step (R.moveV (v := .int .i64 (((j : Nat) : Int) + 1)) rfl) rfl ?_
              refine L.nil ?_
              refine thenP.mk ⟨j + 1, ⟨rfl, rfl, rfl, rfl, rfl, trivial⟩, ⟨by show j + 1 ≤ _; omega, q163, hD164, hD165, k161⟩, by show (armN m x.1).1.pend.length - (j + 1) < (armN m x.1).1.pend.length - j; omega⟩
            ·
              refine L.step (R.lssF rfl rfl (Int.not_lt.1 ht158)) rfl ?_
              refine L.nil ?_
              refine C.seq ?_
              refine C.condF rfl ?_
              refine C.exit ?_
              refine C.seq ?_
              refine C.region ?_
              refine L.step (R.moveV (v := .pointer (some ⟨ra, 0, none⟩)) rfl) rfl ?_
              refine L.step (R.moveV (v := .slice (some ⟨w137.heap.size, 0, none⟩) ((armN m x.1).1.pend.length) ((armN m x.1).1.pend.length)) rfl) rfl ?_
              have hbt := hbk
              rw [show j = (armN m x.1).1.pend.length by omega, Nat.sub_self, List.replicate_zero, List.append_nil] at hbt
              refine L.call (E.call2 hb29) rfl (crash_calls hDa (bools_true (c := (armN m x.1).1.pend.length) hbt) (fun k hk e => by have e9 : k = w137.heap.size := e; have h0_ := bd76 k hk; omega) (fun k hk => by have h0_ := bd76 k hk; omega) (by show (armN m x.1).1.pend.length ≤ 1000000; omega)) ?_
              rintro _ w166 ⟨rfl, hD168, hk167⟩
              rw [gone_crash (D := (armN m x.1).1) (fun k hk => getD_true hk)] at hD168
              have hD169 := DiskAt.kept hDb hk167 dj79
              have z170 := hk167.size
              have q171 : Kept (fun _ => False) w w166 := Kept.trans hq hk167 (fun k hlt9 hk9 => by have h0_ := bd76 k hk9; omega)
              refine L.step (R.eqlT rfl rfl (by omega)) rfl ?_
              refine L.step (R.moveV (v := .bool true) rfl) rfl ?_
              refine L.yes rfl rfl rfl ?_
              refine L.step (R.moveV (v := .pointer (some ⟨ra, 0, none⟩)) rfl) rfl ?_
              refine L.yes rfl rfl rfl ?_
              have hokM0 := hD169.ok
              obtain ⟨Dm, hDm⟩ : ∃ D, D = (armN m x.1).1 := ⟨_, rfl⟩
              have hPl := hfo.plain
              have hSa := hfo.safe
              have hf1 := hf1
              have hf2 := hf2
              rw [← hDm] at hPl hSa hf1 hf2 hokM0
              have hD177 := hD168
              rw [← hDm] at hD177
              have hD178 := hD169
              rw [← hDm] at hD178
              refine L.call (E.call1 hb15) rfl (held_calls (n := 6) hD177 (fun k hk => by have h0_ := bd76 k hk; omega) (back_safe.trans hSa) (by decide) (by show Dm.ops ≤ 900000; omega) (by show ([] : List (Nat × Blk)).length ≤ 900000; decide)) ?_
              rintro v176 w172 ⟨hr175, hD174, hk173⟩
              rw [back_held hPl hSa] at hr175
              have hD179 := DiskAt.kept hD178 hk173 dj79
              have z180 := hk173.size
              have q181 : Kept (fun _ => False) w w172 := Kept.trans q171 hk173 (fun k hlt9 hk9 => by have h0_ := bd76 k hk9; omega)
              refine L.yes rfl rfl rfl ?_
              refine L.step (R.moveV (v := .pointer (some ⟨rb, 0, none⟩)) rfl) rfl ?_
              refine L.yes rfl rfl rfl ?_
              refine L.call (E.call1 hb15) rfl (held_calls (n := 6) hD179 (fun k hk => by have h0_ := bb k hk; omega) hSa (by decide) (by show Dm.ops ≤ 900000; omega) (by show Dm.pend.length ≤ 900000; omega)) ?_
              rintro v186 w182 ⟨hr185, hD184, hk183⟩
              have m187 := Row.kept hr175 hk183 (fun k hG hF => by have h0_ := bb k hF; have hg9 := hG.elim (fun h => h.elim) (fun h => h); omega)
              have hD188 := DiskAt.kept hD174 hk183 dj78
              have z189 := hk183.size
              have q190 : Kept (fun _ => False) w w182 := Kept.trans q181 hk183 (fun k hlt9 hk9 => by have h0_ := bb k hk9; omega)
              refine L.yes rfl rfl rfl ?_
              have hhp := held_plain hPl 6 (by rw [hSa]; decide)
              have hh64 : ∀ b ∈ (Dm.held 6).2, b.length = 64 := fun b hb => by
                rw [hhp.2.2.2] at hb
                obtain ⟨i, hi, rfl⟩ := List.mem_map.1 hb
                have hi := List.mem_range.1 hi
                exact look_length hokM0 ⟨by omega, by rw [hSa]; omega⟩
              refine L.call (E.call2 hb30) rfl (same_calls m187 hr185 (PD.held_length 6) (PD.held_length 6) (by decide) hh64 hh64) ?_
              rintro _ w191 ⟨rfl, hk192⟩
              rw [decide_eq_true rfl]
              have z193 := (hk192).size
              have q194 := Kept.trans q190 hk192 (fun _ _ h => h.elim)
              have hD195 := DiskAt.kept hD188 hk192 (fun _ _ h => h)
              have hD196 := DiskAt.kept hD184 hk192 (fun _ _ h => h)
              refine L.step (R.pickTV (v := .bool true) rfl rfl) rfl ?_
              refine L.step (R.assignV (v := .bool true) rfl) rfl ?_
              refine L.nil ?_
              refine C.ret (?_ : RetOk _ _ _ _ _)
              refine RetOk.tV (v := .bool true) rfl rfl ?_
              exact ⟨rfl, q194⟩
          ·
            refine L.step (R.eqlF rfl rfl (ht66)) rfl ?_
            refine L.yes rfl rfl rfl ?_
            refine L.step (R.moveV (v := .bool false) rfl) rfl ?_
            refine L.yes rfl rfl rfl ?_
            refine L.step (R.fieldAddrV (o2 := 1) f32_1 rfl rfl) rfl ?_
            refine L.yes rfl rfl rfl ?_
            refine L.step (R.load1 (v := .int .i64 x1.o.a) c3 rfl k61 rfl) rfl ?_
            refine L.yes rfl rfl rfl ?_
            rcases Classical.em (0 ≤ x1.o.a) with ht197 | ht197
            ·
              refine L.step (R.geqT rfl rfl (ht197)) rfl ?_
              refine L.yes rfl rfl rfl ?_
              refine L.step (R.moveV (v := .bool true) rfl) rfl ?_
              refine L.yes rfl rfl rfl ?_
              refine L.step (R.fieldAddrV (o2 := 1) f32_1 rfl rfl) rfl ?_
              refine L.yes rfl rfl rfl ?_
              refine L.step (R.load1 (v := .int .i64 x1.o.a) c3 rfl k61 rfl) rfl ?_
              refine L.yes rfl rfl rfl ?_
              rcases Classical.em (x1.o.a < 6) with ht198 | ht198
              ·
                refine L.step (R.lssT rfl rfl (ht198)) rfl ?_
                refine L.yes rfl rfl rfl ?_
                refine L.step (R.pickTV (v := .bool true) rfl rfl) rfl ?_
                refine L.yes rfl rfl rfl ?_
                refine L.step (R.pickFV (v := .bool true) rfl rfl) rfl ?_
                refine L.step (R.pickTV (v := .bool true) rfl rfl) rfl ?_
                refine L.nil ?_
                refine C.condT rfl ?_
                refine C.seq ?_
                refine C.seq ?_
                refine C.region ?_
                have hkr := kindOf_range x1.o.k
                have hct : counts x1.o 6 := by unfold counts; omega
                have hz0 : nn - (armN m x.1).2 = 0 := by omega
                have hD199 := hD64
                rw [hz0] at hD199
                refine L.step (R.moveV (v := .pointer (some ⟨ra, 0, none⟩)) rfl) rfl ?_
                refine L.step (R.loadA (cs := x1.cells) r32 rfl k61 rfl rfl) rfl ?_
                have hokD := hD199.ok
                refine L.call (E.call2 hb18) rfl (does_calls (o := x1.o) hD199 (by show (armN m x.1).1.ops ≤ 1000000; omega) (by show (armN m x.1).1.pend.length ≤ 1000000; omega) (hokx1.bools.kept q63 (fun _ _ h => h)) hokx1.len hokx1.at_ (fun k hk => by have h0_ := ba k hk; omega)) ?_
                rintro _ w200 ⟨rfl, hD202, hk201⟩
                have hfd := armed_dies hfo.plain hfo.safe hct
                rw [hfd] at hD202
                rw [hfd]
                simp only [bval]
                have k203 := Kept.old hk201 k61 (fun hF => by have h0_ := ba _ hF; omega)
                have hD204 := DiskAt.kept hD65 hk201 dba
                have z205 := hk201.size
                have q206 : Kept (fun _ => False) w w200 := Kept.trans q63 hk201 (fun k hlt9 hk9 => by have h0_ := ba k hk9; omega)
                obtain ⟨F207, eF207⟩ : ∃ G, G = grow x.2.1 w59 w200 := ⟨_, rfl⟩
                rw [← eF207] at hD202
                have mm209 : ∀ k, F207 k → x.2.1 k ∨ (w59.heap.size ≤ k ∧ k < w200.heap.size) := fun k hk => by rw [eF207] at hk; exact hk
                have hsq := (q206).size
                have bd208 : ∀ k, F207 k → w.heap.size ≤ k ∧ k < w200.heap.size := fun k hk => by
                  rcases mm209 k hk with h | h
                  · have h0_ := ba k h; omega
                  · omega
                have dj210 : ∀ k, F207 k → ¬ x.2.2 k := fun k hk hy => by
                  rcases mm209 k hk with h | h
                  · exact dab k h hy
                  · have h0_ := bb k hy; omega
                have dj211 : ∀ k, x.2.2 k → ¬ F207 k := fun k hy hk => by
                  rcases mm209 k hk with h | h
                  · exact dba k hy h
                  · have h0_ := bb k hy; omega
                refine L.step (R.moveV (v := .tuple #[.agg (List.toArray (bcells z64)), .int .i64 9]) rfl) rfl ?_
                refine L.step (R.extract (v := .agg (List.toArray (bcells z64))) rfl rfl) rfl ?_
                refine L.step (R.extract (v := .int .i64 9) rfl rfl) rfl ?_
                refine L.stepE (R.alloc z27) rfl fun w213 e212 => ?_
                have k215 := Al.new e212
                have k216 := Al.old e212 k203
                have z217 := Al.size e212
                have q218 := Al.kept e212 q206
                have hD219 := DiskAt.kept hD202 (Al.kept e212 (Kept.refl (fun _ => False) _)) (fun _ _ h => h)
                have hD220 := DiskAt.kept hD204 (Al.kept e212 (Kept.refl (fun _ => False) _)) (fun _ _ h => h)
                refine L.doesE (R.storeAll (cs := bcells z64) r27 rfl rfl (bcells64 (b := z64) rfl) (one_bcells _) k215 (List.length_replicate)) fun w222 e221 => ?_
                have k223 := So.old e221 (apartE k216 k215 (by decide)) k216
                have k224 := So.hit e221 k215
                have z225 := So.size e221
                have q226 := So.kept e221 q218 (fun h => absurd h (by omega))
                have hD227 := DiskAt.kept hD219 (So.kept e221 (Kept.refl (fun k => k = w200.heap.size) _) (fun _ => rfl)) (fun k hk e => by have e9 : k = w200.heap.size := e; have h0_ := bd208 k hk; omega)
                have hD228 := DiskAt.kept hD220 (So.kept e221 (Kept.refl (fun k => k = w200.heap.size) _) (fun _ => rfl)) (fun k hk e => by have e9 : k = w200.heap.size := e; have h0_ := bb k hk; omega)
                refine L.step (R.assignV (v := .int .i64 9) rfl) rfl ?_
                refine L.nil ?_
                refine C.seq ?_
                refine C.region ?_
                refine L.step (R.moveV (v := .int .i64 9) rfl) rfl ?_
                refine L.step (R.neqF rfl rfl (by omega)) rfl ?_
                refine L.step (R.moveV (v := .bool false) rfl) rfl ?_
                refine L.yes rfl rfl rfl ?_
                refine L.step (R.moveV (v := .pointer (some ⟨ra, 0, none⟩)) rfl) rfl ?_
                refine L.yes rfl rfl rfl ?_
                refine L.call (E.call1 hb25) rfl (dead_disk hD227) ?_
                rintro _ w229 ⟨rfl, ew⟩
                obtain rfl := ew.symm
                rw [gone_dead]
                refine L.yes rfl rfl rfl ?_
                refine L.step (R.notV (v := .bool false) rfl rfl) rfl ?_
                refine L.step (R.pickFV (v := .bool false) rfl rfl) rfl ?_
                refine L.nil ?_
                refine C.condF rfl ?_
                refine C.skip ?_
                refine C.seq ?_
                refine C.seq ?_
                refine C.region ?_
                refine L.step (R.moveV (v := .pointer (some ⟨ra, 0, none⟩)) rfl) rfl ?_
                refine L.call (E.call2 hb22) rfl (read_calls hD227 (by show (armN m x.1).1.ops ≤ 1000000; omega) (by show (armN m x.1).1.pend.length ≤ 1000000; omega) (i := 0)) ?_
                rintro _ w230 ⟨rfl, hD232, hk231⟩
                rw [gone_read] at hD232
                rw [gone_read]
                simp only [bval]
                have hD233 := DiskAt.kept hD228 hk231 dj211
                have z234 := hk231.size
                have q235 : Kept (fun _ => False) w w230 := Kept.trans q226 hk231 (fun k hlt9 hk9 => by have h0_ := bd208 k hk9; omega)
                refine L.step (R.moveV (v := .tuple #[.agg (List.toArray (bcells z64)), .int .i64 9]) rfl) rfl ?_
                refine L.step (R.extract (v := .agg (List.toArray (bcells z64))) rfl rfl) rfl ?_
                refine L.step (R.extract (v := .int .i64 9) rfl rfl) rfl ?_
                refine L.stepE (R.alloc z27) rfl fun w237 e236 => ?_
                have k239 := Al.new e236
                have z240 := Al.size e236
                have q241 := Al.kept e236 q235
                have hD242 := DiskAt.kept hD232 (Al.kept e236 (Kept.refl (fun _ => False) _)) (fun _ _ h => h)
                have hD243 := DiskAt.kept hD233 (Al.kept e236 (Kept.refl (fun _ => False) _)) (fun _ _ h => h)
                refine L.doesE (R.storeAll (cs := bcells z64) r27 rfl rfl (bcells64 (b := z64) rfl) (one_bcells _) k239 (List.length_replicate)) fun w245 e244 => ?_
                have k246 := So.hit e244 k239
                have z247 := So.size e244
                have q248 := So.kept e244 q241 (fun h => absurd h (by omega))
                have hD249 := DiskAt.kept hD242 (So.kept e244 (Kept.refl (fun k => k = w230.heap.size) _) (fun _ => rfl)) (fun k hk e => by have e9 : k = w230.heap.size := e; have h0_ := bd208 k hk; omega)
                have hD250 := DiskAt.kept hD243 (So.kept e244 (Kept.refl (fun k => k = w230.heap.size) _) (fun _ => rfl)) (fun k hk e => by have e9 : k = w230.heap.size := e; have h0_ := bb k hk; omega)
                refine L.step (R.assignV (v := .int .i64 9) rfl) rfl ?_
                refine L.nil ?_
                refine C.seq ?_
                refine C.region ?_
                refine L.step (R.moveV (v := .int .i64 9) rfl) rfl ?_
                refine L.step (R.neqF rfl rfl (by omega)) rfl ?_
                refine L.step (R.moveV (v := .bool false) rfl) rfl ?_
                refine L.yes rfl rfl rfl ?_
                refine L.step (R.moveV (v := .pointer (some ⟨ra, 0, none⟩)) rfl) rfl ?_
                refine L.yes rfl rfl rfl ?_
                refine L.call (E.call2 hb24) rfl (arm_disk hD249 (by omega)) ?_
                rintro _ w251 ⟨rfl, hD253, hk252⟩
                rw [gone_arm] at hD253
                rw [gone_arm]
                have hD254 := DiskAt.kept hD250 hk252 dj211
                have z255 := hk252.size
                have q256 : Kept (fun _ => False) w w251 := Kept.trans q248 hk252 (fun k hlt9 hk9 => by have h0_ := bd208 k hk9; omega)
                refine L.yes rfl rfl rfl ?_
                refine L.step (R.neqF rfl rfl (by omega)) rfl ?_
                refine L.step (R.pickFV (v := .bool false) rfl rfl) rfl ?_
                refine L.step (R.moveV (v := .bool false) rfl) rfl ?_
                refine L.yes rfl rfl rfl ?_
                refine L.step (R.moveV (v := .pointer (some ⟨ra, 0, none⟩)) rfl) rfl ?_
                refine L.yes rfl rfl rfl ?_
                refine L.call (E.call1 hb26) rfl (sync_calls hD253 (by show (armN m x.1).1.ops ≤ 1000000; omega)) ?_
                rintro _ w257 ⟨rfl, hD259, hk258⟩
                rw [gone_sync] at hD259
                rw [gone_sync]
                have hD260 := DiskAt.kept hD254 hk258 dj211
                have z261 := hk258.size
                have q262 : Kept (fun _ => False) w w257 := Kept.trans q256 hk258 (fun k hlt9 hk9 => by have h0_ := bd208 k hk9; omega)
                refine L.yes rfl rfl rfl ?_
                refine L.step (R.neqF rfl rfl (by omega)) rfl ?_
                refine L.step (R.pickFV (v := .bool false) rfl rfl) rfl ?_
                refine L.step (R.moveV (v := .bool false) rfl) rfl ?_
                refine L.yes rfl rfl rfl ?_
                refine L.step (R.moveV (v := .pointer (some ⟨ra, 0, none⟩)) rfl) rfl ?_
                refine L.yes rfl rfl rfl ?_
                refine L.call (E.call2 hb27) rfl (fail_disk hD259 (by omega)) ?_
                rintro _ w263 ⟨rfl, hD265, hk264⟩
                rw [gone_fail] at hD265
                rw [gone_fail]
                have hD266 := DiskAt.kept hD260 hk264 dj211
                have z267 := hk264.size
                have q268 : Kept (fun _ => False) w w263 := Kept.trans q262 hk264 (fun k hlt9 hk9 => by have h0_ := bd208 k hk9; omega)
                refine L.yes rfl rfl rfl ?_
                refine L.step (R.neqF rfl rfl (by omega)) rfl ?_
                refine L.step (R.pickFV (v := .bool false) rfl rfl) rfl ?_
                refine L.nil ?_
                refine C.condF rfl ?_
                refine C.skip ?_
                refine C.seq ?_
                refine C.region ?_
                refine L.step (R.moveV (v := .pointer (some ⟨ra, 0, none⟩)) rfl) rfl ?_
                refine L.call (E.call1 hb28) rfl (pending_calls hD265 (by show (armN m x.1).1.pend.length ≤ 1000000; omega)) ?_
                rintro v271 w269 ⟨hr272, hk270⟩
                obtain ⟨a273, c274, rfl, _⟩ := hr272.shape
                have z275 := (hk270).size
                have q276 := Kept.trans q268 hk270 (fun _ _ h => h.elim)
                have hD277 := DiskAt.kept hD265 hk270 (fun _ _ h => h)
                have hD278 := DiskAt.kept hD266 hk270 (fun _ _ h => h)
                refine L.step (R.assignV (v := .slice a273 ((armN m x.1).1.pend.length) c274) rfl) rfl ?_
                refine L.nil ?_
                refine C.seq ?_
                refine C.region ?_
                refine L.step (R.moveV (v := .slice a273 ((armN m x.1).1.pend.length) c274) rfl) rfl ?_
                refine L.step (R.lenV (v := .int .i64 (((armN m x.1).1.pend.length : Nat) : Int)) Try.underlying56 rfl rfl) rfl ?_
                refine L.stepE (R.makeU (l := (armN m x.1).1.pend.length) (m := (armN m x.1).1.pend.length) e30 z4 rfl rfl rfl rfl (Nat.le_refl _) (by omega) (by omega)) rfl fun w280 e279 => ?_
                have k282 := Al.new e279
                have z283 := Al.size e279
                have q284 := Al.kept e279 q276
                have hD285 := DiskAt.kept hD277 (Al.kept e279 (Kept.refl (fun _ => False) _)) (fun _ _ h => h)
                have hD286 := DiskAt.kept hD278 (Al.kept e279 (Kept.refl (fun _ => False) _)) (fun _ _ h => h)
                refine L.step (R.assignV (v := .slice (some ⟨w269.heap.size, 0, none⟩) ((armN m x.1).1.pend.length) ((armN m x.1).1.pend.length)) rfl) rfl ?_
                refine L.nil ?_
                refine C.seq ?_
                refine C.seq ?_
                refine C.region ?_
                refine L.step (R.moveV (v := .slice (some ⟨w269.heap.size, 0, none⟩) ((armN m x.1).1.pend.length) ((armN m x.1).1.pend.length)) rfl) rfl ?_
                refine L.step (R.lenV (v := .int .i64 (((armN m x.1).1.pend.length : Nat) : Int)) Try.underlying30 rfl rfl) rfl ?_
                refine L.step (R.moveV (v := .int .i64 0) rfl) rfl ?_
                refine L.nil ?_
                refine C.block ?_
                refine C.loop (α := Nat) (fun j => [(5, .pointer (some ⟨ra, 0, none⟩)), (6, .pointer (some ⟨rb, 0, none⟩)), (15, .slice (some ⟨w269.heap.size, 0, none⟩) ((armN m x.1).1.pend.length) ((armN m x.1).1.pend.length)), (114, .int .i64 (((armN m x.1).1.pend.length : Nat) : Int)), (115, .int .i64 ((j : Nat) : Int))]) (fun j W => j ≤ (armN m x.1).1.pend.length ∧ Kept (fun _ => False) w W ∧ DiskAt W ra (armN m x.1).1.gone F207 ∧ DiskAt W rb (armN m x.1).1 x.2.2 ∧ W.heap[w269.heap.size]? = some (blk (List.replicate j (.bool true) ++ List.replicate ((armN m x.1).1.pend.length - j) (.bool false)) 4)) (fun j => (armN m x.1).1.pend.length - j) ⟨0, ⟨rfl, rfl, rfl, rfl, rfl, trivial⟩, ⟨Nat.zero_le _, q284, hD285, hD286, by simpa using k282⟩⟩ ?_
                intro j g288 w287 hI289
                obtain ⟨hj, hq, hDa, hDb, hbk⟩ := hI289
                have hszj := hq.size
                have hbkl := at_lt _ _ hbk
                refine C.seq ?_
                refine C.region ?_
                rcases Classical.em (((j : Nat) : Int) < (((armN m x.1).1.pend.length : Nat) : Int)) with ht290 | ht290
                ·
                  refine L.step (R.lssT rfl rfl (ht290)) rfl ?_
                  refine L.nil ?_
                  refine C.seq ?_
                  refine C.condT rfl ?_
                  refine C.skip ?_
                  refine C.seq ?_
                  refine C.block ?_
                  refine C.seq ?_
                  refine C.region ?_
                  refine L.step (R.moveV (v := .int .i64 ((j : Nat) : Int)) rfl) rfl ?_
                  refine L.step (R.assignV (v := .int .i64 ((j : Nat) : Int)) rfl) rfl ?_
                  refine L.nil ?_
                  refine C.region ?_
                  refine L.step (R.moveV (v := .slice (some ⟨w269.heap.size, 0, none⟩) ((armN m x.1).1.pend.length) ((armN m x.1).1.pend.length)) rfl) rfl ?_
                  refine L.step (R.moveV (v := .int .i64 ((j : Nat) : Int)) rfl) rfl ?_
                  refine L.step (R.indexAddrV (m := j) (o2 := j) s30 rfl rfl rfl (by omega) (by omega)) rfl ?_
                  refine L.doesE (R.store1 c4 rfl (v := .bool true) rfl rfl hbk (by rw [Nat.blt_eq, List.length_append, List.length_replicate, List.length_replicate]; omega)) fun w292 e291 => ?_
                  rw [fill_true (by omega)] at e291
                  have k293 := So.hit e291 hbk
                  have z294 := So.size e291
                  have q295 := So.kept e291 hq (fun h => absurd h (by omega))
                  have hD296 := DiskAt.kept hDa (So.kept e291 (Kept.refl (fun k => k = w269.heap.size) _) (fun _ => rfl)) (fun k hk e => by have e9 : k = w269.heap.size := e; have h0_ := bd208 k hk; omega)
                  have hD297 := DiskAt.kept hDb (So.kept e291 (Kept.refl (fun k => k = w269.heap.size) _) (fun _ => rfl)) (fun k hk e => by have e9 : k = w269.heap.size := e; have h0_ := bb k hk; omega)
                  refine L.nil ?_
                  refine C.region ?_
                  refine L.step (R.add rfl rfl (by omega)) rfl ?_
                  refine L.step (R.moveV (v := .int .i64 (((j : Nat) : Int) + 1)) rfl) rfl ?_
                  refine L.nil ?_
                  refine thenP.mk ⟨j + 1, ⟨rfl, rfl, rfl, rfl, rfl, trivial⟩, ⟨by show j + 1 ≤ _; omega, q295, hD296, hD297, k293⟩, by show (armN m x.1).1.pend.length - (j + 1) < (armN m x.1).1.pend.length - j; omega⟩
                ·
                  refine L.step (R.lssF rfl rfl (Int.not_lt.1 ht290)) rfl ?_
                  refine L.nil ?_
                  refine C.seq ?_
                  refine C.condF rfl ?_
                  refine C.exit ?_
                  refine C.seq ?_
                  refine C.region ?_
                  refine L.step (R.moveV (v := .pointer (some ⟨ra, 0, none⟩)) rfl) rfl ?_
                  refine L.step (R.moveV (v := .slice (some ⟨w269.heap.size, 0, none⟩) ((armN m x.1).1.pend.length) ((armN m x.1).1.pend.length)) rfl) rfl ?_
                  have hbt := hbk
                  rw [show j = (armN m x.1).1.pend.length by omega, Nat.sub_self, List.replicate_zero, List.append_nil] at hbt
                  refine L.call (E.call2 hb29) rfl (crash_calls hDa (bools_true (c := (armN m x.1).1.pend.length) hbt) (fun k hk e => by have e9 : k = w269.heap.size := e; have h0_ := bd208 k hk; omega) (fun k hk => by have h0_ := bd208 k hk; omega) (by show (armN m x.1).1.pend.length ≤ 1000000; omega)) ?_
                  rintro _ w298 ⟨rfl, hD300, hk299⟩
                  rw [gone_crash (D := (armN m x.1).1) (fun k hk => getD_true hk)] at hD300
                  have hD301 := DiskAt.kept hDb hk299 dj211
                  have z302 := hk299.size
                  have q303 : Kept (fun _ => False) w w298 := Kept.trans hq hk299 (fun k hlt9 hk9 => by have h0_ := bd208 k hk9; omega)
                  refine L.step (R.eqlT rfl rfl (by omega)) rfl ?_
                  refine L.step (R.moveV (v := .bool true) rfl) rfl ?_
                  refine L.yes rfl rfl rfl ?_
                  refine L.step (R.moveV (v := .pointer (some ⟨ra, 0, none⟩)) rfl) rfl ?_
                  refine L.yes rfl rfl rfl ?_
                  have hokM0 := hD301.ok
                  obtain ⟨Dm, hDm⟩ : ∃ D, D = (armN m x.1).1 := ⟨_, rfl⟩
                  have hPl := hfo.plain
                  have hSa := hfo.safe
                  have hf1 := hf1
                  have hf2 := hf2
                  rw [← hDm] at hPl hSa hf1 hf2 hokM0
                  have hD309 := hD300
                  rw [← hDm] at hD309
                  have hD310 := hD301
                  rw [← hDm] at hD310
                  refine L.call (E.call1 hb15) rfl (held_calls (n := 6) hD309 (fun k hk => by have h0_ := bd208 k hk; omega) (back_safe.trans hSa) (by decide) (by show Dm.ops ≤ 900000; omega) (by show ([] : List (Nat × Blk)).length ≤ 900000; decide)) ?_
                  rintro v308 w304 ⟨hr307, hD306, hk305⟩
                  rw [back_held hPl hSa] at hr307
                  have hD311 := DiskAt.kept hD310 hk305 dj211
                  have z312 := hk305.size
                  have q313 : Kept (fun _ => False) w w304 := Kept.trans q303 hk305 (fun k hlt9 hk9 => by have h0_ := bd208 k hk9; omega)
                  refine L.yes rfl rfl rfl ?_
                  refine L.step (R.moveV (v := .pointer (some ⟨rb, 0, none⟩)) rfl) rfl ?_
                  refine L.yes rfl rfl rfl ?_
                  refine L.call (E.call1 hb15) rfl (held_calls (n := 6) hD311 (fun k hk => by have h0_ := bb k hk; omega) hSa (by decide) (by show Dm.ops ≤ 900000; omega) (by show Dm.pend.length ≤ 900000; omega)) ?_
                  rintro v318 w314 ⟨hr317, hD316, hk315⟩
                  have m319 := Row.kept hr307 hk315 (fun k hG hF => by have h0_ := bb k hF; have hg9 := hG.elim (fun h => h.elim) (fun h => h); omega)
                  have hD320 := DiskAt.kept hD306 hk315 dj210
                  have z321 := hk315.size
                  have q322 : Kept (fun _ => False) w w314 := Kept.trans q313 hk315 (fun k hlt9 hk9 => by have h0_ := bb k hk9; omega)
                  refine L.yes rfl rfl rfl ?_
                  have hhp := held_plain hPl 6 (by rw [hSa]; decide)
                  have hh64 : ∀ b ∈ (Dm.held 6).2, b.length = 64 := fun b hb => by
                    rw [hhp.2.2.2] at hb
                    obtain ⟨i, hi, rfl⟩ := List.mem_map.1 hb
                    have hi := List.mem_range.1 hi
                    exact look_length hokM0 ⟨by omega, by rw [hSa]; omega⟩
                  refine L.call (E.call2 hb30) rfl (same_calls m319 hr317 (PD.held_length 6) (PD.held_length 6) (by decide) hh64 hh64) ?_
                  rintro _ w323 ⟨rfl, hk324⟩
                  rw [decide_eq_true rfl]
                  have z325 := (hk324).size
                  have q326 := Kept.trans q322 hk324 (fun _ _ h => h.elim)
                  have hD327 := DiskAt.kept hD320 hk324 (fun _ _ h => h)
                  have hD328 := DiskAt.kept hD316 hk324 (fun _ _ h => h)
                  refine L.step (R.pickTV (v := .bool true) rfl rfl) rfl ?_
                  refine L.step (R.assignV (v := .bool true) rfl) rfl ?_
                  refine L.nil ?_
                  refine C.ret (?_ : RetOk _ _ _ _ _)
                  refine RetOk.tV (v := .bool true) rfl rfl ?_
                  exact ⟨rfl, q326⟩
              ·
                refine L.step (R.lssF rfl rfl (Int.not_lt.1 ht198)) rfl ?_
                refine L.yes rfl rfl rfl ?_
                refine L.step (R.pickTV (v := .bool false) rfl rfl) rfl ?_
                refine L.yes rfl rfl rfl ?_
                refine L.step (R.pickFV (v := .bool false) rfl rfl) rfl ?_
                refine L.step (R.pickTV (v := .bool false) rfl rfl) rfl ?_
                refine L.nil ?_
                refine C.condF rfl ?_
                refine C.skip ?_
                refine C.seq ?_
                refine C.region ?_
                have hkr := kindOf_range x1.o.k
                rcases Classical.em (counts x1.o 6) with hct | hct
                ·
                  have hlt9 : (armN m x.1).2 < nn := by unfold counts at hct; omega
                  have hct9 := hct
                  unfold counts at hct9
                  refine L.step (R.moveV (v := .pointer (some ⟨ra, 0, none⟩)) rfl) rfl ?_
                  refine L.step (R.loadA (cs := x1.cells) r32 rfl k61 rfl rfl) rfl ?_
                  have hokD := hD64.ok
                  refine L.call (E.call2 hb18) rfl (does_calls (o := x1.o) hD64 (by show (armN m x.1).1.ops ≤ 1000000; omega) (by show (armN m x.1).1.pend.length ≤ 1000000; omega) (hokx1.bools.kept q63 (fun _ _ h => h)) hokx1.len hokx1.at_ (fun k hk => by have h0_ := ba k hk; omega)) ?_
                  rintro _ w329 ⟨rfl, hD331, hk330⟩
                  have hfd := (armed_count (n := nn - (armN m x.1).2) hfo.plain hfo.safe hct (by omega)).1
                  rw [hfd] at hD331
                  rw [hfd]
                  have hokE : ((armN m x.1).1.does x1.o).2.1.length = 64 := does_length hD65.ok
                  simp only [bval]
                  have k332 := Kept.old hk330 k61 (fun hF => by have h0_ := ba _ hF; omega)
                  have hD333 := DiskAt.kept hD65 hk330 dba
                  have z334 := hk330.size
                  have q335 : Kept (fun _ => False) w w329 := Kept.trans q63 hk330 (fun k hlt9 hk9 => by have h0_ := ba k hk9; omega)
                  obtain ⟨F336, eF336⟩ : ∃ G, G = grow x.2.1 w59 w329 := ⟨_, rfl⟩
                  rw [← eF336] at hD331
                  have mm338 : ∀ k, F336 k → x.2.1 k ∨ (w59.heap.size ≤ k ∧ k < w329.heap.size) := fun k hk => by rw [eF336] at hk; exact hk
                  have hsq := (q335).size
                  have bd337 : ∀ k, F336 k → w.heap.size ≤ k ∧ k < w329.heap.size := fun k hk => by
                    rcases mm338 k hk with h | h
                    · have h0_ := ba k h; omega
                    · omega
                  have dj339 : ∀ k, F336 k → ¬ x.2.2 k := fun k hk hy => by
                    rcases mm338 k hk with h | h
                    · exact dab k h hy
                    · have h0_ := bb k hy; omega
                  have dj340 : ∀ k, x.2.2 k → ¬ F336 k := fun k hy hk => by
                    rcases mm338 k hk with h | h
                    · exact dba k hy h
                    · have h0_ := bb k hy; omega
                  refine L.step (R.moveV (v := .tuple #[.agg (List.toArray (bcells (((armN m x.1).1.does x1.o).2.1))), .int .i64 (((armN m x.1).1.does x1.o).2.2)]) rfl) rfl ?_
                  refine L.step (R.extract (v := .agg (List.toArray (bcells (((armN m x.1).1.does x1.o).2.1)))) rfl rfl) rfl ?_
                  refine L.step (R.extract (v := .int .i64 (((armN m x.1).1.does x1.o).2.2)) rfl rfl) rfl ?_
                  refine L.stepE (R.alloc z27) rfl fun w342 e341 => ?_
                  have k344 := Al.new e341
                  have k345 := Al.old e341 k332
                  have z346 := Al.size e341
                  have q347 := Al.kept e341 q335
                  have hD348 := DiskAt.kept hD331 (Al.kept e341 (Kept.refl (fun _ => False) _)) (fun _ _ h => h)
                  have hD349 := DiskAt.kept hD333 (Al.kept e341 (Kept.refl (fun _ => False) _)) (fun _ _ h => h)
                  refine L.doesE (R.storeAll (cs := bcells (((armN m x.1).1.does x1.o).2.1)) r27 rfl rfl (bcells64 hokE) (one_bcells _) k344 (List.length_replicate)) fun w351 e350 => ?_
                  have k352 := So.old e350 (apartE k345 k344 (by decide)) k345
                  have k353 := So.hit e350 k344
                  have z354 := So.size e350
                  have q355 := So.kept e350 q347 (fun h => absurd h (by omega))
                  have hD356 := DiskAt.kept hD348 (So.kept e350 (Kept.refl (fun k => k = w329.heap.size) _) (fun _ => rfl)) (fun k hk e => by have e9 : k = w329.heap.size := e; have h0_ := bd337 k hk; omega)
                  have hD357 := DiskAt.kept hD349 (So.kept e350 (Kept.refl (fun k => k = w329.heap.size) _) (fun _ => rfl)) (fun k hk e => by have e9 : k = w329.heap.size := e; have h0_ := bb k hk; omega)
                  refine L.step (R.assignV (v := .int .i64 (((armN m x.1).1.does x1.o).2.2)) rfl) rfl ?_
                  refine L.nil ?_
                  refine C.seq ?_
                  refine C.region ?_
                  refine L.step (R.moveV (v := .pointer (some ⟨rb, 0, none⟩)) rfl) rfl ?_
                  refine L.step (R.loadA (cs := x1.cells) r32 rfl k352 rfl rfl) rfl ?_
                  have hokD := hD357.ok
                  refine L.call (E.call2 hb18) rfl (does_calls (o := x1.o) hD357 (by show (armN m x.1).1.ops ≤ 1000000; omega) (by show (armN m x.1).1.pend.length ≤ 1000000; omega) (hokx1.bools.kept q355 (fun _ _ h => h)) hokx1.len hokx1.at_ (fun k hk => by have h0_ := bb k hk; omega)) ?_
                  rintro _ w358 ⟨rfl, hD360, hk359⟩
                  simp only [bval]
                  have k361 := Kept.old hk359 k352 (fun hF => by have h0_ := bb _ hF; omega)
                  have k362 := Kept.old hk359 k353 (fun hF => by have h0_ := bb _ hF; omega)
                  have hD363 := DiskAt.kept hD356 hk359 dj339
                  have z364 := hk359.size
                  have q365 : Kept (fun _ => False) w w358 := Kept.trans q355 hk359 (fun k hlt9 hk9 => by have h0_ := bb k hk9; omega)
                  obtain ⟨F366, eF366⟩ : ∃ G, G = grow x.2.2 w351 w358 := ⟨_, rfl⟩
                  rw [← eF366] at hD360
                  have mm368 : ∀ k, F366 k → x.2.2 k ∨ (w351.heap.size ≤ k ∧ k < w358.heap.size) := fun k hk => by rw [eF366] at hk; exact hk
                  have hsq := (q365).size
                  have bd367 : ∀ k, F366 k → w.heap.size ≤ k ∧ k < w358.heap.size := fun k hk => by
                    rcases mm368 k hk with h | h
                    · have h0_ := bb k h; omega
                    · omega
                  have dj369 : ∀ k, F336 k → ¬ F366 k := fun k hy hk => by
                    rcases mm368 k hk with h | h
                    · exact dj339 k hy h
                    · have h0_ := bd337 k hy; omega
                  have dj370 : ∀ k, F366 k → ¬ F336 k := fun k hk hy => by
                    rcases mm368 k hk with h | h
                    · exact dj340 k h hy
                    · have h0_ := bd337 k hy; omega
                  refine L.step (R.moveV (v := .tuple #[.agg (List.toArray (bcells (((armN m x.1).1.does x1.o).2.1))), .int .i64 (((armN m x.1).1.does x1.o).2.2)]) rfl) rfl ?_
                  refine L.step (R.extract (v := .agg (List.toArray (bcells (((armN m x.1).1.does x1.o).2.1)))) rfl rfl) rfl ?_
                  refine L.step (R.extract (v := .int .i64 (((armN m x.1).1.does x1.o).2.2)) rfl rfl) rfl ?_
                  refine L.stepE (R.alloc z27) rfl fun w372 e371 => ?_
                  have k374 := Al.new e371
                  have k375 := Al.old e371 k361
                  have k376 := Al.old e371 k362
                  have z377 := Al.size e371
                  have q378 := Al.kept e371 q365
                  have hD379 := DiskAt.kept hD363 (Al.kept e371 (Kept.refl (fun _ => False) _)) (fun _ _ h => h)
                  have hD380 := DiskAt.kept hD360 (Al.kept e371 (Kept.refl (fun _ => False) _)) (fun _ _ h => h)
                  refine L.doesE (R.storeAll (cs := bcells (((armN m x.1).1.does x1.o).2.1)) r27 rfl rfl (bcells64 (does_length hokD)) (one_bcells _) k374 (List.length_replicate)) fun w382 e381 => ?_
                  have k383 := So.old e381 (apartE k375 k374 (by decide)) k375
                  have k384 := So.old e381 (by omega) k376
                  have k385 := So.hit e381 k374
                  have z386 := So.size e381
                  have q387 := So.kept e381 q378 (fun h => absurd h (by omega))
                  have hD388 := DiskAt.kept hD379 (So.kept e381 (Kept.refl (fun k => k = w358.heap.size) _) (fun _ => rfl)) (fun k hk e => by have e9 : k = w358.heap.size := e; have h0_ := bd337 k hk; omega)
                  have hD389 := DiskAt.kept hD380 (So.kept e381 (Kept.refl (fun k => k = w358.heap.size) _) (fun _ => rfl)) (fun k hk e => by have e9 : k = w358.heap.size := e; have h0_ := bd367 k hk; omega)
                  refine L.step (R.assignV (v := .int .i64 (((armN m x.1).1.does x1.o).2.2)) rfl) rfl ?_
                  refine L.nil ?_
                  refine C.seq ?_
                  refine C.seq ?_
                  refine C.region ?_
                  refine L.step (R.loadA (cs := bcells (((armN m x.1).1.does x1.o).2.1)) r27 rfl k384 (List.take_of_length_le (Nat.le_of_eq (bcells64 hokE))) (bcells64 hokE)) rfl ?_
                  refine L.step (R.loadA (cs := bcells (((armN m x.1).1.does x1.o).2.1)) r27 rfl k385 (List.take_of_length_le (Nat.le_of_eq (bcells64 (does_length hokD)))) (bcells64 (does_length hokD))) rfl ?_
                  refine L.step (R.neqAV (A := ((armN m x.1).1.does x1.o).2.1) (B := ((armN m x.1).1.does x1.o).2.1) (b := false) Try.underlying27 Try.underlying5 n5 gd27 rfl rfl hokE hokE (by rw [decide_eq_true rfl]; rfl)) rfl ?_
                  refine L.step (R.moveV (v := .bool false) rfl) rfl ?_
                  refine L.yes rfl rfl rfl ?_
                  refine L.step (R.moveV (v := .int .i64 (((armN m x.1).1.does x1.o).2.2)) rfl) rfl ?_
                  refine L.yes rfl rfl rfl ?_
                  refine L.step (R.moveV (v := .int .i64 (((armN m x.1).1.does x1.o).2.2)) rfl) rfl ?_
                  refine L.yes rfl rfl rfl ?_
                  refine L.step (R.neqF rfl rfl rfl) rfl ?_
                  refine L.step (R.pickFV (v := .bool false) rfl rfl) rfl ?_
                  refine L.step (R.moveV (v := .bool false) rfl) rfl ?_
                  refine L.yes rfl rfl rfl ?_
                  refine L.step (R.moveV (v := .pointer (some ⟨ra, 0, none⟩)) rfl) rfl ?_
                  refine L.yes rfl rfl rfl ?_
                  refine L.call (E.call1 hb25) rfl (dead_disk hD388) ?_
                  rintro _ w390 ⟨rfl, ew⟩
                  obtain rfl := ew.symm
                  rw [show (PD.dead (PD.armedN ((armN m x.1).1.does x1.o).1 _)) = false from (hfo.plain.doesW (by rw [hfo.safe]; decide) (show kindOf x1.o.k < 3 by omega)).1.dead]
                  refine L.step (R.pickFV (v := .bool false) rfl rfl) rfl ?_
                  refine L.nil ?_
                  refine C.condF rfl ?_
                  refine C.skip ?_
                  refine C.seq ?_
                  refine C.region ?_
                  refine L.step (R.loadA (cs := x1.cells) r32 rfl k383 rfl rfl) rfl ?_
                  refine L.call (E.call1 hb13) rfl (kind_calls (hokx1.one)) ?_
                  rintro _ w391 ⟨rfl, hk392⟩
                  have k393 := Kept.old hk392 k383 (fun h => h)
                  have k394 := Kept.old hk392 k384 (fun h => h)
                  have k395 := Kept.old hk392 k385 (fun h => h)
                  have z396 := (hk392).size
                  have q397 := Kept.trans q387 hk392 (fun _ _ h => h.elim)
                  have hD398 := DiskAt.kept hD388 hk392 (fun _ _ h => h)
                  have hD399 := DiskAt.kept hD389 hk392 (fun _ _ h => h)
                  refine L.step (R.gtrT rfl rfl (by omega)) rfl ?_
                  refine L.step (R.moveV (v := .bool true) rfl) rfl ?_
                  refine L.yes rfl rfl rfl ?_
                  refine L.step (R.moveV (v := .int .i64 (((armN m x.1).1.does x1.o).2.2)) rfl) rfl ?_
                  refine L.yes rfl rfl rfl ?_
                  refine L.step (R.eqlT rfl rfl (armed_count (n := nn - (armN m x.1).2) hfo.plain hfo.safe hct (by omega)).2) rfl ?_
                  refine L.step (R.pickTV (v := .bool true) rfl rfl) rfl ?_
                  refine L.nil ?_
                  refine C.condT rfl ?_
                  refine C.region ?_
                  refine L.step (R.moveV (v := .int .i64 ((armN m x.1).2)) rfl) rfl ?_
                  refine L.step (R.add rfl rfl (by omega)) rfl ?_
                  refine L.step (R.assignV (v := .int .i64 (((armN m x.1).2) + 1)) rfl) rfl ?_
                  refine L.nil ?_
                  refine C.region ?_
                  refine L.step (R.add rfl rfl (by omega)) rfl ?_
                  refine L.step (R.moveV (v := .int .i64 (((x.1 : Nat) : Int) + 1)) rfl) rfl ?_
                  refine L.nil ?_
                  have hfe := armN_succ hx1
                  rw [if_neg (by omega), if_pos hct] at hfe
                  have hsq := (q397).size
                  refine thenP.mk ⟨(x.1 + 1, F336, F366), ⟨rfl, rfl, rfl, rfl, (by show _ = Value.int .i64 (armN m (x.1 + 1)).2; rw [hfe]; rfl), rfl, rfl, rfl, trivial⟩, ⟨by show x.1 + 1 ≤ _; omega, q397, by show (armN m (x.1 + 1)).2 ≤ nn; rw [hfe]; show _ ≤ _; omega, by show DiskAt _ _ ((armN m (x.1 + 1)).1.armedN (nn - (armN m (x.1 + 1)).2)) _; rw [hfe]; exact (by rw [show nn - ((armN m x.1).2 + 1) = nn - (armN m x.1).2 - 1 by omega]; exact hD398), by show DiskAt _ _ (armN m (x.1 + 1)).1 _; rw [hfe]; exact hD399, fun k hk => by have h0_ := bd337 k hk; omega, fun k hk => by have h0_ := bd367 k hk; omega, dj369⟩, by show m.length - (x.1 + 1) < m.length - x.1; omega⟩
                ·
                  have hct9 := hct
                  unfold counts at hct9
                  refine L.step (R.moveV (v := .pointer (some ⟨ra, 0, none⟩)) rfl) rfl ?_
                  refine L.step (R.loadA (cs := x1.cells) r32 rfl k61 rfl rfl) rfl ?_
                  have hokD := hD64.ok
                  refine L.call (E.call2 hb18) rfl (does_calls (o := x1.o) hD64 (by show (armN m x.1).1.ops ≤ 1000000; omega) (by show (armN m x.1).1.pend.length ≤ 1000000; omega) (hokx1.bools.kept q63 (fun _ _ h => h)) hokx1.len hokx1.at_ (fun k hk => by have h0_ := ba k hk; omega)) ?_
                  rintro _ w400 ⟨rfl, hD402, hk401⟩
                  have hfd := armed_free (n := nn - (armN m x.1).2) hfo.plain hfo.safe (show kindOf x1.o.k < 3 by omega) hct
                  rw [hfd] at hD402
                  rw [hfd]
                  have hokE : ((armN m x.1).1.does x1.o).2.1.length = 64 := does_length hD65.ok
                  simp only [bval]
                  have k403 := Kept.old hk401 k61 (fun hF => by have h0_ := ba _ hF; omega)
                  have hD404 := DiskAt.kept hD65 hk401 dba
                  have z405 := hk401.size
                  have q406 : Kept (fun _ => False) w w400 := Kept.trans q63 hk401 (fun k hlt9 hk9 => by have h0_ := ba k hk9; omega)
                  obtain ⟨F407, eF407⟩ : ∃ G, G = grow x.2.1 w59 w400 := ⟨_, rfl⟩
                  rw [← eF407] at hD402
                  have mm409 : ∀ k, F407 k → x.2.1 k ∨ (w59.heap.size ≤ k ∧ k < w400.heap.size) := fun k hk => by rw [eF407] at hk; exact hk
                  have hsq := (q406).size
                  have bd408 : ∀ k, F407 k → w.heap.size ≤ k ∧ k < w400.heap.size := fun k hk => by
                    rcases mm409 k hk with h | h
                    · have h0_ := ba k h; omega
                    · omega
                  have dj410 : ∀ k, F407 k → ¬ x.2.2 k := fun k hk hy => by
                    rcases mm409 k hk with h | h
                    · exact dab k h hy
                    · have h0_ := bb k hy; omega
                  have dj411 : ∀ k, x.2.2 k → ¬ F407 k := fun k hy hk => by
                    rcases mm409 k hk with h | h
                    · exact dba k hy h
                    · have h0_ := bb k hy; omega
                  refine L.step (R.moveV (v := .tuple #[.agg (List.toArray (bcells (((armN m x.1).1.does x1.o).2.1))), .int .i64 (((armN m x.1).1.does x1.o).2.2)]) rfl) rfl ?_
                  refine L.step (R.extract (v := .agg (List.toArray (bcells (((armN m x.1).1.does x1.o).2.1)))) rfl rfl) rfl ?_
                  refine L.step (R.extract (v := .int .i64 (((armN m x.1).1.does x1.o).2.2)) rfl rfl) rfl ?_
                  refine L.stepE (R.alloc z27) rfl fun w413 e412 => ?_
                  have k415 := Al.new e412
                  have k416 := Al.old e412 k403
                  have z417 := Al.size e412
                  have q418 := Al.kept e412 q406
                  have hD419 := DiskAt.kept hD402 (Al.kept e412 (Kept.refl (fun _ => False) _)) (fun _ _ h => h)
                  have hD420 := DiskAt.kept hD404 (Al.kept e412 (Kept.refl (fun _ => False) _)) (fun _ _ h => h)
                  refine L.doesE (R.storeAll (cs := bcells (((armN m x.1).1.does x1.o).2.1)) r27 rfl rfl (bcells64 hokE) (one_bcells _) k415 (List.length_replicate)) fun w422 e421 => ?_
                  have k423 := So.old e421 (apartE k416 k415 (by decide)) k416
                  have k424 := So.hit e421 k415
                  have z425 := So.size e421
                  have q426 := So.kept e421 q418 (fun h => absurd h (by omega))
                  have hD427 := DiskAt.kept hD419 (So.kept e421 (Kept.refl (fun k => k = w400.heap.size) _) (fun _ => rfl)) (fun k hk e => by have e9 : k = w400.heap.size := e; have h0_ := bd408 k hk; omega)
                  have hD428 := DiskAt.kept hD420 (So.kept e421 (Kept.refl (fun k => k = w400.heap.size) _) (fun _ => rfl)) (fun k hk e => by have e9 : k = w400.heap.size := e; have h0_ := bb k hk; omega)
                  refine L.step (R.assignV (v := .int .i64 (((armN m x.1).1.does x1.o).2.2)) rfl) rfl ?_
                  refine L.nil ?_
                  refine C.seq ?_
                  refine C.region ?_
                  refine L.step (R.moveV (v := .pointer (some ⟨rb, 0, none⟩)) rfl) rfl ?_
                  refine L.step (R.loadA (cs := x1.cells) r32 rfl k423 rfl rfl) rfl ?_
                  have hokD := hD428.ok
                  refine L.call (E.call2 hb18) rfl (does_calls (o := x1.o) hD428 (by show (armN m x.1).1.ops ≤ 1000000; omega) (by show (armN m x.1).1.pend.length ≤ 1000000; omega) (hokx1.bools.kept q426 (fun _ _ h => h)) hokx1.len hokx1.at_ (fun k hk => by have h0_ := bb k hk; omega)) ?_
                  rintro _ w429 ⟨rfl, hD431, hk430⟩
                  simp only [bval]
                  have k432 := Kept.old hk430 k423 (fun hF => by have h0_ := bb _ hF; omega)
                  have k433 := Kept.old hk430 k424 (fun hF => by have h0_ := bb _ hF; omega)
                  have hD434 := DiskAt.kept hD427 hk430 dj410
                  have z435 := hk430.size
                  have q436 : Kept (fun _ => False) w w429 := Kept.trans q426 hk430 (fun k hlt9 hk9 => by have h0_ := bb k hk9; omega)
                  obtain ⟨F437, eF437⟩ : ∃ G, G = grow x.2.2 w422 w429 := ⟨_, rfl⟩
                  rw [← eF437] at hD431
                  have mm439 : ∀ k, F437 k → x.2.2 k ∨ (w422.heap.size ≤ k ∧ k < w429.heap.size) := fun k hk => by rw [eF437] at hk; exact hk
                  have hsq := (q436).size
                  have bd438 : ∀ k, F437 k → w.heap.size ≤ k ∧ k < w429.heap.size := fun k hk => by
                    rcases mm439 k hk with h | h
                    · have h0_ := bb k h; omega
                    · omega
                  have dj440 : ∀ k, F407 k → ¬ F437 k := fun k hy hk => by
                    rcases mm439 k hk with h | h
                    · exact dj410 k hy h
                    · have h0_ := bd408 k hy; omega
                  have dj441 : ∀ k, F437 k → ¬ F407 k := fun k hk hy => by
                    rcases mm439 k hk with h | h
                    · exact dj411 k h hy
                    · have h0_ := bd408 k hy; omega
                  refine L.step (R.moveV (v := .tuple #[.agg (List.toArray (bcells (((armN m x.1).1.does x1.o).2.1))), .int .i64 (((armN m x.1).1.does x1.o).2.2)]) rfl) rfl ?_
                  refine L.step (R.extract (v := .agg (List.toArray (bcells (((armN m x.1).1.does x1.o).2.1)))) rfl rfl) rfl ?_
                  refine L.step (R.extract (v := .int .i64 (((armN m x.1).1.does x1.o).2.2)) rfl rfl) rfl ?_
                  refine L.stepE (R.alloc z27) rfl fun w443 e442 => ?_
                  have k445 := Al.new e442
                  have k446 := Al.old e442 k432
                  have k447 := Al.old e442 k433
                  have z448 := Al.size e442
                  have q449 := Al.kept e442 q436
                  have hD450 := DiskAt.kept hD434 (Al.kept e442 (Kept.refl (fun _ => False) _)) (fun _ _ h => h)
                  have hD451 := DiskAt.kept hD431 (Al.kept e442 (Kept.refl (fun _ => False) _)) (fun _ _ h => h)
                  refine L.doesE (R.storeAll (cs := bcells (((armN m x.1).1.does x1.o).2.1)) r27 rfl rfl (bcells64 (does_length hokD)) (one_bcells _) k445 (List.length_replicate)) fun w453 e452 => ?_
                  have k454 := So.old e452 (apartE k446 k445 (by decide)) k446
                  have k455 := So.old e452 (by omega) k447
                  have k456 := So.hit e452 k445
                  have z457 := So.size e452
                  have q458 := So.kept e452 q449 (fun h => absurd h (by omega))
                  have hD459 := DiskAt.kept hD450 (So.kept e452 (Kept.refl (fun k => k = w429.heap.size) _) (fun _ => rfl)) (fun k hk e => by have e9 : k = w429.heap.size := e; have h0_ := bd408 k hk; omega)
                  have hD460 := DiskAt.kept hD451 (So.kept e452 (Kept.refl (fun k => k = w429.heap.size) _) (fun _ => rfl)) (fun k hk e => by have e9 : k = w429.heap.size := e; have h0_ := bd438 k hk; omega)
                  refine L.step (R.assignV (v := .int .i64 (((armN m x.1).1.does x1.o).2.2)) rfl) rfl ?_
                  refine L.nil ?_
                  refine C.seq ?_
                  refine C.seq ?_
                  refine C.region ?_
                  refine L.step (R.loadA (cs := bcells (((armN m x.1).1.does x1.o).2.1)) r27 rfl k455 (List.take_of_length_le (Nat.le_of_eq (bcells64 hokE))) (bcells64 hokE)) rfl ?_
                  refine L.step (R.loadA (cs := bcells (((armN m x.1).1.does x1.o).2.1)) r27 rfl k456 (List.take_of_length_le (Nat.le_of_eq (bcells64 (does_length hokD)))) (bcells64 (does_length hokD))) rfl ?_
                  refine L.step (R.neqAV (A := ((armN m x.1).1.does x1.o).2.1) (B := ((armN m x.1).1.does x1.o).2.1) (b := false) Try.underlying27 Try.underlying5 n5 gd27 rfl rfl hokE hokE (by rw [decide_eq_true rfl]; rfl)) rfl ?_
                  refine L.step (R.moveV (v := .bool false) rfl) rfl ?_
                  refine L.yes rfl rfl rfl ?_
                  refine L.step (R.moveV (v := .int .i64 (((armN m x.1).1.does x1.o).2.2)) rfl) rfl ?_
                  refine L.yes rfl rfl rfl ?_
                  refine L.step (R.moveV (v := .int .i64 (((armN m x.1).1.does x1.o).2.2)) rfl) rfl ?_
                  refine L.yes rfl rfl rfl ?_
                  refine L.step (R.neqF rfl rfl rfl) rfl ?_
                  refine L.step (R.pickFV (v := .bool false) rfl rfl) rfl ?_
                  refine L.step (R.moveV (v := .bool false) rfl) rfl ?_
                  refine L.yes rfl rfl rfl ?_
                  refine L.step (R.moveV (v := .pointer (some ⟨ra, 0, none⟩)) rfl) rfl ?_
                  refine L.yes rfl rfl rfl ?_
                  refine L.call (E.call1 hb25) rfl (dead_disk hD459) ?_
                  rintro _ w461 ⟨rfl, ew⟩
                  obtain rfl := ew.symm
                  rw [show (PD.dead (PD.armedN ((armN m x.1).1.does x1.o).1 _)) = false from (hfo.plain.doesW (by rw [hfo.safe]; decide) (show kindOf x1.o.k < 3 by omega)).1.dead]
                  refine L.step (R.pickFV (v := .bool false) rfl rfl) rfl ?_
                  refine L.nil ?_
                  refine C.condF rfl ?_
                  refine C.skip ?_
                  refine C.seq ?_
                  refine C.region ?_
                  refine L.step (R.loadA (cs := x1.cells) r32 rfl k454 rfl rfl) rfl ?_
                  refine L.call (E.call1 hb13) rfl (kind_calls (hokx1.one)) ?_
                  rintro _ w462 ⟨rfl, hk463⟩
                  have k464 := Kept.old hk463 k454 (fun h => h)
                  have k465 := Kept.old hk463 k455 (fun h => h)
                  have k466 := Kept.old hk463 k456 (fun h => h)
                  have z467 := (hk463).size
                  have q468 := Kept.trans q458 hk463 (fun _ _ h => h.elim)
                  have hD469 := DiskAt.kept hD459 hk463 (fun _ _ h => h)
                  have hD470 := DiskAt.kept hD460 hk463 (fun _ _ h => h)
                  rcases Classical.em (0 < (kindOf x1.o.k)) with ht471 | ht471
                  ·
                    refine L.step (R.gtrT rfl rfl (ht471)) rfl ?_
                    refine L.step (R.moveV (v := .bool true) rfl) rfl ?_
                    refine L.yes rfl rfl rfl ?_
                    refine L.step (R.moveV (v := .int .i64 (((armN m x.1).1.does x1.o).2.2)) rfl) rfl ?_
                    refine L.yes rfl rfl rfl ?_
                    refine L.step (R.eqlF rfl rfl (by rw [free_err hfo.plain hfo.safe (by omega) hct]; decide)) rfl ?_
                    refine L.step (R.pickTV (v := .bool false) rfl rfl) rfl ?_
                    refine L.nil ?_
                    refine C.condF rfl ?_
                    refine C.skip ?_
                    refine C.region ?_
                    refine L.step (R.add rfl rfl (by omega)) rfl ?_
                    refine L.step (R.moveV (v := .int .i64 (((x.1 : Nat) : Int) + 1)) rfl) rfl ?_
                    refine L.nil ?_
                    have hfe := armN_succ hx1
                    rw [if_neg (by omega), if_neg hct] at hfe
                    have hsq := (q468).size
                    refine thenP.mk ⟨(x.1 + 1, F407, F437), ⟨rfl, rfl, rfl, rfl, (by show _ = Value.int .i64 (armN m (x.1 + 1)).2; rw [hfe]; rfl), rfl, rfl, rfl, trivial⟩, ⟨by show x.1 + 1 ≤ _; omega, q468, by show (armN m (x.1 + 1)).2 ≤ nn; rw [hfe]; show _ ≤ _; omega, by show DiskAt _ _ ((armN m (x.1 + 1)).1.armedN (nn - (armN m (x.1 + 1)).2)) _; rw [hfe]; exact hD469, by show DiskAt _ _ (armN m (x.1 + 1)).1 _; rw [hfe]; exact hD470, fun k hk => by have h0_ := bd408 k hk; omega, fun k hk => by have h0_ := bd438 k hk; omega, dj440⟩, by show m.length - (x.1 + 1) < m.length - x.1; omega⟩
                  ·
                    refine L.step (R.gtrF rfl rfl (Int.not_lt.1 ht471)) rfl ?_
                    refine L.step (R.moveV (v := .bool false) rfl) rfl ?_
                    refine L.no rfl rfl rfl (.inl rfl) ?_
                    refine L.no rfl rfl rfl (.inl rfl) ?_
                    refine L.step (R.pickFV (v := .bool false) rfl rfl) rfl ?_
                    refine L.nil ?_
                    refine C.condF rfl ?_
                    refine C.skip ?_
                    refine C.region ?_
                    refine L.step (R.add rfl rfl (by omega)) rfl ?_
                    refine L.step (R.moveV (v := .int .i64 (((x.1 : Nat) : Int) + 1)) rfl) rfl ?_
                    refine L.nil ?_
                    have hfe := armN_succ hx1
                    rw [if_neg (by omega), if_neg hct] at hfe
                    have hsq := (q468).size
                    refine thenP.mk ⟨(x.1 + 1, F407, F437), ⟨rfl, rfl, rfl, rfl, (by show _ = Value.int .i64 (armN m (x.1 + 1)).2; rw [hfe]; rfl), rfl, rfl, rfl, trivial⟩, ⟨by show x.1 + 1 ≤ _; omega, q468, by show (armN m (x.1 + 1)).2 ≤ nn; rw [hfe]; show _ ≤ _; omega, by show DiskAt _ _ ((armN m (x.1 + 1)).1.armedN (nn - (armN m (x.1 + 1)).2)) _; rw [hfe]; exact hD469, by show DiskAt _ _ (armN m (x.1 + 1)).1 _; rw [hfe]; exact hD470, fun k hk => by have h0_ := bd408 k hk; omega, fun k hk => by have h0_ := bd438 k hk; omega, dj440⟩, by show m.length - (x.1 + 1) < m.length - x.1; omega⟩
            ·
              refine L.step (R.geqF rfl rfl (Int.not_le.1 ht197)) rfl ?_
              refine L.yes rfl rfl rfl ?_
              refine L.step (R.moveV (v := .bool false) rfl) rfl ?_
              refine L.no rfl rfl rfl (.inl rfl) ?_
              refine L.no rfl rfl rfl (.inl rfl) ?_
              refine L.no rfl rfl rfl (.inl rfl) ?_
              refine L.yes rfl rfl rfl ?_
              refine L.step (R.pickFV (v := .bool false) rfl rfl) rfl ?_
              refine L.yes rfl rfl rfl ?_
              refine L.step (R.pickFV (v := .bool false) rfl rfl) rfl ?_
              refine L.step (R.pickTV (v := .bool false) rfl rfl) rfl ?_
              refine L.nil ?_
              refine C.condF rfl ?_
              refine C.skip ?_
              refine C.seq ?_
              refine C.region ?_
              have hkr := kindOf_range x1.o.k
              rcases Classical.em (counts x1.o 6) with hct | hct
              ·
                have hlt9 : (armN m x.1).2 < nn := by unfold counts at hct; omega
                have hct9 := hct
                unfold counts at hct9
                refine L.step (R.moveV (v := .pointer (some ⟨ra, 0, none⟩)) rfl) rfl ?_
                refine L.step (R.loadA (cs := x1.cells) r32 rfl k61 rfl rfl) rfl ?_
                have hokD := hD64.ok
                refine L.call (E.call2 hb18) rfl (does_calls (o := x1.o) hD64 (by show (armN m x.1).1.ops ≤ 1000000; omega) (by show (armN m x.1).1.pend.length ≤ 1000000; omega) (hokx1.bools.kept q63 (fun _ _ h => h)) hokx1.len hokx1.at_ (fun k hk => by have h0_ := ba k hk; omega)) ?_
                rintro _ w472 ⟨rfl, hD474, hk473⟩
                have hfd := (armed_count (n := nn - (armN m x.1).2) hfo.plain hfo.safe hct (by omega)).1
                rw [hfd] at hD474
                rw [hfd]
                have hokE : ((armN m x.1).1.does x1.o).2.1.length = 64 := does_length hD65.ok
                simp only [bval]
                have k475 := Kept.old hk473 k61 (fun hF => by have h0_ := ba _ hF; omega)
                have hD476 := DiskAt.kept hD65 hk473 dba
                have z477 := hk473.size
                have q478 : Kept (fun _ => False) w w472 := Kept.trans q63 hk473 (fun k hlt9 hk9 => by have h0_ := ba k hk9; omega)
                obtain ⟨F479, eF479⟩ : ∃ G, G = grow x.2.1 w59 w472 := ⟨_, rfl⟩
                rw [← eF479] at hD474
                have mm481 : ∀ k, F479 k → x.2.1 k ∨ (w59.heap.size ≤ k ∧ k < w472.heap.size) := fun k hk => by rw [eF479] at hk; exact hk
                have hsq := (q478).size
                have bd480 : ∀ k, F479 k → w.heap.size ≤ k ∧ k < w472.heap.size := fun k hk => by
                  rcases mm481 k hk with h | h
                  · have h0_ := ba k h; omega
                  · omega
                have dj482 : ∀ k, F479 k → ¬ x.2.2 k := fun k hk hy => by
                  rcases mm481 k hk with h | h
                  · exact dab k h hy
                  · have h0_ := bb k hy; omega
                have dj483 : ∀ k, x.2.2 k → ¬ F479 k := fun k hy hk => by
                  rcases mm481 k hk with h | h
                  · exact dba k hy h
                  · have h0_ := bb k hy; omega
                refine L.step (R.moveV (v := .tuple #[.agg (List.toArray (bcells (((armN m x.1).1.does x1.o).2.1))), .int .i64 (((armN m x.1).1.does x1.o).2.2)]) rfl) rfl ?_
                refine L.step (R.extract (v := .agg (List.toArray (bcells (((armN m x.1).1.does x1.o).2.1)))) rfl rfl) rfl ?_
                refine L.step (R.extract (v := .int .i64 (((armN m x.1).1.does x1.o).2.2)) rfl rfl) rfl ?_
                refine L.stepE (R.alloc z27) rfl fun w485 e484 => ?_
                have k487 := Al.new e484
                have k488 := Al.old e484 k475
                have z489 := Al.size e484
                have q490 := Al.kept e484 q478
                have hD491 := DiskAt.kept hD474 (Al.kept e484 (Kept.refl (fun _ => False) _)) (fun _ _ h => h)
                have hD492 := DiskAt.kept hD476 (Al.kept e484 (Kept.refl (fun _ => False) _)) (fun _ _ h => h)
                refine L.doesE (R.storeAll (cs := bcells (((armN m x.1).1.does x1.o).2.1)) r27 rfl rfl (bcells64 hokE) (one_bcells _) k487 (List.length_replicate)) fun w494 e493 => ?_
                have k495 := So.old e493 (apartE k488 k487 (by decide)) k488
                have k496 := So.hit e493 k487
                have z497 := So.size e493
                have q498 := So.kept e493 q490 (fun h => absurd h (by omega))
                have hD499 := DiskAt.kept hD491 (So.kept e493 (Kept.refl (fun k => k = w472.heap.size) _) (fun _ => rfl)) (fun k hk e => by have e9 : k = w472.heap.size := e; have h0_ := bd480 k hk; omega)
                have hD500 := DiskAt.kept hD492 (So.kept e493 (Kept.refl (fun k => k = w472.heap.size) _) (fun _ => rfl)) (fun k hk e => by have e9 : k = w472.heap.size := e; have h0_ := bb k hk; omega)
                refine L.step (R.assignV (v := .int .i64 (((armN m x.1).1.does x1.o).2.2)) rfl) rfl ?_
                refine L.nil ?_
                refine C.seq ?_
                refine C.region ?_
                refine L.step (R.moveV (v := .pointer (some ⟨rb, 0, none⟩)) rfl) rfl ?_
                refine L.step (R.loadA (cs := x1.cells) r32 rfl k495 rfl rfl) rfl ?_
                have hokD := hD500.ok
                refine L.call (E.call2 hb18) rfl (does_calls (o := x1.o) hD500 (by show (armN m x.1).1.ops ≤ 1000000; omega) (by show (armN m x.1).1.pend.length ≤ 1000000; omega) (hokx1.bools.kept q498 (fun _ _ h => h)) hokx1.len hokx1.at_ (fun k hk => by have h0_ := bb k hk; omega)) ?_
                rintro _ w501 ⟨rfl, hD503, hk502⟩
                simp only [bval]
                have k504 := Kept.old hk502 k495 (fun hF => by have h0_ := bb _ hF; omega)
                have k505 := Kept.old hk502 k496 (fun hF => by have h0_ := bb _ hF; omega)
                have hD506 := DiskAt.kept hD499 hk502 dj482
                have z507 := hk502.size
                have q508 : Kept (fun _ => False) w w501 := Kept.trans q498 hk502 (fun k hlt9 hk9 => by have h0_ := bb k hk9; omega)
                obtain ⟨F509, eF509⟩ : ∃ G, G = grow x.2.2 w494 w501 := ⟨_, rfl⟩
                rw [← eF509] at hD503
                have mm511 : ∀ k, F509 k → x.2.2 k ∨ (w494.heap.size ≤ k ∧ k < w501.heap.size) := fun k hk => by rw [eF509] at hk; exact hk
                have hsq := (q508).size
                have bd510 : ∀ k, F509 k → w.heap.size ≤ k ∧ k < w501.heap.size := fun k hk => by
                  rcases mm511 k hk with h | h
                  · have h0_ := bb k h; omega
                  · omega
                have dj512 : ∀ k, F479 k → ¬ F509 k := fun k hy hk => by
                  rcases mm511 k hk with h | h
                  · exact dj482 k hy h
                  · have h0_ := bd480 k hy; omega
                have dj513 : ∀ k, F509 k → ¬ F479 k := fun k hk hy => by
                  rcases mm511 k hk with h | h
                  · exact dj483 k h hy
                  · have h0_ := bd480 k hy; omega
                refine L.step (R.moveV (v := .tuple #[.agg (List.toArray (bcells (((armN m x.1).1.does x1.o).2.1))), .int .i64 (((armN m x.1).1.does x1.o).2.2)]) rfl) rfl ?_
                refine L.step (R.extract (v := .agg (List.toArray (bcells (((armN m x.1).1.does x1.o).2.1)))) rfl rfl) rfl ?_
                refine L.step (R.extract (v := .int .i64 (((armN m x.1).1.does x1.o).2.2)) rfl rfl) rfl ?_
                refine L.stepE (R.alloc z27) rfl fun w515 e514 => ?_
                have k517 := Al.new e514
                have k518 := Al.old e514 k504
                have k519 := Al.old e514 k505
                have z520 := Al.size e514
                have q521 := Al.kept e514 q508
                have hD522 := DiskAt.kept hD506 (Al.kept e514 (Kept.refl (fun _ => False) _)) (fun _ _ h => h)
                have hD523 := DiskAt.kept hD503 (Al.kept e514 (Kept.refl (fun _ => False) _)) (fun _ _ h => h)
                refine L.doesE (R.storeAll (cs := bcells (((armN m x.1).1.does x1.o).2.1)) r27 rfl rfl (bcells64 (does_length hokD)) (one_bcells _) k517 (List.length_replicate)) fun w525 e524 => ?_
                have k526 := So.old e524 (apartE k518 k517 (by decide)) k518
                have k527 := So.old e524 (by omega) k519
                have k528 := So.hit e524 k517
                have z529 := So.size e524
                have q530 := So.kept e524 q521 (fun h => absurd h (by omega))
                have hD531 := DiskAt.kept hD522 (So.kept e524 (Kept.refl (fun k => k = w501.heap.size) _) (fun _ => rfl)) (fun k hk e => by have e9 : k = w501.heap.size := e; have h0_ := bd480 k hk; omega)
                have hD532 := DiskAt.kept hD523 (So.kept e524 (Kept.refl (fun k => k = w501.heap.size) _) (fun _ => rfl)) (fun k hk e => by have e9 : k = w501.heap.size := e; have h0_ := bd510 k hk; omega)
                refine L.step (R.assignV (v := .int .i64 (((armN m x.1).1.does x1.o).2.2)) rfl) rfl ?_
                refine L.nil ?_
                refine C.seq ?_
                refine C.seq ?_
                refine C.region ?_
                refine L.step (R.loadA (cs := bcells (((armN m x.1).1.does x1.o).2.1)) r27 rfl k527 (List.take_of_length_le (Nat.le_of_eq (bcells64 hokE))) (bcells64 hokE)) rfl ?_
                refine L.step (R.loadA (cs := bcells (((armN m x.1).1.does x1.o).2.1)) r27 rfl k528 (List.take_of_length_le (Nat.le_of_eq (bcells64 (does_length hokD)))) (bcells64 (does_length hokD))) rfl ?_
                refine L.step (R.neqAV (A := ((armN m x.1).1.does x1.o).2.1) (B := ((armN m x.1).1.does x1.o).2.1) (b := false) Try.underlying27 Try.underlying5 n5 gd27 rfl rfl hokE hokE (by rw [decide_eq_true rfl]; rfl)) rfl ?_
                refine L.step (R.moveV (v := .bool false) rfl) rfl ?_
                refine L.yes rfl rfl rfl ?_
                refine L.step (R.moveV (v := .int .i64 (((armN m x.1).1.does x1.o).2.2)) rfl) rfl ?_
                refine L.yes rfl rfl rfl ?_
                refine L.step (R.moveV (v := .int .i64 (((armN m x.1).1.does x1.o).2.2)) rfl) rfl ?_
                refine L.yes rfl rfl rfl ?_
                refine L.step (R.neqF rfl rfl rfl) rfl ?_
                refine L.step (R.pickFV (v := .bool false) rfl rfl) rfl ?_
                refine L.step (R.moveV (v := .bool false) rfl) rfl ?_
                refine L.yes rfl rfl rfl ?_
                refine L.step (R.moveV (v := .pointer (some ⟨ra, 0, none⟩)) rfl) rfl ?_
                refine L.yes rfl rfl rfl ?_
                refine L.call (E.call1 hb25) rfl (dead_disk hD531) ?_
                rintro _ w533 ⟨rfl, ew⟩
                obtain rfl := ew.symm
                rw [show (PD.dead (PD.armedN ((armN m x.1).1.does x1.o).1 _)) = false from (hfo.plain.doesW (by rw [hfo.safe]; decide) (show kindOf x1.o.k < 3 by omega)).1.dead]
                refine L.step (R.pickFV (v := .bool false) rfl rfl) rfl ?_
                refine L.nil ?_
                refine C.condF rfl ?_
                refine C.skip ?_
                refine C.seq ?_
                refine C.region ?_
                refine L.step (R.loadA (cs := x1.cells) r32 rfl k526 rfl rfl) rfl ?_
                refine L.call (E.call1 hb13) rfl (kind_calls (hokx1.one)) ?_
                rintro _ w534 ⟨rfl, hk535⟩
                have k536 := Kept.old hk535 k526 (fun h => h)
                have k537 := Kept.old hk535 k527 (fun h => h)
                have k538 := Kept.old hk535 k528 (fun h => h)
                have z539 := (hk535).size
                have q540 := Kept.trans q530 hk535 (fun _ _ h => h.elim)
                have hD541 := DiskAt.kept hD531 hk535 (fun _ _ h => h)
                have hD542 := DiskAt.kept hD532 hk535 (fun _ _ h => h)
                refine L.step (R.gtrT rfl rfl (by omega)) rfl ?_
                refine L.step (R.moveV (v := .bool true) rfl) rfl ?_
                refine L.yes rfl rfl rfl ?_
                refine L.step (R.moveV (v := .int .i64 (((armN m x.1).1.does x1.o).2.2)) rfl) rfl ?_
                refine L.yes rfl rfl rfl ?_
                refine L.step (R.eqlT rfl rfl (armed_count (n := nn - (armN m x.1).2) hfo.plain hfo.safe hct (by omega)).2) rfl ?_
                refine L.step (R.pickTV (v := .bool true) rfl rfl) rfl ?_
                refine L.nil ?_
                refine C.condT rfl ?_
                refine C.region ?_
                refine L.step (R.moveV (v := .int .i64 ((armN m x.1).2)) rfl) rfl ?_
                refine L.step (R.add rfl rfl (by omega)) rfl ?_
                refine L.step (R.assignV (v := .int .i64 (((armN m x.1).2) + 1)) rfl) rfl ?_
                refine L.nil ?_
                refine C.region ?_
                refine L.step (R.add rfl rfl (by omega)) rfl ?_
                refine L.step (R.moveV (v := .int .i64 (((x.1 : Nat) : Int) + 1)) rfl) rfl ?_
                refine L.nil ?_
                have hfe := armN_succ hx1
                rw [if_neg (by omega), if_pos hct] at hfe
                have hsq := (q540).size
                refine thenP.mk ⟨(x.1 + 1, F479, F509), ⟨rfl, rfl, rfl, rfl, (by show _ = Value.int .i64 (armN m (x.1 + 1)).2; rw [hfe]; rfl), rfl, rfl, rfl, trivial⟩, ⟨by show x.1 + 1 ≤ _; omega, q540, by show (armN m (x.1 + 1)).2 ≤ nn; rw [hfe]; show _ ≤ _; omega, by show DiskAt _ _ ((armN m (x.1 + 1)).1.armedN (nn - (armN m (x.1 + 1)).2)) _; rw [hfe]; exact (by rw [show nn - ((armN m x.1).2 + 1) = nn - (armN m x.1).2 - 1 by omega]; exact hD541), by show DiskAt _ _ (armN m (x.1 + 1)).1 _; rw [hfe]; exact hD542, fun k hk => by have h0_ := bd480 k hk; omega, fun k hk => by have h0_ := bd510 k hk; omega, dj512⟩, by show m.length - (x.1 + 1) < m.length - x.1; omega⟩
              ·
                have hct9 := hct
                unfold counts at hct9
                refine L.step (R.moveV (v := .pointer (some ⟨ra, 0, none⟩)) rfl) rfl ?_
                refine L.step (R.loadA (cs := x1.cells) r32 rfl k61 rfl rfl) rfl ?_
                have hokD := hD64.ok
                refine L.call (E.call2 hb18) rfl (does_calls (o := x1.o) hD64 (by show (armN m x.1).1.ops ≤ 1000000; omega) (by show (armN m x.1).1.pend.length ≤ 1000000; omega) (hokx1.bools.kept q63 (fun _ _ h => h)) hokx1.len hokx1.at_ (fun k hk => by have h0_ := ba k hk; omega)) ?_
                rintro _ w543 ⟨rfl, hD545, hk544⟩
                have hfd := armed_free (n := nn - (armN m x.1).2) hfo.plain hfo.safe (show kindOf x1.o.k < 3 by omega) hct
                rw [hfd] at hD545
                rw [hfd]
                have hokE : ((armN m x.1).1.does x1.o).2.1.length = 64 := does_length hD65.ok
                simp only [bval]
                have k546 := Kept.old hk544 k61 (fun hF => by have h0_ := ba _ hF; omega)
                have hD547 := DiskAt.kept hD65 hk544 dba
                have z548 := hk544.size
                have q549 : Kept (fun _ => False) w w543 := Kept.trans q63 hk544 (fun k hlt9 hk9 => by have h0_ := ba k hk9; omega)
                obtain ⟨F550, eF550⟩ : ∃ G, G = grow x.2.1 w59 w543 := ⟨_, rfl⟩
                rw [← eF550] at hD545
                have mm552 : ∀ k, F550 k → x.2.1 k ∨ (w59.heap.size ≤ k ∧ k < w543.heap.size) := fun k hk => by rw [eF550] at hk; exact hk
                have hsq := (q549).size
                have bd551 : ∀ k, F550 k → w.heap.size ≤ k ∧ k < w543.heap.size := fun k hk => by
                  rcases mm552 k hk with h | h
                  · have h0_ := ba k h; omega
                  · omega
                have dj553 : ∀ k, F550 k → ¬ x.2.2 k := fun k hk hy => by
                  rcases mm552 k hk with h | h
                  · exact dab k h hy
                  · have h0_ := bb k hy; omega
                have dj554 : ∀ k, x.2.2 k → ¬ F550 k := fun k hy hk => by
                  rcases mm552 k hk with h | h
                  · exact dba k hy h
                  · have h0_ := bb k hy; omega
                refine L.step (R.moveV (v := .tuple #[.agg (List.toArray (bcells (((armN m x.1).1.does x1.o).2.1))), .int .i64 (((armN m x.1).1.does x1.o).2.2)]) rfl) rfl ?_
                refine L.step (R.extract (v := .agg (List.toArray (bcells (((armN m x.1).1.does x1.o).2.1)))) rfl rfl) rfl ?_
                refine L.step (R.extract (v := .int .i64 (((armN m x.1).1.does x1.o).2.2)) rfl rfl) rfl ?_
                refine L.stepE (R.alloc z27) rfl fun w556 e555 => ?_
                have k558 := Al.new e555
                have k559 := Al.old e555 k546
                have z560 := Al.size e555
                have q561 := Al.kept e555 q549
                have hD562 := DiskAt.kept hD545 (Al.kept e555 (Kept.refl (fun _ => False) _)) (fun _ _ h => h)
                have hD563 := DiskAt.kept hD547 (Al.kept e555 (Kept.refl (fun _ => False) _)) (fun _ _ h => h)
                refine L.doesE (R.storeAll (cs := bcells (((armN m x.1).1.does x1.o).2.1)) r27 rfl rfl (bcells64 hokE) (one_bcells _) k558 (List.length_replicate)) fun w565 e564 => ?_
                have k566 := So.old e564 (apartE k559 k558 (by decide)) k559
                have k567 := So.hit e564 k558
                have z568 := So.size e564
                have q569 := So.kept e564 q561 (fun h => absurd h (by omega))
                have hD570 := DiskAt.kept hD562 (So.kept e564 (Kept.refl (fun k => k = w543.heap.size) _) (fun _ => rfl)) (fun k hk e => by have e9 : k = w543.heap.size := e; have h0_ := bd551 k hk; omega)
                have hD571 := DiskAt.kept hD563 (So.kept e564 (Kept.refl (fun k => k = w543.heap.size) _) (fun _ => rfl)) (fun k hk e => by have e9 : k = w543.heap.size := e; have h0_ := bb k hk; omega)
                refine L.step (R.assignV (v := .int .i64 (((armN m x.1).1.does x1.o).2.2)) rfl) rfl ?_
                refine L.nil ?_
                refine C.seq ?_
                refine C.region ?_
                refine L.step (R.moveV (v := .pointer (some ⟨rb, 0, none⟩)) rfl) rfl ?_
                refine L.step (R.loadA (cs := x1.cells) r32 rfl k566 rfl rfl) rfl ?_
                have hokD := hD571.ok
                refine L.call (E.call2 hb18) rfl (does_calls (o := x1.o) hD571 (by show (armN m x.1).1.ops ≤ 1000000; omega) (by show (armN m x.1).1.pend.length ≤ 1000000; omega) (hokx1.bools.kept q569 (fun _ _ h => h)) hokx1.len hokx1.at_ (fun k hk => by have h0_ := bb k hk; omega)) ?_
                rintro _ w572 ⟨rfl, hD574, hk573⟩
                simp only [bval]
                have k575 := Kept.old hk573 k566 (fun hF => by have h0_ := bb _ hF; omega)
                have k576 := Kept.old hk573 k567 (fun hF => by have h0_ := bb _ hF; omega)
                have hD577 := DiskAt.kept hD570 hk573 dj553
                have z578 := hk573.size
                have q579 : Kept (fun _ => False) w w572 := Kept.trans q569 hk573 (fun k hlt9 hk9 => by have h0_ := bb k hk9; omega)
                obtain ⟨F580, eF580⟩ : ∃ G, G = grow x.2.2 w565 w572 := ⟨_, rfl⟩
                rw [← eF580] at hD574
                have mm582 : ∀ k, F580 k → x.2.2 k ∨ (w565.heap.size ≤ k ∧ k < w572.heap.size) := fun k hk => by rw [eF580] at hk; exact hk
                have hsq := (q579).size
                have bd581 : ∀ k, F580 k → w.heap.size ≤ k ∧ k < w572.heap.size := fun k hk => by
                  rcases mm582 k hk with h | h
                  · have h0_ := bb k h; omega
                  · omega
                have dj583 : ∀ k, F550 k → ¬ F580 k := fun k hy hk => by
                  rcases mm582 k hk with h | h
                  · exact dj553 k hy h
                  · have h0_ := bd551 k hy; omega
                have dj584 : ∀ k, F580 k → ¬ F550 k := fun k hk hy => by
                  rcases mm582 k hk with h | h
                  · exact dj554 k h hy
                  · have h0_ := bd551 k hy; omega
                refine L.step (R.moveV (v := .tuple #[.agg (List.toArray (bcells (((armN m x.1).1.does x1.o).2.1))), .int .i64 (((armN m x.1).1.does x1.o).2.2)]) rfl) rfl ?_
                refine L.step (R.extract (v := .agg (List.toArray (bcells (((armN m x.1).1.does x1.o).2.1)))) rfl rfl) rfl ?_
                refine L.step (R.extract (v := .int .i64 (((armN m x.1).1.does x1.o).2.2)) rfl rfl) rfl ?_
                refine L.stepE (R.alloc z27) rfl fun w586 e585 => ?_
                have k588 := Al.new e585
                have k589 := Al.old e585 k575
                have k590 := Al.old e585 k576
                have z591 := Al.size e585
                have q592 := Al.kept e585 q579
                have hD593 := DiskAt.kept hD577 (Al.kept e585 (Kept.refl (fun _ => False) _)) (fun _ _ h => h)
                have hD594 := DiskAt.kept hD574 (Al.kept e585 (Kept.refl (fun _ => False) _)) (fun _ _ h => h)
                refine L.doesE (R.storeAll (cs := bcells (((armN m x.1).1.does x1.o).2.1)) r27 rfl rfl (bcells64 (does_length hokD)) (one_bcells _) k588 (List.length_replicate)) fun w596 e595 => ?_
                have k597 := So.old e595 (apartE k589 k588 (by decide)) k589
                have k598 := So.old e595 (by omega) k590
                have k599 := So.hit e595 k588
                have z600 := So.size e595
                have q601 := So.kept e595 q592 (fun h => absurd h (by omega))
                have hD602 := DiskAt.kept hD593 (So.kept e595 (Kept.refl (fun k => k = w572.heap.size) _) (fun _ => rfl)) (fun k hk e => by have e9 : k = w572.heap.size := e; have h0_ := bd551 k hk; omega)
                have hD603 := DiskAt.kept hD594 (So.kept e595 (Kept.refl (fun k => k = w572.heap.size) _) (fun _ => rfl)) (fun k hk e => by have e9 : k = w572.heap.size := e; have h0_ := bd581 k hk; omega)
                refine L.step (R.assignV (v := .int .i64 (((armN m x.1).1.does x1.o).2.2)) rfl) rfl ?_
                refine L.nil ?_
                refine C.seq ?_
                refine C.seq ?_
                refine C.region ?_
                refine L.step (R.loadA (cs := bcells (((armN m x.1).1.does x1.o).2.1)) r27 rfl k598 (List.take_of_length_le (Nat.le_of_eq (bcells64 hokE))) (bcells64 hokE)) rfl ?_
                refine L.step (R.loadA (cs := bcells (((armN m x.1).1.does x1.o).2.1)) r27 rfl k599 (List.take_of_length_le (Nat.le_of_eq (bcells64 (does_length hokD)))) (bcells64 (does_length hokD))) rfl ?_
                refine L.step (R.neqAV (A := ((armN m x.1).1.does x1.o).2.1) (B := ((armN m x.1).1.does x1.o).2.1) (b := false) Try.underlying27 Try.underlying5 n5 gd27 rfl rfl hokE hokE (by rw [decide_eq_true rfl]; rfl)) rfl ?_
                refine L.step (R.moveV (v := .bool false) rfl) rfl ?_
                refine L.yes rfl rfl rfl ?_
                refine L.step (R.moveV (v := .int .i64 (((armN m x.1).1.does x1.o).2.2)) rfl) rfl ?_
                refine L.yes rfl rfl rfl ?_
                refine L.step (R.moveV (v := .int .i64 (((armN m x.1).1.does x1.o).2.2)) rfl) rfl ?_
                refine L.yes rfl rfl rfl ?_
                refine L.step (R.neqF rfl rfl rfl) rfl ?_
                refine L.step (R.pickFV (v := .bool false) rfl rfl) rfl ?_
                refine L.step (R.moveV (v := .bool false) rfl) rfl ?_
                refine L.yes rfl rfl rfl ?_
                refine L.step (R.moveV (v := .pointer (some ⟨ra, 0, none⟩)) rfl) rfl ?_
                refine L.yes rfl rfl rfl ?_
                refine L.call (E.call1 hb25) rfl (dead_disk hD602) ?_
                rintro _ w604 ⟨rfl, ew⟩
                obtain rfl := ew.symm
                rw [show (PD.dead (PD.armedN ((armN m x.1).1.does x1.o).1 _)) = false from (hfo.plain.doesW (by rw [hfo.safe]; decide) (show kindOf x1.o.k < 3 by omega)).1.dead]
                refine L.step (R.pickFV (v := .bool false) rfl rfl) rfl ?_
                refine L.nil ?_
                refine C.condF rfl ?_
                refine C.skip ?_
                refine C.seq ?_
                refine C.region ?_
                refine L.step (R.loadA (cs := x1.cells) r32 rfl k597 rfl rfl) rfl ?_
                refine L.call (E.call1 hb13) rfl (kind_calls (hokx1.one)) ?_
                rintro _ w605 ⟨rfl, hk606⟩
                have k607 := Kept.old hk606 k597 (fun h => h)
                have k608 := Kept.old hk606 k598 (fun h => h)
                have k609 := Kept.old hk606 k599 (fun h => h)
                have z610 := (hk606).size
                have q611 := Kept.trans q601 hk606 (fun _ _ h => h.elim)
                have hD612 := DiskAt.kept hD602 hk606 (fun _ _ h => h)
                have hD613 := DiskAt.kept hD603 hk606 (fun _ _ h => h)
                rcases Classical.em (0 < (kindOf x1.o.k)) with ht614 | ht614
                ·
                  refine L.step (R.gtrT rfl rfl (ht614)) rfl ?_
                  refine L.step (R.moveV (v := .bool true) rfl) rfl ?_
                  refine L.yes rfl rfl rfl ?_
                  refine L.step (R.moveV (v := .int .i64 (((armN m x.1).1.does x1.o).2.2)) rfl) rfl ?_
                  refine L.yes rfl rfl rfl ?_
                  refine L.step (R.eqlF rfl rfl (by rw [free_err hfo.plain hfo.safe (by omega) hct]; decide)) rfl ?_
                  refine L.step (R.pickTV (v := .bool false) rfl rfl) rfl ?_
                  refine L.nil ?_
                  refine C.condF rfl ?_
                  refine C.skip ?_
                  refine C.region ?_
                  refine L.step (R.add rfl rfl (by omega)) rfl ?_
                  refine L.step (R.moveV (v := .int .i64 (((x.1 : Nat) : Int) + 1)) rfl) rfl ?_
                  refine L.nil ?_
                  have hfe := armN_succ hx1
                  rw [if_neg (by omega), if_neg hct] at hfe
                  have hsq := (q611).size
                  refine thenP.mk ⟨(x.1 + 1, F550, F580), ⟨rfl, rfl, rfl, rfl, (by show _ = Value.int .i64 (armN m (x.1 + 1)).2; rw [hfe]; rfl), rfl, rfl, rfl, trivial⟩, ⟨by show x.1 + 1 ≤ _; omega, q611, by show (armN m (x.1 + 1)).2 ≤ nn; rw [hfe]; show _ ≤ _; omega, by show DiskAt _ _ ((armN m (x.1 + 1)).1.armedN (nn - (armN m (x.1 + 1)).2)) _; rw [hfe]; exact hD612, by show DiskAt _ _ (armN m (x.1 + 1)).1 _; rw [hfe]; exact hD613, fun k hk => by have h0_ := bd551 k hk; omega, fun k hk => by have h0_ := bd581 k hk; omega, dj583⟩, by show m.length - (x.1 + 1) < m.length - x.1; omega⟩
                ·
                  refine L.step (R.gtrF rfl rfl (Int.not_lt.1 ht614)) rfl ?_
                  refine L.step (R.moveV (v := .bool false) rfl) rfl ?_
                  refine L.no rfl rfl rfl (.inl rfl) ?_
                  refine L.no rfl rfl rfl (.inl rfl) ?_
                  refine L.step (R.pickFV (v := .bool false) rfl rfl) rfl ?_
                  refine L.nil ?_
                  refine C.condF rfl ?_
                  refine C.skip ?_
                  refine C.region ?_
                  refine L.step (R.add rfl rfl (by omega)) rfl ?_
                  refine L.step (R.moveV (v := .int .i64 (((x.1 : Nat) : Int) + 1)) rfl) rfl ?_
                  refine L.nil ?_
                  have hfe := armN_succ hx1
                  rw [if_neg (by omega), if_neg hct] at hfe
                  have hsq := (q611).size
                  refine thenP.mk ⟨(x.1 + 1, F550, F580), ⟨rfl, rfl, rfl, rfl, (by show _ = Value.int .i64 (armN m (x.1 + 1)).2; rw [hfe]; rfl), rfl, rfl, rfl, trivial⟩, ⟨by show x.1 + 1 ≤ _; omega, q611, by show (armN m (x.1 + 1)).2 ≤ nn; rw [hfe]; show _ ≤ _; omega, by show DiskAt _ _ ((armN m (x.1 + 1)).1.armedN (nn - (armN m (x.1 + 1)).2)) _; rw [hfe]; exact hD612, by show DiskAt _ _ (armN m (x.1 + 1)).1 _; rw [hfe]; exact hD613, fun k hk => by have h0_ := bd551 k hk; omega, fun k hk => by have h0_ := bd581 k hk; omega, dj583⟩, by show m.length - (x.1 + 1) < m.length - x.1; omega⟩
        ·
          refine L.step (R.gtrF rfl rfl (Int.not_lt.1 ht58)) rfl ?_
          refine L.step (R.pickTV (v := .bool false) rfl rfl) rfl ?_
          refine L.step (R.moveV (v := .bool false) rfl) rfl ?_
          refine L.no rfl rfl rfl (.inl rfl) ?_
          refine L.no rfl rfl rfl (.inl rfl) ?_
          refine L.no rfl rfl rfl (.inl rfl) ?_
          refine L.no rfl rfl rfl (.inl rfl) ?_
          refine L.no rfl rfl rfl (.inr rfl) ?_
          refine L.no rfl rfl rfl (.inr rfl) ?_
          refine L.no rfl rfl rfl (.inr rfl) ?_
          refine L.no rfl rfl rfl (.inr rfl) ?_
          refine L.no rfl rfl rfl (.inr rfl) ?_
          refine L.no rfl rfl rfl (.inr rfl) ?_
          refine L.no rfl rfl rfl (.inr rfl) ?_
          refine L.no rfl rfl rfl (.inr rfl) ?_
          refine L.no rfl rfl rfl (.inl rfl) ?_
          refine L.step (R.pickFV (v := .bool false) rfl rfl) rfl ?_
          refine L.nil ?_
          refine C.condF rfl ?_
          refine C.skip ?_
          refine C.seq ?_
          refine C.region ?_
          have hkr := kindOf_range x1.o.k
          rcases Classical.em (counts x1.o 6) with hct | hct
          ·
            have hlt9 : (armN m x.1).2 < nn := by unfold counts at hct; omega
            have hct9 := hct
            unfold counts at hct9
            refine L.step (R.moveV (v := .pointer (some ⟨ra, 0, none⟩)) rfl) rfl ?_
            refine L.step (R.loadA (cs := x1.cells) r32 rfl k53 rfl rfl) rfl ?_
            have hokD := hD56.ok
            refine L.call (E.call2 hb18) rfl (does_calls (o := x1.o) hD56 (by show (armN m x.1).1.ops ≤ 1000000; omega) (by show (armN m x.1).1.pend.length ≤ 1000000; omega) (hokx1.bools.kept q55 (fun _ _ h => h)) hokx1.len hokx1.at_ (fun k hk => by have h0_ := ba k hk; omega)) ?_
            rintro _ w615 ⟨rfl, hD617, hk616⟩
            have hfd := (armed_count (n := nn - (armN m x.1).2) hfo.plain hfo.safe hct (by omega)).1
            rw [hfd] at hD617
            rw [hfd]
            have hokE : ((armN m x.1).1.does x1.o).2.1.length = 64 := does_length hD57.ok
            simp only [bval]
            have k618 := Kept.old hk616 k53 (fun hF => by have h0_ := ba _ hF; omega)
            have hD619 := DiskAt.kept hD57 hk616 dba
            have z620 := hk616.size
            have q621 : Kept (fun _ => False) w w615 := Kept.trans q55 hk616 (fun k hlt9 hk9 => by have h0_ := ba k hk9; omega)
            obtain ⟨F622, eF622⟩ : ∃ G, G = grow x.2.1 w51 w615 := ⟨_, rfl⟩
            rw [← eF622] at hD617
            have mm624 : ∀ k, F622 k → x.2.1 k ∨ (w51.heap.size ≤ k ∧ k < w615.heap.size) := fun k hk => by rw [eF622] at hk; exact hk
            have hsq := (q621).size
            have bd623 : ∀ k, F622 k → w.heap.size ≤ k ∧ k < w615.heap.size := fun k hk => by
              rcases mm624 k hk with h | h
              · have h0_ := ba k h; omega
              · omega
            have dj625 : ∀ k, F622 k → ¬ x.2.2 k := fun k hk hy => by
              rcases mm624 k hk with h | h
              · exact dab k h hy
              · have h0_ := bb k hy; omega
            have dj626 : ∀ k, x.2.2 k → ¬ F622 k := fun k hy hk => by
              rcases mm624 k hk with h | h
              · exact dba k hy h
              · have h0_ := bb k hy; omega
            refine L.step (R.moveV (v := .tuple #[.agg (List.toArray (bcells (((armN m x.1).1.does x1.o).2.1))), .int .i64 (((armN m x.1).1.does x1.o).2.2)]) rfl) rfl ?_
            refine L.step (R.extract (v := .agg (List.toArray (bcells (((armN m x.1).1.does x1.o).2.1)))) rfl rfl) rfl ?_
            refine L.step (R.extract (v := .int .i64 (((armN m x.1).1.does x1.o).2.2)) rfl rfl) rfl ?_
            refine L.stepE (R.alloc z27) rfl fun w628 e627 => ?_
            have k630 := Al.new e627
            have k631 := Al.old e627 k618
            have z632 := Al.size e627
            have q633 := Al.kept e627 q621
            have hD634 := DiskAt.kept hD617 (Al.kept e627 (Kept.refl (fun _ => False) _)) (fun _ _ h => h)
            have hD635 := DiskAt.kept hD619 (Al.kept e627 (Kept.refl (fun _ => False) _)) (fun _ _ h => h)
            refine L.doesE (R.storeAll (cs := bcells (((armN m x.1).1.does x1.o).2.1)) r27 rfl rfl (bcells64 hokE) (one_bcells _) k630 (List.length_replicate)) fun w637 e636 => ?_
            have k638 := So.old e636 (apartE k631 k630 (by decide)) k631
            have k639 := So.hit e636 k630
            have z640 := So.size e636
            have q641 := So.kept e636 q633 (fun h => absurd h (by omega))
            have hD642 := DiskAt.kept hD634 (So.kept e636 (Kept.refl (fun k => k = w615.heap.size) _) (fun _ => rfl)) (fun k hk e => by have e9 : k = w615.heap.size := e; have h0_ := bd623 k hk; omega)
            have hD643 := DiskAt.kept hD635 (So.kept e636 (Kept.refl (fun k => k = w615.heap.size) _) (fun _ => rfl)) (fun k hk e => by have e9 : k = w615.heap.size := e; have h0_ := bb k hk; omega)
            refine L.step (R.assignV (v := .int .i64 (((armN m x.1).1.does x1.o).2.2)) rfl) rfl ?_
            refine L.nil ?_
            refine C.seq ?_
            refine C.region ?_
            refine L.step (R.moveV (v := .pointer (some ⟨rb, 0, none⟩)) rfl) rfl ?_
            refine L.step (R.loadA (cs := x1.cells) r32 rfl k638 rfl rfl) rfl ?_
            have hokD := hD643.ok
            refine L.call (E.call2 hb18) rfl (does_calls (o := x1.o) hD643 (by show (armN m x.1).1.ops ≤ 1000000; omega) (by show (armN m x.1).1.pend.length ≤ 1000000; omega) (hokx1.bools.kept q641 (fun _ _ h => h)) hokx1.len hokx1.at_ (fun k hk => by have h0_ := bb k hk; omega)) ?_
            rintro _ w644 ⟨rfl, hD646, hk645⟩
            simp only [bval]
            have k647 := Kept.old hk645 k638 (fun hF => by have h0_ := bb _ hF; omega)
            have k648 := Kept.old hk645 k639 (fun hF => by have h0_ := bb _ hF; omega)
            have hD649 := DiskAt.kept hD642 hk645 dj625
            have z650 := hk645.size
            have q651 : Kept (fun _ => False) w w644 := Kept.trans q641 hk645 (fun k hlt9 hk9 => by have h0_ := bb k hk9; omega)
            obtain ⟨F652, eF652⟩ : ∃ G, G = grow x.2.2 w637 w644 := ⟨_, rfl⟩
            rw [← eF652] at hD646
            have mm654 : ∀ k, F652 k → x.2.2 k ∨ (w637.heap.size ≤ k ∧ k < w644.heap.size) := fun k hk => by rw [eF652] at hk; exact hk
            have hsq := (q651).size
            have bd653 : ∀ k, F652 k → w.heap.size ≤ k ∧ k < w644.heap.size := fun k hk => by
              rcases mm654 k hk with h | h
              · have h0_ := bb k h; omega
              · omega
            have dj655 : ∀ k, F622 k → ¬ F652 k := fun k hy hk => by
              rcases mm654 k hk with h | h
              · exact dj625 k hy h
              · have h0_ := bd623 k hy; omega
            have dj656 : ∀ k, F652 k → ¬ F622 k := fun k hk hy => by
              rcases mm654 k hk with h | h
              · exact dj626 k h hy
              · have h0_ := bd623 k hy; omega
            refine L.step (R.moveV (v := .tuple #[.agg (List.toArray (bcells (((armN m x.1).1.does x1.o).2.1))), .int .i64 (((armN m x.1).1.does x1.o).2.2)]) rfl) rfl ?_
            refine L.step (R.extract (v := .agg (List.toArray (bcells (((armN m x.1).1.does x1.o).2.1)))) rfl rfl) rfl ?_
            refine L.step (R.extract (v := .int .i64 (((armN m x.1).1.does x1.o).2.2)) rfl rfl) rfl ?_
            refine L.stepE (R.alloc z27) rfl fun w658 e657 => ?_
            have k660 := Al.new e657
            have k661 := Al.old e657 k647
            have k662 := Al.old e657 k648
            have z663 := Al.size e657
            have q664 := Al.kept e657 q651
            have hD665 := DiskAt.kept hD649 (Al.kept e657 (Kept.refl (fun _ => False) _)) (fun _ _ h => h)
            have hD666 := DiskAt.kept hD646 (Al.kept e657 (Kept.refl (fun _ => False) _)) (fun _ _ h => h)
            refine L.doesE (R.storeAll (cs := bcells (((armN m x.1).1.does x1.o).2.1)) r27 rfl rfl (bcells64 (does_length hokD)) (one_bcells _) k660 (List.length_replicate)) fun w668 e667 => ?_
            have k669 := So.old e667 (apartE k661 k660 (by decide)) k661
            have k670 := So.old e667 (by omega) k662
            have k671 := So.hit e667 k660
            have z672 := So.size e667
            have q673 := So.kept e667 q664 (fun h => absurd h (by omega))
            have hD674 := DiskAt.kept hD665 (So.kept e667 (Kept.refl (fun k => k = w644.heap.size) _) (fun _ => rfl)) (fun k hk e => by have e9 : k = w644.heap.size := e; have h0_ := bd623 k hk; omega)
            have hD675 := DiskAt.kept hD666 (So.kept e667 (Kept.refl (fun k => k = w644.heap.size) _) (fun _ => rfl)) (fun k hk e => by have e9 : k = w644.heap.size := e; have h0_ := bd653 k hk; omega)
            refine L.step (R.assignV (v := .int .i64 (((armN m x.1).1.does x1.o).2.2)) rfl) rfl ?_
            refine L.nil ?_
            refine C.seq ?_
            refine C.seq ?_
            refine C.region ?_
            refine L.step (R.loadA (cs := bcells (((armN m x.1).1.does x1.o).2.1)) r27 rfl k670 (List.take_of_length_le (Nat.le_of_eq (bcells64 hokE))) (bcells64 hokE)) rfl ?_
            refine L.step (R.loadA (cs := bcells (((armN m x.1).1.does x1.o).2.1)) r27 rfl k671 (List.take_of_length_le (Nat.le_of_eq (bcells64 (does_length hokD)))) (bcells64 (does_length hokD))) rfl ?_
            refine L.step (R.neqAV (A := ((armN m x.1).1.does x1.o).2.1) (B := ((armN m x.1).1.does x1.o).2.1) (b := false) Try.underlying27 Try.underlying5 n5 gd27 rfl rfl hokE hokE (by rw [decide_eq_true rfl]; rfl)) rfl ?_
            refine L.step (R.moveV (v := .bool false) rfl) rfl ?_
            refine L.yes rfl rfl rfl ?_
            refine L.step (R.moveV (v := .int .i64 (((armN m x.1).1.does x1.o).2.2)) rfl) rfl ?_
            refine L.yes rfl rfl rfl ?_
            refine L.step (R.moveV (v := .int .i64 (((armN m x.1).1.does x1.o).2.2)) rfl) rfl ?_
            refine L.yes rfl rfl rfl ?_
            refine L.step (R.neqF rfl rfl rfl) rfl ?_
            refine L.step (R.pickFV (v := .bool false) rfl rfl) rfl ?_
            refine L.step (R.moveV (v := .bool false) rfl) rfl ?_
            refine L.yes rfl rfl rfl ?_
            refine L.step (R.moveV (v := .pointer (some ⟨ra, 0, none⟩)) rfl) rfl ?_
            refine L.yes rfl rfl rfl ?_
            refine L.call (E.call1 hb25) rfl (dead_disk hD674) ?_
            rintro _ w676 ⟨rfl, ew⟩
            obtain rfl := ew.symm
            rw [show (PD.dead (PD.armedN ((armN m x.1).1.does x1.o).1 _)) = false from (hfo.plain.doesW (by rw [hfo.safe]; decide) (show kindOf x1.o.k < 3 by omega)).1.dead]
            refine L.step (R.pickFV (v := .bool false) rfl rfl) rfl ?_
            refine L.nil ?_
            refine C.condF rfl ?_
            refine C.skip ?_
            refine C.seq ?_
            refine C.region ?_
            refine L.step (R.loadA (cs := x1.cells) r32 rfl k669 rfl rfl) rfl ?_
            refine L.call (E.call1 hb13) rfl (kind_calls (hokx1.one)) ?_
            rintro _ w677 ⟨rfl, hk678⟩
            have k679 := Kept.old hk678 k669 (fun h => h)
            have k680 := Kept.old hk678 k670 (fun h => h)
            have k681 := Kept.old hk678 k671 (fun h => h)
            have z682 := (hk678).size
            have q683 := Kept.trans q673 hk678 (fun _ _ h => h.elim)
            have hD684 := DiskAt.kept hD674 hk678 (fun _ _ h => h)
            have hD685 := DiskAt.kept hD675 hk678 (fun _ _ h => h)
            refine L.step (R.gtrT rfl rfl (by omega)) rfl ?_
            refine L.step (R.moveV (v := .bool true) rfl) rfl ?_
            refine L.yes rfl rfl rfl ?_
            refine L.step (R.moveV (v := .int .i64 (((armN m x.1).1.does x1.o).2.2)) rfl) rfl ?_
            refine L.yes rfl rfl rfl ?_
            refine L.step (R.eqlT rfl rfl (armed_count (n := nn - (armN m x.1).2) hfo.plain hfo.safe hct (by omega)).2) rfl ?_
            refine L.step (R.pickTV (v := .bool true) rfl rfl) rfl ?_
            refine L.nil ?_
            refine C.condT rfl ?_
            refine C.region ?_
            refine L.step (R.moveV (v := .int .i64 ((armN m x.1).2)) rfl) rfl ?_
            refine L.step (R.add rfl rfl (by omega)) rfl ?_
            refine L.step (R.assignV (v := .int .i64 (((armN m x.1).2) + 1)) rfl) rfl ?_
            refine L.nil ?_
            refine C.region ?_
            refine L.step (R.add rfl rfl (by omega)) rfl ?_
            refine L.step (R.moveV (v := .int .i64 (((x.1 : Nat) : Int) + 1)) rfl) rfl ?_
            refine L.nil ?_
            have hfe := armN_succ hx1
            rw [if_neg (by omega), if_pos hct] at hfe
            have hsq := (q683).size
            refine thenP.mk ⟨(x.1 + 1, F622, F652), ⟨rfl, rfl, rfl, rfl, (by show _ = Value.int .i64 (armN m (x.1 + 1)).2; rw [hfe]; rfl), rfl, rfl, rfl, trivial⟩, ⟨by show x.1 + 1 ≤ _; omega, q683, by show (armN m (x.1 + 1)).2 ≤ nn; rw [hfe]; show _ ≤ _; omega, by show DiskAt _ _ ((armN m (x.1 + 1)).1.armedN (nn - (armN m (x.1 + 1)).2)) _; rw [hfe]; exact (by rw [show nn - ((armN m x.1).2 + 1) = nn - (armN m x.1).2 - 1 by omega]; exact hD684), by show DiskAt _ _ (armN m (x.1 + 1)).1 _; rw [hfe]; exact hD685, fun k hk => by have h0_ := bd623 k hk; omega, fun k hk => by have h0_ := bd653 k hk; omega, dj655⟩, by show m.length - (x.1 + 1) < m.length - x.1; omega⟩
          ·
            have hct9 := hct
            unfold counts at hct9
            refine L.step (R.moveV (v := .pointer (some ⟨ra, 0, none⟩)) rfl) rfl ?_
            refine L.step (R.loadA (cs := x1.cells) r32 rfl k53 rfl rfl) rfl ?_
            have hokD := hD56.ok
            refine L.call (E.call2 hb18) rfl (does_calls (o := x1.o) hD56 (by show (armN m x.1).1.ops ≤ 1000000; omega) (by show (armN m x.1).1.pend.length ≤ 1000000; omega) (hokx1.bools.kept q55 (fun _ _ h => h)) hokx1.len hokx1.at_ (fun k hk => by have h0_ := ba k hk; omega)) ?_
            rintro _ w686 ⟨rfl, hD688, hk687⟩
            have hfd := armed_free (n := nn - (armN m x.1).2) hfo.plain hfo.safe (show kindOf x1.o.k < 3 by omega) hct
            rw [hfd] at hD688
            rw [hfd]
            have hokE : ((armN m x.1).1.does x1.o).2.1.length = 64 := does_length hD57.ok
            simp only [bval]
            have k689 := Kept.old hk687 k53 (fun hF => by have h0_ := ba _ hF; omega)
            have hD690 := DiskAt.kept hD57 hk687 dba
            have z691 := hk687.size
            have q692 : Kept (fun _ => False) w w686 := Kept.trans q55 hk687 (fun k hlt9 hk9 => by have h0_ := ba k hk9; omega)
            obtain ⟨F693, eF693⟩ : ∃ G, G = grow x.2.1 w51 w686 := ⟨_, rfl⟩
            rw [← eF693] at hD688
            have mm695 : ∀ k, F693 k → x.2.1 k ∨ (w51.heap.size ≤ k ∧ k < w686.heap.size) := fun k hk => by rw [eF693] at hk; exact hk
            have hsq := (q692).size
            have bd694 : ∀ k, F693 k → w.heap.size ≤ k ∧ k < w686.heap.size := fun k hk => by
              rcases mm695 k hk with h | h
              · have h0_ := ba k h; omega
              · omega
            have dj696 : ∀ k, F693 k → ¬ x.2.2 k := fun k hk hy => by
              rcases mm695 k hk with h | h
              · exact dab k h hy
              · have h0_ := bb k hy; omega
            have dj697 : ∀ k, x.2.2 k → ¬ F693 k := fun k hy hk => by
              rcases mm695 k hk with h | h
              · exact dba k hy h
              · have h0_ := bb k hy; omega
            refine L.step (R.moveV (v := .tuple #[.agg (List.toArray (bcells (((armN m x.1).1.does x1.o).2.1))), .int .i64 (((armN m x.1).1.does x1.o).2.2)]) rfl) rfl ?_
            refine L.step (R.extract (v := .agg (List.toArray (bcells (((armN m x.1).1.does x1.o).2.1)))) rfl rfl) rfl ?_
            refine L.step (R.extract (v := .int .i64 (((armN m x.1).1.does x1.o).2.2)) rfl rfl) rfl ?_
            refine L.stepE (R.alloc z27) rfl fun w699 e698 => ?_
            have k701 := Al.new e698
            have k702 := Al.old e698 k689
            have z703 := Al.size e698
            have q704 := Al.kept e698 q692
            have hD705 := DiskAt.kept hD688 (Al.kept e698 (Kept.refl (fun _ => False) _)) (fun _ _ h => h)
            have hD706 := DiskAt.kept hD690 (Al.kept e698 (Kept.refl (fun _ => False) _)) (fun _ _ h => h)
            refine L.doesE (R.storeAll (cs := bcells (((armN m x.1).1.does x1.o).2.1)) r27 rfl rfl (bcells64 hokE) (one_bcells _) k701 (List.length_replicate)) fun w708 e707 => ?_
            have k709 := So.old e707 (apartE k702 k701 (by decide)) k702
            have k710 := So.hit e707 k701
            have z711 := So.size e707
            have q712 := So.kept e707 q704 (fun h => absurd h (by omega))
            have hD713 := DiskAt.kept hD705 (So.kept e707 (Kept.refl (fun k => k = w686.heap.size) _) (fun _ => rfl)) (fun k hk e => by have e9 : k = w686.heap.size := e; have h0_ := bd694 k hk; omega)
            have hD714 := DiskAt.kept hD706 (So.kept e707 (Kept.refl (fun k => k = w686.heap.size) _) (fun _ => rfl)) (fun k hk e => by have e9 : k = w686.heap.size := e; have h0_ := bb k hk; omega)
            refine L.step (R.assignV (v := .int .i64 (((armN m x.1).1.does x1.o).2.2)) rfl) rfl ?_
            refine L.nil ?_
            refine C.seq ?_
            refine C.region ?_
            refine L.step (R.moveV (v := .pointer (some ⟨rb, 0, none⟩)) rfl) rfl ?_
            refine L.step (R.loadA (cs := x1.cells) r32 rfl k709 rfl rfl) rfl ?_
            have hokD := hD714.ok
            refine L.call (E.call2 hb18) rfl (does_calls (o := x1.o) hD714 (by show (armN m x.1).1.ops ≤ 1000000; omega) (by show (armN m x.1).1.pend.length ≤ 1000000; omega) (hokx1.bools.kept q712 (fun _ _ h => h)) hokx1.len hokx1.at_ (fun k hk => by have h0_ := bb k hk; omega)) ?_
            rintro _ w715 ⟨rfl, hD717, hk716⟩
            simp only [bval]
            have k718 := Kept.old hk716 k709 (fun hF => by have h0_ := bb _ hF; omega)
            have k719 := Kept.old hk716 k710 (fun hF => by have h0_ := bb _ hF; omega)
            have hD720 := DiskAt.kept hD713 hk716 dj696
            have z721 := hk716.size
            have q722 : Kept (fun _ => False) w w715 := Kept.trans q712 hk716 (fun k hlt9 hk9 => by have h0_ := bb k hk9; omega)
            obtain ⟨F723, eF723⟩ : ∃ G, G = grow x.2.2 w708 w715 := ⟨_, rfl⟩
            rw [← eF723] at hD717
            have mm725 : ∀ k, F723 k → x.2.2 k ∨ (w708.heap.size ≤ k ∧ k < w715.heap.size) := fun k hk => by rw [eF723] at hk; exact hk
            have hsq := (q722).size
            have bd724 : ∀ k, F723 k → w.heap.size ≤ k ∧ k < w715.heap.size := fun k hk => by
              rcases mm725 k hk with h | h
              · have h0_ := bb k h; omega
              · omega
            have dj726 : ∀ k, F693 k → ¬ F723 k := fun k hy hk => by
              rcases mm725 k hk with h | h
              · exact dj696 k hy h
              · have h0_ := bd694 k hy; omega
            have dj727 : ∀ k, F723 k → ¬ F693 k := fun k hk hy => by
              rcases mm725 k hk with h | h
              · exact dj697 k h hy
              · have h0_ := bd694 k hy; omega
            refine L.step (R.moveV (v := .tuple #[.agg (List.toArray (bcells (((armN m x.1).1.does x1.o).2.1))), .int .i64 (((armN m x.1).1.does x1.o).2.2)]) rfl) rfl ?_
            refine L.step (R.extract (v := .agg (List.toArray (bcells (((armN m x.1).1.does x1.o).2.1)))) rfl rfl) rfl ?_
            refine L.step (R.extract (v := .int .i64 (((armN m x.1).1.does x1.o).2.2)) rfl rfl) rfl ?_
            refine L.stepE (R.alloc z27) rfl fun w729 e728 => ?_
            have k731 := Al.new e728
            have k732 := Al.old e728 k718
            have k733 := Al.old e728 k719
            have z734 := Al.size e728
            have q735 := Al.kept e728 q722
            have hD736 := DiskAt.kept hD720 (Al.kept e728 (Kept.refl (fun _ => False) _)) (fun _ _ h => h)
            have hD737 := DiskAt.kept hD717 (Al.kept e728 (Kept.refl (fun _ => False) _)) (fun _ _ h => h)
            refine L.doesE (R.storeAll (cs := bcells (((armN m x.1).1.does x1.o).2.1)) r27 rfl rfl (bcells64 (does_length hokD)) (one_bcells _) k731 (List.length_replicate)) fun w739 e738 => ?_
            have k740 := So.old e738 (apartE k732 k731 (by decide)) k732
            have k741 := So.old e738 (by omega) k733
            have k742 := So.hit e738 k731
            have z743 := So.size e738
            have q744 := So.kept e738 q735 (fun h => absurd h (by omega))
            have hD745 := DiskAt.kept hD736 (So.kept e738 (Kept.refl (fun k => k = w715.heap.size) _) (fun _ => rfl)) (fun k hk e => by have e9 : k = w715.heap.size := e; have h0_ := bd694 k hk; omega)
            have hD746 := DiskAt.kept hD737 (So.kept e738 (Kept.refl (fun k => k = w715.heap.size) _) (fun _ => rfl)) (fun k hk e => by have e9 : k = w715.heap.size := e; have h0_ := bd724 k hk; omega)
            refine L.step (R.assignV (v := .int .i64 (((armN m x.1).1.does x1.o).2.2)) rfl) rfl ?_
            refine L.nil ?_
            refine C.seq ?_
            refine C.seq ?_
            refine C.region ?_
            refine L.step (R.loadA (cs := bcells (((armN m x.1).1.does x1.o).2.1)) r27 rfl k741 (List.take_of_length_le (Nat.le_of_eq (bcells64 hokE))) (bcells64 hokE)) rfl ?_
            refine L.step (R.loadA (cs := bcells (((armN m x.1).1.does x1.o).2.1)) r27 rfl k742 (List.take_of_length_le (Nat.le_of_eq (bcells64 (does_length hokD)))) (bcells64 (does_length hokD))) rfl ?_
            refine L.step (R.neqAV (A := ((armN m x.1).1.does x1.o).2.1) (B := ((armN m x.1).1.does x1.o).2.1) (b := false) Try.underlying27 Try.underlying5 n5 gd27 rfl rfl hokE hokE (by rw [decide_eq_true rfl]; rfl)) rfl ?_
            refine L.step (R.moveV (v := .bool false) rfl) rfl ?_
            refine L.yes rfl rfl rfl ?_
            refine L.step (R.moveV (v := .int .i64 (((armN m x.1).1.does x1.o).2.2)) rfl) rfl ?_
            refine L.yes rfl rfl rfl ?_
            refine L.step (R.moveV (v := .int .i64 (((armN m x.1).1.does x1.o).2.2)) rfl) rfl ?_
            refine L.yes rfl rfl rfl ?_
            refine L.step (R.neqF rfl rfl rfl) rfl ?_
            refine L.step (R.pickFV (v := .bool false) rfl rfl) rfl ?_
            refine L.step (R.moveV (v := .bool false) rfl) rfl ?_
            refine L.yes rfl rfl rfl ?_
            refine L.step (R.moveV (v := .pointer (some ⟨ra, 0, none⟩)) rfl) rfl ?_
            refine L.yes rfl rfl rfl ?_
            refine L.call (E.call1 hb25) rfl (dead_disk hD745) ?_
            rintro _ w747 ⟨rfl, ew⟩
            obtain rfl := ew.symm
            rw [show (PD.dead (PD.armedN ((armN m x.1).1.does x1.o).1 _)) = false from (hfo.plain.doesW (by rw [hfo.safe]; decide) (show kindOf x1.o.k < 3 by omega)).1.dead]
            refine L.step (R.pickFV (v := .bool false) rfl rfl) rfl ?_
            refine L.nil ?_
            refine C.condF rfl ?_
            refine C.skip ?_
            refine C.seq ?_
            refine C.region ?_
            refine L.step (R.loadA (cs := x1.cells) r32 rfl k740 rfl rfl) rfl ?_
            refine L.call (E.call1 hb13) rfl (kind_calls (hokx1.one)) ?_
            rintro _ w748 ⟨rfl, hk749⟩
            have k750 := Kept.old hk749 k740 (fun h => h)
            have k751 := Kept.old hk749 k741 (fun h => h)
            have k752 := Kept.old hk749 k742 (fun h => h)
            have z753 := (hk749).size
            have q754 := Kept.trans q744 hk749 (fun _ _ h => h.elim)
            have hD755 := DiskAt.kept hD745 hk749 (fun _ _ h => h)
            have hD756 := DiskAt.kept hD746 hk749 (fun _ _ h => h)
            rcases Classical.em (0 < (kindOf x1.o.k)) with ht757 | ht757
            ·
              refine L.step (R.gtrT rfl rfl (ht757)) rfl ?_
              refine L.step (R.moveV (v := .bool true) rfl) rfl ?_
              refine L.yes rfl rfl rfl ?_
              refine L.step (R.moveV (v := .int .i64 (((armN m x.1).1.does x1.o).2.2)) rfl) rfl ?_
              refine L.yes rfl rfl rfl ?_
              refine L.step (R.eqlF rfl rfl (by rw [free_err hfo.plain hfo.safe (by omega) hct]; decide)) rfl ?_
              refine L.step (R.pickTV (v := .bool false) rfl rfl) rfl ?_
              refine L.nil ?_
              refine C.condF rfl ?_
              refine C.skip ?_
              refine C.region ?_
              refine L.step (R.add rfl rfl (by omega)) rfl ?_
              refine L.step (R.moveV (v := .int .i64 (((x.1 : Nat) : Int) + 1)) rfl) rfl ?_
              refine L.nil ?_
              have hfe := armN_succ hx1
              rw [if_neg (by omega), if_neg hct] at hfe
              have hsq := (q754).size
              refine thenP.mk ⟨(x.1 + 1, F693, F723), ⟨rfl, rfl, rfl, rfl, (by show _ = Value.int .i64 (armN m (x.1 + 1)).2; rw [hfe]; rfl), rfl, rfl, rfl, trivial⟩, ⟨by show x.1 + 1 ≤ _; omega, q754, by show (armN m (x.1 + 1)).2 ≤ nn; rw [hfe]; show _ ≤ _; omega, by show DiskAt _ _ ((armN m (x.1 + 1)).1.armedN (nn - (armN m (x.1 + 1)).2)) _; rw [hfe]; exact hD755, by show DiskAt _ _ (armN m (x.1 + 1)).1 _; rw [hfe]; exact hD756, fun k hk => by have h0_ := bd694 k hk; omega, fun k hk => by have h0_ := bd724 k hk; omega, dj726⟩, by show m.length - (x.1 + 1) < m.length - x.1; omega⟩
            ·
              refine L.step (R.gtrF rfl rfl (Int.not_lt.1 ht757)) rfl ?_
              refine L.step (R.moveV (v := .bool false) rfl) rfl ?_
              refine L.no rfl rfl rfl (.inl rfl) ?_
              refine L.no rfl rfl rfl (.inl rfl) ?_
              refine L.step (R.pickFV (v := .bool false) rfl rfl) rfl ?_
              refine L.nil ?_
              refine C.condF rfl ?_
              refine C.skip ?_
              refine C.region ?_
              refine L.step (R.add rfl rfl (by omega)) rfl ?_
              refine L.step (R.moveV (v := .int .i64 (((x.1 : Nat) : Int) + 1)) rfl) rfl ?_
              refine L.nil ?_
              have hfe := armN_succ hx1
              rw [if_neg (by omega), if_neg hct] at hfe
              have hsq := (q754).size
              refine thenP.mk ⟨(x.1 + 1, F693, F723), ⟨rfl, rfl, rfl, rfl, (by show _ = Value.int .i64 (armN m (x.1 + 1)).2; rw [hfe]; rfl), rfl, rfl, rfl, trivial⟩, ⟨by show x.1 + 1 ≤ _; omega, q754, by show (armN m (x.1 + 1)).2 ≤ nn; rw [hfe]; show _ ≤ _; omega, by show DiskAt _ _ ((armN m (x.1 + 1)).1.armedN (nn - (armN m (x.1 + 1)).2)) _; rw [hfe]; exact hD755, by show DiskAt _ _ (armN m (x.1 + 1)).1 _; rw [hfe]; exact hD756, fun k hk => by have h0_ := bd694 k hk; omega, fun k hk => by have h0_ := bd724 k hk; omega, dj726⟩, by show m.length - (x.1 + 1) < m.length - x.1; omega⟩
      ·
        refine L.step (R.eqlF rfl rfl (ht50)) rfl ?_
        refine L.step (R.moveV (v := .bool false) rfl) rfl ?_
        refine L.no rfl rfl rfl (.inl rfl) ?_
        refine L.no rfl rfl rfl (.inl rfl) ?_
        refine L.no rfl rfl rfl (.inl rfl) ?_
        refine L.step (R.pickFV (v := .bool false) rfl rfl) rfl ?_
        refine L.step (R.moveV (v := .bool false) rfl) rfl ?_
        refine L.no rfl rfl rfl (.inl rfl) ?_
        refine L.no rfl rfl rfl (.inl rfl) ?_
        refine L.no rfl rfl rfl (.inl rfl) ?_
        refine L.no rfl rfl rfl (.inl rfl) ?_
        refine L.no rfl rfl rfl (.inr rfl) ?_
        refine L.no rfl rfl rfl (.inr rfl) ?_
        refine L.no rfl rfl rfl (.inr rfl) ?_
        refine L.no rfl rfl rfl (.inr rfl) ?_
        refine L.no rfl rfl rfl (.inr rfl) ?_
        refine L.no rfl rfl rfl (.inr rfl) ?_
        refine L.no rfl rfl rfl (.inr rfl) ?_
        refine L.no rfl rfl rfl (.inr rfl) ?_
        refine L.no rfl rfl rfl (.inl rfl) ?_
        refine L.step (R.pickFV (v := .bool false) rfl rfl) rfl ?_
        refine L.nil ?_
        refine C.condF rfl ?_
        refine C.skip ?_
        refine C.seq ?_
        refine C.region ?_
        have hkr := kindOf_range x1.o.k
        rcases Classical.em (counts x1.o 6) with hct | hct
        ·
          have hlt9 : (armN m x.1).2 < nn := by unfold counts at hct; omega
          have hct9 := hct
          unfold counts at hct9
          refine L.step (R.moveV (v := .pointer (some ⟨ra, 0, none⟩)) rfl) rfl ?_
          refine L.step (R.loadA (cs := x1.cells) r32 rfl k44 rfl rfl) rfl ?_
          have hokD := hD47.ok
          refine L.call (E.call2 hb18) rfl (does_calls (o := x1.o) hD47 (by show (armN m x.1).1.ops ≤ 1000000; omega) (by show (armN m x.1).1.pend.length ≤ 1000000; omega) (hokx1.bools.kept q46 (fun _ _ h => h)) hokx1.len hokx1.at_ (fun k hk => by have h0_ := ba k hk; omega)) ?_
          rintro _ w758 ⟨rfl, hD760, hk759⟩
          have hfd := (armed_count (n := nn - (armN m x.1).2) hfo.plain hfo.safe hct (by omega)).1
          rw [hfd] at hD760
          rw [hfd]
          have hokE : ((armN m x.1).1.does x1.o).2.1.length = 64 := does_length hD48.ok
          simp only [bval]
          have k761 := Kept.old hk759 k44 (fun hF => by have h0_ := ba _ hF; omega)
          have hD762 := DiskAt.kept hD48 hk759 dba
          have z763 := hk759.size
          have q764 : Kept (fun _ => False) w w758 := Kept.trans q46 hk759 (fun k hlt9 hk9 => by have h0_ := ba k hk9; omega)
          obtain ⟨F765, eF765⟩ : ∃ G, G = grow x.2.1 w42 w758 := ⟨_, rfl⟩
          rw [← eF765] at hD760
          have mm767 : ∀ k, F765 k → x.2.1 k ∨ (w42.heap.size ≤ k ∧ k < w758.heap.size) := fun k hk => by rw [eF765] at hk; exact hk
          have hsq := (q764).size
          have bd766 : ∀ k, F765 k → w.heap.size ≤ k ∧ k < w758.heap.size := fun k hk => by
            rcases mm767 k hk with h | h
            · have h0_ := ba k h; omega
            · omega
          have dj768 : ∀ k, F765 k → ¬ x.2.2 k := fun k hk hy => by
            rcases mm767 k hk with h | h
            · exact dab k h hy
            · have h0_ := bb k hy; omega
          have dj769 : ∀ k, x.2.2 k → ¬ F765 k := fun k hy hk => by
            rcases mm767 k hk with h | h
            · exact dba k hy h
            · have h0_ := bb k hy; omega
          refine L.step (R.moveV (v := .tuple #[.agg (List.toArray (bcells (((armN m x.1).1.does x1.o).2.1))), .int .i64 (((armN m x.1).1.does x1.o).2.2)]) rfl) rfl ?_
          refine L.step (R.extract (v := .agg (List.toArray (bcells (((armN m x.1).1.does x1.o).2.1)))) rfl rfl) rfl ?_
          refine L.step (R.extract (v := .int .i64 (((armN m x.1).1.does x1.o).2.2)) rfl rfl) rfl ?_
          refine L.stepE (R.alloc z27) rfl fun w771 e770 => ?_
          have k773 := Al.new e770
          have k774 := Al.old e770 k761
          have z775 := Al.size e770
          have q776 := Al.kept e770 q764
          have hD777 := DiskAt.kept hD760 (Al.kept e770 (Kept.refl (fun _ => False) _)) (fun _ _ h => h)
          have hD778 := DiskAt.kept hD762 (Al.kept e770 (Kept.refl (fun _ => False) _)) (fun _ _ h => h)
          refine L.doesE (R.storeAll (cs := bcells (((armN m x.1).1.does x1.o).2.1)) r27 rfl rfl (bcells64 hokE) (one_bcells _) k773 (List.length_replicate)) fun w780 e779 => ?_
          have k781 := So.old e779 (apartE k774 k773 (by decide)) k774
          have k782 := So.hit e779 k773
          have z783 := So.size e779
          have q784 := So.kept e779 q776 (fun h => absurd h (by omega))
          have hD785 := DiskAt.kept hD777 (So.kept e779 (Kept.refl (fun k => k = w758.heap.size) _) (fun _ => rfl)) (fun k hk e => by have e9 : k = w758.heap.size := e; have h0_ := bd766 k hk; omega)
          have hD786 := DiskAt.kept hD778 (So.kept e779 (Kept.refl (fun k => k = w758.heap.size) _) (fun _ => rfl)) (fun k hk e => by have e9 : k = w758.heap.size := e; have h0_ := bb k hk; omega)
          refine L.step (R.assignV (v := .int .i64 (((armN m x.1).1.does x1.o).2.2)) rfl) rfl ?_
          refine L.nil ?_
          refine C.seq ?_
          refine C.region ?_
          refine L.step (R.moveV (v := .pointer (some ⟨rb, 0, none⟩)) rfl) rfl ?_
          refine L.step (R.loadA (cs := x1.cells) r32 rfl k781 rfl rfl) rfl ?_
          have hokD := hD786.ok
          refine L.call (E.call2 hb18) rfl (does_calls (o := x1.o) hD786 (by show (armN m x.1).1.ops ≤ 1000000; omega) (by show (armN m x.1).1.pend.length ≤ 1000000; omega) (hokx1.bools.kept q784 (fun _ _ h => h)) hokx1.len hokx1.at_ (fun k hk => by have h0_ := bb k hk; omega)) ?_
          rintro _ w787 ⟨rfl, hD789, hk788⟩
          simp only [bval]
          have k790 := Kept.old hk788 k781 (fun hF => by have h0_ := bb _ hF; omega)
          have k791 := Kept.old hk788 k782 (fun hF => by have h0_ := bb _ hF; omega)
          have hD792 := DiskAt.kept hD785 hk788 dj768
          have z793 := hk788.size
          have q794 : Kept (fun _ => False) w w787 := Kept.trans q784 hk788 (fun k hlt9 hk9 => by have h0_ := bb k hk9; omega)
          obtain ⟨F795, eF795⟩ : ∃ G, G = grow x.2.2 w780 w787 := ⟨_, rfl⟩
          rw [← eF795] at hD789
          have mm797 : ∀ k, F795 k → x.2.2 k ∨ (w780.heap.size ≤ k ∧ k < w787.heap.size) := fun k hk => by rw [eF795] at hk; exact hk
          have hsq := (q794).size
          have bd796 : ∀ k, F795 k → w.heap.size ≤ k ∧ k < w787.heap.size := fun k hk => by
            rcases mm797 k hk with h | h
            · have h0_ := bb k h; omega
            · omega
          have dj798 : ∀ k, F765 k → ¬ F795 k := fun k hy hk => by
            rcases mm797 k hk with h | h
            · exact dj768 k hy h
            · have h0_ := bd766 k hy; omega
          have dj799 : ∀ k, F795 k → ¬ F765 k := fun k hk hy => by
            rcases mm797 k hk with h | h
            · exact dj769 k h hy
            · have h0_ := bd766 k hy; omega
          refine L.step (R.moveV (v := .tuple #[.agg (List.toArray (bcells (((armN m x.1).1.does x1.o).2.1))), .int .i64 (((armN m x.1).1.does x1.o).2.2)]) rfl) rfl ?_
          refine L.step (R.extract (v := .agg (List.toArray (bcells (((armN m x.1).1.does x1.o).2.1)))) rfl rfl) rfl ?_
          refine L.step (R.extract (v := .int .i64 (((armN m x.1).1.does x1.o).2.2)) rfl rfl) rfl ?_
          refine L.stepE (R.alloc z27) rfl fun w801 e800 => ?_
          have k803 := Al.new e800
          have k804 := Al.old e800 k790
          have k805 := Al.old e800 k791
          have z806 := Al.size e800
          have q807 := Al.kept e800 q794
          have hD808 := DiskAt.kept hD792 (Al.kept e800 (Kept.refl (fun _ => False) _)) (fun _ _ h => h)
          have hD809 := DiskAt.kept hD789 (Al.kept e800 (Kept.refl (fun _ => False) _)) (fun _ _ h => h)
          refine L.doesE (R.storeAll (cs := bcells (((armN m x.1).1.does x1.o).2.1)) r27 rfl rfl (bcells64 (does_length hokD)) (one_bcells _) k803 (List.length_replicate)) fun w811 e810 => ?_
          have k812 := So.old e810 (apartE k804 k803 (by decide)) k804
          have k813 := So.old e810 (by omega) k805
          have k814 := So.hit e810 k803
          have z815 := So.size e810
          have q816 := So.kept e810 q807 (fun h => absurd h (by omega))
          have hD817 := DiskAt.kept hD808 (So.kept e810 (Kept.refl (fun k => k = w787.heap.size) _) (fun _ => rfl)) (fun k hk e => by have e9 : k = w787.heap.size := e; have h0_ := bd766 k hk; omega)
          have hD818 := DiskAt.kept hD809 (So.kept e810 (Kept.refl (fun k => k = w787.heap.size) _) (fun _ => rfl)) (fun k hk e => by have e9 : k = w787.heap.size := e; have h0_ := bd796 k hk; omega)
          refine L.step (R.assignV (v := .int .i64 (((armN m x.1).1.does x1.o).2.2)) rfl) rfl ?_
          refine L.nil ?_
          refine C.seq ?_
          refine C.seq ?_
          refine C.region ?_
          refine L.step (R.loadA (cs := bcells (((armN m x.1).1.does x1.o).2.1)) r27 rfl k813 (List.take_of_length_le (Nat.le_of_eq (bcells64 hokE))) (bcells64 hokE)) rfl ?_
          refine L.step (R.loadA (cs := bcells (((armN m x.1).1.does x1.o).2.1)) r27 rfl k814 (List.take_of_length_le (Nat.le_of_eq (bcells64 (does_length hokD)))) (bcells64 (does_length hokD))) rfl ?_
          refine L.step (R.neqAV (A := ((armN m x.1).1.does x1.o).2.1) (B := ((armN m x.1).1.does x1.o).2.1) (b := false) Try.underlying27 Try.underlying5 n5 gd27 rfl rfl hokE hokE (by rw [decide_eq_true rfl]; rfl)) rfl ?_
          refine L.step (R.moveV (v := .bool false) rfl) rfl ?_
          refine L.yes rfl rfl rfl ?_
          refine L.step (R.moveV (v := .int .i64 (((armN m x.1).1.does x1.o).2.2)) rfl) rfl ?_
          refine L.yes rfl rfl rfl ?_
          refine L.step (R.moveV (v := .int .i64 (((armN m x.1).1.does x1.o).2.2)) rfl) rfl ?_
          refine L.yes rfl rfl rfl ?_
          refine L.step (R.neqF rfl rfl rfl) rfl ?_
          refine L.step (R.pickFV (v := .bool false) rfl rfl) rfl ?_
          refine L.step (R.moveV (v := .bool false) rfl) rfl ?_
          refine L.yes rfl rfl rfl ?_
          refine L.step (R.moveV (v := .pointer (some ⟨ra, 0, none⟩)) rfl) rfl ?_
          refine L.yes rfl rfl rfl ?_
          refine L.call (E.call1 hb25) rfl (dead_disk hD817) ?_
          rintro _ w819 ⟨rfl, ew⟩
          obtain rfl := ew.symm
          rw [show (PD.dead (PD.armedN ((armN m x.1).1.does x1.o).1 _)) = false from (hfo.plain.doesW (by rw [hfo.safe]; decide) (show kindOf x1.o.k < 3 by omega)).1.dead]
          refine L.step (R.pickFV (v := .bool false) rfl rfl) rfl ?_
          refine L.nil ?_
          refine C.condF rfl ?_
          refine C.skip ?_
          refine C.seq ?_
          refine C.region ?_
          refine L.step (R.loadA (cs := x1.cells) r32 rfl k812 rfl rfl) rfl ?_
          refine L.call (E.call1 hb13) rfl (kind_calls (hokx1.one)) ?_
          rintro _ w820 ⟨rfl, hk821⟩
          have k822 := Kept.old hk821 k812 (fun h => h)
          have k823 := Kept.old hk821 k813 (fun h => h)
          have k824 := Kept.old hk821 k814 (fun h => h)
          have z825 := (hk821).size
          have q826 := Kept.trans q816 hk821 (fun _ _ h => h.elim)
          have hD827 := DiskAt.kept hD817 hk821 (fun _ _ h => h)
          have hD828 := DiskAt.kept hD818 hk821 (fun _ _ h => h)
          refine L.step (R.gtrT rfl rfl (by omega)) rfl ?_
          refine L.step (R.moveV (v := .bool true) rfl) rfl ?_
          refine L.yes rfl rfl rfl ?_
          refine L.step (R.moveV (v := .int .i64 (((armN m x.1).1.does x1.o).2.2)) rfl) rfl ?_
          refine L.yes rfl rfl rfl ?_
          refine L.step (R.eqlT rfl rfl (armed_count (n := nn - (armN m x.1).2) hfo.plain hfo.safe hct (by omega)).2) rfl ?_
          refine L.step (R.pickTV (v := .bool true) rfl rfl) rfl ?_
          refine L.nil ?_
          refine C.condT rfl ?_
          refine C.region ?_
          refine L.step (R.moveV (v := .int .i64 ((armN m x.1).2)) rfl) rfl ?_
          refine L.step (R.add rfl rfl (by omega)) rfl ?_
          refine L.step (R.assignV (v := .int .i64 (((armN m x.1).2) + 1)) rfl) rfl ?_
          refine L.nil ?_
          refine C.region ?_
          refine L.step (R.add rfl rfl (by omega)) rfl ?_
          refine L.step (R.moveV (v := .int .i64 (((x.1 : Nat) : Int) + 1)) rfl) rfl ?_
          refine L.nil ?_
          have hfe := armN_succ hx1
          rw [if_neg (by omega), if_pos hct] at hfe
          have hsq := (q826).size
          refine thenP.mk ⟨(x.1 + 1, F765, F795), ⟨rfl, rfl, rfl, rfl, (by show _ = Value.int .i64 (armN m (x.1 + 1)).2; rw [hfe]; rfl), rfl, rfl, rfl, trivial⟩, ⟨by show x.1 + 1 ≤ _; omega, q826, by show (armN m (x.1 + 1)).2 ≤ nn; rw [hfe]; show _ ≤ _; omega, by show DiskAt _ _ ((armN m (x.1 + 1)).1.armedN (nn - (armN m (x.1 + 1)).2)) _; rw [hfe]; exact (by rw [show nn - ((armN m x.1).2 + 1) = nn - (armN m x.1).2 - 1 by omega]; exact hD827), by show DiskAt _ _ (armN m (x.1 + 1)).1 _; rw [hfe]; exact hD828, fun k hk => by have h0_ := bd766 k hk; omega, fun k hk => by have h0_ := bd796 k hk; omega, dj798⟩, by show m.length - (x.1 + 1) < m.length - x.1; omega⟩
        ·
          have hct9 := hct
          unfold counts at hct9
          refine L.step (R.moveV (v := .pointer (some ⟨ra, 0, none⟩)) rfl) rfl ?_
          refine L.step (R.loadA (cs := x1.cells) r32 rfl k44 rfl rfl) rfl ?_
          have hokD := hD47.ok
          refine L.call (E.call2 hb18) rfl (does_calls (o := x1.o) hD47 (by show (armN m x.1).1.ops ≤ 1000000; omega) (by show (armN m x.1).1.pend.length ≤ 1000000; omega) (hokx1.bools.kept q46 (fun _ _ h => h)) hokx1.len hokx1.at_ (fun k hk => by have h0_ := ba k hk; omega)) ?_
          rintro _ w829 ⟨rfl, hD831, hk830⟩
          have hfd := armed_free (n := nn - (armN m x.1).2) hfo.plain hfo.safe (show kindOf x1.o.k < 3 by omega) hct
          rw [hfd] at hD831
          rw [hfd]
          have hokE : ((armN m x.1).1.does x1.o).2.1.length = 64 := does_length hD48.ok
          simp only [bval]
          have k832 := Kept.old hk830 k44 (fun hF => by have h0_ := ba _ hF; omega)
          have hD833 := DiskAt.kept hD48 hk830 dba
          have z834 := hk830.size
          have q835 : Kept (fun _ => False) w w829 := Kept.trans q46 hk830 (fun k hlt9 hk9 => by have h0_ := ba k hk9; omega)
          obtain ⟨F836, eF836⟩ : ∃ G, G = grow x.2.1 w42 w829 := ⟨_, rfl⟩
          rw [← eF836] at hD831
          have mm838 : ∀ k, F836 k → x.2.1 k ∨ (w42.heap.size ≤ k ∧ k < w829.heap.size) := fun k hk => by rw [eF836] at hk; exact hk
          have hsq := (q835).size
          have bd837 : ∀ k, F836 k → w.heap.size ≤ k ∧ k < w829.heap.size := fun k hk => by
            rcases mm838 k hk with h | h
            · have h0_ := ba k h; omega
            · omega
          have dj839 : ∀ k, F836 k → ¬ x.2.2 k := fun k hk hy => by
            rcases mm838 k hk with h | h
            · exact dab k h hy
            · have h0_ := bb k hy; omega
          have dj840 : ∀ k, x.2.2 k → ¬ F836 k := fun k hy hk => by
            rcases mm838 k hk with h | h
            · exact dba k hy h
            · have h0_ := bb k hy; omega
          refine L.step (R.moveV (v := .tuple #[.agg (List.toArray (bcells (((armN m x.1).1.does x1.o).2.1))), .int .i64 (((armN m x.1).1.does x1.o).2.2)]) rfl) rfl ?_
          refine L.step (R.extract (v := .agg (List.toArray (bcells (((armN m x.1).1.does x1.o).2.1)))) rfl rfl) rfl ?_
          refine L.step (R.extract (v := .int .i64 (((armN m x.1).1.does x1.o).2.2)) rfl rfl) rfl ?_
          refine L.stepE (R.alloc z27) rfl fun w842 e841 => ?_
          have k844 := Al.new e841
          have k845 := Al.old e841 k832
          have z846 := Al.size e841
          have q847 := Al.kept e841 q835
          have hD848 := DiskAt.kept hD831 (Al.kept e841 (Kept.refl (fun _ => False) _)) (fun _ _ h => h)
          have hD849 := DiskAt.kept hD833 (Al.kept e841 (Kept.refl (fun _ => False) _)) (fun _ _ h => h)
          refine L.doesE (R.storeAll (cs := bcells (((armN m x.1).1.does x1.o).2.1)) r27 rfl rfl (bcells64 hokE) (one_bcells _) k844 (List.length_replicate)) fun w851 e850 => ?_
          have k852 := So.old e850 (apartE k845 k844 (by decide)) k845
          have k853 := So.hit e850 k844
          have z854 := So.size e850
          have q855 := So.kept e850 q847 (fun h => absurd h (by omega))
          have hD856 := DiskAt.kept hD848 (So.kept e850 (Kept.refl (fun k => k = w829.heap.size) _) (fun _ => rfl)) (fun k hk e => by have e9 : k = w829.heap.size := e; have h0_ := bd837 k hk; omega)
          have hD857 := DiskAt.kept hD849 (So.kept e850 (Kept.refl (fun k => k = w829.heap.size) _) (fun _ => rfl)) (fun k hk e => by have e9 : k = w829.heap.size := e; have h0_ := bb k hk; omega)
          refine L.step (R.assignV (v := .int .i64 (((armN m x.1).1.does x1.o).2.2)) rfl) rfl ?_
          refine L.nil ?_
          refine C.seq ?_
          refine C.region ?_
          refine L.step (R.moveV (v := .pointer (some ⟨rb, 0, none⟩)) rfl) rfl ?_
          refine L.step (R.loadA (cs := x1.cells) r32 rfl k852 rfl rfl) rfl ?_
          have hokD := hD857.ok
          refine L.call (E.call2 hb18) rfl (does_calls (o := x1.o) hD857 (by show (armN m x.1).1.ops ≤ 1000000; omega) (by show (armN m x.1).1.pend.length ≤ 1000000; omega) (hokx1.bools.kept q855 (fun _ _ h => h)) hokx1.len hokx1.at_ (fun k hk => by have h0_ := bb k hk; omega)) ?_
          rintro _ w858 ⟨rfl, hD860, hk859⟩
          simp only [bval]
          have k861 := Kept.old hk859 k852 (fun hF => by have h0_ := bb _ hF; omega)
          have k862 := Kept.old hk859 k853 (fun hF => by have h0_ := bb _ hF; omega)
          have hD863 := DiskAt.kept hD856 hk859 dj839
          have z864 := hk859.size
          have q865 : Kept (fun _ => False) w w858 := Kept.trans q855 hk859 (fun k hlt9 hk9 => by have h0_ := bb k hk9; omega)
          obtain ⟨F866, eF866⟩ : ∃ G, G = grow x.2.2 w851 w858 := ⟨_, rfl⟩
          rw [← eF866] at hD860
          have mm868 : ∀ k, F866 k → x.2.2 k ∨ (w851.heap.size ≤ k ∧ k < w858.heap.size) := fun k hk => by rw [eF866] at hk; exact hk
          have hsq := (q865).size
          have bd867 : ∀ k, F866 k → w.heap.size ≤ k ∧ k < w858.heap.size := fun k hk => by
            rcases mm868 k hk with h | h
            · have h0_ := bb k h; omega
            · omega
          have dj869 : ∀ k, F836 k → ¬ F866 k := fun k hy hk => by
            rcases mm868 k hk with h | h
            · exact dj839 k hy h
            · have h0_ := bd837 k hy; omega
          have dj870 : ∀ k, F866 k → ¬ F836 k := fun k hk hy => by
            rcases mm868 k hk with h | h
            · exact dj840 k h hy
            · have h0_ := bd837 k hy; omega
          refine L.step (R.moveV (v := .tuple #[.agg (List.toArray (bcells (((armN m x.1).1.does x1.o).2.1))), .int .i64 (((armN m x.1).1.does x1.o).2.2)]) rfl) rfl ?_
          refine L.step (R.extract (v := .agg (List.toArray (bcells (((armN m x.1).1.does x1.o).2.1)))) rfl rfl) rfl ?_
          refine L.step (R.extract (v := .int .i64 (((armN m x.1).1.does x1.o).2.2)) rfl rfl) rfl ?_
          refine L.stepE (R.alloc z27) rfl fun w872 e871 => ?_
          have k874 := Al.new e871
          have k875 := Al.old e871 k861
          have k876 := Al.old e871 k862
          have z877 := Al.size e871
          have q878 := Al.kept e871 q865
          have hD879 := DiskAt.kept hD863 (Al.kept e871 (Kept.refl (fun _ => False) _)) (fun _ _ h => h)
          have hD880 := DiskAt.kept hD860 (Al.kept e871 (Kept.refl (fun _ => False) _)) (fun _ _ h => h)
          refine L.doesE (R.storeAll (cs := bcells (((armN m x.1).1.does x1.o).2.1)) r27 rfl rfl (bcells64 (does_length hokD)) (one_bcells _) k874 (List.length_replicate)) fun w882 e881 => ?_
          have k883 := So.old e881 (apartE k875 k874 (by decide)) k875
          have k884 := So.old e881 (by omega) k876
          have k885 := So.hit e881 k874
          have z886 := So.size e881
          have q887 := So.kept e881 q878 (fun h => absurd h (by omega))
          have hD888 := DiskAt.kept hD879 (So.kept e881 (Kept.refl (fun k => k = w858.heap.size) _) (fun _ => rfl)) (fun k hk e => by have e9 : k = w858.heap.size := e; have h0_ := bd837 k hk; omega)
          have hD889 := DiskAt.kept hD880 (So.kept e881 (Kept.refl (fun k => k = w858.heap.size) _) (fun _ => rfl)) (fun k hk e => by have e9 : k = w858.heap.size := e; have h0_ := bd867 k hk; omega)
          refine L.step (R.assignV (v := .int .i64 (((armN m x.1).1.does x1.o).2.2)) rfl) rfl ?_
          refine L.nil ?_
          refine C.seq ?_
          refine C.seq ?_
          refine C.region ?_
          refine L.step (R.loadA (cs := bcells (((armN m x.1).1.does x1.o).2.1)) r27 rfl k884 (List.take_of_length_le (Nat.le_of_eq (bcells64 hokE))) (bcells64 hokE)) rfl ?_
          refine L.step (R.loadA (cs := bcells (((armN m x.1).1.does x1.o).2.1)) r27 rfl k885 (List.take_of_length_le (Nat.le_of_eq (bcells64 (does_length hokD)))) (bcells64 (does_length hokD))) rfl ?_
          refine L.step (R.neqAV (A := ((armN m x.1).1.does x1.o).2.1) (B := ((armN m x.1).1.does x1.o).2.1) (b := false) Try.underlying27 Try.underlying5 n5 gd27 rfl rfl hokE hokE (by rw [decide_eq_true rfl]; rfl)) rfl ?_
          refine L.step (R.moveV (v := .bool false) rfl) rfl ?_
          refine L.yes rfl rfl rfl ?_
          refine L.step (R.moveV (v := .int .i64 (((armN m x.1).1.does x1.o).2.2)) rfl) rfl ?_
          refine L.yes rfl rfl rfl ?_
          refine L.step (R.moveV (v := .int .i64 (((armN m x.1).1.does x1.o).2.2)) rfl) rfl ?_
          refine L.yes rfl rfl rfl ?_
          refine L.step (R.neqF rfl rfl rfl) rfl ?_
          refine L.step (R.pickFV (v := .bool false) rfl rfl) rfl ?_
          refine L.step (R.moveV (v := .bool false) rfl) rfl ?_
          refine L.yes rfl rfl rfl ?_
          refine L.step (R.moveV (v := .pointer (some ⟨ra, 0, none⟩)) rfl) rfl ?_
          refine L.yes rfl rfl rfl ?_
          refine L.call (E.call1 hb25) rfl (dead_disk hD888) ?_
          rintro _ w890 ⟨rfl, ew⟩
          obtain rfl := ew.symm
          rw [show (PD.dead (PD.armedN ((armN m x.1).1.does x1.o).1 _)) = false from (hfo.plain.doesW (by rw [hfo.safe]; decide) (show kindOf x1.o.k < 3 by omega)).1.dead]
          refine L.step (R.pickFV (v := .bool false) rfl rfl) rfl ?_
          refine L.nil ?_
          refine C.condF rfl ?_
          refine C.skip ?_
          refine C.seq ?_
          refine C.region ?_
          refine L.step (R.loadA (cs := x1.cells) r32 rfl k883 rfl rfl) rfl ?_
          refine L.call (E.call1 hb13) rfl (kind_calls (hokx1.one)) ?_
          rintro _ w891 ⟨rfl, hk892⟩
          have k893 := Kept.old hk892 k883 (fun h => h)
          have k894 := Kept.old hk892 k884 (fun h => h)
          have k895 := Kept.old hk892 k885 (fun h => h)
          have z896 := (hk892).size
          have q897 := Kept.trans q887 hk892 (fun _ _ h => h.elim)
          have hD898 := DiskAt.kept hD888 hk892 (fun _ _ h => h)
          have hD899 := DiskAt.kept hD889 hk892 (fun _ _ h => h)
          rcases Classical.em (0 < (kindOf x1.o.k)) with ht900 | ht900
          ·
            refine L.step (R.gtrT rfl rfl (ht900)) rfl ?_
            refine L.step (R.moveV (v := .bool true) rfl) rfl ?_
            refine L.yes rfl rfl rfl ?_
            refine L.step (R.moveV (v := .int .i64 (((armN m x.1).1.does x1.o).2.2)) rfl) rfl ?_
            refine L.yes rfl rfl rfl ?_
            refine L.step (R.eqlF rfl rfl (by rw [free_err hfo.plain hfo.safe (by omega) hct]; decide)) rfl ?_
            refine L.step (R.pickTV (v := .bool false) rfl rfl) rfl ?_
            refine L.nil ?_
            refine C.condF rfl ?_
            refine C.skip ?_
            refine C.region ?_
            refine L.step (R.add rfl rfl (by omega)) rfl ?_
            refine L.step (R.moveV (v := .int .i64 (((x.1 : Nat) : Int) + 1)) rfl) rfl ?_
            refine L.nil ?_
            have hfe := armN_succ hx1
            rw [if_neg (by omega), if_neg hct] at hfe
            have hsq := (q897).size
            refine thenP.mk ⟨(x.1 + 1, F836, F866), ⟨rfl, rfl, rfl, rfl, (by show _ = Value.int .i64 (armN m (x.1 + 1)).2; rw [hfe]; rfl), rfl, rfl, rfl, trivial⟩, ⟨by show x.1 + 1 ≤ _; omega, q897, by show (armN m (x.1 + 1)).2 ≤ nn; rw [hfe]; show _ ≤ _; omega, by show DiskAt _ _ ((armN m (x.1 + 1)).1.armedN (nn - (armN m (x.1 + 1)).2)) _; rw [hfe]; exact hD898, by show DiskAt _ _ (armN m (x.1 + 1)).1 _; rw [hfe]; exact hD899, fun k hk => by have h0_ := bd837 k hk; omega, fun k hk => by have h0_ := bd867 k hk; omega, dj869⟩, by show m.length - (x.1 + 1) < m.length - x.1; omega⟩
          ·
            refine L.step (R.gtrF rfl rfl (Int.not_lt.1 ht900)) rfl ?_
            refine L.step (R.moveV (v := .bool false) rfl) rfl ?_
            refine L.no rfl rfl rfl (.inl rfl) ?_
            refine L.no rfl rfl rfl (.inl rfl) ?_
            refine L.step (R.pickFV (v := .bool false) rfl rfl) rfl ?_
            refine L.nil ?_
            refine C.condF rfl ?_
            refine C.skip ?_
            refine C.region ?_
            refine L.step (R.add rfl rfl (by omega)) rfl ?_
            refine L.step (R.moveV (v := .int .i64 (((x.1 : Nat) : Int) + 1)) rfl) rfl ?_
            refine L.nil ?_
            have hfe := armN_succ hx1
            rw [if_neg (by omega), if_neg hct] at hfe
            have hsq := (q897).size
            refine thenP.mk ⟨(x.1 + 1, F836, F866), ⟨rfl, rfl, rfl, rfl, (by show _ = Value.int .i64 (armN m (x.1 + 1)).2; rw [hfe]; rfl), rfl, rfl, rfl, trivial⟩, ⟨by show x.1 + 1 ≤ _; omega, q897, by show (armN m (x.1 + 1)).2 ≤ nn; rw [hfe]; show _ ≤ _; omega, by show DiskAt _ _ ((armN m (x.1 + 1)).1.armedN (nn - (armN m (x.1 + 1)).2)) _; rw [hfe]; exact hD898, by show DiskAt _ _ (armN m (x.1 + 1)).1 _; rw [hfe]; exact hD899, fun k hk => by have h0_ := bd837 k hk; omega, fun k hk => by have h0_ := bd867 k hk; omega, dj869⟩, by show m.length - (x.1 + 1) < m.length - x.1; omega⟩
  ·
    refine L.step (R.lssF rfl rfl (Int.not_lt.1 ht26)) rfl ?_
    refine L.nil ?_
    refine C.seq ?_
    refine C.condF rfl ?_
    refine C.exit ?_
    refine C.seq ?_
    refine C.region ?_
    refine L.step (R.moveV (v := .pointer (some ⟨ra, 0, none⟩)) rfl) rfl ?_
    have hokM0 := hDb.ok
    obtain ⟨Dm, hDm⟩ : ∃ D, D = (armN m x.1).1 := ⟨_, rfl⟩
    have hPl := hfo.plain
    have hSa := hfo.safe
    have hf1 := hf1
    have hf2 := hf2
    rw [← hDm] at hPl hSa hf1 hf2 hokM0
    have hD906 := hDa
    rw [← hDm] at hD906
    have hD907 := hDb
    rw [← hDm] at hD907
    refine L.call (E.call1 hb15) rfl (held_calls (n := 6) hD906 (fun k hk => by have h0_ := ba k hk; omega) hSa (by decide) (by show Dm.ops ≤ 900000; omega) (by show Dm.pend.length ≤ 900000; omega)) ?_
    rintro v905 w901 ⟨hr904, hD903, hk902⟩
    rw [armed_held hPl 6 (by rw [hSa]; decide)] at hr904 hD903
    have hD908 := DiskAt.kept hD907 hk902 dba
    have z909 := hk902.size
    have q910 : Kept (fun _ => False) w w901 := Kept.trans hq hk902 (fun k hlt9 hk9 => by have h0_ := ba k hk9; omega)
    refine L.step (R.moveV (v := .pointer (some ⟨rb, 0, none⟩)) rfl) rfl ?_
    refine L.call (E.call1 hb15) rfl (held_calls (n := 6) hD908 (fun k hk => by have h0_ := bb k hk; omega) hSa (by decide) (by show Dm.ops ≤ 900000; omega) (by show Dm.pend.length ≤ 900000; omega)) ?_
    rintro v915 w911 ⟨hr914, hD913, hk912⟩
    have m916 := Row.kept hr904 hk912 (fun k hG hF => by have h0_ := bb k hF; have hg9 := hG.elim (fun h => h.elim) (fun h => h); omega)
    have hD917 := DiskAt.kept hD903 hk912 dab
    have z918 := hk912.size
    have q919 : Kept (fun _ => False) w w911 := Kept.trans q910 hk912 (fun k hlt9 hk9 => by have h0_ := bb k hk9; omega)
    have hhp := held_plain hPl 6 (by rw [hSa]; decide)
    have hh64 : ∀ b ∈ (Dm.held 6).2, b.length = 64 := fun b hb => by
      rw [hhp.2.2.2] at hb
      obtain ⟨i, hi, rfl⟩ := List.mem_map.1 hb
      have hi := List.mem_range.1 hi
      exact look_length hokM0 ⟨by omega, by rw [hSa]; omega⟩
    refine L.call (E.call2 hb30) rfl (same_calls m916 hr914 (PD.held_length 6) (PD.held_length 6) (by decide) hh64 hh64) ?_
    rintro _ w920 ⟨rfl, hk921⟩
    rw [decide_eq_true rfl]
    have z922 := (hk921).size
    have q923 := Kept.trans q919 hk921 (fun _ _ h => h.elim)
    have hD924 := DiskAt.kept hD917 hk921 (fun _ _ h => h)
    have hD925 := DiskAt.kept hD913 hk921 (fun _ _ h => h)
    refine L.step (R.moveV (v := .bool true) rfl) rfl ?_
    refine L.yes rfl rfl rfl ?_
    refine L.step (R.moveV (v := .pointer (some ⟨ra, 0, none⟩)) rfl) rfl ?_
    refine L.yes rfl rfl rfl ?_
    refine L.call (E.call1 hb31) rfl (ops_disk hD924) ?_
    rintro _ w926 ⟨rfl, ew⟩
    obtain rfl := ew.symm
    refine L.yes rfl rfl rfl ?_
    refine L.step (R.moveV (v := .pointer (some ⟨rb, 0, none⟩)) rfl) rfl ?_
    refine L.yes rfl rfl rfl ?_
    refine L.call (E.call1 hb31) rfl (ops_disk hD925) ?_
    rintro _ w927 ⟨rfl, ew⟩
    obtain rfl := ew.symm
    refine L.yes rfl rfl rfl ?_
    refine L.step (R.eqlT rfl rfl rfl) rfl ?_
    refine L.step (R.pickTV (v := .bool true) rfl rfl) rfl ?_
    refine L.step (R.assignV (v := .bool true) rfl) rfl ?_
    refine L.nil ?_
    refine C.ret (?_ : RetOk _ _ _ _ _)
    refine RetOk.tV (v := .bool true) rfl rfl ?_
    exact ⟨rfl, q923⟩
end Go.Proofs.Ytpblppilknkdoaa
