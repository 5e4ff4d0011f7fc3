/- The laws' helpers: kind, block, keeps, wakes. -/
import Derived.Test.YtpblppilknkdoaaD9
namespace Go.Proofs.Ytpblppilknkdoaa
open Go Go.Eng Go.Proofs
attribute [local irreducible] Go.Eng.C Go.Eng.L Go.Eng.Ret Go.Eng.Run Go.Eng.Does Go.Eng.Enters Go.Eng.AH Go.Eng.AO Go.Eng.RetOk
/-- An op's kind. -/
def kindOf (k : Int) : Int := IntKind.i64.wrap ((IntKind.u64.wrap k).tmod 6)
theorem kind_calls {w : World} {k a f : Int} {kv : Value} (hkv : kv.oneCell' = true) : Ret Try.prog 13 #[.agg [.int .i64 k, .int .i64 a, .int .u8 f, kv].toArray] w fun v w' => v = .int .i64 (kindOf k) ∧ Kept (fun _ => False) w w' := by
  refine Ret.intro [.agg (List.toArray ([.int .i64 k, .int .i64 a, .int .u8 f, kv]))] Try.func13 rfl rfl ?_
  refine C.seq ?_
  refine C.region ?_
  refine L.stepE (R.boxA (cs := [.int .i64 k, .int .i64 a, .int .u8 f, kv]) rfl) rfl fun w2 e1 => ?_
  have k4 := Al.new e1
  have z5 := Al.size e1
  have q6 := Al.kept e1 (Kept.refl (fun _ => False) w)
  refine L.step (R.assignV (v := .int .i64 0) rfl) rfl ?_
  refine L.nil ?_
  refine C.seq ?_
  refine C.region ?_
  refine L.step (R.fieldAddrV (o2 := 0) f32_0 rfl rfl) rfl ?_
  refine L.step (R.load1 (v := .int .i64 k) c3 rfl k4 rfl) rfl ?_
  refine L.step (R.convert Try.underlying3 Try.underlying66 rfl) rfl ?_
  refine L.step (R.rem (b := 6) rfl rfl (by decide)) rfl ?_
  refine L.step (R.convert Try.underlying66 Try.underlying3 rfl) rfl ?_
  refine L.step (R.assignV (v := .int .i64 (IntKind.wrap .i64 (Int.tmod (IntKind.wrap .u64 k) 6))) rfl) rfl ?_
  refine L.nil ?_
  refine C.ret (?_ : RetOk _ _ _ _ _)
  refine RetOk.tV (v := .int .i64 (IntKind.wrap .i64 (Int.tmod (IntKind.wrap .u64 k) 6))) rfl rfl ?_
  exact ⟨rfl, q6⟩
def xat (x : Int) (i : Nat) : Int := IntKind.u8.wrap ((BitVec.ofInt 8 x ^^^ BitVec.ofInt 8 (IntKind.u8.wrap (i : Int))).toNat : Int)
def fillTo (x : Int) (k : Nat) : Blk := (List.range 64).map fun i => if i < k then xat x i else 0
/-- A block of a byte. -/
def fblock (x : Int) : Blk := fillTo x 64
theorem length_fillTo (x : Int) (k : Nat) : (fillTo x k).length = 64 := by simp [fillTo]
theorem length_fblock (x : Int) : (fblock x).length = 64 := length_fillTo x 64
theorem fillTo_zero (x : Int) : bcells (fillTo x 0) = List.replicate 64 (.int .u8 0) := by simp [fillTo, bcells]; rfl
theorem fillTo_set (x : Int) {k : Nat} (hk : k < 64) : (bcells (fillTo x k)).set k (.int .u8 (xat x k)) = bcells (fillTo x (k + 1)) := by
  apply List.ext_getElem
  · simp [bcells, fillTo]
  · intro i h1 h2
    simp only [List.getElem_set, bcells, fillTo, List.getElem_map, List.getElem_range]
    by_cases e : k = i
    · subst e; simp
    · rw [if_neg e]
      by_cases h : i < k
      · rw [if_pos h, if_pos (by omega)]
      · rw [if_neg h, if_neg (by omega)]
theorem block_calls {w : World} {x : Int} : Ret Try.prog 14 #[.int .u8 x] w fun v w' => v = bval (fblock x) ∧ Kept (fun _ => False) w w' := by
  have hq := Kept.refl (fun _ => False) w
  refine Ret.intro [.int .u8 x] Try.func14 rfl rfl ?_
  refine C.seq ?_
  refine C.region ?_
  refine L.stepE (R.alloc z27) rfl fun w8 e7 => ?_
  have k10 := Al.new e7
  have z11 := Al.size e7
  have q12 := Al.kept e7 hq
  refine L.nil ?_
  refine C.seq ?_
  refine C.region ?_
  refine L.stepE (R.alloc z27) rfl fun w14 e13 => ?_
  have k16 := Al.new e13
  have k17 := Al.old e13 k10
  have z18 := Al.size e13
  have q19 := Al.kept e13 q12
  refine L.nil ?_
  refine C.seq ?_
  refine C.seq ?_
  refine C.region ?_
  refine L.step (R.moveV (v := .int .i64 0) rfl) rfl ?_
  refine L.nil ?_
  refine C.block ?_
  refine C.loop (α := Nat) (fun k => [(0, .int .u8 x), (2, .pointer (some ⟨w.heap.size, 0, none⟩)), (3, .pointer (some ⟨w8.heap.size, 0, none⟩)), (5, .int .i64 ((k : Nat) : Int))]) (fun k W => k ≤ 64 ∧ Kept (fun _ => False) w W ∧ W.heap[w.heap.size]? = some (blk (List.replicate 64 (.int .u8 0)) 27) ∧ W.heap[w8.heap.size]? = some (blk (bcells (fillTo x k)) 27)) (fun k => 64 - k) ⟨0, ⟨rfl, rfl, rfl, rfl, trivial⟩, ⟨Nat.zero_le _, q19, k17, by rw [fillTo_zero]; exact k16⟩⟩ ?_
  intro k g21 w20 hI22
  obtain ⟨hk, hq, h2, h3⟩ := hI22
  refine C.seq ?_
  refine C.region ?_
  rcases Classical.em (((k : Nat) : Int) < 64) with ht23 | ht23
  ·
    refine L.step (R.lssT rfl rfl (ht23)) rfl ?_
    refine L.nil ?_
    refine C.seq ?_
    refine C.condT rfl ?_
    refine C.skip ?_
    refine C.seq ?_
    refine C.block ?_
    refine C.seq ?_
    refine C.region ?_
    refine L.step (R.moveV (v := .int .i64 ((k : Nat) : Int)) rfl) rfl ?_
    refine L.step (R.assignV (v := .int .i64 ((k : Nat) : Int)) rfl) rfl ?_
    refine L.nil ?_
    refine C.region ?_
    refine L.step (R.moveV (v := .int .i64 ((k : Nat) : Int)) rfl) rfl ?_
    refine L.step (R.moveV (v := .int .u8 x) rfl) rfl ?_
    refine L.step (R.moveV (v := .int .i64 ((k : Nat) : Int)) rfl) rfl ?_
    refine L.step (R.convert Try.underlying3 Try.underlying5 rfl) rfl ?_
    refine L.step (R.xor rfl rfl) rfl ?_
    refine L.step (R.indexArrV (m := k) (o2 := k) Try.underlying27 n5 rfl rfl rfl (by omega) (by omega)) rfl ?_
    refine L.doesE (R.store1 c5 rfl (v := .int .u8 (xat x k)) rfl rfl h3 (by rw [Nat.blt_eq, bcells64 (length_fillTo x k)]; omega)) fun w25 e24 => ?_
    rw [fillTo_set x (by omega)] at e24
    have k26 := So.old e24 (by omega) h2
    have k27 := So.hit e24 h3
    have z28 := So.size e24
    have q29 := So.kept e24 hq (fun h => absurd h (by omega))
    refine L.nil ?_
    refine C.region ?_
    refine L.step (R.add rfl rfl (by omega)) rfl ?_
    refine L.step (R.moveV (v := .int .i64 (((k : Nat) : Int) + 1)) rfl) rfl ?_
    refine L.nil ?_
    refine thenP.mk ⟨k + 1, ⟨rfl, rfl, rfl, rfl, trivial⟩, ⟨by omega, q29, k26, k27⟩, by show 64 - (k + 1) < 64 - k; omega⟩
  ·
    refine L.step (R.lssF rfl rfl (Int.not_lt.1 ht23)) rfl ?_
    refine L.nil ?_
    refine C.seq ?_
    refine C.condF rfl ?_
    refine C.exit ?_
    refine C.seq ?_
    refine C.region ?_
    refine L.step (R.loadA (cs := bcells (fillTo x k)) r27 rfl h3 (List.take_of_length_le (Nat.le_of_eq (bcells64 (length_fillTo x k)))) (bcells64 (length_fillTo x k))) rfl ?_
    refine L.doesE (R.storeAll (cs := bcells (fillTo x k)) r27 rfl rfl (bcells64 (length_fillTo x k)) (one_bcells _) h2 (List.length_replicate)) fun w31 e30 => ?_
    have k32 := So.hit e30 h2
    have k33 := So.old e30 (by omega) h3
    have z34 := So.size e30
    have q35 := So.kept e30 hq (fun h => absurd h (by omega))
    refine L.nil ?_
    refine C.ret (?_ : RetOk _ _ _ _ _)
    refine RetOk.c rfl rfl (loadVarA (cs := bcells (fillTo x k)) r27 k32 (List.take_of_length_le (Nat.le_of_eq (bcells64 (length_fillTo x k)))) (bcells64 (length_fillTo x k))) ?_
    exact ⟨by rw [show k = 64 by omega]; rfl, q35⟩
theorem Row.bools {w : World} {v : Value} {ks : List Bool} {F : Nat → Prop} (h : Row w 4 1 v ks.length (ks.map Value.bool) F) : BoolsAt w v ks F := by
  rcases h.any with ⟨rfl, h0, _⟩ | ⟨g, cap, l, rfl, hF, hg, hn, hl, ht⟩
  · exact .inl ⟨List.eq_nil_of_length_eq_zero h0, none, 0, rfl⟩
  · refine .inr ⟨g, 0, cap, rfl, hF, fun k x hx => ?_⟩
    rw [Nat.zero_add]
    exact h.cells rfl k _ (by simp [hx])
theorem keeps_calls {w : World} {kv : Value} {ks : List Bool} {G : Nat → Prop} (hk : BoolsAt w kv ks G) (hn : ks.length ≤ 140737488351232) :
    Ret Try.prog 34 #[kv] w fun v w' => BoolsAt w' v ks (fun k => w.heap.size ≤ k) ∧ Kept (fun _ => False) w w' := by
  rcases hk with ⟨rfl, ka, kc, rfl⟩ | ⟨b, o, c, rfl, hG, hcell⟩
  ·
    refine Ret.intro [.slice ka 0 kc] Try.func34 rfl rfl ?_
    refine C.seq ?_
    refine C.region ?_
    refine L.step (R.assignV (v := .slice none 0 0) rfl) rfl ?_
    refine L.nil ?_
    refine C.seq ?_
    refine C.region ?_
    refine L.step (R.moveV (v := .slice ka 0 kc) rfl) rfl ?_
    refine L.step (R.lenV (v := .int .i64 0) Try.underlying30 rfl rfl) rfl ?_
    refine L.step (R.add rfl rfl (by omega)) rfl ?_
    refine L.stepE (R.makeU (l := 0) (m := 0 + 3) e30 z4 rfl rfl rfl (by omega) (Nat.zero_le _) (by omega) (by omega)) rfl fun w37 e36 => ?_
    have k39 := Al.new e36
    have z40 := Al.size e36
    have q41 := Al.kept e36 (Kept.refl (fun _ => False) w)
    refine L.step (R.moveV (v := .slice ka 0 kc) rfl) rfl ?_
    have hrow : Row w37 4 1 (.slice (some ⟨w.heap.size, 0, none⟩) 0 (0 + 3)) 0 [] (fun k => k = w.heap.size) := Row.mk _ _ (0 + 3) (List.replicate ((0 + 3) * 1) (.bool false)) k39 (Nat.zero_le _) (by simp only [maxLen]; omega) (by simp) (by simp) rfl
    refine L.bind (R.append0 e30 rfl hrow rfl (by simp only [maxLen]; omega) (by omega)) rfl ?_
    rintro v42 w43 ⟨hr44, hk45⟩
    have hkk : Kept (fun _ => False) w w43 := Kept.trans q41 hk45 (fun k hlt hk => by have hk : k = w.heap.size := hk; omega)
    refine L.step (R.assignV (v := v42) rfl) rfl ?_
    refine L.nil ?_
    refine C.ret (?_ : RetOk _ _ _ _ _)
    refine RetOk.tV (v := v42) rfl rfl ?_
    exact ⟨(Row.bools (ks := []) hr44).mono (fun k hk => by
      rcases hk with hk | hk
      · have hk : k = w.heap.size := hk
        omega
      · have hk1 := hk.1
        show w.heap.size ≤ k
        omega), hkk⟩
  ·
    refine Ret.intro [.slice (some ⟨b, o, none⟩) ks.length c] Try.func34 rfl rfl ?_
    refine C.seq ?_
    refine C.region ?_
    refine L.step (R.assignV (v := .slice none 0 0) rfl) rfl ?_
    refine L.nil ?_
    refine C.seq ?_
    refine C.region ?_
    refine L.step (R.moveV (v := .slice (some ⟨b, o, none⟩) ks.length c) rfl) rfl ?_
    refine L.step (R.lenV (v := .int .i64 ((ks.length : Nat) : Int)) Try.underlying30 rfl rfl) rfl ?_
    refine L.step (R.add rfl rfl (by omega)) rfl ?_
    refine L.stepE (R.makeU (l := 0) (m := ks.length + 3) e30 z4 rfl rfl rfl (by omega) (Nat.zero_le _) (by omega) (by omega)) rfl fun w47 e46 => ?_
    have k49 := Al.new e46
    have z50 := Al.size e46
    have q51 := Al.kept e46 (Kept.refl (fun _ => False) w)
    refine L.step (R.moveV (v := .slice (some ⟨b, o, none⟩) ks.length c) rfl) rfl ?_
    have hrow : Row w47 4 1 (.slice (some ⟨w.heap.size, 0, none⟩) 0 (ks.length + 3)) 0 [] (fun k => k = w.heap.size) := Row.mk _ _ (ks.length + 3) (List.replicate ((ks.length + 3) * 1) (.bool false)) k49 (Nat.zero_le _) (by simp only [maxLen]; omega) (by simp) (by simp) rfl
    refine L.bind (R.append e30 rfl hrow rfl (news := ks.map Value.bool) (by simp) (fun j u hu => by
      rw [List.getElem?_map] at hu
      obtain ⟨x, hx, rfl⟩ := Option.map_eq_some_iff.1 hu
      exact (Al.kept e46 (Kept.refl (fun _ => False) w)).cell (hcell j x hx) (fun h => h)) (fun u hu => by
      obtain ⟨x, _, rfl⟩ := List.mem_map.1 hu
      rfl) (by simp only [maxLen]; omega) (by omega)) rfl ?_
    rintro v52 w53 ⟨hr54, hk55, _, _⟩
    have hkk : Kept (fun _ => False) w w53 := Kept.trans q51 hk55 (fun k hlt hk => by have hk : k = w.heap.size := hk; omega)
    rw [Nat.zero_add] at hr54
    refine L.step (R.assignV (v := v52) rfl) rfl ?_
    refine L.nil ?_
    refine C.ret (?_ : RetOk _ _ _ _ _)
    refine RetOk.tV (v := v52) rfl rfl ?_
    exact ⟨(Row.bools hr54).mono (fun k hk => by
      rcases hk with hk | hk
      · have hk : k = w.heap.size := hk
        omega
      · have hk1 := hk.1
        show w.heap.size ≤ k
        omega), hkk⟩
def b7 : Blk := 7 :: List.replicate 63 0
def PDw : PD := { (PD.new 2) with pend := [(1, b7)], ops := 1 }
theorem wakes_write : (PD.new 2).write 1 b7 = (PDw, 0) := by
  simp [PD.write, PD.ready, PD.new, PD.stops, PD.pre, PDw]
theorem wakes_read : PDw.read 1 = ({ PDw with ops := 2 }, b7, 0) := by
  have h : PDw.look 1 = b7 := by simp [PD.look, PDw, downTo]
  unfold PD.read
  rw [h]
  simp [PD.ready, PD.new, PDw]
theorem wakes_calls {w : World} : Ret Try.prog 10 #[] w fun v w' => v = .bool true ∧ Kept (fun _ => False) w w' := by
  have hq := Kept.refl (fun _ => False) w
  refine Ret.intro [] Try.func10 rfl rfl ?_
  refine C.seq ?_
  refine C.region ?_
  refine L.step (R.assignV (v := .bool false) rfl) rfl ?_
  refine L.nil ?_
  refine C.seq ?_
  refine C.region ?_
  refine L.call (E.call1 hb16) rfl (new_good (by decide) (by decide)) ?_
  rintro _ w1 ⟨r, rfl, hr, hD, hk1⟩
  have hD : DiskAt w1 r (PD.new 2) _ := hD
  refine L.step (R.moveV (v := .tuple #[.pointer (some ⟨r, 0, none⟩), .int .i64 0]) rfl) rfl ?_
  refine L.step (R.extract (v := .pointer (some ⟨r, 0, none⟩)) rfl rfl) rfl ?_
  refine L.step (R.extract (v := .int .i64 0) rfl rfl) rfl ?_
  refine L.step (R.assignV (v := .pointer (some ⟨r, 0, none⟩)) rfl) rfl ?_
  refine L.step (R.assignV (v := .int .i64 0) rfl) rfl ?_
  refine L.nil ?_
  refine C.seq ?_
  refine C.seq ?_
  refine C.region ?_
  refine L.step (R.moveV (v := .int .i64 0) rfl) rfl ?_
  refine L.step (R.neqF rfl rfl (by omega)) rfl ?_
  refine L.step (R.moveV (v := .bool false) rfl) rfl ?_
  refine L.yes rfl rfl rfl ?_
  refine L.step (R.moveV (v := .pointer (some ⟨r, 0, none⟩)) rfl) rfl ?_
  refine L.yes rfl rfl rfl ?_
  refine L.step (R.eqlP Try.underlying24 rfl rfl) rfl ?_
  refine L.step (R.pickFV (v := .bool false) rfl rfl) rfl ?_
  refine L.step (R.moveV (v := .bool false) rfl) rfl ?_
  refine L.yes rfl rfl rfl ?_
  refine L.step (R.moveV (v := .pointer (some ⟨r, 0, none⟩)) rfl) rfl ?_
  refine L.yes rfl rfl rfl ?_
  refine L.step (R.build1 (v := .agg (List.toArray (bcells b7))) (run_arr1 (i := 0) (v := .int .u8 7) Try.underlying27 n5 z27 rfl rfl)) rfl ?_
  refine L.yes rfl rfl rfl ?_
  refine L.call (E.call3 hb33) rfl (write_calls hD (by decide) (by decide) (i := 1) (b := b7) rfl) ?_
  rintro _ w2 ⟨rfl, hD2, hk2⟩
  rw [wakes_write] at hD2
  have hq2 : Kept (fun _ => False) w w2 := Kept.trans hk1 hk2 (fun k hlt hk => by rcases hk with hk | hk; exact hk; have hk1 := hk.1; omega)
  rw [wakes_write]
  simp only
  refine L.yes rfl rfl rfl ?_
  refine L.step (R.neqF rfl rfl (by omega)) rfl ?_
  refine L.step (R.pickFV (v := .bool false) rfl rfl) rfl ?_
  refine L.nil ?_
  refine C.condF rfl ?_
  refine C.skip ?_
  refine C.seq ?_
  refine C.region ?_
  refine L.step (R.moveV (v := .pointer (some ⟨r, 0, none⟩)) rfl) rfl ?_
  refine L.call (E.call2 hb22) rfl (read_calls hD2 (by decide) (by decide) (i := 1)) ?_
  rintro _ w3 ⟨rfl, hD3, hk3⟩
  rw [wakes_read] at hD3
  have hq3 : Kept (fun _ => False) w w3 := Kept.trans hq2 hk3 (fun k hlt hk => by rcases hk with (hk | hk) | hk; exact hk; have hk1 := hk.1; omega; have hs := hk1.size; have hk1 := hk.1; omega)
  have hsz3 := hq3.size
  rw [wakes_read]
  simp only [bval]
  refine L.step (R.moveV (v := .tuple #[.agg (List.toArray (bcells b7)), .int .i64 0]) rfl) rfl ?_
  refine L.step (R.extract (v := .agg (List.toArray (bcells b7))) rfl rfl) rfl ?_
  refine L.step (R.extract (v := .int .i64 0) rfl rfl) rfl ?_
  have hB3 : ∀ k, grow (fun _ => False) w w1 k ∨ (w1.heap.size ≤ k ∧ k < w2.heap.size) → k < w3.heap.size := fun k hk => by
    have s2 := hk2.size
    have s3 := hk3.size
    rcases hk with (hk | hk) | hk
    · exact hk.elim
    · have := hk.2; omega
    · have := hk.2; omega
  refine L.stepE (R.alloc z27) rfl fun w57 e56 => ?_
  have k59 := Al.new e56
  have z60 := Al.size e56
  have q61 := Al.kept e56 hq3
  refine L.doesE (R.storeAll (cs := bcells b7) r27 rfl rfl (bcells64 (b := b7) rfl) (one_bcells _) k59 (List.length_replicate)) fun w63 e62 => ?_
  have k64 := So.hit e62 k59
  have z65 := So.size e62
  have q66 := So.kept e62 q61 (fun h => absurd h (by omega))
  have hks := So.kept e62 (S := fun k => k = w3.heap.size) (Al.kept e56 (Kept.refl (fun k => k = w3.heap.size) w3)) (fun _ => rfl)
  refine L.step (R.assignV (v := .int .i64 0) rfl) rfl ?_
  refine L.nil ?_
  refine C.seq ?_
  refine C.region ?_
  refine L.step (R.moveV (v := .int .i64 0) rfl) rfl ?_
  refine L.step (R.eqlT rfl rfl (by omega)) rfl ?_
  refine L.step (R.moveV (v := .bool true) rfl) rfl ?_
  refine L.yes rfl rfl rfl ?_
  refine L.step (R.indexArrV (m := 0) (o2 := 0) Try.underlying27 n5 rfl rfl rfl (by decide) rfl) rfl ?_
  refine L.yes rfl rfl rfl ?_
  refine L.step (R.load1 (v := .int .u8 7) c5 rfl k64 rfl) rfl ?_
  refine L.yes rfl rfl rfl ?_
  refine L.step (R.eqlT rfl rfl (by omega)) rfl ?_
  refine L.step (R.pickTV (v := .bool true) rfl rfl) rfl ?_
  refine L.step (R.moveV (v := .bool true) rfl) rfl ?_
  refine L.yes rfl rfl rfl ?_
  refine L.step (R.moveV (v := .pointer (some ⟨r, 0, none⟩)) rfl) rfl ?_
  refine L.yes rfl rfl rfl ?_
  have hD4 := hD3.kept hks (fun k hF e => by have := hB3 k hF; omega)
  refine L.call (E.call1 hb28) rfl (pending_calls hD4 (by decide)) ?_
  rintro v4 w4 ⟨hrow4, hk4⟩
  obtain ⟨a4, c4, rfl, _⟩ := hrow4.shape
  have hD5 := hD4.kept hk4 (fun _ _ h => h)
  have q67 := Kept.trans q66 hk4 (fun _ _ h => h)
  have k68 := Kept.old hk4 k64 (fun h => h)
  have z69 := (hk4).size
  refine L.yes rfl rfl rfl ?_
  refine L.step (R.lenV (v := .int .i64 1) Try.underlying56 rfl rfl) rfl ?_
  refine L.yes rfl rfl rfl ?_
  refine L.step (R.eqlT rfl rfl (by omega)) rfl ?_
  refine L.step (R.pickTV (v := .bool true) rfl rfl) rfl ?_
  refine L.step (R.moveV (v := .bool true) rfl) rfl ?_
  refine L.yes rfl rfl rfl ?_
  refine L.step (R.moveV (v := .pointer (some ⟨r, 0, none⟩)) rfl) rfl ?_
  refine L.yes rfl rfl rfl ?_
  obtain ⟨hF5, hok5, sv5, pv5, h5, hs5, hp5⟩ := hD5
  obtain ⟨as5, cs5, rfl, _⟩ := hs5.shape
  refine L.call (E.call1 hb21) rfl (len_calls h5) ?_
  rintro _ _ ⟨rfl, rfl⟩
  refine L.yes rfl rfl rfl ?_
  refine L.step (R.eqlT rfl rfl (rfl)) rfl ?_
  refine L.step (R.pickTV (v := .bool true) rfl rfl) rfl ?_
  refine L.step (R.assignV (v := .bool true) rfl) rfl ?_
  refine L.nil ?_
  refine C.ret (?_ : RetOk _ _ _ _ _)
  refine RetOk.tV (v := .bool true) rfl rfl ?_
  exact ⟨rfl, q67⟩
end Go.Proofs.Ytpblppilknkdoaa
