/- The laws' helpers: held, same. -/
import Derived.Test.YtpblppilknkdoaaD14
namespace Go.Proofs.Ytpblppilknkdoaa
open Go Go.Eng Go.Proofs
attribute [local irreducible] Go.Eng.C Go.Eng.L Go.Eng.Ret Go.Eng.Run Go.Eng.Does Go.Eng.Enters Go.Eng.AH Go.Eng.AO Go.Eng.RetOk
set_option maxHeartbeats 1000000 in
theorem held_calls {w : World} {r n : Nat} {D : PD} {F : Nat → Prop} (hD : DiskAt w r D F) (hlt : ∀ k, F k → k < w.heap.size) (hn : D.safe.length = n) (h2048 : n ≤ 2048) (hops : D.ops ≤ 900000) (hm : D.pend.length ≤ 900000) :
    Ret Try.prog 15 #[.pointer (some ⟨r, 0, none⟩)] w fun v w' => Row w' 27 64 v n ((D.held n).2.flatMap bcells) (grow (fun _ => False) w w') ∧ DiskAt w' r (D.held n).1 F ∧ Kept F w w' := by
  have hq := Kept.refl F w
  refine Ret.intro [.pointer (some ⟨r, 0, none⟩)] Try.func15 rfl rfl ?_
  refine C.seq ?_
  refine C.region ?_
  refine L.step (R.assignV (v := .slice none 0 0) rfl) rfl ?_
  refine L.nil ?_
  refine C.seq ?_
  refine C.region ?_
  refine L.step (R.assignV (v := .slice none 0 0) rfl) rfl ?_
  refine L.nil ?_
  refine C.seq ?_
  refine C.seq ?_
  refine C.region ?_
  refine L.step (R.moveV (v := .pointer (some ⟨r, 0, none⟩)) rfl) rfl ?_
  refine L.call (E.call1 hb21) rfl (len_disk hD) ?_
  rintro _ w1 ⟨rfl, ew⟩
  obtain rfl := ew.symm
  rw [hn]
  refine L.step (R.moveV (v := .int .i64 0) rfl) rfl ?_
  refine L.nil ?_
  refine C.block ?_
  refine C.loop (α := Nat × Value) (fun x => [(0, .pointer (some ⟨r, 0, none⟩)), (3, x.2), (8, .int .i64 (n : Int)), (9, .int .i64 ((x.1 : Nat) : Int))]) (fun x W => x.1 ≤ n ∧ Kept F w W ∧ DiskAt W r (D.held x.1).1 F ∧ Row W 27 64 x.2 x.1 ((D.held x.1).2.flatMap bcells) (grow (fun _ => False) w W)) (fun x => n - x.1) ⟨(0, .slice none 0 0), ⟨rfl, rfl, rfl, rfl, trivial⟩, ⟨Nat.zero_le _, hq, hD, Row.nil _ _ _ _⟩⟩ ?_
  intro x g3 w2 hI4
  obtain ⟨hk, hq, hDk, hv⟩ := hI4
  have hsz := hq.size
  have hfw : PD.Few D _ _ := PD.held_few (D := D) x.1
  have hf1 := hfw.ops
  have hf2 := hfw.pend
  have hvlt := hv.lt
  refine C.seq ?_
  refine C.region ?_
  rcases Classical.em (((x.1 : Nat) : Int) < (n : Int)) with ht5 | ht5
  ·
    refine L.step (R.lssT rfl rfl (ht5)) rfl ?_
    refine L.nil ?_
    refine C.seq ?_
    refine C.condT rfl ?_
    refine C.skip ?_
    refine C.seq ?_
    refine C.block ?_
    refine C.seq ?_
    refine C.region ?_
    refine L.step (R.moveV (v := .int .i64 ((x.1 : Nat) : Int)) rfl) rfl ?_
    refine L.step (R.assignV (v := .int .i64 ((x.1 : Nat) : Int)) rfl) rfl ?_
    refine L.nil ?_
    refine C.seq ?_
    refine C.region ?_
    refine L.step (R.moveV (v := .pointer (some ⟨r, 0, none⟩)) rfl) rfl ?_
    refine L.step (R.moveV (v := .int .i64 ((x.1 : Nat) : Int)) rfl) rfl ?_
    have hokk := hDk.ok
    refine L.call (E.call2 hb22) rfl (read_calls hDk (by omega) (by omega) (i := (x.1 : Int))) ?_
    rintro _ w6 ⟨rfl, hD8, hk7⟩
    simp only [bval]
    have hvo := hv
    have hv := Row.kept hv hk7 (fun k hG hF => hG.elim (fun h => h) (fun h => by have h8 := hlt k hF; have h9 := h.1; omega))
    have q9 := Kept.trans hq hk7 (fun _ _ h => h)
    have z10 := hk7.size
    refine L.step (R.moveV (v := .tuple #[.agg (List.toArray (bcells ((D.held x.1).1.read (x.1 : Int)).2.1)), .int .i64 (((D.held x.1).1.read (x.1 : Int)).2.2)]) rfl) rfl ?_
    refine L.step (R.extract (v := .agg (List.toArray (bcells ((D.held x.1).1.read (x.1 : Int)).2.1))) rfl rfl) rfl ?_
    refine L.step (R.extract (v := .int .i64 (((D.held x.1).1.read (x.1 : Int)).2.2)) rfl rfl) rfl ?_
    refine L.stepE (R.alloc z27) rfl fun w12 e11 => ?_
    have m13 := Al.row e11 hv
    have k15 := Al.new e11
    have z16 := Al.size e11
    have q17 := Al.kept e11 q9
    have hD18 := DiskAt.kept hD8 (Al.kept e11 (Kept.refl (fun _ => False) _)) (fun _ _ h => h)
    refine L.doesE (R.storeAll (cs := bcells ((D.held x.1).1.read (x.1 : Int)).2.1) r27 rfl rfl (bcells64 (read_length hokk)) (one_bcells _) k15 (List.length_replicate)) fun w20 e19 => ?_
    have m21 := So.rowLt e19 m13 hvlt (by omega)
    have k22 := So.hit e19 k15
    have z23 := So.size e19
    have q24 := So.kept e19 q17 (fun h => absurd h (by omega))
    have hD25 := DiskAt.kept hD18 (So.kept e19 (Kept.refl (fun k => k = w6.heap.size) _) (fun _ => rfl)) (fun k hk e => by have hk9 := hlt k hk; have e9 : k = w6.heap.size := e; omega)
    refine L.step (R.assignV (v := .int .i64 (((D.held x.1).1.read (x.1 : Int)).2.2)) rfl) rfl ?_
    refine L.nil ?_
    refine C.region ?_
    refine L.step (R.moveV (v := x.2) rfl) rfl ?_
    refine L.step (R.loadA (cs := bcells ((D.held x.1).1.read (x.1 : Int)).2.1) r27 rfl k22 (List.take_of_length_le (Nat.le_of_eq (bcells64 (read_length hokk)))) (bcells64 (read_length hokk))) rfl ?_
    refine L.stepE (R.slice1 s35 ⟨_, z27, rfl⟩ rfl rfl (v := .agg (List.toArray (bcells ((D.held x.1).1.read (x.1 : Int)).2.1))) rfl (bcells64 (read_length hokk))) rfl fun w27 e26 => ?_
    have m28 := Al.row e26 m21
    have k30 := Al.new e26
    have k31 := Al.old e26 k22
    have z32 := Al.size e26
    have q33 := Al.kept e26 q24
    have hD34 := DiskAt.kept hD25 (Al.kept e26 (Kept.refl (fun _ => False) _)) (fun _ _ h => h)
    have hz0 := (q33).size
    refine L.bind (R.append e35 (v := x.2) rfl (Row.own m28) rfl (news := bcells ((D.held x.1).1.read (x.1 : Int)).2.1) (bcells64 (read_length hokk)) (news_at k30) (one_bcells _) (by simp only [maxLen]; omega) (by omega)) rfl ?_
    rintro v35 w36 ⟨hr37, hk38, _, _⟩
    have hz1 := (hk38).size
    have hap : ∀ k, F k → ¬ Eng.own x.2 k := fun k hF hG => by
      have h8 := hlt k hF
      rcases hvo.2 k hG with h | h
      · exact h.elim
      · have := h.1; omega
    have q39 : Kept F w w36 := Kept.trans q33 hk38 (fun k hlt9 hk => by rcases hvo.2 k hk with h | h; exact h.elim; have := h.1; omega)
    have hD40 := DiskAt.kept hD34 hk38 hap
    have hv41 : Row w36 27 64 v35 (x.1 + 1) ((D.held (x.1 + 1)).2.flatMap bcells) (grow (fun _ => False) w w36) := by
      simp only [PD.held, List.flatMap_append, List.flatMap_cons, List.flatMap_nil, List.append_nil]
      refine hr37.mono (fun k hk => ?_)
      rcases hk with hk | hk
      · rcases hvo.2 k hk with h | h
        · exact .inl h
        · exact .inr (by omega)
      · exact .inr (by omega)
    refine L.step (R.assignV (v := v35) rfl) rfl ?_
    refine L.nil ?_
    refine C.region ?_
    refine L.step (R.add rfl rfl (by omega)) rfl ?_
    refine L.step (R.moveV (v := .int .i64 (((x.1 : Nat) : Int) + 1)) rfl) rfl ?_
    refine L.nil ?_
    refine thenP.mk ⟨(x.1 + 1, v35), ⟨rfl, rfl, rfl, rfl, trivial⟩, ⟨by show x.1 + 1 ≤ _; omega, q39, hD40, hv41⟩, by show n - (x.1 + 1) < n - x.1; omega⟩
  ·
    refine L.step (R.lssF rfl rfl (Int.not_lt.1 ht5)) rfl ?_
    refine L.nil ?_
    refine C.seq ?_
    refine C.condF rfl ?_
    refine C.exit ?_
    refine C.seq ?_
    refine C.region ?_
    refine L.step (R.moveV (v := x.2) rfl) rfl ?_
    refine L.step (R.assignV (v := x.2) rfl) rfl ?_
    refine L.nil ?_
    refine C.ret (?_ : RetOk _ _ _ _ _)
    refine RetOk.tV (v := x.2) rfl rfl ?_
    have hxk : x.1 = n := by omega
    rw [hxk] at hv hDk
    exact ⟨hv, hDk, hq⟩
set_option maxHeartbeats 1000000 in
theorem same_calls {w : World} {u v : Value} {n m : Nat} {X Y : List Blk} {F G : Nat → Prop} (hu : Row w 27 64 u n (X.flatMap bcells) F) (hv : Row w 27 64 v m (Y.flatMap bcells) G) (hX : X.length = n) (hY : Y.length = m) (hn : n ≤ 1000000)
    (hXa : ∀ b ∈ X, b.length = 64) (hYa : ∀ b ∈ Y, b.length = 64) :
    Ret Try.prog 30 #[u, v] w fun r w' => r = .bool (decide (X = Y)) ∧ Kept (fun _ => False) w w' := by
  have hXb : ∀ b ∈ X, (bcells b).length = 64 := fun b hb => bcells64 (hXa b hb)
  have hYb : ∀ b ∈ Y, (bcells b).length = 64 := fun b hb => bcells64 (hYa b hb)
  obtain ⟨ua, uc, rfl, _⟩ := hu.shape
  obtain ⟨va, vc, rfl, _⟩ := hv.shape
  have hq := Kept.refl (fun _ => False) w
  refine Ret.intro [.slice ua n uc, .slice va m vc] Try.func30 rfl rfl ?_
  refine C.seq ?_
  refine C.region ?_
  refine L.step (R.assignV (v := .bool false) rfl) rfl ?_
  refine L.nil ?_
  refine C.seq ?_
  refine C.seq ?_
  refine C.region ?_
  refine L.step (R.moveV (v := .slice ua n uc) rfl) rfl ?_
  refine L.step (R.lenV (v := .int .i64 ((n : Nat) : Int)) Try.underlying35 rfl rfl) rfl ?_
  refine L.step (R.moveV (v := .slice va m vc) rfl) rfl ?_
  refine L.step (R.lenV (v := .int .i64 ((m : Nat) : Int)) Try.underlying35 rfl rfl) rfl ?_
  rcases Classical.em (n = m) with hn42 | hn42
  ·
    refine L.step (R.neqF rfl rfl (by omega)) rfl ?_
    subst hn42
    refine L.nil ?_
    refine C.condF rfl ?_
    refine C.skip ?_
    refine C.seq ?_
    refine C.seq ?_
    refine C.region ?_
    refine L.step (R.moveV (v := .slice ua n uc) rfl) rfl ?_
    refine L.step (R.lenV (v := .int .i64 ((n : Nat) : Int)) Try.underlying35 rfl rfl) rfl ?_
    refine L.step (R.moveV (v := .int .i64 0) rfl) rfl ?_
    refine L.nil ?_
    refine C.block ?_
    refine C.loop (α := Nat) (fun k => [(0, .slice ua n uc), (1, .slice va n vc), (12, .int .i64 ((n : Nat) : Int)), (13, .int .i64 ((k : Nat) : Int))]) (fun k W => k ≤ n ∧ Kept (fun _ => False) w W ∧ (∀ j, j < k → X[j]? = Y[j]?)) (fun k => n - k) ⟨0, ⟨rfl, rfl, rfl, rfl, trivial⟩, ⟨Nat.zero_le _, hq, fun j hj => absurd hj (Nat.not_lt_zero j)⟩⟩ ?_
    intro k g44 w43 hI45
    obtain ⟨hk, hq, hall⟩ := hI45
    have hsz := hq.size
    have hu := Row.kept hu hq (fun _ _ h => h)
    have hv := Row.kept hv hq (fun _ _ h => h)
    refine C.seq ?_
    refine C.region ?_
    rcases Classical.em (((k : Nat) : Int) < ((n : Nat) : Int)) with ht46 | ht46
    ·
      refine L.step (R.lssT rfl rfl (ht46)) rfl ?_
      refine L.nil ?_
      refine C.seq ?_
      refine C.condT rfl ?_
      refine C.skip ?_
      refine C.seq ?_
      refine C.block ?_
      refine C.seq ?_
      refine C.region ?_
      refine L.step (R.moveV (v := .int .i64 ((k : Nat) : Int)) rfl) rfl ?_
      refine L.step (R.assignV (v := .int .i64 ((k : Nat) : Int)) rfl) rfl ?_
      refine L.nil ?_
      refine C.seq ?_
      obtain ⟨ga, la, rfl, hFa, hga, hna, hca, hla, hta⟩ := Row.blockA hu (by omega)
      obtain ⟨gb, lb, rfl, hFb, hgb, hnb, hcb, hlb, htb⟩ := Row.blockA hv (by omega)
      obtain ⟨x, hx⟩ : ∃ b, X[k]? = some b := ⟨_, List.getElem?_eq_getElem (by omega)⟩
      obtain ⟨y, hy⟩ : ∃ b, Y[k]? = some b := ⟨_, List.getElem?_eq_getElem (by omega)⟩
      have hx64 := hXa x (List.mem_of_getElem? hx)
      have hy64 := hYa y (List.mem_of_getElem? hy)
      rcases Classical.em (x = y) with heq | heq
      ·
        refine C.drawE (fun W : World => W.heap[ga]? = some (blk (la) 27) ∧ W.heap[gb]? = some (blk (lb) 27)) (fun _ => true) mixed fun w47 e48 => ?_
        have k49 := Dr.old e48 hga
        have k50 := Dr.old e48 hgb
        have z51 := Dr.size e48
        have q52 := Dr.kept e48 hq
        refine AH.take 0 rfl (by kernel_rfl) (by kernel_rfl) (by kernel_rfl) (by kernel_rfl) (fun _ _ _ h => h) rfl trivial (fun _ hS => (R.moveV (v := .slice (some ⟨ga, 0, none⟩) n uc) rfl)) (⟨k49, k50⟩) ?_
        refine AH.take 1 rfl (by kernel_rfl) (by kernel_rfl) (by kernel_rfl) (by kernel_rfl) (fun _ _ _ h => h) rfl trivial (fun _ hS => (R.moveV (v := .int .i64 ((k : Nat) : Int)) rfl)) (⟨k49, k50⟩) ?_
        refine AH.take 2 rfl (by kernel_rfl) (by kernel_rfl) (by kernel_rfl) (by kernel_rfl) (fun _ _ _ h => h) rfl trivial (fun _ hS => (R.indexAddrV (m := k) (o2 := k * 64) s35 rfl rfl rfl (by omega) (by omega))) (⟨k49, k50⟩) ?_
        refine AH.take 3 rfl (by kernel_rfl) (by kernel_rfl) (by kernel_rfl) (by kernel_rfl) (fun _ _ _ h => h) rfl trivial (fun _ hS => (R.loadA (cs := bcells x) r27 rfl hS.1 (part_get hXb hX hta hx) (bcells64 hx64))) (⟨k49, k50⟩) ?_
        refine AH.take 4 rfl (by kernel_rfl) (by kernel_rfl) (by kernel_rfl) (by kernel_rfl) (fun _ _ _ h => h) rfl trivial (fun _ hS => (R.moveV (v := .slice (some ⟨gb, 0, none⟩) n vc) rfl)) (⟨k49, k50⟩) ?_
        refine AH.take 5 rfl (by kernel_rfl) (by kernel_rfl) (by kernel_rfl) (by kernel_rfl) (fun _ _ _ h => h) rfl trivial (fun _ hS => (R.moveV (v := .int .i64 ((k : Nat) : Int)) rfl)) (⟨k49, k50⟩) ?_
        refine AH.take 6 rfl (by kernel_rfl) (by kernel_rfl) (by kernel_rfl) (by kernel_rfl) (fun _ _ _ h => h) rfl trivial (fun _ hS => (R.indexAddrV (m := k) (o2 := k * 64) s35 rfl rfl rfl (by omega) (by omega))) (⟨k49, k50⟩) ?_
        refine AH.take 7 rfl (by kernel_rfl) (by kernel_rfl) (by kernel_rfl) (by kernel_rfl) (fun _ _ _ h => h) rfl trivial (fun _ hS => (R.loadA (cs := bcells y) r27 rfl hS.2 (part_get hYb hY htb hy) (bcells64 hy64))) (⟨k49, k50⟩) ?_
        refine AH.take 8 rfl (by kernel_rfl) (by kernel_rfl) (by kernel_rfl) (by kernel_rfl) (fun _ _ _ h => h) rfl trivial (fun _ hS => (R.neqAV (A := x) (B := y) (b := false) Try.underlying27 Try.underlying5 n5 gd27 rfl rfl hx64 hy64 (by rw [decide_eq_true heq]; rfl))) (⟨k49, k50⟩) ?_
        refine AH.done (by kernel_rfl) ?_
        refine C.condF rfl ?_
        refine C.skip ?_
        refine C.region ?_
        refine L.step (R.add rfl rfl (by omega)) rfl ?_
        refine L.step (R.moveV (v := .int .i64 (((k : Nat) : Int) + 1)) rfl) rfl ?_
        refine L.nil ?_
        refine thenP.mk ⟨k + 1, ⟨rfl, rfl, rfl, rfl, trivial⟩, ⟨by show k + 1 ≤ _; omega, q52, fun j hj => by
          rcases Nat.lt_succ_iff_lt_or_eq.1 hj with h | rfl
          · exact hall j h
          · rw [hx, hy, heq]⟩, by show n - (k + 1) < n - k; omega⟩
      ·
        refine C.drawE (fun W : World => W.heap[ga]? = some (blk (la) 27) ∧ W.heap[gb]? = some (blk (lb) 27)) (fun _ => true) mixed fun w53 e54 => ?_
        have k55 := Dr.old e54 hga
        have k56 := Dr.old e54 hgb
        have z57 := Dr.size e54
        have q58 := Dr.kept e54 hq
        refine AH.take 0 rfl (by kernel_rfl) (by kernel_rfl) (by kernel_rfl) (by kernel_rfl) (fun _ _ _ h => h) rfl trivial (fun _ hS => (R.moveV (v := .slice (some ⟨ga, 0, none⟩) n uc) rfl)) (⟨k55, k56⟩) ?_
        refine AH.take 1 rfl (by kernel_rfl) (by kernel_rfl) (by kernel_rfl) (by kernel_rfl) (fun _ _ _ h => h) rfl trivial (fun _ hS => (R.moveV (v := .int .i64 ((k : Nat) : Int)) rfl)) (⟨k55, k56⟩) ?_
        refine AH.take 2 rfl (by kernel_rfl) (by kernel_rfl) (by kernel_rfl) (by kernel_rfl) (fun _ _ _ h => h) rfl trivial (fun _ hS => (R.indexAddrV (m := k) (o2 := k * 64) s35 rfl rfl rfl (by omega) (by omega))) (⟨k55, k56⟩) ?_
        refine AH.take 3 rfl (by kernel_rfl) (by kernel_rfl) (by kernel_rfl) (by kernel_rfl) (fun _ _ _ h => h) rfl trivial (fun _ hS => (R.loadA (cs := bcells x) r27 rfl hS.1 (part_get hXb hX hta hx) (bcells64 hx64))) (⟨k55, k56⟩) ?_
        refine AH.take 4 rfl (by kernel_rfl) (by kernel_rfl) (by kernel_rfl) (by kernel_rfl) (fun _ _ _ h => h) rfl trivial (fun _ hS => (R.moveV (v := .slice (some ⟨gb, 0, none⟩) n vc) rfl)) (⟨k55, k56⟩) ?_
        refine AH.take 5 rfl (by kernel_rfl) (by kernel_rfl) (by kernel_rfl) (by kernel_rfl) (fun _ _ _ h => h) rfl trivial (fun _ hS => (R.moveV (v := .int .i64 ((k : Nat) : Int)) rfl)) (⟨k55, k56⟩) ?_
        refine AH.take 6 rfl (by kernel_rfl) (by kernel_rfl) (by kernel_rfl) (by kernel_rfl) (fun _ _ _ h => h) rfl trivial (fun _ hS => (R.indexAddrV (m := k) (o2 := k * 64) s35 rfl rfl rfl (by omega) (by omega))) (⟨k55, k56⟩) ?_
        refine AH.take 7 rfl (by kernel_rfl) (by kernel_rfl) (by kernel_rfl) (by kernel_rfl) (fun _ _ _ h => h) rfl trivial (fun _ hS => (R.loadA (cs := bcells y) r27 rfl hS.2 (part_get hYb hY htb hy) (bcells64 hy64))) (⟨k55, k56⟩) ?_
        refine AH.take 8 rfl (by kernel_rfl) (by kernel_rfl) (by kernel_rfl) (by kernel_rfl) (fun _ _ _ h => h) rfl trivial (fun _ hS => (R.neqAV (A := x) (B := y) (b := true) Try.underlying27 Try.underlying5 n5 gd27 rfl rfl hx64 hy64 (by rw [decide_eq_false heq]; rfl))) (⟨k55, k56⟩) ?_
        refine AH.done (by kernel_rfl) ?_
        refine C.condT rfl ?_
        refine C.seq ?_
        refine C.region ?_
        refine L.step (R.assignV (v := .bool false) rfl) rfl ?_
        refine L.nil ?_
        refine C.ret (?_ : RetOk _ _ _ _ _)
        refine RetOk.tV (v := .bool false) rfl rfl ?_
        have hne : ¬ X = Y := fun e => heq (by rw [e, hy] at hx; exact (Option.some.inj hx).symm)
        exact ⟨by rw [decide_eq_false hne], q58⟩
    ·
      refine L.step (R.lssF rfl rfl (Int.not_lt.1 ht46)) rfl ?_
      refine L.nil ?_
      refine C.seq ?_
      refine C.condF rfl ?_
      refine C.exit ?_
      refine C.seq ?_
      refine C.region ?_
      refine L.step (R.assignV (v := .bool true) rfl) rfl ?_
      refine L.nil ?_
      refine C.ret (?_ : RetOk _ _ _ _ _)
      refine RetOk.tV (v := .bool true) rfl rfl ?_
      have hee : X = Y := List.ext_getElem? fun j => by
        rcases Nat.lt_or_ge j k with h | h
        · exact hall j h
        · rw [List.getElem?_eq_none (by omega), List.getElem?_eq_none (by omega)]
      exact ⟨by rw [decide_eq_true hee], hq⟩
  ·
    refine L.step (R.neqT rfl rfl (by omega)) rfl ?_
    refine L.nil ?_
    refine C.condT rfl ?_
    refine C.seq ?_
    refine C.region ?_
    refine L.step (R.assignV (v := .bool false) rfl) rfl ?_
    refine L.nil ?_
    refine C.ret (?_ : RetOk _ _ _ _ _)
    refine RetOk.tV (v := .bool false) rfl rfl ?_
    have hne : ¬ X = Y := fun e => hn42 (by rw [← hX, ← hY, e])
    exact ⟨by rw [decide_eq_false hne], hq⟩
end Go.Proofs.Ytpblppilknkdoaa
