/- New, Clone, Pending, Copy. -/
import Derived.Test.YtpblppilknkdoaaD7
import Derived.Test.YtpblppilknkdoaaEng7
namespace Go.Proofs.Ytpblppilknkdoaa
open Go Go.Eng Go.Proofs
attribute [local irreducible] Go.Eng.C Go.Eng.L Go.Eng.Ret Go.Eng.Run Go.Eng.Does Go.Eng.Enters Go.Eng.AH Go.Eng.AO Go.Eng.RetOk
def PD.new (n : Nat) : PD := { safe := List.replicate n z64, pend := [], dead := false, armed := false, left := 0, fails := 0, ops := 0 }
theorem PD.Ok.new (n : Nat) : (PD.new n).Ok := by
  refine ⟨?_, ?_, ?_, ?_, ?_, ?_⟩ <;> simp [PD.new]
  intro _; rfl
theorem new_flat (n : Nat) : (List.replicate n z64).flatMap bcells = List.replicate (n * 64) (.int .u8 0) := by
  induction n with
  | zero => rfl
  | succ n ih => rw [List.replicate_succ, List.flatMap_cons, ih, bcells_z64, List.replicate_append_replicate, Nat.succ_mul, Nat.add_comm]
theorem new_bad {w : World} {n : Int} (hn : n < 1 ∨ 2048 < n) : Ret Try.prog 16 #[.int .i64 n] w fun v w' => v = .tuple #[.pointer none, .int .i64 2] ∧ w' = w := by
  rcases Classical.em (n < 1) with hlt | hge
  ·
    refine Ret.intro [.int .i64 n] Try.func16 rfl rfl ?_
    refine C.seq ?_
    refine C.region ?_
    refine L.step (R.assignV (v := .pointer none) rfl) rfl ?_
    refine L.step (R.assignV (v := .int .i64 0) rfl) rfl ?_
    refine L.nil ?_
    refine C.seq ?_
    refine C.seq ?_
    refine C.region ?_
    refine L.step (R.moveV (v := .int .i64 n) rfl) rfl ?_
    refine L.step (R.lssT rfl rfl (hlt)) rfl ?_
    refine L.step (R.moveV (v := .bool true) rfl) rfl ?_
    refine L.no rfl rfl rfl (.inl rfl) ?_
    refine L.no rfl rfl rfl (.inl rfl) ?_
    refine L.step (R.pickTV (v := .bool true) rfl rfl) rfl ?_
    refine L.nil ?_
    refine C.condT rfl ?_
    refine C.seq ?_
    refine C.region ?_
    refine L.step (R.assignV (v := .pointer none) rfl) rfl ?_
    refine L.step (R.assignV (v := .int .i64 2) rfl) rfl ?_
    refine L.nil ?_
    refine C.ret (?_ : RetOk _ _ _ _ _)
    refine RetOk.ttV (v := .pointer none) (v' := .int .i64 2) rfl rfl rfl ?_
    exact ⟨rfl, rfl⟩
  ·
    refine Ret.intro [.int .i64 n] Try.func16 rfl rfl ?_
    refine C.seq ?_
    refine C.region ?_
    refine L.step (R.assignV (v := .pointer none) rfl) rfl ?_
    refine L.step (R.assignV (v := .int .i64 0) rfl) rfl ?_
    refine L.nil ?_
    refine C.seq ?_
    refine C.seq ?_
    refine C.region ?_
    refine L.step (R.moveV (v := .int .i64 n) rfl) rfl ?_
    refine L.step (R.lssF rfl rfl (by omega)) rfl ?_
    refine L.step (R.moveV (v := .bool false) rfl) rfl ?_
    refine L.yes rfl rfl rfl ?_
    refine L.step (R.moveV (v := .int .i64 n) rfl) rfl ?_
    refine L.yes rfl rfl rfl ?_
    refine L.step (R.gtrT rfl rfl (by omega)) rfl ?_
    refine L.step (R.pickFV (v := .bool true) rfl rfl) rfl ?_
    refine L.nil ?_
    refine C.condT rfl ?_
    refine C.seq ?_
    refine C.region ?_
    refine L.step (R.assignV (v := .pointer none) rfl) rfl ?_
    refine L.step (R.assignV (v := .int .i64 2) rfl) rfl ?_
    refine L.nil ?_
    refine C.ret (?_ : RetOk _ _ _ _ _)
    refine RetOk.ttV (v := .pointer none) (v' := .int .i64 2) rfl rfl rfl ?_
    exact ⟨rfl, rfl⟩
theorem new_good {w : World} {n : Int} (h1 : 1 ≤ n) (h2 : n ≤ 2048) : Ret Try.prog 16 #[.int .i64 n] w fun v w' => ∃ r, v = .tuple #[.pointer (some ⟨r, 0, none⟩), .int .i64 0] ∧ w.heap.size ≤ r ∧ DiskAt w' r (PD.new n.toNat) (grow (fun _ => False) w w') ∧ Kept (fun _ => False) w w' := by
  obtain ⟨m, rfl⟩ := Int.eq_ofNat_of_zero_le (show 0 ≤ n by omega)
  refine Ret.intro [.int .i64 (m : Int)] Try.func16 rfl rfl ?_
  refine C.seq ?_
  refine C.region ?_
  refine L.step (R.assignV (v := .pointer none) rfl) rfl ?_
  refine L.step (R.assignV (v := .int .i64 0) rfl) rfl ?_
  refine L.nil ?_
  refine C.seq ?_
  refine C.seq ?_
  refine C.region ?_
  refine L.step (R.moveV (v := .int .i64 (m : Int)) rfl) rfl ?_
  refine L.step (R.lssF rfl rfl (by omega)) rfl ?_
  refine L.step (R.moveV (v := .bool false) rfl) rfl ?_
  refine L.yes rfl rfl rfl ?_
  refine L.step (R.moveV (v := .int .i64 (m : Int)) rfl) rfl ?_
  refine L.yes rfl rfl rfl ?_
  refine L.step (R.gtrF rfl rfl (by omega)) rfl ?_
  refine L.step (R.pickFV (v := .bool false) rfl rfl) rfl ?_
  refine L.nil ?_
  refine C.condF rfl ?_
  refine C.skip ?_
  refine C.seq ?_
  refine C.region ?_
  refine L.step (R.moveV (v := .int .i64 (m : Int)) rfl) rfl ?_
  refine L.stepE (R.makeU (l := m) (m := m) e35 z27 rfl rfl rfl rfl (Nat.le_refl _) (by omega) (by omega)) rfl fun w2 e1 => ?_
  have k4 := Al.new e1
  have z5 := Al.size e1
  have q6 := Al.kept e1 (Kept.refl (fun _ => False) w)
  refine L.step (R.build1 (v := .agg (List.toArray ([.slice (some ⟨w.heap.size, 0, none⟩) m m, .slice none 0 0, .bool false, .bool false, .int .i64 0, .int .i64 0, .int .i64 0]))) (run_build1 (i := 0) (off := 0) (size := 1) (v := .slice (some ⟨w.heap.size, 0, none⟩) m m) p69 z69 rfl rfl rfl)) rfl ?_
  refine L.stepE (R.boxA (cs := [.slice (some ⟨w.heap.size, 0, none⟩) m m, .slice none 0 0, .bool false, .bool false, .int .i64 0, .int .i64 0, .int .i64 0]) rfl) rfl fun w8 e7 => ?_
  have k10 := Al.new e7
  have k11 := Al.old e7 k4
  have z12 := Al.size e7
  have q13 := Al.kept e7 q6
  refine L.step (R.assignV (v := .pointer (some ⟨w2.heap.size, 0, none⟩)) rfl) rfl ?_
  refine L.step (R.assignV (v := .int .i64 0) rfl) rfl ?_
  refine L.nil ?_
  refine C.ret (?_ : RetOk _ _ _ _ _)
  refine RetOk.ttV (v := .pointer (some ⟨w2.heap.size, 0, none⟩)) (v' := .int .i64 0) rfl rfl rfl ?_
  refine ⟨_, rfl, by omega, ⟨grow_none (by omega) (by omega), PD.Ok.new _, _, _, k10, ?_, Row.nil _ _ _ _⟩, q13⟩
  have hm : (m : Int).toNat = m := by omega
  rw [hm]
  have e := new_flat m
  have l : (PD.new m).safe.length = m := by simp [PD.new]
  rw [l]
  show Row _ 27 64 _ m ((List.replicate m z64).flatMap bcells) _
  rw [e]
  exact Row.mk _ _ m (List.replicate (m * 64) (.int .u8 0)) k11 (Nat.le_refl _) (by simp only [maxLen]; omega) (by simp) (List.take_of_length_le (by simp)) (grow_none (by omega) (by omega))
theorem clone50_calls {w : World} {v : Value} {n : Nat} {xs : List Value} {F : Nat → Prop} (h : Row w 27 64 v n xs F) (hn : n ≤ 1000000) (h1 : ∀ u ∈ xs, u.oneCell' = true) :
    Ret Try.prog 50 #[v] w fun v' w' => Row w' 27 64 v' n xs (grow (fun _ => False) w w') ∧ Kept (fun _ => False) w w' := by
  rcases h.any with ⟨rfl, rfl, rfl⟩ | ⟨gp, cap, l, rfl, hF, hg, hnc, hl, ht⟩
  ·
    refine Ret.intro [.slice none 0 0] Try.func50 rfl rfl ?_
    refine C.seq ?_
    refine C.region ?_
    refine L.step (R.assignV (v := .slice none 0 0) rfl) rfl ?_
    refine L.nil ?_
    refine C.seq ?_
    refine C.seq ?_
    refine C.region ?_
    refine L.step (R.moveV (v := .slice none 0 0) rfl) rfl ?_
    refine L.step (R.eqlS Try.underlying35 rfl rfl rfl) rfl ?_
    refine L.nil ?_
    refine C.condT rfl ?_
    refine C.seq ?_
    refine C.region ?_
    refine L.step (R.assignV (v := .slice none 0 0) rfl) rfl ?_
    refine L.nil ?_
    refine C.ret (?_ : RetOk _ _ _ _ _)
    refine RetOk.tV (v := .slice none 0 0) rfl rfl ?_
    exact ⟨Row.nil _ _ _ _, (Kept.refl (fun _ => False) w)⟩
  ·
    refine Ret.intro [.slice (some ⟨gp, 0, none⟩) n cap] Try.func50 rfl rfl ?_
    refine C.seq ?_
    refine C.region ?_
    refine L.step (R.assignV (v := .slice none 0 0) rfl) rfl ?_
    refine L.nil ?_
    refine C.seq ?_
    refine C.seq ?_
    refine C.region ?_
    refine L.step (R.moveV (v := .slice (some ⟨gp, 0, none⟩) n cap) rfl) rfl ?_
    refine L.step (R.eqlS Try.underlying35 rfl rfl rfl) rfl ?_
    refine L.nil ?_
    refine C.condF rfl ?_
    refine C.skip ?_
    refine C.seq ?_
    refine C.region ?_
    refine L.stepE (R.slice0 s35) rfl fun w15 e14 => ?_
    have k17 := Al.new e14
    have z18 := Al.size e14
    have q19 := Al.kept e14 (Kept.refl (fun _ => False) w)
    refine L.step (R.moveV (v := .slice (some ⟨gp, 0, none⟩) n cap) rfl) rfl ?_
    have hrow : Row w15 27 64 (.slice (some ⟨w.heap.size, 0, none⟩) 0 0) 0 [] (fun k => k = w.heap.size) := Row.mk _ _ 0 [] k17 (Nat.le_refl _) (Nat.zero_le _) rfl rfl rfl
    have hsrc := Al.row e14 h
    refine L.bind (R.append e35 rfl hrow rfl (by rw [h.length]) (fun j u hu => by rw [Nat.zero_add]; exact hsrc.cells rfl j u hu) h1 (by simp only [maxLen]; omega) (by omega)) rfl ?_
    rintro v20 w21 ⟨hr22, hk23, _, _⟩
    have hz1 := (hk23).size
    have hkk : Kept (fun _ => False) w w21 := Kept.trans q19 hk23 (fun k hlt hk => by have hk : k = w.heap.size := hk; omega)
    rw [Nat.zero_add] at hr22
    refine L.step (R.assignV (v := v20) rfl) rfl ?_
    refine L.nil ?_
    refine C.ret (?_ : RetOk _ _ _ _ _)
    refine RetOk.tV (v := v20) rfl rfl ?_
    exact ⟨hr22.mono (fun k hk => by simp only [grow] at hk ⊢; omega), hkk⟩
theorem clone51_calls {w : World} {v : Value} {n : Nat} {xs : List Value} {F : Nat → Prop} (h : Row w 80 65 v n xs F) (hn : n ≤ 1000000) (h1 : ∀ u ∈ xs, u.oneCell' = true) :
    Ret Try.prog 51 #[v] w fun v' w' => Row w' 80 65 v' n xs (grow (fun _ => False) w w') ∧ Kept (fun _ => False) w w' := by
  rcases h.any with ⟨rfl, rfl, rfl⟩ | ⟨gp, cap, l, rfl, hF, hg, hnc, hl, ht⟩
  ·
    refine Ret.intro [.slice none 0 0] Try.func51 rfl rfl ?_
    refine C.seq ?_
    refine C.region ?_
    refine L.step (R.assignV (v := .slice none 0 0) rfl) rfl ?_
    refine L.nil ?_
    refine C.seq ?_
    refine C.seq ?_
    refine C.region ?_
    refine L.step (R.moveV (v := .slice none 0 0) rfl) rfl ?_
    refine L.step (R.eqlS Try.underlying67 rfl rfl rfl) rfl ?_
    refine L.nil ?_
    refine C.condT rfl ?_
    refine C.seq ?_
    refine C.region ?_
    refine L.step (R.assignV (v := .slice none 0 0) rfl) rfl ?_
    refine L.nil ?_
    refine C.ret (?_ : RetOk _ _ _ _ _)
    refine RetOk.tV (v := .slice none 0 0) rfl rfl ?_
    exact ⟨Row.nil _ _ _ _, (Kept.refl (fun _ => False) w)⟩
  ·
    refine Ret.intro [.slice (some ⟨gp, 0, none⟩) n cap] Try.func51 rfl rfl ?_
    refine C.seq ?_
    refine C.region ?_
    refine L.step (R.assignV (v := .slice none 0 0) rfl) rfl ?_
    refine L.nil ?_
    refine C.seq ?_
    refine C.seq ?_
    refine C.region ?_
    refine L.step (R.moveV (v := .slice (some ⟨gp, 0, none⟩) n cap) rfl) rfl ?_
    refine L.step (R.eqlS Try.underlying67 rfl rfl rfl) rfl ?_
    refine L.nil ?_
    refine C.condF rfl ?_
    refine C.skip ?_
    refine C.seq ?_
    refine C.region ?_
    refine L.stepE (R.slice0 s67) rfl fun w25 e24 => ?_
    have k27 := Al.new e24
    have z28 := Al.size e24
    have q29 := Al.kept e24 (Kept.refl (fun _ => False) w)
    refine L.step (R.moveV (v := .slice (some ⟨gp, 0, none⟩) n cap) rfl) rfl ?_
    have hrow : Row w25 80 65 (.slice (some ⟨w.heap.size, 0, none⟩) 0 0) 0 [] (fun k => k = w.heap.size) := Row.mk _ _ 0 [] k27 (Nat.le_refl _) (Nat.zero_le _) rfl rfl rfl
    have hsrc := Al.row e24 h
    refine L.bind (R.append e67 rfl hrow rfl (by rw [h.length]) (fun j u hu => by rw [Nat.zero_add]; exact hsrc.cells rfl j u hu) h1 (by simp only [maxLen]; omega) (by omega)) rfl ?_
    rintro v30 w31 ⟨hr32, hk33, _, _⟩
    have hz1 := (hk33).size
    have hkk : Kept (fun _ => False) w w31 := Kept.trans q29 hk33 (fun k hlt hk => by have hk : k = w.heap.size := hk; omega)
    rw [Nat.zero_add] at hr32
    refine L.step (R.assignV (v := v30) rfl) rfl ?_
    refine L.nil ?_
    refine C.ret (?_ : RetOk _ _ _ _ _)
    refine RetOk.tV (v := v30) rfl rfl ?_
    exact ⟨hr32.mono (fun k hk => by simp only [grow] at hk ⊢; omega), hkk⟩
end Go.Proofs.Ytpblppilknkdoaa
