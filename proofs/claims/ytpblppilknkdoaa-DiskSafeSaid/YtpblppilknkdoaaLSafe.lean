/- DiskSafe answers true for every row of ops and every row of bools, and leaves its arguments as they were: nothing that was synced is lost by a crash, all that is kept lives, and each sector holds something that it held. No condition. -/
import Derived.Test.YtpblppilknkdoaaD19
import Derived.Test.YtpblppilknkdoaaArg
namespace Go.Proofs.Ytpblppilknkdoaa
open Go Go.Eng Go.Proofs Go.ChangeShapes Go.WideShapes Go.ChangeAt Go.RowKit Go.Deep
set_option maxRecDepth 100000 in
theorem safe_lifted (os : Os) (started : os.Started) (H : Type) (enc : TypeId × Value → H) :
    ReturnsInHanded {} Try.checked os 7 .any (Rows.diskSafeSpec.pre6 enc Try.prog Try.f7 Rows.diskSafeRow.domain false) (Rows.diskSafeSpec.post enc Try.prog Try.f7 false true false false) := by
  refine returnsInHanded_of_change_sized (C := Try.checked) own started (by kernel_rfl) Try.func7
    (ChangeSpec.witness6 (enc := enc) (C := Try.checked) false ⟨#[], #[.slice none 0 0, .slice none 0 0], []⟩ 8 (by kernel_rfl) (by kernel_rfl) (by kernel_rfl) (by kernel_rfl)) ?_
  intro W base args ds gs before hval0 hW _ hsz0 _
  have hsz : (DataW.weightsEach Try.prog (Try.f7.params.toList ++ Rows.diskSafeSpec.plain.varTypes Try.prog) (ds ++ gs)).all (· ≤ reachBytes) = true := hsz0
  clear hsz0
  have hval : ∀ (j : Nat) t v, Try.f7.params[j]? = some t → args[j]? = some v → Value.okWide Try.prog W .any base t v := hval0
  have hW' := hW
  obtain ⟨p, q, hA0, hV, rfl, _, _⟩ := hW
  have hA : DataW.TrodAll enc Try.prog W 0 (fun _ => true) true Try.f7.params.toList args.toList ds p := hA0
  rw [Try.params7] at hA hval hsz
  obtain ⟨v0, v1, d0, d1, p0, p1, rfl, rfl, rfl, h0, h1⟩ := trodAll_two hA
  obtain ⟨rfl, rfl⟩ := trodVars_none hV
  obtain ⟨a0, len0, cap0, rfl⟩ := Go.WideShapes.okWide_slice Try.underlying22 (hval 0 22 v0 rfl rfl)
  obtain ⟨fuel0, hf0⟩ := h0
  obtain ⟨lv0, l0, hlv0, hl0, hbig0⟩ := open_ops hf0 (fun n hn => by
    have := List.all_eq_true.1 hsz n (DataW.weights_mem_each (ts := [22, 30]) (j := 0) rfl rfl n hn)
    simpa using this)
  have hlv0 : .slice a0 len0 cap0 = lv0 := by simpa [Value.cells] using hlv0
  subst hlv0
  obtain ⟨a1, len1, cap1, rfl⟩ := Go.WideShapes.okWide_slice Try.underlying30 (hval 1 30 v1 rfl rfl)
  obtain ⟨fuel1, hf1⟩ := h1
  obtain ⟨lv1, l1, hlv1, hl1, hbig01⟩ := open_bools hf1
  have hbig1 := hbig01 (fun n hn => by
    have := List.all_eq_true.1 hsz n (DataW.weights_mem_each (ts := [22, 30]) (j := 1) rfl rfl n hn)
    simpa using this)
  have hlv1 : .slice a1 len1 cap1 = lv1 := by simpa [Value.cells] using hlv1
  subst hlv1
  refine (safe_calls hl0 hl1 (Nat.le_refl _) hbig0).mono ?_
  rintro e W' ⟨v, rfl, rfl, hk⟩
  exact ⟨_, rfl, post_true rfl hW' rfl rfl rfl rfl (by decide +kernel) hk⟩

theorem safe_holds : Rows.DiskSafeSaid :=
  OpenClaim.holds_of_wide 7 Try.f7 rfl rfl rfl rfl rfl rfl rfl ⟨rfl, rfl, rfl, rfl, rfl⟩ rfl rfl rfl rfl rfl (by kernel_rfl) Try.func7 (by kernel_rfl)
    (of_decide_eq_true (by kernel_rfl)) (by unfold Func.isWrapper; first | (rw [if_pos (by decide +kernel)]; kernel_rfl) | (rw [if_neg (by decide +kernel)]; exact ⟨rfl, rfl⟩))
    (fun os started H enc _ => safe_lifted os started H enc)
end Go.Proofs.Ytpblppilknkdoaa
