/- DiskCopies answers true for every three rows of ops, and leaves its arguments as they were: a copy goes on by itself, as the disk would have. No condition. -/
import Derived.Test.YtpblppilknkdoaaD27
import Derived.Test.YtpblppilknkdoaaArg
namespace Go.Proofs.Ytpblppilknkdoaa
open Go Go.Eng Go.Proofs Go.ChangeShapes Go.WideShapes Go.ChangeAt Go.RowKit Go.Deep
set_option maxRecDepth 100000 in
theorem copies_lifted (os : Os) (started : os.Started) (H : Type) (enc : TypeId × Value → H) :
    ReturnsInHanded {} Try.checked os 8 .any (Rows.diskCopiesSpec.pre6 enc Try.prog Try.f8 Rows.diskCopiesRow.domain false) (Rows.diskCopiesSpec.post enc Try.prog Try.f8 false true false false) := by
  refine returnsInHanded_of_change_sized (C := Try.checked) own started (by kernel_rfl) Try.func8
    (ChangeSpec.witness6 (enc := enc) (C := Try.checked) false ⟨#[], #[.slice none 0 0, .slice none 0 0, .slice none 0 0], []⟩ 8 (by kernel_rfl) (by kernel_rfl) (by kernel_rfl) (by kernel_rfl)) ?_
  intro W base args ds gs before hval0 hW _ hsz0 _
  have hsz : (DataW.weightsEach Try.prog (Try.f8.params.toList ++ Rows.diskCopiesSpec.plain.varTypes Try.prog) (ds ++ gs)).all (· ≤ reachBytes) = true := hsz0
  clear hsz0
  have hval : ∀ (j : Nat) t v, Try.f8.params[j]? = some t → args[j]? = some v → Value.okWide Try.prog W .any base t v := hval0
  have hW' := hW
  obtain ⟨p, q, hA0, hV, rfl, _, _⟩ := hW
  have hA : DataW.TrodAll enc Try.prog W 0 (fun _ => true) true Try.f8.params.toList args.toList ds p := hA0
  rw [Try.params8] at hA hval hsz
  obtain ⟨v0, v1, v2, d0, d1, d2, p0, p1, p2, rfl, rfl, rfl, h0, h1, h2⟩ := trodAll_three hA
  obtain ⟨rfl, rfl⟩ := trodVars_none hV
  obtain ⟨a0, len0, cap0, rfl⟩ := Go.WideShapes.okWide_slice Try.underlying22 (hval 0 22 v0 rfl rfl)
  obtain ⟨fuel0, hf0⟩ := h0
  obtain ⟨lv0, l0, hlv0, hl0, hbig0⟩ := open_ops hf0 (fun n hn => by
    have := List.all_eq_true.1 hsz n (DataW.weights_mem_each (ts := [22, 22, 22]) (j := 0) rfl rfl n hn)
    simpa using this)
  have hlv0 : .slice a0 len0 cap0 = lv0 := by simpa [Value.cells] using hlv0
  subst hlv0
  obtain ⟨a1, len1, cap1, rfl⟩ := Go.WideShapes.okWide_slice Try.underlying22 (hval 1 22 v1 rfl rfl)
  obtain ⟨fuel1, hf1⟩ := h1
  obtain ⟨lv1, l1, hlv1, hl1, hbig1⟩ := open_ops hf1 (fun n hn => by
    have := List.all_eq_true.1 hsz n (DataW.weights_mem_each (ts := [22, 22, 22]) (j := 1) rfl rfl n hn)
    simpa using this)
  have hlv1 : .slice a1 len1 cap1 = lv1 := by simpa [Value.cells] using hlv1
  subst hlv1
  obtain ⟨a2, len2, cap2, rfl⟩ := Go.WideShapes.okWide_slice Try.underlying22 (hval 2 22 v2 rfl rfl)
  obtain ⟨fuel2, hf2⟩ := h2
  obtain ⟨lv2, l2, hlv2, hl2, hbig2⟩ := open_ops hf2 (fun n hn => by
    have := List.all_eq_true.1 hsz n (DataW.weights_mem_each (ts := [22, 22, 22]) (j := 2) rfl rfl n hn)
    simpa using this)
  have hlv2 : .slice a2 len2 cap2 = lv2 := by simpa [Value.cells] using hlv2
  subst hlv2
  refine (diskcopies_calls hl0 hl1 hl2 (Nat.le_refl _) (Nat.le_refl _) (Nat.le_refl _) hbig0 hbig1 hbig2).mono ?_
  rintro e W' ⟨v, rfl, rfl, hk⟩
  exact ⟨_, rfl, post_true rfl hW' rfl rfl rfl rfl (by decide +kernel) hk⟩

theorem copies_holds : Rows.DiskCopiesSaid :=
  OpenClaim.holds_of_wide 8 Try.f8 rfl rfl rfl rfl rfl rfl rfl ⟨rfl, rfl, rfl, rfl, rfl⟩ rfl rfl rfl rfl rfl (by kernel_rfl) Try.func8 (by kernel_rfl)
    (of_decide_eq_true (by kernel_rfl)) (by unfold Func.isWrapper; first | (rw [if_pos (by decide +kernel)]; kernel_rfl) | (rw [if_neg (by decide +kernel)]; exact ⟨rfl, rfl⟩))
    (fun os started H enc _ => copies_lifted os started H enc)
end Go.Proofs.Ytpblppilknkdoaa
