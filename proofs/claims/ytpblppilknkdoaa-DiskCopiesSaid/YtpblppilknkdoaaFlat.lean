/- Lists of equal parts laid end to end. -/
import Derived.Test.YtpblppilknkdoaaEng5
namespace Go.Eng
open Go

section
variable {α : Type} {f : α → List Value} {sz : Nat}

theorem flat_length {xs : List α} (h : ∀ x ∈ xs, (f x).length = sz) : (xs.flatMap f).length = xs.length * sz := by
  induction xs with
  | nil => simp
  | cons x r ih =>
    simp only [List.flatMap_cons, List.length_append, List.length_cons]
    rw [h x (by simp), ih fun y hy => h y (by simp [hy]), Nat.add_mul]
    omega

theorem flat_drop {xs : List α} (h : ∀ x ∈ xs, (f x).length = sz) : ∀ k, (xs.flatMap f).drop (k * sz) = (xs.drop k).flatMap f := by
  induction xs with
  | nil => intro k; simp
  | cons x r ih =>
    intro k
    cases k with
    | zero => simp
    | succ k =>
      have hx := h x (by simp)
      simp only [List.flatMap_cons, List.drop_succ_cons]
      rw [List.drop_append, List.drop_of_length_le (by rw [hx, Nat.succ_mul]; omega), List.nil_append, ← ih (fun y hy => h y (by simp [hy])) k]
      congr 1
      rw [hx, Nat.succ_mul]; omega

theorem flat_take {xs : List α} (h : ∀ x ∈ xs, (f x).length = sz) : ∀ k, (xs.flatMap f).take (k * sz) = (xs.take k).flatMap f := by
  induction xs with
  | nil => intro k; simp
  | cons x r ih =>
    intro k
    cases k with
    | zero => simp
    | succ k =>
      have hx := h x (by simp)
      simp only [List.flatMap_cons, List.take_succ_cons]
      rw [List.take_append, List.take_of_length_le (by rw [hx, Nat.succ_mul]; omega), ← ih (fun y hy => h y (by simp [hy])) k]
      congr 2
      rw [hx, Nat.succ_mul]; omega

/-- The k-th part. -/
theorem flat_part {xs : List α} (h : ∀ x ∈ xs, (f x).length = sz) {k : Nat} (hk : k < xs.length) : ((xs.flatMap f).drop (k * sz)).take sz = f xs[k] := by
  rw [flat_drop h, List.drop_eq_getElem_cons hk, List.flatMap_cons]
  have hx := h xs[k] (List.getElem_mem hk)
  rw [List.take_append, List.take_of_length_le (by omega), hx]
  simp

/-- .. of a longer list. -/
theorem part_at {xs : List α} (h : ∀ x ∈ xs, (f x).length = sz) {l : List Value} (hl : l.take (xs.length * sz) = xs.flatMap f) {k : Nat} (hk : k < xs.length) : (l.drop (k * sz)).take sz = f xs[k] := by
  rw [← flat_part h hk, ← hl, List.drop_take, List.take_take]
  congr 1
  have : k * sz + sz ≤ xs.length * sz := by rw [← Nat.succ_mul]; exact Nat.mul_le_mul_right _ hk
  omega

/-- A cell of the k-th part. -/
theorem cell_part {xs : List α} (h : ∀ x ∈ xs, (f x).length = sz) {l : List Value} (hl : l.take (xs.length * sz) = xs.flatMap f) {k : Nat} (hk : k < xs.length) {j : Nat} (hj : j < sz) : l[k * sz + j]? = (f xs[k])[j]? := by
  rw [← part_at h hl hk, List.getElem?_take, if_pos hj, List.getElem?_drop]

theorem flat_set {xs : List α} {k : Nat} (hk : k < xs.length) (b : α) : (xs.set k b).flatMap f = (xs.take k).flatMap f ++ f b ++ (xs.drop (k + 1)).flatMap f := by
  rw [List.set_eq_take_append_cons_drop, if_pos hk]
  simp

/-- The k-th part written anew, in a longer list. -/
theorem part_set {xs : List α} (h : ∀ x ∈ xs, (f x).length = sz) {l : List Value} (hl : l.take (xs.length * sz) = xs.flatMap f) {k : Nat} (hk : k < xs.length) (b : α) (hb : (f b).length = sz) :
    (splice l (k * sz) (f b)).take (xs.length * sz) = (xs.set k b).flatMap f := by
  have h1 : k * sz + sz ≤ xs.length * sz := by rw [← Nat.succ_mul]; exact Nat.mul_le_mul_right _ hk
  have h2 : xs.length * sz ≤ l.length := by
    have := congrArg List.length hl
    rw [List.length_take, flat_length h] at this
    omega
  rw [splice_eq _ _ _ (by rw [hb]; omega), flat_set hk, hb]
  have e1 : l.take (k * sz) = (xs.take k).flatMap f := by
    rw [← flat_take h, ← hl, List.take_take]
    congr 1
    omega
  have e2 : (l.drop (k * sz + sz)).take (xs.length * sz - (k * sz + sz)) = (xs.drop (k + 1)).flatMap f := by
    rw [← flat_drop h, ← hl, List.drop_take, Nat.succ_mul]
  rw [e1, ← e2]
  have l1 : ((xs.take k).flatMap f ++ f b).length = k * sz + sz := by
    rw [List.length_append, hb, flat_length (fun x hx => h x (List.mem_of_mem_take hx)), List.length_take]
    congr 2
    omega
  rw [List.take_append, List.take_of_length_le (by rw [l1]; omega), l1]
end
end Go.Eng
namespace Go.Eng
section
variable {α : Type} {f : α → List Value} {sz : Nat}
theorem part_get {xs : List α} (h : ∀ x ∈ xs, (f x).length = sz) {l : List Value} {n : Nat} (hn : xs.length = n) (hl : l.take (n * sz) = xs.flatMap f) {k : Nat} {x : α} (hx : xs[k]? = some x) : (l.drop (k * sz)).take sz = f x := by
  obtain ⟨hk, rfl⟩ := List.getElem?_eq_some_iff.1 hx
  subst hn
  exact part_at h hl hk
theorem cell_get {xs : List α} (h : ∀ x ∈ xs, (f x).length = sz) {l : List Value} {n : Nat} (hn : xs.length = n) (hl : l.take (n * sz) = xs.flatMap f) {k : Nat} {x : α} (hx : xs[k]? = some x) {j o : Nat} (hj : j < sz) (ho : o = k * sz + j) : l[o]? = (f x)[j]? := by
  obtain ⟨hk, rfl⟩ := List.getElem?_eq_some_iff.1 hx
  subst hn
  subst ho
  exact cell_part h hl hk hj
end
end Go.Eng
