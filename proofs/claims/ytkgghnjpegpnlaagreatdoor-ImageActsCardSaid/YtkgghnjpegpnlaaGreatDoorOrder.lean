/- The order of texts, plain: what 'cmpS' says; rows that rise. No conditions. -/
import Derived.Test.YtkgghnjpegpnlaaGreatDoorCmp
namespace Go.Proofs.YtkgghnjpegpnlaaGreatDoor
open Go.RowKit Go.Proofs

theorem cmpS_neg {a b : ByteArray} : cmpS a b < 0 ↔ a.toList < b.toList := by
  unfold cmpS
  rw [Proofs.bytesLess_eq]
  by_cases h : a.toList < b.toList
  · simp [h]
  · have hi : ¬ b.toList < b.toList := List.lt_irrefl _
    by_cases h2 : a.toList = b.toList
    · simp [h2, hi]
    · simp [h, h2]

theorem toList_inj {a b : ByteArray} (h : a.toList = b.toList) : a = b := by
  rw [toList_data, toList_data] at h
  cases a with
  | mk x =>
    cases b with
    | mk y =>
      have : x = y := Array.ext' h
      rw [this]

theorem lt_irrefl8 (x : List UInt8) : ¬ x < x := List.lt_irrefl x
theorem lt_trans8 {x y z : List UInt8} (h : x < y) (k : y < z) : x < z := List.lt_trans h k
theorem lt_asymm8 {x y : List UInt8} (h : x < y) : ¬ y < x := fun k => lt_irrefl8 x (lt_trans8 h k)
theorem eq_of_not8 {x y : List UInt8} (h : ¬ x < y) (k : ¬ y < x) : x = y := List.le_antisymm (List.not_lt.1 k) (List.not_lt.1 h)

theorem cmpS_zero {a b : ByteArray} : cmpS a b = 0 ↔ a = b := by
  constructor
  · intro h
    unfold cmpS at h
    split at h
    · cases h
    · split at h
      · rename_i h2
        exact toList_inj (by simpa using h2)
      · cases h
  · rintro rfl
    unfold cmpS
    rw [bytesLess_irrefl]
    simp

theorem cmpS_pos {a b : ByteArray} : 0 < cmpS a b ↔ b.toList < a.toList := by
  constructor
  · intro h
    rcases Classical.em (b.toList < a.toList) with h1 | h1
    · exact h1
    · rcases Classical.em (a.toList < b.toList) with h2 | h2
      · have := cmpS_neg.2 h2
        omega
      · have := cmpS_zero.2 (toList_inj (eq_of_not8 h2 h1))
        omega
  · intro h
    have h1 : ¬ cmpS a b < 0 := fun k => lt_asymm8 h (cmpS_neg.1 k)
    have h2 : cmpS a b ≠ 0 := fun k => by
      rw [cmpS_zero.1 k] at h
      exact lt_irrefl8 _ h
    omega

theorem cmpS_trans {a b c : ByteArray} (h : cmpS a b < 0) (k : cmpS b c < 0) : cmpS a c < 0 := cmpS_neg.2 (lt_trans8 (cmpS_neg.1 h) (cmpS_neg.1 k))

theorem risingB_step {α : Type} {p : α → α → Int} {xs : List α} (h : risingB p xs = true) {k : Nat} {x y : α} (hx : xs[k]? = some x) (hy : xs[k + 1]? = some y) : p x y < 0 := by
  rcases Int.lt_or_le (p x y) 0 with h1 | h1
  · exact h1
  · rw [risingB_no p xs k x y hx hy h1] at h
    cases h

theorem risingB_lt {α : Type} {p : α → α → Int} (ht : ∀ x y z, p x y < 0 → p y z < 0 → p x z < 0) {xs : List α} (h : risingB p xs = true) {i j : Nat} {x y : α} (hij : i < j) (hx : xs[i]? = some x) (hy : xs[j]? = some y) : p x y < 0 := by
  obtain ⟨d, rfl⟩ : ∃ d, j = i + 1 + d := ⟨j - (i + 1), by omega⟩
  clear hij
  induction d generalizing y with
  | zero => exact risingB_step h hx hy
  | succ d ih =>
    have hl := (List.getElem?_eq_some_iff.1 hy).1
    obtain ⟨z, hz⟩ : ∃ z, xs[i + 1 + d]? = some z := ⟨_, List.getElem?_eq_getElem (by omega)⟩
    exact ht _ _ _ (ih hz) (risingB_step h hz hy)

theorem keys_mono {α : Type} {f : α → ByteArray} {xs : List α} (h : risingB (fun x y => cmpS (f x) (f y)) xs = true) (t : ByteArray) (i j : Nat) (x y : α) (hij : i ≤ j) (hx : xs[i]? = some x) (hy : xs[j]? = some y) (hlt : cmpS (f y) t < 0) : cmpS (f x) t < 0 := by
  rcases Nat.lt_or_ge i j with h1 | h1
  · have h2 : cmpS (f x) (f y) < 0 := risingB_lt (p := fun x y => cmpS (f x) (f y)) (fun _ _ _ => cmpS_trans) h h1 hx hy
    exact cmpS_trans h2 hlt
  · have : i = j := by omega
    subst this
    rw [hx] at hy
    injection hy with hy
    rw [hy]
    exact hlt
end Go.Proofs.YtkgghnjpegpnlaaGreatDoor
