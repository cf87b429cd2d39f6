/- Rows of the call's own whose elements are written anew. -/
import Derived.Test.YtkgghnjpegpnlaaGreatDoorOwn
namespace Go.Proofs.YtkgghnjpegpnlaaGreatDoor
open Go.RowKit Go.Proofs
set_option linter.unusedSimpArgs false
set_option linter.unusedVariables false

/-- One element's cells, and those around it. -/
theorem Parts.split {α : Type} {d : Kd α} {S : Nat → Prop} {w : World} {xs : List α} {cs : List Value} (h : Parts d S w xs cs) {j : Nat} {x : α} (hx : xs[j]? = some x) :
    ∃ P e Q, cs = P ++ (e ++ Q) ∧ P.length = j * d.sz ∧ d.R S w x e := by
  have hj : j < xs.length := (List.getElem?_eq_some_iff.1 hx).1
  have h1 : j * d.sz + d.sz ≤ cs.length := by rw [h.1, ← Nat.succ_mul]; exact Nat.mul_le_mul_right _ hj
  refine ⟨cs.take (j * d.sz), (cs.drop (j * d.sz)).take d.sz, (cs.drop (j * d.sz)).drop d.sz, ?_, by rw [List.length_take]; omega, h.2 j x hx⟩
  rw [List.take_append_drop, List.take_append_drop]
theorem Parts.put {α : Type} {d : Kd α} {S : Nat → Prop} {w : World} {xs : List α} {P e ds Q : List Value} {j : Nat} {x y : α} (h : Parts d S w xs (P ++ (e ++ Q))) (hx : xs[j]? = some x) (hP : P.length = j * d.sz) (he : e.length = d.sz) (hr : d.R S w y ds) :
    Parts d S w (xs.set j y) (P ++ (ds ++ Q)) := by
  have hj : j < xs.length := (List.getElem?_eq_some_iff.1 hx).1
  have hd := d.len hr
  refine ⟨?_, fun i z hz => ?_⟩
  · rw [List.length_set, ← h.1]
    simp only [List.length_append, hd, he]
  · rw [List.getElem?_set] at hz
    split at hz
    · rename_i hij
      subst hij
      cases hz
      rw [← hP, List.drop_left, ← hd, List.take_left]
      exact hr
    · rename_i hij
      have h2 := h.2 i z hz
      rcases Nat.lt_or_ge i j with hlt | hge
      · have h3 : i * d.sz + d.sz ≤ P.length := by rw [hP, ← Nat.succ_mul]; exact Nat.mul_le_mul_right _ hlt
        rw [List.drop_append_of_le_length (by omega), List.take_append_of_le_length (by rw [List.length_drop]; omega)] at h2 ⊢
        exact h2
      · have h3 : i * d.sz = P.length + d.sz + (i - j - 1) * d.sz := by
          rw [hP, ← Nat.succ_mul, ← Nat.add_mul]; congr 1; omega
        have h4 : ∀ a : List Value, a.length = d.sz → (P ++ (a ++ Q)).drop (i * d.sz) = Q.drop ((i - j - 1) * d.sz) := by
          intro a ha
          rw [h3, Nat.add_assoc, List.drop_length_add_append, ← ha, List.drop_length_add_append]
        rw [h4 ds hd]
        rwa [h4 e he] at h2

/-- The rows' own cells have been written to: other elements stand. -/
theorem OwnX.put {α : Type} {d : Kd α} {e : TypeId} {w w' : World} {base : Nat} {v : Value} {xs : List α} {P el ds Q : List Value} {j : Nat} {x y : α}
    (hp : Parts d (fun k => v.ownBlock ≠ some k) w xs (P ++ (el ++ Q))) (hx : xs[j]? = some x) (hP : P.length = j * d.sz) (he : el.length = d.sz)
    (far : ∀ k, v.ownBlock ≠ some k → w'.heap[k]? = w.heap[k]?) (hr : d.R (fun k => v.ownBlock ≠ some k) w' y ds) (hown : w'.ownsRow base e d.sz v xs.length (P ++ (ds ++ Q))) :
    OwnX d e w' base v (xs.set j y) :=
  ⟨P ++ (ds ++ Q), by rw [List.length_set]; exact hown, fun k hk hn => hn hk, Parts.put (hp.move fun k hk _ => ⟨far k hk, hk⟩) hx hP he hr⟩

theorem set_mid {α : Type} (P X : List α) (i : Nat) (u : α) : (P ++ X).set (P.length + i) u = P ++ X.set i u := by
  rw [List.set_append_right _ _ (by omega), Nat.add_sub_cancel_left]

/-- An own row that has elements. -/
theorem OwnX.form {α : Type} {d : Kd α} {e : TypeId} {w : World} {base : Nat} {v : Value} {xs : List α} (h : OwnX d e w base v xs) (hp : 0 < xs.length) : ∃ g cap, v = .slice (some ⟨g, 0, none⟩) xs.length cap ∧ base ≤ g ∧ g < w.heap.size := by
  obtain ⟨cs, ⟨hl, h1⟩, _⟩ := h
  rcases h1 with ⟨_, h0⟩ | ⟨g, cap, cur, rfl, hg, hh, _⟩
  · omega
  · exact ⟨g, cap, rfl, hg, (Array.getElem?_eq_some_iff.1 hh).1⟩
end Go.Proofs.YtkgghnjpegpnlaaGreatDoor
