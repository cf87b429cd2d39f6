/- Boxes: entries that lie in blocks of their own; pairs of rows of one entry. Conditions stand in each statement. -/
import Derived.Test.YtkgghnjpegpnlaaGreatDoorSame
import Derived.Test.YtkgghnjpegpnlaaGreatDoorCut
import Derived.Test.YtkgghnjpegpnlaaGreatDoorPutlaw
import Derived.Test.YtkgghnjpegpnlaaGreatDoorRfind
import Derived.Test.YtkgghnjpegpnlaaGreatDoorRcheck
namespace Go.Proofs.YtkgghnjpegpnlaaGreatDoor
open Go.RowKit Go.Proofs
set_option linter.unusedSimpArgs false
set_option linter.unusedVariables false
set_option maxRecDepth 100000

/-- The world gets a name. -/
theorem wp_name {P : Program} {c : Code} {Q : Exit → Act → World → Prop} {a : Act} {w : World} (h : ∀ W, W = w → Code.wp P c Q a W) : Code.wp P c Q a w := h w rfl

def Box (W : World) (b : Nat) (cs : List Value) : Prop := ∀ i u, cs[i]? = some u → W.cell? ⟨b, i, none⟩ = some u ∧ W.frozen? ⟨b, i, none⟩ = false
theorem Box.below {W W' : World} {b : Nat} {cs : List Value} (h : Box W b cs) (hb : Below W.heap.size W W') : Box W' b cs := fun i u hi =>
  ⟨(hb.cell (World.block_lt_of_cell? W _ (h i u hi).1)).trans (h i u hi).1, (hb.frozen (World.block_lt_of_cell? W _ (h i u hi).1)).trans (h i u hi).2⟩
theorem box7 {W : World} {b : Nat} {u0 u1 u2 u3 u4 u5 u6 : Value} (h0 : W.cell? ⟨b, 0, none⟩ = some u0) (h1 : W.cell? ⟨b, 1, none⟩ = some u1) (h2 : W.cell? ⟨b, 2, none⟩ = some u2) (h3 : W.cell? ⟨b, 3, none⟩ = some u3) (h4 : W.cell? ⟨b, 4, none⟩ = some u4) (h5 : W.cell? ⟨b, 5, none⟩ = some u5) (h6 : W.cell? ⟨b, 6, none⟩ = some u6)
    (k0 : W.frozen? ⟨b, 0, none⟩ = false) (k1 : W.frozen? ⟨b, 1, none⟩ = false) (k2 : W.frozen? ⟨b, 2, none⟩ = false) (k3 : W.frozen? ⟨b, 3, none⟩ = false) (k4 : W.frozen? ⟨b, 4, none⟩ = false) (k5 : W.frozen? ⟨b, 5, none⟩ = false) (k6 : W.frozen? ⟨b, 6, none⟩ = false) : Box W b [u0, u1, u2, u3, u4, u5, u6] := by
  intro i u hi
  match i, hi with
  | 0, hi => cases hi; exact ⟨h0, k0⟩
  | 1, hi => cases hi; exact ⟨h1, k1⟩
  | 2, hi => cases hi; exact ⟨h2, k2⟩
  | 3, hi => cases hi; exact ⟨h3, k3⟩
  | 4, hi => cases hi; exact ⟨h4, k4⟩
  | 5, hi => cases hi; exact ⟨h5, k5⟩
  | 6, hi => cases hi; exact ⟨h6, k6⟩
  | n + 7, hi => simp at hi

theorem row_one {W : World} {b : Nat} {x : DEntry} {cs : List Value} {t : TypeId} (hb : W.heap[b]? = some (.cells cs.toArray t (0, 0))) (hx : kEntry.R (fun _ => True) W x cs) : Row kEntry (fun _ => True) W (some ⟨b, 0, none⟩) [x] := by
  refine ⟨by simp, fun _ => ⟨b, 0, rfl, trivial, (Array.getElem?_eq_some_iff.1 hb).1, fun j y hy => ?_⟩⟩
  have hj : j = 0 := by
    have := (List.getElem?_eq_some_iff.1 hy).1
    simp at this
    exact this
  subst hj
  cases hy
  refine ⟨cs, hx, fun i u hu => ?_⟩
  rw [show 0 + 0 * kEntry.sz + i = i from by omega]
  exact cell_of_alone hb i u hu

theorem same_pair {W : World} {x y : DEntry} {cs ds : List Value} (hx : kEntry.R (fun _ => True) W x cs) (hy : kEntry.R (fun _ => True) W y ds) :
    Calls Tryz.prog 11 #[.slice (some ⟨W.heap.size, 0, none⟩) 1 1, .slice (some ⟨W.heap.size + 1, 0, none⟩) 1 1] ((W.alloc (.cells cs.toArray 30)).alloc (.cells ds.toArray 30)) fun e w' => e = .returned (.bool (eqE x y)) ∧ Below W.heap.size W w' := by
  have hB : Below W.heap.size W ((W.alloc (.cells cs.toArray 30)).alloc (.cells ds.toArray 30)) := ((Below.refl _ _).alloc (Nat.le_refl _) _).alloc (by simp) _
  have h1 : ((W.alloc (.cells cs.toArray 30)).alloc (.cells ds.toArray 30)).heap[W.heap.size]? = some (.cells cs.toArray 30 (0, 0)) := (Below.heap_alloc _ _ _ (by simp)).trans (heap_alloc_new W _)
  have h2 : ((W.alloc (.cells cs.toArray 30)).alloc (.cells ds.toArray 30)).heap[W.heap.size + 1]? = some (.cells ds.toArray 30 (0, 0)) := by
    have h := heap_alloc_new (W.alloc (.cells cs.toArray 30)) (.cells ds.toArray 30)
    rw [show (W.alloc (.cells cs.toArray 30)).heap.size = W.heap.size + 1 from by simp] at h
    exact h
  have h := Same9 (c := 1) (d := 1) (row_one h1 (kEntry.move (below_moves hB) hx)) (row_one h2 (kEntry.move (below_moves hB) hy))
  refine Calls.mono (show Calls Tryz.prog 11 #[.slice (some ⟨W.heap.size, 0, none⟩) 1 1, .slice (some ⟨W.heap.size + 1, 0, none⟩) 1 1] _ _ from h) ?_
  rintro e w' ⟨rfl, hb⟩
  exact ⟨by simp [eqRows], below_trans' hB hb⟩

theorem few_fits (v : DVal) : valFits (fewD v) := by
  unfold valFits fewD
  simp only [List.length_take]
  omega
theorem cut_fits (l : List DEntry) : rowFits (cutD l) := by
  refine ⟨by unfold cutD; simp only [List.length_map, List.length_take]; omega, fun e he => ?_⟩
  obtain ⟨x, _, rfl⟩ := List.mem_map.1 he
  exact few_fits x.v
theorem put_fits {l : List DEntry} {e : DEntry} {zs : List DEntry} (h : PutRel l e zs 0) (hl : rowFits l) (he : valFits e.v) : rowFits zs := by
  obtain ⟨_, _, ⟨hlen, hr, _⟩, hm, hiff⟩ := put_img h
  refine ⟨by omega, fun x hx => ?_⟩
  by_cases hk : x.key = e.key
  · have h1 := findD_mem hr hx
    rw [hk, put_found h] at h1
    injection h1 with h1
    rw [← h1]
    exact he
  · exact hl.2 x ((hiff x hk).1 hx)
theorem del_fits {l : List DEntry} (hl : rowFits l) (key : ByteArray) : rowFits (delD l key).1 := by
  unfold delD
  cases hi : l.findIdx? (keyB key) with
  | none => exact hl
  | some i =>
    have hsub : (l.take i ++ l.drop (i + 1)).Sublist l := by
      have := List.eraseIdx_sublist l i
      rwa [List.eraseIdx_eq_take_drop_succ] at this
    exact ⟨Nat.le_trans (Nat.mul_le_mul_right _ hsub.length_le) hl.1, fun e he => hl.2 e (hsub.subset he)⟩
theorem fits_len {l : List DEntry} (hl : rowFits l) : l.length ≤ 140737488355328 := by have := hl.1; omega
end Go.Proofs.YtkgghnjpegpnlaaGreatDoor
