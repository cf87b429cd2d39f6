/- image.Check: is a row an image? Conditions: the row reads as the list. -/
import Derived.Test.YtkgghnjpegpnlaaGreatDoorRight
namespace Go.Proofs.YtkgghnjpegpnlaaGreatDoor
open Go.RowKit Go.Proofs
set_option linter.unusedSimpArgs false
set_option linter.unusedVariables false
set_option maxRecDepth 100000

set_option maxHeartbeats 400000 in
theorem check1 (S : Nat → Prop) (w : World) : PredK Tryz.prog kEntry aggOf 48 #[] (fun e => !entryB e) S w := by
  intro W x cs hx _
  have hr : ∀ W', Below W.heap.size W W' → Calls Tryz.prog 22 #[.agg cs.toArray] W' fun e w' => e = .returned (.bool (entryB x)) ∧ Below W'.heap.size W' w' := fun W' hb => entry (kEntry.move (below_moves hb) hx)
  obtain ⟨A1, c1, A2, c2, A3, c3, rfl, _⟩ := hx
  show Calls Tryz.prog 48 #[.agg #[.string x.key, .int .i64 x.v.kind, .string x.v.s, .slice A1 x.v.l.length c1, .slice A2 x.v.z.length c2, .slice A3 x.v.h.length c3, .int .i64 x.at_]] W fun e W' => e = .returned (.bool (!entryB x)) ∧ Below W.heap.size W W'
  generalize entryB x = r at hr ⊢
  go_enter Tryz.func48, Tryz.ntmps48
  go_wp2_with (go_at_call 22; refine (hr _ ((Below.refl _ _).alloc (Nat.le_refl _) _)).mono ?_; rintro e w' ⟨rfl, hA⟩)
  go_ret
  exact ⟨rfl, ((Below.refl _ _).alloc (Nat.le_refl _) _).trans (hA.mono (by simp))⟩
theorem enters_check1 : EntersF Tryz.prog 48 := enters_of Tryz.func48 (by kernel_rfl) rfl

def checkN (l : List DEntry) : Int := if 65536 < l.length then 3 else if risingB (fun x y => cmpS x.key y.key) l && !l.any (fun e => !entryB e) then 0 else 90

set_option maxHeartbeats 400000 in
theorem Check {S : Nat → Prop} {A : Option Addr} {l : List DEntry} {c : Nat} {w : World} (h : Row kEntry S w A l) :
    Calls Tryz.prog 21 #[.slice A l.length c] w fun e w' => e = .returned (.int .i64 (checkN l)) ∧ Below w.heap.size w w' := by
  have hl := h.1
  have hris := risingE 26 (fun x y => cmpS x.key y.key) S A l c w h (cmpK_byKey S w) enters_byKey
  have hany : ∀ W, Below w.heap.size w W → _ := fun W hb => ContainsFuncE 48 #[] (fun e => !entryB e) S A l c W (h.move (below_moves hb)) (check1 S W) enters_check1
  clear h
  by_cases hm : 65536 < l.length
  · have HR : Hid (checkN l = 3) := by unfold Hid checkN; rw [if_pos hm]
    have hm' : (65536 : Int) < (l.length : Int) := by omega
    clear hm hris hany
    go_enter Tryz.func21, Tryz.ntmps21
    go_wp2
    go_ret
    exact ⟨by rw [HR.out]; rfl, Below.refl _ _⟩
  · have HR : Hid (checkN l = if risingB (fun x y => cmpS x.key y.key) l && !l.any (fun e => !entryB e) then 0 else 90) := by unfold Hid checkN; rw [if_neg hm]
    have hm' : (l.length : Int) ≤ 65536 := by omega
    clear hm
    cases h1 : risingB (fun x y => cmpS x.key y.key) l with
    | false =>
      rw [h1] at hris HR
      clear hany
      go_enter Tryz.func21, Tryz.ntmps21
      go_wp2_with (go_at_call 46; refine hris.mono ?_; rintro e w' ⟨rfl, hA⟩)
      go_ret
      exact ⟨by rw [HR.out]; rfl, hA⟩
    | true =>
      rw [h1] at hris HR
      cases h2 : l.any (fun e => !entryB e) with
      | false =>
        simp only [h2] at hany HR
        go_enter Tryz.func21, Tryz.ntmps21
        go_wp2_with (first
          | (go_at_call 46; refine hris.mono ?_; rintro e w' ⟨rfl, hA⟩)
          | (go_at_call 47; refine (hany _ hA).mono ?_; rintro e w' ⟨rfl, hC⟩))
        go_ret
        exact ⟨by rw [HR.out]; rfl, below_trans' hA hC⟩
      | true =>
        simp only [h2] at hany HR
        go_enter Tryz.func21, Tryz.ntmps21
        go_wp2_with (first
          | (go_at_call 46; refine hris.mono ?_; rintro e w' ⟨rfl, hA⟩)
          | (go_at_call 47; refine (hany _ hA).mono ?_; rintro e w' ⟨rfl, hC⟩))
        go_ret
        exact ⟨by rw [HR.out]; rfl, below_trans' hA hC⟩
end Go.Proofs.YtkgghnjpegpnlaaGreatDoor
