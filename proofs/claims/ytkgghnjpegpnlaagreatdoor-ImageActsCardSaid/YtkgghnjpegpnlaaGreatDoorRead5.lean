/- image.part, read at the text that 'alive' meets. Conditions: the library's variables are laid. -/
import Derived.Test.YtkgghnjpegpnlaaGreatDoorText
namespace Go.Proofs.YtkgghnjpegpnlaaGreatDoor
open Go.RowKit Go.Proofs
set_option linter.unusedSimpArgs false
set_option linter.unusedVariables false
set_option maxRecDepth 100000

set_option maxHeartbeats 1000000 in
theorem part_dot (b : Nat) (w : World) (h1 : w.cell? ⟨b, 1, none⟩ = some (.int .i64 1)) (h2 : w.cell? ⟨b, 2, none⟩ = some (.string ⟨#[]⟩)) (f2 : w.frozen? ⟨b, 2, none⟩ = false) :
    Calls Tryz.prog 98 #[.pointer (some ⟨b, 1, none⟩), .string ⟨#[46]⟩] w fun e w' => e = .returned (.bool true) ∧ ∃ w1, Below w.heap.size w w1 ∧ w' = w1.setCell ⟨b, 2, none⟩ (.string ⟨#[]⟩) := by
  go_enter Tryz.func98, Tryz.ntmps98
  go_wp2_with (go_at_call 96; refine (unhex_dot _).mono ?_; rintro e w1 ⟨rfl, b1⟩; have k1 := (b1.cell (World.block_lt_of_cell? w _ h1)).trans h1; have k2 := (b1.cell (World.block_lt_of_cell? w _ h2)).trans h2; have kf := (b1.frozen (World.block_lt_of_cell? w _ h2)).trans f2)
  go_ret
  exact ⟨rfl, w1, b1, rfl⟩

/-- bytealg.MaxLen is some number: what Split and Cut want. -/
theorem split5 (w : World) (hL : Laid w) : Calls Tryz.prog 94 #[.string ⟨#[115, 116, 114, 105, 110, 103, 32, 54, 98, 32, 53, 32, 46]⟩, .string ⟨#[32]⟩] w fun e w' => e = .returned (.slice (some ⟨w.heap.size, 0, none⟩) 4 4) ∧ w' = w.alloc (.cells #[.string ⟨#[115, 116, 114, 105, 110, 103]⟩, .string ⟨#[54, 98]⟩, .string ⟨#[53]⟩, .string ⟨#[46]⟩] 9) := by
  obtain ⟨_, m, hm⟩ := hL
  have h := Any.strings_Split { Tryz.laysM146 with } Tryz.laysM146.i9 ⟨#[115, 116, 114, 105, 110, 103, 32, 54, 98, 32, 53, 32, 46]⟩ ⟨#[32]⟩ m w (by decide) hm (by decide)
  have e1 : Lib.countB ⟨#[115, 116, 114, 105, 110, 103, 32, 54, 98, 32, 53, 32, 46]⟩ ⟨#[32]⟩ = 3 := by kernel_rfl
  have e2 : Lib.splitB ⟨#[32]⟩ 0 3 ⟨#[115, 116, 114, 105, 110, 103, 32, 54, 98, 32, 53, 32, 46]⟩ = [⟨#[115, 116, 114, 105, 110, 103]⟩, ⟨#[54, 98]⟩, ⟨#[53]⟩, ⟨#[46]⟩] := by kernel_rfl
  rw [e1, e2] at h
  exact h

theorem index5 (g : Nat) (w : World) (h : w.heap[g]? = some (.cells #[.string ⟨#[]⟩, .string ⟨#[115, 116, 114, 105, 110, 103]⟩, .string ⟨#[108, 105, 115, 116]⟩, .string ⟨#[115, 101, 116]⟩, .string ⟨#[122, 115, 101, 116]⟩, .string ⟨#[104, 97, 115, 104]⟩] 9 (0, 0))) :
    Calls Tryz.prog 95 #[.slice (some ⟨g, 0, none⟩) 6 6, .string ⟨#[115, 116, 114, 105, 110, 103]⟩] w fun e w' => e = .returned (.int .i64 1) ∧ w' = w := by
  have hi := Tryz.slices_Index_string g 0 6 6 [⟨#[]⟩, ⟨#[115, 116, 114, 105, 110, 103]⟩, ⟨#[108, 105, 115, 116]⟩, ⟨#[115, 101, 116]⟩, ⟨#[122, 115, 101, 116]⟩, ⟨#[104, 97, 115, 104]⟩] ⟨#[115, 116, 114, 105, 110, 103]⟩ w (by decide) (by decide) (fun j hj => by
    rw [Nat.zero_add]
    refine cell_of_alone (cs := [.string ⟨#[]⟩, .string ⟨#[115, 116, 114, 105, 110, 103]⟩, .string ⟨#[108, 105, 115, 116]⟩, .string ⟨#[115, 101, 116]⟩, .string ⟨#[122, 115, 101, 116]⟩, .string ⟨#[104, 97, 115, 104]⟩]) h j _ ?_
    match j, hj with
    | 0, _ => rfl
    | 1, _ => rfl
    | 2, _ => rfl
    | 3, _ => rfl
    | 4, _ => rfl
    | 5, _ => rfl
    | j + 6, hj => exact absurd hj (by simp))
  have e1 : Lib.idxOfS (([⟨#[]⟩, ⟨#[115, 116, 114, 105, 110, 103]⟩, ⟨#[108, 105, 115, 116]⟩, ⟨#[115, 101, 116]⟩, ⟨#[122, 115, 101, 116]⟩, ⟨#[104, 97, 115, 104]⟩] : List ByteArray).take 6) ⟨#[115, 116, 114, 105, 110, 103]⟩ = 1 := by kernel_rfl
  rw [e1] at hi
  exact hi

def readE : DEntry := ⟨⟨#[107]⟩, ⟨1, ⟨#[]⟩, [], [], []⟩, 5⟩
theorem readE_R (S : Nat → Prop) (w : World) : kEntry.R S w readE [.string ⟨#[107]⟩, .int .i64 1, .string ⟨#[]⟩, .slice none 0 0, .slice none 0 0, .slice none 0 0, .int .i64 5] :=
  ⟨none, 0, none, 0, none, 0, rfl, ⟨by decide, by decide, by decide⟩, none, 0, none, 0, none, 0, rfl, by decide, by decide, by decide, by decide, by decide, by decide, Row.nil _ _ _ _, Row.nil _ _ _ _, Row.nil _ _ _ _⟩
theorem entry5 (w : World) : Calls Tryz.prog 22 #[.agg #[.string ⟨#[107]⟩, .int .i64 1, .string ⟨#[]⟩, .slice none 0 0, .slice none 0 0, .slice none 0 0, .int .i64 5]] w fun e w' => e = .returned (.bool true) ∧ Below w.heap.size w w' := by
  have h := entry (cs := [.string ⟨#[107]⟩, .int .i64 1, .string ⟨#[]⟩, .slice none 0 0, .slice none 0 0, .slice none 0 0, .int .i64 5]) (readE_R (fun _ => True) w)
  have e1 : entryB readE = true := by kernel_rfl
  rw [e1] at h
  exact h

def Box5 (W : World) (b : Nat) : Prop := Box W b [.string ⟨#[107]⟩, .int .i64 1, .string ⟨#[]⟩, .slice none 0 0, .slice none 0 0, .slice none 0 0, .int .i64 5]
set_option maxHeartbeats 8000000 in
theorem read5 (w : World) (hL : Laid w) : Calls Tryz.prog 64 #[.string ⟨#[115, 116, 114, 105, 110, 103, 32, 54, 98, 32, 53, 32, 46]⟩] w fun e w' => e = .returned (.tuple #[.agg #[.string ⟨#[107]⟩, .int .i64 1, .string ⟨#[]⟩, .slice none 0 0, .slice none 0 0, .slice none 0 0, .int .i64 5], .bool true]) ∧ Below w.heap.size w w' := by
  have HL := Lib.hid hL
  clear hL
  go_enter Tryz.func64, Tryz.ntmps64
  go_upto_region 1 with fail
  refine wp_name fun W1 hW1 => ?_
  have bx1 : Box W1 w.heap.size [.string ⟨#[]⟩, .int .i64 0, .string ⟨#[]⟩, .slice none 0 0, .slice none 0 0, .slice none 0 0, .int .i64 0] := by
    rw [hW1]
    exact box7 (by go_simp) (by go_simp) (by go_simp) (by go_simp) (by go_simp) (by go_simp) (by go_simp) (by go_simp) (by go_simp) (by go_simp) (by go_simp) (by go_simp) (by go_simp) (by go_simp)
  have B1 : Below w.heap.size w W1 := by rw [hW1]; exact (Below.refl _ _).alloc (Nat.le_refl _) _
  have HB1 := Lib.hid B1
  have HX1 := Lib.hid bx1
  clear hW1 B1 bx1
  go_wp2_with fail
  refine (split5 W1 (HL.out.below HB1.out)).mono ?_
  rintro e w2 ⟨rfl, hw2⟩
  have b2 : Below W1.heap.size W1 w2 := by rw [hw2]; exact (Below.refl _ _).alloc (Nat.le_refl _) _
  have hs2 : w2.heap[W1.heap.size]? = some (.cells #[.string ⟨#[115, 116, 114, 105, 110, 103]⟩, .string ⟨#[54, 98]⟩, .string ⟨#[53]⟩, .string ⟨#[46]⟩] 9 (0, 0)) := by rw [hw2]; exact heap_alloc_new W1 _
  obtain ⟨sb, hsb⟩ : ∃ sb, sb = W1.heap.size := ⟨_, rfl⟩
  rw [← hsb] at hs2 ⊢
  have HS2 := Lib.hid hs2
  have HB2 := Lib.hid (below_trans' HB1.out b2)
  have HX2 := Lib.hid (HX1.out.below b2)
  clear hw2 b2 hs2 hsb HX1 HB1
  have s0 : w2.cell? ⟨sb, 0, none⟩ = some (.string ⟨#[115, 116, 114, 105, 110, 103]⟩) := cell_of_alone (cs := [.string ⟨#[115, 116, 114, 105, 110, 103]⟩, .string ⟨#[54, 98]⟩, .string ⟨#[53]⟩, .string ⟨#[46]⟩]) HS2.out 0 _ rfl
  have s0l : sb < w2.heap.size := World.block_lt_of_cell? w2 _ s0
  go_wp2_with fail
  refine (index5 w2.heap.size _ (heap_alloc_new w2 _)).mono ?_
  rintro e w3 ⟨rfl, hw3⟩
  have b3 : Below w2.heap.size w2 w3 := by rw [hw3]; exact (Below.refl _ _).alloc (Nat.le_refl _) _
  have HS3 : Hid (w3.heap[sb]? = _) := Lib.hid ((b3.block sb s0l).trans HS2.out)
  have HB3 := Lib.hid (below_trans' HB2.out b3)
  have HX3 := Lib.hid (HX2.out.below b3)
  clear hw3 b3 s0 s0l HS2 HB2 HX2
  have s1 : w3.cell? ⟨sb, 1, none⟩ = some (.string ⟨#[54, 98]⟩) := cell_of_alone (cs := [.string ⟨#[115, 116, 114, 105, 110, 103]⟩, .string ⟨#[54, 98]⟩, .string ⟨#[53]⟩, .string ⟨#[46]⟩]) HS3.out 1 _ rfl
  go_wp2_with fail
  refine (unhex_6b w3).mono ?_
  rintro e w4 ⟨rfl, b4⟩
  have HS4 : Hid (w4.heap[sb]? = _) := Lib.hid ((b4.block sb (World.block_lt_of_cell? w3 _ s1)).trans HS3.out)
  have HB4 := Lib.hid (below_trans' HB3.out b4)
  have HX4 := Lib.hid (HX3.out.below b4)
  clear b4 s1 HS3 HB3 HX3
  go_upto_region 9 with fail
  refine wp_name fun W5 hW5 => ?_
  have bx5 : Box W5 w4.heap.size [.string ⟨#[107]⟩, .int .i64 1, .string ⟨#[]⟩, .slice none 0 0, .slice none 0 0, .slice none 0 0, .int .i64 (-1)] := by
    rw [hW5]
    exact box7 (by go_simp) (by go_simp) (by go_simp) (by go_simp) (by go_simp) (by go_simp) (by go_simp) (by go_simp) (by go_simp) (by go_simp) (by go_simp) (by go_simp) (by go_simp) (by go_simp)
  have b5 : Below w4.heap.size w4 W5 := by
    rw [hW5]
    repeat (refine Below.setCell ?_ ?_ _)
    all_goals (first | exact Nat.le_refl _ | exact (Below.refl _ _).alloc (Nat.le_refl _) _)
  clear hW5
  have s2 : W5.cell? ⟨sb, 2, none⟩ = some (.string ⟨#[53]⟩) := (b5.cell (World.block_lt_of_cell? w4 ⟨sb, 2, none⟩ (cell_of_alone (cs := [.string ⟨#[115, 116, 114, 105, 110, 103]⟩, .string ⟨#[54, 98]⟩, .string ⟨#[53]⟩, .string ⟨#[46]⟩]) HS4.out 2 _ rfl))).trans (cell_of_alone (cs := [.string ⟨#[115, 116, 114, 105, 110, 103]⟩, .string ⟨#[54, 98]⟩, .string ⟨#[53]⟩, .string ⟨#[46]⟩]) HS4.out 2 _ rfl)
  have HS5 : Hid (W5.heap[sb]? = _) := Lib.hid ((b5.block sb (Array.getElem?_eq_some_iff.1 HS4.out).1).trans HS4.out)
  have HB5 := Lib.hid (below_trans' HB4.out b5)
  have HX5 := Lib.hid (HX4.out.below b5)
  have HE5 := Lib.hid bx5
  have hz : w.heap.size < w4.heap.size := World.block_lt_of_cell? w4 _ (HX4.out 0 _ rfl).1
  clear b5 bx5 HS4 HX4
  obtain ⟨eb, heb⟩ : ∃ eb, eb = w4.heap.size := ⟨_, rfl⟩
  rw [← heb] at HE5 hz ⊢
  have HEB := Lib.hid heb
  clear heb
  go_wp2_with fail
  refine (parse5 W5 (HL.out.below HB5.out)).mono ?_
  rintro e w6 ⟨rfl, b6⟩
  have HS6 : Hid (w6.heap[sb]? = _) := Lib.hid ((b6.block sb (Array.getElem?_eq_some_iff.1 HS5.out).1).trans HS5.out)
  have HB6 := Lib.hid (below_trans' HB5.out b6)
  have HX6 := Lib.hid (HX5.out.below b6)
  have HE6 := Lib.hid (HE5.out.below b6)
  clear b6 s2 HS5 HX5 HE5
  have e0 : w6.cell? ⟨eb, 0, none⟩ = some (.string ⟨#[107]⟩) := (HE6.out 0 _ rfl).1
  have ef0 : w6.frozen? ⟨eb, 0, none⟩ = false := (HE6.out 0 _ rfl).2
  have e1 : w6.cell? ⟨eb, 1, none⟩ = some (.int .i64 1) := (HE6.out 1 _ rfl).1
  have ef1 : w6.frozen? ⟨eb, 1, none⟩ = false := (HE6.out 1 _ rfl).2
  have e2 : w6.cell? ⟨eb, 2, none⟩ = some (.string ⟨#[]⟩) := (HE6.out 2 _ rfl).1
  have ef2 : w6.frozen? ⟨eb, 2, none⟩ = false := (HE6.out 2 _ rfl).2
  have e3 : w6.cell? ⟨eb, 3, none⟩ = some (.slice none 0 0) := (HE6.out 3 _ rfl).1
  have ef3 : w6.frozen? ⟨eb, 3, none⟩ = false := (HE6.out 3 _ rfl).2
  have e4 : w6.cell? ⟨eb, 4, none⟩ = some (.slice none 0 0) := (HE6.out 4 _ rfl).1
  have ef4 : w6.frozen? ⟨eb, 4, none⟩ = false := (HE6.out 4 _ rfl).2
  have e5 : w6.cell? ⟨eb, 5, none⟩ = some (.slice none 0 0) := (HE6.out 5 _ rfl).1
  have ef5 : w6.frozen? ⟨eb, 5, none⟩ = false := (HE6.out 5 _ rfl).2
  have e6 : w6.cell? ⟨eb, 6, none⟩ = some (.int .i64 (-1)) := (HE6.out 6 _ rfl).1
  have ef6 : w6.frozen? ⟨eb, 6, none⟩ = false := (HE6.out 6 _ rfl).2
  have s3 : w6.cell? ⟨sb, 3, none⟩ = some (.string ⟨#[46]⟩) := cell_of_alone (cs := [.string ⟨#[115, 116, 114, 105, 110, 103]⟩, .string ⟨#[54, 98]⟩, .string ⟨#[53]⟩, .string ⟨#[46]⟩]) HS6.out 3 _ rfl
  go_upto_region 14 with fail
  refine wp_name fun W7 hW7 => ?_
  have bx7 : Box5 W7 eb := by
    rw [hW7]
    exact box7 (by go_simp) (by go_simp) (by go_simp) (by go_simp) (by go_simp) (by go_simp) (by go_simp) (by go_simp) (by go_simp) (by go_simp) (by go_simp) (by go_simp) (by go_simp) (by go_simp)
  have far7 : ∀ k, k ≠ eb → W7.heap[k]? = w6.heap[k]? := fun k hk => by rw [hW7]; repeat rw [Below.heap_setCell _ _ _ _ hk]
  have b7 : Below w.heap.size w W7 := by
    rw [hW7]
    repeat (refine Below.setCell ?_ ?_ _)
    all_goals (first | exact HB6.out | exact Nat.le_of_lt hz)
  have hse : sb ≠ eb := by
    intro h
    have h1 := HS6.out
    have h2 : w6.cell? ⟨sb, 1, none⟩ = some (.string ⟨#[54, 98]⟩) := cell_of_alone (cs := [.string ⟨#[115, 116, 114, 105, 110, 103]⟩, .string ⟨#[54, 98]⟩, .string ⟨#[53]⟩, .string ⟨#[46]⟩]) HS6.out 1 _ rfl
    rw [h, e1] at h2
    cases h2
  have HS7 : Hid (W7.heap[sb]? = _) := Lib.hid ((far7 sb hse).trans HS6.out)
  have HX7 : Hid (Box W7 w.heap.size [.string ⟨#[]⟩, .int .i64 0, .string ⟨#[]⟩, .slice none 0 0, .slice none 0 0, .slice none 0 0, .int .i64 0]) := fun i u hi =>
    ⟨(cell_moved (far7 w.heap.size (Nat.ne_of_lt hz)) i).trans (HX6.out i u hi).1, (World.frozen?_of_block (a := ⟨w.heap.size, i, none⟩) (far7 w.heap.size (Nat.ne_of_lt hz))).trans (HX6.out i u hi).2⟩
  have HE7 := Lib.hid bx7
  have HB7 := Lib.hid b7
  clear hW7 bx7 far7 b7 e0 ef0 e1 ef1 e2 ef2 e3 ef3 e4 ef4 e5 ef5 e6 ef6 s3 HS6 HX6 HE6 HB6
  have k3 : W7.cell? ⟨sb, 3, none⟩ = some (.string ⟨#[46]⟩) := cell_of_alone (cs := [.string ⟨#[115, 116, 114, 105, 110, 103]⟩, .string ⟨#[54, 98]⟩, .string ⟨#[53]⟩, .string ⟨#[46]⟩]) HS7.out 3 _ rfl
  go_wp2
  clear k3
  go_loopg [69] 2 (fun gg s69 wr => ∃ k : Nat, k ≤ 1 ∧ 2 - k ≤ gg ∧ s69 = .int .i64 k ∧ Hid (Box5 wr eb) ∧ Hid (Box wr w.heap.size [.string ⟨#[]⟩, .int .i64 0, .string ⟨#[]⟩, .slice none 0 0, .slice none 0 0, .slice none 0 0, .int .i64 0]) ∧ Hid (Below w.heap.size w wr) ∧ Hid (k = 0 → wr = W7))
  case atStart => exact ⟨0, by omega, by omega, rfl, HE7.out, HX7.out, HB7.out, fun _ => rfl⟩
  case round =>
    obtain ⟨k, hk, hg, rfl, HE, HX, HB, HW⟩ := hrel
    by_cases h0 : k = 0
    · subst h0
      have hw := HW.out rfl
      have k3 : wr.cell? ⟨sb, 3, none⟩ = some (.string ⟨#[46]⟩) := by rw [hw]; exact cell_of_alone (cs := [.string ⟨#[115, 116, 114, 105, 110, 103]⟩, .string ⟨#[54, 98]⟩, .string ⟨#[53]⟩, .string ⟨#[46]⟩]) HS7.out 3 _ rfl
      clear hw HW
      have hp := part_dot eb wr (HE.out 1 _ rfl).1 (HE.out 2 _ rfl).1 (HE.out 2 _ rfl).2
      go_wp2_with fail
      refine hp.mono ?_
      clear hp
      rintro e w8 ⟨rfl, w9, b9, hw8⟩
      have far8 : ∀ k, k ≠ eb → w8.heap[k]? = w9.heap[k]? := fun k hk => by rw [hw8]; exact Below.heap_setCell _ _ _ _ hk
      have HX8 : Hid (Box w8 w.heap.size [.string ⟨#[]⟩, .int .i64 0, .string ⟨#[]⟩, .slice none 0 0, .slice none 0 0, .slice none 0 0, .int .i64 0]) := fun i u hi =>
        ⟨(cell_moved (far8 w.heap.size (Nat.ne_of_lt hz)) i).trans ((HX.out.below b9) i u hi).1, (World.frozen?_of_block (a := ⟨w.heap.size, i, none⟩) (far8 w.heap.size (Nat.ne_of_lt hz))).trans ((HX.out.below b9) i u hi).2⟩
      have bx9 := HE.out.below b9
      have e0 : w9.cell? ⟨eb, 0, none⟩ = some (.string ⟨#[107]⟩) := (bx9 0 _ rfl).1
      have ef0 : w9.frozen? ⟨eb, 0, none⟩ = false := (bx9 0 _ rfl).2
      have e1 : w9.cell? ⟨eb, 1, none⟩ = some (.int .i64 1) := (bx9 1 _ rfl).1
      have ef1 : w9.frozen? ⟨eb, 1, none⟩ = false := (bx9 1 _ rfl).2
      have e2 : w9.cell? ⟨eb, 2, none⟩ = some (.string ⟨#[]⟩) := (bx9 2 _ rfl).1
      have ef2 : w9.frozen? ⟨eb, 2, none⟩ = false := (bx9 2 _ rfl).2
      have e3 : w9.cell? ⟨eb, 3, none⟩ = some (.slice none 0 0) := (bx9 3 _ rfl).1
      have ef3 : w9.frozen? ⟨eb, 3, none⟩ = false := (bx9 3 _ rfl).2
      have e4 : w9.cell? ⟨eb, 4, none⟩ = some (.slice none 0 0) := (bx9 4 _ rfl).1
      have ef4 : w9.frozen? ⟨eb, 4, none⟩ = false := (bx9 4 _ rfl).2
      have e5 : w9.cell? ⟨eb, 5, none⟩ = some (.slice none 0 0) := (bx9 5 _ rfl).1
      have ef5 : w9.frozen? ⟨eb, 5, none⟩ = false := (bx9 5 _ rfl).2
      have e6 : w9.cell? ⟨eb, 6, none⟩ = some (.int .i64 5) := (bx9 6 _ rfl).1
      have ef6 : w9.frozen? ⟨eb, 6, none⟩ = false := (bx9 6 _ rfl).2
      have HE8 : Hid (Box5 w8 eb) := by
        show Box w8 eb _
        rw [hw8]
        exact box7 (by go_simp) (by go_simp) (by go_simp) (by go_simp) (by go_simp) (by go_simp) (by go_simp) (by go_simp) (by go_simp) (by go_simp) (by go_simp) (by go_simp) (by go_simp) (by go_simp)
      have HB8 : Hid (Below w.heap.size w w8) := by
        show Below _ _ _
        rw [hw8]
        exact (below_trans' HB.out b9).setCell (p := ⟨eb, 2, none⟩) (Nat.le_of_lt hz) _
      clear hw8 far8 bx9 b9 k3 e0 ef0 e1 ef1 e2 ef2 e3 ef3 e4 ef4 e5 ef5 e6 ef6
      go_wp2
      go_roundg 1
      case rel => exact ⟨1, by omega, by omega, rfl, HE8.out, HX8.out, HB8.out, fun h => by cases h⟩
      case measure => omega
    · obtain rfl : k = 1 := by omega
      clear HW
      go_upto_region 20 with fail
      have e0 : wr.cell? ⟨eb, 0, none⟩ = some (.string ⟨#[107]⟩) := (HE.out 0 _ rfl).1
      have e1 : wr.cell? ⟨eb, 1, none⟩ = some (.int .i64 1) := (HE.out 1 _ rfl).1
      have e2 : wr.cell? ⟨eb, 2, none⟩ = some (.string ⟨#[]⟩) := (HE.out 2 _ rfl).1
      have e3 : wr.cell? ⟨eb, 3, none⟩ = some (.slice none 0 0) := (HE.out 3 _ rfl).1
      have e4 : wr.cell? ⟨eb, 4, none⟩ = some (.slice none 0 0) := (HE.out 4 _ rfl).1
      have e5 : wr.cell? ⟨eb, 5, none⟩ = some (.slice none 0 0) := (HE.out 5 _ rfl).1
      have e6 : wr.cell? ⟨eb, 6, none⟩ = some (.int .i64 5) := (HE.out 6 _ rfl).1
      have HWR := Lib.hid (Below.refl wr.heap.size wr).drew
      go_region_law (first
        | (go_simp; go_at_call 22; refine (entry5 _).mono ?_; rintro e w10 ⟨rfl, b10⟩; have B10 := below_trans' HWR.out b10; have HBX10 := Lib.hid (HE.out.below B10); have HRX10 := Lib.hid (HX.out.below B10); have HB10 := Lib.hid (below_trans' HB.out B10); have p0 : w10.cell? ⟨eb, 0, none⟩ = some (.string ⟨#[107]⟩) := (HBX10.out 0 _ rfl).1; have p1 : w10.cell? ⟨eb, 1, none⟩ = some (.int .i64 1) := (HBX10.out 1 _ rfl).1; have p2 : w10.cell? ⟨eb, 2, none⟩ = some (.string ⟨#[]⟩) := (HBX10.out 2 _ rfl).1; have p3 : w10.cell? ⟨eb, 3, none⟩ = some (.slice none 0 0) := (HBX10.out 3 _ rfl).1; have p4 : w10.cell? ⟨eb, 4, none⟩ = some (.slice none 0 0) := (HBX10.out 4 _ rfl).1; have p5 : w10.cell? ⟨eb, 5, none⟩ = some (.slice none 0 0) := (HBX10.out 5 _ rfl).1; have p6 : w10.cell? ⟨eb, 6, none⟩ = some (.int .i64 5) := (HBX10.out 6 _ rfl).1; clear B10 b10)
        | (go_simp; go_at_call 59; refine (line5 _ (HL.out.below HB10.out)).mono ?_; rintro e w11 ⟨rfl, b11⟩; have HBX11 := Lib.hid (HBX10.out.below b11); have HRX11 := Lib.hid (HRX10.out.below b11); have HB11 := Lib.hid (below_trans' HB10.out b11); have q0 : w11.cell? ⟨eb, 0, none⟩ = some (.string ⟨#[107]⟩) := (HBX11.out 0 _ rfl).1; have q1 : w11.cell? ⟨eb, 1, none⟩ = some (.int .i64 1) := (HBX11.out 1 _ rfl).1; have q2 : w11.cell? ⟨eb, 2, none⟩ = some (.string ⟨#[]⟩) := (HBX11.out 2 _ rfl).1; have q3 : w11.cell? ⟨eb, 3, none⟩ = some (.slice none 0 0) := (HBX11.out 3 _ rfl).1; have q4 : w11.cell? ⟨eb, 4, none⟩ = some (.slice none 0 0) := (HBX11.out 4 _ rfl).1; have q5 : w11.cell? ⟨eb, 5, none⟩ = some (.slice none 0 0) := (HBX11.out 5 _ rfl).1; have q6 : w11.cell? ⟨eb, 6, none⟩ = some (.int .i64 5) := (HBX11.out 6 _ rfl).1; have r0 : w11.cell? ⟨w.heap.size, 0, none⟩ = some (.string ⟨#[]⟩) := (HRX11.out 0 _ rfl).1; have rf0 : w11.frozen? ⟨w.heap.size, 0, none⟩ = false := (HRX11.out 0 _ rfl).2; have r1 : w11.cell? ⟨w.heap.size, 1, none⟩ = some (.int .i64 0) := (HRX11.out 1 _ rfl).1; have rf1 : w11.frozen? ⟨w.heap.size, 1, none⟩ = false := (HRX11.out 1 _ rfl).2; have r2 : w11.cell? ⟨w.heap.size, 2, none⟩ = some (.string ⟨#[]⟩) := (HRX11.out 2 _ rfl).1; have rf2 : w11.frozen? ⟨w.heap.size, 2, none⟩ = false := (HRX11.out 2 _ rfl).2; have r3 : w11.cell? ⟨w.heap.size, 3, none⟩ = some (.slice none 0 0) := (HRX11.out 3 _ rfl).1; have rf3 : w11.frozen? ⟨w.heap.size, 3, none⟩ = false := (HRX11.out 3 _ rfl).2; have r4 : w11.cell? ⟨w.heap.size, 4, none⟩ = some (.slice none 0 0) := (HRX11.out 4 _ rfl).1; have rf4 : w11.frozen? ⟨w.heap.size, 4, none⟩ = false := (HRX11.out 4 _ rfl).2; have r5 : w11.cell? ⟨w.heap.size, 5, none⟩ = some (.slice none 0 0) := (HRX11.out 5 _ rfl).1; have rf5 : w11.frozen? ⟨w.heap.size, 5, none⟩ = false := (HRX11.out 5 _ rfl).2; have r6 : w11.cell? ⟨w.heap.size, 6, none⟩ = some (.int .i64 0) := (HRX11.out 6 _ rfl).1; have rf6 : w11.frozen? ⟨w.heap.size, 6, none⟩ = false := (HRX11.out 6 _ rfl).2; clear b11))
      all_goals go_wp2
      all_goals refine bodyPost_ret (v := .tuple #[.agg #[.string ⟨#[107]⟩, .int .i64 1, .string ⟨#[]⟩, .slice none 0 0, .slice none 0 0, .slice none 0 0, .int .i64 5], .bool true]) (by simp [results, Tryz.results64, go_sem, r0, r1, r2, r3, r4, r5, r6]) rfl ⟨rfl, ?_⟩
      all_goals (repeat (refine Below.setCell ?_ ?_ _))
      all_goals (first | exact HB11.out | exact Nat.le_refl _)
end Go.Proofs.YtkgghnjpegpnlaaGreatDoor
