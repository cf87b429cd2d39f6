/- millpondlaw09.known and image.Text at it. Conditions: the library's table is laid. -/
import Derived.Test.YtkgghnjpegpnlaaGreatDoorLine
namespace Go.Proofs.YtkgghnjpegpnlaaGreatDoor
open Go.RowKit Go.Proofs
set_option linter.unusedSimpArgs false
set_option linter.unusedVariables false
set_option maxRecDepth 100000

def knownE : DEntry := ⟨⟨#[107]⟩, ⟨4, ⟨#[]⟩, [], [⟨⟨#[98]⟩, -1⟩, ⟨⟨#[97]⟩, 3⟩], []⟩, -1⟩
/-- Where the row that 'known' makes lies. -/
def KnownAt (w : World) (zb b : Nat) : Prop := w.heap[zb]? = some (.cells #[.string ⟨#[98]⟩, .int .i64 (-1), .string ⟨#[97]⟩, .int .i64 3] 70 (0, 0)) ∧ w.heap[b]? = some (.cells #[.string ⟨#[107]⟩, .int .i64 4, .string ⟨#[]⟩, .slice none 0 0, .slice (some ⟨zb, 0, none⟩) 2 2, .slice none 0 0, .int .i64 (-1)] 30 (0, 0))

set_option maxHeartbeats 1000000 in
theorem known (w : World) : Calls Tryz.prog 29 #[] w fun e w' => ∃ zb b, e = .returned (.slice (some ⟨b, 0, none⟩) 1 1) ∧ KnownAt w' zb b ∧ Below w.heap.size w w' := by
  go_enter Tryz.func29, Tryz.ntmps29
  go_wp2
  go_ret
  refine ⟨w.heap.size, w.heap.size + 1, rfl, ⟨?_, ?_⟩, ((Below.refl _ _).alloc (Nat.le_refl _) _).alloc (by simp) _⟩
  · exact (Below.heap_alloc _ _ _ (by simp)).trans (heap_alloc_new w _)
  · have h := heap_alloc_new (w.alloc (.cells #[.string ⟨#[98]⟩, .int .i64 (-1), .string ⟨#[97]⟩, .int .i64 3] 70)) (.cells #[.string ⟨#[107]⟩, .int .i64 4, .string ⟨#[]⟩, .slice none 0 0, .slice (some ⟨w.heap.size, 0, none⟩) 2 2, .slice none 0 0, .int .i64 (-1)] 30)
    rw [show (w.alloc (.cells #[.string ⟨#[98]⟩, .int .i64 (-1), .string ⟨#[97]⟩, .int .i64 3] 70)).heap.size = w.heap.size + 1 from by simp] at h
    exact h

theorem KnownAt.below {w w' : World} {zb b : Nat} (h : KnownAt w zb b) (hb : Below w.heap.size w w') : KnownAt w' zb b :=
  ⟨(hb.block zb (Array.getElem?_eq_some_iff.1 h.1).1).trans h.1, (hb.block b (Array.getElem?_eq_some_iff.1 h.2).1).trans h.2⟩

theorem known_row {w : World} {zb b : Nat} (h : KnownAt w zb b) : Row kEntry (fun _ => True) w (some ⟨b, 0, none⟩) [knownE] := by
  have hz : Row kScored (fun _ => True) w (some ⟨zb, 0, none⟩) knownE.v.z := by
    refine Row.ofFlat (cs := [.string ⟨#[98]⟩, .int .i64 (-1), .string ⟨#[97]⟩, .int .i64 3]) (by decide) trivial (Array.getElem?_eq_some_iff.1 h.1).1 ?_ (fun j u hj => by rw [Nat.zero_add]; exact cell_of_alone (cs := [.string ⟨#[98]⟩, .int .i64 (-1), .string ⟨#[97]⟩, .int .i64 3]) h.1 j u hj)
    refine ⟨rfl, fun j x hx => ?_⟩
    match j, hx with
    | 0, hx => cases hx; exact ⟨rfl, by decide, by decide, by decide⟩
    | 1, hx => cases hx; exact ⟨rfl, by decide, by decide, by decide⟩
    | j + 2, hx => simp [knownE] at hx
  refine row_one (cs := [.string ⟨#[107]⟩, .int .i64 4, .string ⟨#[]⟩, .slice none 0 0, .slice (some ⟨zb, 0, none⟩) 2 2, .slice none 0 0, .int .i64 (-1)]) h.2 ⟨none, 0, some ⟨zb, 0, none⟩, 2, none, 0, rfl, ⟨by decide, by decide, by decide⟩, none, 0, some ⟨zb, 0, none⟩, 2, none, 0, rfl, by decide, by decide, by decide, by decide, by decide, by decide, Row.nil _ _ _ _, hz, Row.nil _ _ _ _⟩
theorem known_check : checkN [knownE] = 0 := by kernel_rfl

set_option maxHeartbeats 4000000 in
theorem textK (zb b : Nat) (w : World) (hL : Laid w) (h : KnownAt w zb b) : Calls Tryz.prog 28 #[.slice (some ⟨b, 0, none⟩) 1 1] w fun e w' => e = .returned (.tuple #[.string ⟨#[122, 115, 101, 116, 32, 54, 98, 32, 45, 32, 54, 50, 58, 45, 49, 32, 54, 49, 58, 51, 10]⟩, .int .i64 0]) ∧ Below w.heap.size w w' := by
  have hC : Calls Tryz.prog 21 #[.slice (some ⟨b, 0, none⟩) 1 1] w fun e w' => e = .returned (.int .i64 0) ∧ Below w.heap.size w w' := by
    have hc := Check (c := 1) (known_row h)
    rw [known_check] at hc
    exact hc
  have HL := Lib.hid hL
  have HH := Lib.hid h
  clear hL h
  go_enter Tryz.func28, Tryz.ntmps28
  go_wp2_with (go_at_call 21; refine hC.mono ?_; rintro e w1 ⟨rfl, b1⟩)
  clear hC
  have HB1 := Lib.hid b1
  clear b1
  go_loopg [15] 2 (fun gg s15 wr => ∃ k : Nat, k ≤ 1 ∧ 2 - k ≤ gg ∧ s15 = .int .i64 k ∧ Hid (IsB w1.heap.size w1.heap.size (if k = 0 then [] else Lib.byteCells [122, 115, 101, 116, 32, 54, 98, 32, 45, 32, 54, 50, 58, 45, 49, 32, 54, 49, 58, 51, 10]) wr) ∧ Hid (Below w1.heap.size w1 wr))
  case atStart => exact ⟨0, by omega, by omega, rfl, Lib.fresh_isBuilder _ _ _, (Below.refl _ _).alloc (Nat.le_refl _) _⟩
  case round =>
    obtain ⟨k, hk, hg, rfl, HS, HB⟩ := hrel
    by_cases h0 : k = 0
    · subst h0
      have HS0 : Hid (IsB w1.heap.size w1.heap.size [] wr) := HS.out
      have HBr := Lib.hid (below_trans' HB1.out HB.out)
      have HK := Lib.hid (HH.out.below HBr.out)
      clear HS
      have k0 : wr.cell? ⟨b, 0, none⟩ = some (.string ⟨#[107]⟩) := cell_of_alone (cs := [.string ⟨#[107]⟩, .int .i64 4, .string ⟨#[]⟩, .slice none 0 0, .slice (some ⟨zb, 0, none⟩) 2 2, .slice none 0 0, .int .i64 (-1)]) HK.out.2 0 _ rfl
      have k1 : wr.cell? ⟨b, 1, none⟩ = some (.int .i64 4) := cell_of_alone (cs := [.string ⟨#[107]⟩, .int .i64 4, .string ⟨#[]⟩, .slice none 0 0, .slice (some ⟨zb, 0, none⟩) 2 2, .slice none 0 0, .int .i64 (-1)]) HK.out.2 1 _ rfl
      have k2 : wr.cell? ⟨b, 2, none⟩ = some (.string ⟨#[]⟩) := cell_of_alone (cs := [.string ⟨#[107]⟩, .int .i64 4, .string ⟨#[]⟩, .slice none 0 0, .slice (some ⟨zb, 0, none⟩) 2 2, .slice none 0 0, .int .i64 (-1)]) HK.out.2 2 _ rfl
      have k3 : wr.cell? ⟨b, 3, none⟩ = some (.slice none 0 0) := cell_of_alone (cs := [.string ⟨#[107]⟩, .int .i64 4, .string ⟨#[]⟩, .slice none 0 0, .slice (some ⟨zb, 0, none⟩) 2 2, .slice none 0 0, .int .i64 (-1)]) HK.out.2 3 _ rfl
      have k4 : wr.cell? ⟨b, 4, none⟩ = some (.slice (some ⟨zb, 0, none⟩) 2 2) := cell_of_alone (cs := [.string ⟨#[107]⟩, .int .i64 4, .string ⟨#[]⟩, .slice none 0 0, .slice (some ⟨zb, 0, none⟩) 2 2, .slice none 0 0, .int .i64 (-1)]) HK.out.2 4 _ rfl
      have k5 : wr.cell? ⟨b, 5, none⟩ = some (.slice none 0 0) := cell_of_alone (cs := [.string ⟨#[107]⟩, .int .i64 4, .string ⟨#[]⟩, .slice none 0 0, .slice (some ⟨zb, 0, none⟩) 2 2, .slice none 0 0, .int .i64 (-1)]) HK.out.2 5 _ rfl
      have k6 : wr.cell? ⟨b, 6, none⟩ = some (.int .i64 (-1)) := cell_of_alone (cs := [.string ⟨#[107]⟩, .int .i64 4, .string ⟨#[]⟩, .slice none 0 0, .slice (some ⟨zb, 0, none⟩) 2 2, .slice none 0 0, .int .i64 (-1)]) HK.out.2 6 _ rfl
      go_upto_region 8 with fail
      refine wp_name fun W hW => ?_
      have BW : Below wr.heap.size wr W := by
        rw [hW]
        repeat (refine Below.setCell ?_ ?_ _)
        all_goals (first | exact Nat.le_refl _ | exact (Below.refl _ _).alloc (Nat.le_refl _) _)
      have c0 : W.cell? ⟨wr.heap.size, 0, none⟩ = some (.string ⟨#[107]⟩) := by rw [hW]; go_simp
      have c1 : W.cell? ⟨wr.heap.size, 1, none⟩ = some (.int .i64 4) := by rw [hW]; go_simp
      have c2 : W.cell? ⟨wr.heap.size, 2, none⟩ = some (.string ⟨#[]⟩) := by rw [hW]; go_simp
      have c3 : W.cell? ⟨wr.heap.size, 3, none⟩ = some (.slice none 0 0) := by rw [hW]; go_simp
      have c4 : W.cell? ⟨wr.heap.size, 4, none⟩ = some (.slice (some ⟨zb, 0, none⟩) 2 2) := by rw [hW]; go_simp
      have c5 : W.cell? ⟨wr.heap.size, 5, none⟩ = some (.slice none 0 0) := by rw [hW]; go_simp
      have c6 : W.cell? ⟨wr.heap.size, 6, none⟩ = some (.int .i64 (-1)) := by rw [hW]; go_simp
      have HBW := Lib.hid (below_trans' HBr.out BW)
      have HB1W := Lib.hid (below_trans' HB.out BW)
      have HKW := Lib.hid (HK.out.below BW)
      have HSW : Hid (IsB w1.heap.size w1.heap.size [] W) := by
        rcases HS0.out with ⟨hB, v, h1, h2, h3⟩ | ⟨hB, v, h1, h2, h3⟩
        · exact .inl ⟨hB, v, (BW.block _ (Array.getElem?_eq_some_iff.1 h1).1).trans h1, ownsRow_move h2 (fun q hq => (ownsRow_base h2 q hq).1) (fun q hq => BW.block q (ownsRow_base h2 q hq).2), h3⟩
        · exact .inr ⟨hB, v, (BW.block _ (Array.getElem?_eq_some_iff.1 h1).1).trans h1, ownsRow_move h2 (fun q hq => (ownsRow_base h2 q hq).1) (fun q hq => BW.block q (ownsRow_base h2 q hq).2), h3⟩
      have hl := lineZ zb 0 2 W (HL.out.below HBW.out) (cell_of_alone (cs := [.string ⟨#[98]⟩, .int .i64 (-1), .string ⟨#[97]⟩, .int .i64 3]) HKW.out.1 0 _ rfl) (cell_of_alone (cs := [.string ⟨#[98]⟩, .int .i64 (-1), .string ⟨#[97]⟩, .int .i64 3]) HKW.out.1 1 _ rfl) (cell_of_alone (cs := [.string ⟨#[98]⟩, .int .i64 (-1), .string ⟨#[97]⟩, .int .i64 3]) HKW.out.1 2 _ rfl) (cell_of_alone (cs := [.string ⟨#[98]⟩, .int .i64 (-1), .string ⟨#[97]⟩, .int .i64 3]) HKW.out.1 3 _ rfl)
      clear hW BW k0 k1 k2 k3 k4 k5 k6 HS0
      go_wp2_with fail
      refine hl.mono ?_
      clear hl
      rintro e w2 ⟨rfl, b2⟩
      have HS2 : Hid (IsB w1.heap.size w1.heap.size [] w2) := by
        rcases HSW.out with ⟨hB, v, h1, h2, h3⟩ | ⟨hB, v, h1, h2, h3⟩
        · exact .inl ⟨hB, v, (b2.block _ (Array.getElem?_eq_some_iff.1 h1).1).trans h1, ownsRow_move h2 (fun q hq => (ownsRow_base h2 q hq).1) (fun q hq => b2.block q (ownsRow_base h2 q hq).2), h3⟩
        · exact .inr ⟨hB, v, (b2.block _ (Array.getElem?_eq_some_iff.1 h1).1).trans h1, ownsRow_move h2 (fun q hq => (ownsRow_base h2 q hq).1) (fun q hq => b2.block q (ownsRow_base h2 q hq).2), h3⟩
      have HB2 := Lib.hid (below_trans' HB1W.out b2)
      clear b2 HSW
      go_wp2_with fail
      refine (writeString _ _ _ _ _ HS2.out (by decide) HB2.out.size).mono ?_
      rintro e w3 ⟨rfl, h3, b3⟩
      have HS3 : Hid (IsB w1.heap.size w1.heap.size ([] ++ Lib.strCells ⟨#[122, 115, 101, 116, 32, 54, 98, 32, 45, 32, 54, 50, 58, 45, 49, 32, 54, 49, 58, 51]⟩) w3) := .inr h3
      have HB3 := Lib.hid (HB2.out.trans b3)
      clear h3 b3
      go_wp2_with fail
      refine (writeByte _ _ _ _ _ HS3.out (by decide) HB3.out.size).mono ?_
      rintro e w4 ⟨rfl, h4, b4⟩
      have e4 : [] ++ Lib.strCells ⟨#[122, 115, 101, 116, 32, 54, 98, 32, 45, 32, 54, 50, 58, 45, 49, 32, 54, 49, 58, 51]⟩ ++ [.int .u8 10] = Lib.byteCells [122, 115, 101, 116, 32, 54, 98, 32, 45, 32, 54, 50, 58, 45, 49, 32, 54, 49, 58, 51, 10] := by kernel_rfl
      have h4' : IsB w1.heap.size w1.heap.size (Lib.byteCells [122, 115, 101, 116, 32, 54, 98, 32, 45, 32, 54, 50, 58, 45, 49, 32, 54, 49, 58, 51, 10]) w4 := by rw [← e4]; exact .inr h4
      have HS4 := Lib.hid h4'
      have HB4 := Lib.hid (HB3.out.trans b4)
      have hln : Calls Tryz.prog 61 #[.pointer (some ⟨w1.heap.size, 0, none⟩)] w4 fun e w' => e = .returned (.int .i64 21) ∧ w' = w4 := Tryz.Builder_Len _ _ _ _ h4'
      clear h4 h4' e4 b4
      go_wp2_with fail
      refine hln.mono ?_
      rintro e w5 ⟨rfl, rfl⟩
      clear hln
      go_wp2
      go_roundg 1
      case rel => exact ⟨1, by omega, by omega, rfl, HS4.out, HB4.out⟩
      case measure => omega
    · obtain rfl : k = 1 := by omega
      have HS1 : Hid (IsB w1.heap.size w1.heap.size (Lib.byteCells [122, 115, 101, 116, 32, 54, 98, 32, 45, 32, 54, 50, 58, 45, 49, 32, 54, 49, 58, 51, 10]) wr) := HS.out
      have HZ := Lib.hid HB.out.size
      clear HS
      go_wp2_with (go_at_call 62; refine (Tryz.Builder_String_any _ _ _ _ HS1.out HZ.out).mono ?_; rintro e w5 ⟨rfl, b5⟩)
      go_ret2
      exact ⟨rfl, below_trans' HB1.out (HB.out.trans b5)⟩
end Go.Proofs.YtkgghnjpegpnlaaGreatDoor
