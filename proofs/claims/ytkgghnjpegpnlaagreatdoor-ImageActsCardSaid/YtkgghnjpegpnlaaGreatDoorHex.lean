/- image.hex at the texts that 'alive' meets. No condition. -/
import Derived.Test.YtkgghnjpegpnlaaGreatDoorBuilder
import Derived.Test.YtkgghnjpegpnlaaGreatDoorShelf
import Derived.Deep.LoopGhost
import Derived.WalkSpells
import Derived.WalkLawsBesides
namespace Go.Proofs.YtkgghnjpegpnlaaGreatDoor
open Go.RowKit Go.Proofs
set_option linter.unusedSimpArgs false
set_option linter.unusedVariables false
set_option maxRecDepth 100000

theorem hex_nil (w : World) : Calls Tryz.prog 92 #[.string ⟨#[]⟩] w fun e w' => e = .returned (.string ⟨#[46]⟩) ∧ Below w.heap.size w w' := by
  go_enter Tryz.func92, Tryz.ntmps92
  go_wp2
  go_ret
  exact ⟨rfl, Below.refl _ _⟩

set_option maxHeartbeats 1000000 in
theorem hex_107 (w : World) : Calls Tryz.prog 92 #[.string ⟨#[107]⟩] w fun e w' => e = .returned (.string ⟨#[54, 98]⟩) ∧ Below w.heap.size w w' := by
  go_enter Tryz.func92, Tryz.ntmps92
  go_wp2
  go_loopg [9] 2 (fun gg s9 wr => ∃ k : Nat, k ≤ 1 ∧ 2 - k ≤ gg ∧ s9 = .int .i64 k ∧ Hid (IsB w.heap.size w.heap.size (if k = 0 then [] else [.int .u8 54, .int .u8 98]) wr) ∧ Hid (Below w.heap.size w wr))
  case atStart => exact ⟨0, by omega, by omega, rfl, Lib.fresh_isBuilder _ _ _, (Below.refl _ _).alloc (Nat.le_refl _) _⟩
  case round =>
    obtain ⟨k, hk, hg, rfl, HS, HB⟩ := hrel
    by_cases h0 : k = 0
    · subst h0
      have HS0 : Hid (IsB w.heap.size w.heap.size [] wr) := HS.out
      have HZ := Lib.hid HB.out.size
      clear HS
      go_wp2_with fail
      refine (writeByte _ _ _ _ _ HS0.out (by simp) HZ.out).mono ?_
      rintro e w1 ⟨rfl, h1, b1⟩
      have HS1 : Hid (IsB w.heap.size w.heap.size [.int .u8 54] w1) := .inr h1
      have HB1 := Lib.hid (HB.out.trans b1)
      clear h1 b1 HS0
      go_wp2_with fail
      refine (writeByte _ _ _ _ _ HS1.out (by simp) HB1.out.size).mono ?_
      rintro e w2 ⟨rfl, h2, b2⟩
      have HS2 : Hid (IsB w.heap.size w.heap.size [.int .u8 54, .int .u8 98] w2) := .inr h2
      have HB2 := Lib.hid (HB1.out.trans b2)
      clear h2 b2 HS1 HB1
      go_wp2
      go_roundg 1
      case rel => exact ⟨1, by omega, by omega, rfl, HS2.out, HB2.out⟩
      case measure => omega
    · obtain rfl : k = 1 := by omega
      have HS1 : Hid (IsB w.heap.size w.heap.size (Lib.byteCells [54, 98]) wr) := HS.out
      have HZ := Lib.hid HB.out.size
      clear HS
      go_wp2_with (go_at_call 62; refine (Tryz.Builder_String_any _ _ _ _ HS1.out HZ.out).mono ?_; rintro e w1 ⟨rfl, b1⟩)
      go_ret
      exact ⟨rfl, HB.out.trans b1⟩

set_option maxHeartbeats 1000000 in
theorem hex_98 (w : World) : Calls Tryz.prog 92 #[.string ⟨#[98]⟩] w fun e w' => e = .returned (.string ⟨#[54, 50]⟩) ∧ Below w.heap.size w w' := by
  go_enter Tryz.func92, Tryz.ntmps92
  go_wp2
  go_loopg [9] 2 (fun gg s9 wr => ∃ k : Nat, k ≤ 1 ∧ 2 - k ≤ gg ∧ s9 = .int .i64 k ∧ Hid (IsB w.heap.size w.heap.size (if k = 0 then [] else [.int .u8 54, .int .u8 50]) wr) ∧ Hid (Below w.heap.size w wr))
  case atStart => exact ⟨0, by omega, by omega, rfl, Lib.fresh_isBuilder _ _ _, (Below.refl _ _).alloc (Nat.le_refl _) _⟩
  case round =>
    obtain ⟨k, hk, hg, rfl, HS, HB⟩ := hrel
    by_cases h0 : k = 0
    · subst h0
      have HS0 : Hid (IsB w.heap.size w.heap.size [] wr) := HS.out
      have HZ := Lib.hid HB.out.size
      clear HS
      go_wp2_with fail
      refine (writeByte _ _ _ _ _ HS0.out (by simp) HZ.out).mono ?_
      rintro e w1 ⟨rfl, h1, b1⟩
      have HS1 : Hid (IsB w.heap.size w.heap.size [.int .u8 54] w1) := .inr h1
      have HB1 := Lib.hid (HB.out.trans b1)
      clear h1 b1 HS0
      go_wp2_with fail
      refine (writeByte _ _ _ _ _ HS1.out (by simp) HB1.out.size).mono ?_
      rintro e w2 ⟨rfl, h2, b2⟩
      have HS2 : Hid (IsB w.heap.size w.heap.size [.int .u8 54, .int .u8 50] w2) := .inr h2
      have HB2 := Lib.hid (HB1.out.trans b2)
      clear h2 b2 HS1 HB1
      go_wp2
      go_roundg 1
      case rel => exact ⟨1, by omega, by omega, rfl, HS2.out, HB2.out⟩
      case measure => omega
    · obtain rfl : k = 1 := by omega
      have HS1 : Hid (IsB w.heap.size w.heap.size (Lib.byteCells [54, 50]) wr) := HS.out
      have HZ := Lib.hid HB.out.size
      clear HS
      go_wp2_with (go_at_call 62; refine (Tryz.Builder_String_any _ _ _ _ HS1.out HZ.out).mono ?_; rintro e w1 ⟨rfl, b1⟩)
      go_ret
      exact ⟨rfl, HB.out.trans b1⟩

set_option maxHeartbeats 1000000 in
theorem hex_97 (w : World) : Calls Tryz.prog 92 #[.string ⟨#[97]⟩] w fun e w' => e = .returned (.string ⟨#[54, 49]⟩) ∧ Below w.heap.size w w' := by
  go_enter Tryz.func92, Tryz.ntmps92
  go_wp2
  go_loopg [9] 2 (fun gg s9 wr => ∃ k : Nat, k ≤ 1 ∧ 2 - k ≤ gg ∧ s9 = .int .i64 k ∧ Hid (IsB w.heap.size w.heap.size (if k = 0 then [] else [.int .u8 54, .int .u8 49]) wr) ∧ Hid (Below w.heap.size w wr))
  case atStart => exact ⟨0, by omega, by omega, rfl, Lib.fresh_isBuilder _ _ _, (Below.refl _ _).alloc (Nat.le_refl _) _⟩
  case round =>
    obtain ⟨k, hk, hg, rfl, HS, HB⟩ := hrel
    by_cases h0 : k = 0
    · subst h0
      have HS0 : Hid (IsB w.heap.size w.heap.size [] wr) := HS.out
      have HZ := Lib.hid HB.out.size
      clear HS
      go_wp2_with fail
      refine (writeByte _ _ _ _ _ HS0.out (by simp) HZ.out).mono ?_
      rintro e w1 ⟨rfl, h1, b1⟩
      have HS1 : Hid (IsB w.heap.size w.heap.size [.int .u8 54] w1) := .inr h1
      have HB1 := Lib.hid (HB.out.trans b1)
      clear h1 b1 HS0
      go_wp2_with fail
      refine (writeByte _ _ _ _ _ HS1.out (by simp) HB1.out.size).mono ?_
      rintro e w2 ⟨rfl, h2, b2⟩
      have HS2 : Hid (IsB w.heap.size w.heap.size [.int .u8 54, .int .u8 49] w2) := .inr h2
      have HB2 := Lib.hid (HB1.out.trans b2)
      clear h2 b2 HS1 HB1
      go_wp2
      go_roundg 1
      case rel => exact ⟨1, by omega, by omega, rfl, HS2.out, HB2.out⟩
      case measure => omega
    · obtain rfl : k = 1 := by omega
      have HS1 : Hid (IsB w.heap.size w.heap.size (Lib.byteCells [54, 49]) wr) := HS.out
      have HZ := Lib.hid HB.out.size
      clear HS
      go_wp2_with (go_at_call 62; refine (Tryz.Builder_String_any _ _ _ _ HS1.out HZ.out).mono ?_; rintro e w1 ⟨rfl, b1⟩)
      go_ret
      exact ⟨rfl, HB.out.trans b1⟩
end Go.Proofs.YtkgghnjpegpnlaaGreatDoor
