/- image.Read at the text that 'alive' meets; millpondlaw09.alive returns true. Conditions: the library's variables are laid. -/
import Derived.Test.YtkgghnjpegpnlaaGreatDoorRead5
import Derived.Test.YtkgghnjpegpnlaaGreatDoorImageput
namespace Go.Proofs.YtkgghnjpegpnlaaGreatDoor
open Go.RowKit Go.Proofs
set_option linter.unusedSimpArgs false
set_option linter.unusedVariables false
set_option maxRecDepth 100000

theorem cut5 (w : World) (hL : Laid w) : Calls Tryz.prog 63 #[.string ⟨#[115, 116, 114, 105, 110, 103, 32, 54, 98, 32, 53, 32, 46, 10]⟩, .string ⟨#[10]⟩] w fun e w' => e = .returned (.tuple #[.string ⟨#[115, 116, 114, 105, 110, 103, 32, 54, 98, 32, 53, 32, 46]⟩, .string ⟨#[]⟩, .bool true]) ∧ ∃ n, w' = w.drewN n := by
  obtain ⟨_, m, hm⟩ := hL
  have h := Any.strings_Cut { Tryz.laysM145 with } ⟨#[115, 116, 114, 105, 110, 103, 32, 54, 98, 32, 53, 32, 46, 10]⟩ ⟨#[10]⟩ m w (by decide) hm
  have e1 : (⟨(Lib.cut (⟨#[115, 116, 114, 105, 110, 103, 32, 54, 98, 32, 53, 32, 46, 10]⟩ : ByteArray).data.toList (⟨#[10]⟩ : ByteArray).data.toList).1.toArray⟩ : ByteArray) = ⟨#[115, 116, 114, 105, 110, 103, 32, 54, 98, 32, 53, 32, 46]⟩ := by kernel_rfl
  have e2 : (⟨(Lib.cut (⟨#[115, 116, 114, 105, 110, 103, 32, 54, 98, 32, 53, 32, 46, 10]⟩ : ByteArray).data.toList (⟨#[10]⟩ : ByteArray).data.toList).2.1.toArray⟩ : ByteArray) = ⟨#[]⟩ := by kernel_rfl
  have e3 : (Lib.cut (⟨#[115, 116, 114, 105, 110, 103, 32, 54, 98, 32, 53, 32, 46, 10]⟩ : ByteArray).data.toList (⟨#[10]⟩ : ByteArray).data.toList).2.2 = true := by kernel_rfl
  rw [e1, e2, e3] at h
  exact h

def Read5At (w : World) (g : Nat) : Prop := w.cell? ⟨g, 0, none⟩ = some (.string ⟨#[107]⟩) ∧ w.cell? ⟨g, 1, none⟩ = some (.int .i64 1) ∧ w.cell? ⟨g, 6, none⟩ = some (.int .i64 5)

set_option maxHeartbeats 4000000 in
theorem readRow (w : World) (hL : Laid w) : Calls Tryz.prog 30 #[.string ⟨#[115, 116, 114, 105, 110, 103, 32, 54, 98, 32, 53, 32, 46, 10]⟩] w fun e w' => ∃ g cap, e = .returned (.tuple #[.slice (some ⟨g, 0, none⟩) 1 cap, .int .i64 0, .int .i64 0]) ∧ Read5At w' g ∧ Below w.heap.size w w' := by
  obtain ⟨i0, hi, hz0', hz1, hz2⟩ := info_parts infoE
  have HL := Lib.hid hL
  clear hL
  go_enter Tryz.func30, Tryz.ntmps30
  go_wp2
  go_loopg [0, 5, 6] 2 (fun gg s0 s5 s6 wr => ∃ k : Nat, k ≤ 1 ∧ 2 - k ≤ gg ∧ s6 = .int .i64 k ∧ Hid (Below w.heap.size w wr) ∧ ((k = 0 ∧ s0 = .string ⟨#[115, 116, 114, 105, 110, 103, 32, 54, 98, 32, 53, 32, 46, 10]⟩ ∧ s5 = .slice none 0 0 ∧ wr = w) ∨ (k = 1 ∧ s0 = .string ⟨#[]⟩ ∧ ∃ g cap, s5 = .slice (some ⟨g, 0, none⟩) 1 cap ∧ Hid (Read5At wr g))))
  case atStart => exact ⟨0, by omega, by omega, rfl, Below.refl _ _, .inl ⟨rfl, rfl, rfl, rfl⟩⟩
  case round =>
    obtain ⟨k, hk, hg, rfl, HB, ⟨rfl, rfl, rfl, rfl⟩ | ⟨rfl, rfl, g, cap, rfl, HR⟩⟩ := hrel
    · go_wp2_with fail
      refine (cut5 wr HL.out).mono ?_
      rintro e w1 ⟨rfl, n, rfl⟩
      have HB1 : Hid (Below wr.heap.size wr (wr.drewN n)) := Lib.hid ⟨rfl, rfl, rfl, Nat.le_refl _, fun _ _ => rfl⟩
      go_wp2_with fail
      refine (read5 _ (HL.out.below HB1.out)).mono ?_
      rintro e w2 ⟨rfl, b2⟩
      have HB2 := Lib.hid (below_trans' HB1.out b2)
      clear b2
      go_upto_region 9 with fail
      refine wp_name fun W hW => ?_
      have bx : Box W w2.heap.size [.string ⟨#[107]⟩, .int .i64 1, .string ⟨#[]⟩, .slice none 0 0, .slice none 0 0, .slice none 0 0, .int .i64 5] := by
        rw [hW]
        exact box7 (by go_simp) (by go_simp) (by go_simp) (by go_simp) (by go_simp) (by go_simp) (by go_simp) (by go_simp) (by go_simp) (by go_simp) (by go_simp) (by go_simp) (by go_simp) (by go_simp)
      have bW : Below w2.heap.size w2 W := by
        rw [hW]
        repeat (refine Below.setCell ?_ ?_ _)
        all_goals (first | exact Nat.le_refl _ | exact (Below.refl _ _).alloc (Nat.le_refl _) _)
      have HBW := Lib.hid (below_trans' HB2.out bW)
      have HX := Lib.hid bx
      clear hW bx bW
      refine wp_region_later (by kernel_rfl) (by kernel_rfl) ?_
      repeat (go_big_quiet_step (fail))
      refine wpQuiet_nil ?_
      rintro _ ⟨q, rfl⟩
      have bx := HX.out.below q.below
      have HB3 := Lib.hid (below_trans' HBW.out q.below)
      have e0 : q.W.cell? ⟨w2.heap.size, 0, none⟩ = some (.string ⟨#[107]⟩) := (bx 0 _ rfl).1
      have e1 : q.W.cell? ⟨w2.heap.size, 1, none⟩ = some (.int .i64 1) := (bx 1 _ rfl).1
      have e2 : q.W.cell? ⟨w2.heap.size, 2, none⟩ = some (.string ⟨#[]⟩) := (bx 2 _ rfl).1
      have e3 : q.W.cell? ⟨w2.heap.size, 3, none⟩ = some (.slice none 0 0) := (bx 3 _ rfl).1
      have e4 : q.W.cell? ⟨w2.heap.size, 4, none⟩ = some (.slice none 0 0) := (bx 4 _ rfl).1
      have e5 : q.W.cell? ⟨w2.heap.size, 5, none⟩ = some (.slice none 0 0) := (bx 5 _ rfl).1
      have e6 : q.W.cell? ⟨w2.heap.size, 6, none⟩ = some (.int .i64 5) := (bx 6 _ rfl).1
      clear bx
      go_wp2_with (at_builtin; refine wpList_append_lies _ rfl _ _ 22 rfl wr.heap.size 30 i0 _ 7 120 Tryz.underlying22 hi hz0' hz1 hz2 rfl (by decide) _ 0 [] rfl (World.ownsRow_nil _ _ _ _) ⟨q.W.heap.size, 0, none⟩ 1 1 [.string ⟨#[107]⟩, .int .i64 1, .string ⟨#[]⟩, .slice none 0 0, .slice none 0 0, .slice none 0 0, .int .i64 5] rfl rfl (World.news_of_block (heap_alloc_new q.W _)) (by decide) (by decide) (by unfold maxLen; omega) (by omega) (HB3.out.alloc HB3.out.size _).size _ rfl ?_; intro g cap w4 o4 g4 _ _)
      have HB4 := Lib.hid ((HB3.out.alloc HB3.out.size (.cells #[.string ⟨#[107]⟩, .int .i64 1, .string ⟨#[]⟩, .slice none 0 0, .slice none 0 0, .slice none 0 0, .int .i64 5] 30)).grown g4 (HB3.out.alloc HB3.out.size _).size (fun k hk => by cases hk))
      have HR4 : Hid (Read5At w4 g) := ⟨o4.cellAt 0 (by decide), o4.cellAt 1 (by decide), o4.cellAt 6 (by decide)⟩
      clear o4 g4 e0 e1 e2 e3 e4 e5 e6
      go_wp2
      go_roundg 1
      case rel => exact ⟨1, by omega, by omega, rfl, HB4.out, .inr ⟨rfl, rfl, g, cap, rfl, HR4.out⟩⟩
      case measure => omega
    · go_wp2
      go_ret3
      exact ⟨g, cap, rfl, HR.out, HB.out⟩

set_option maxHeartbeats 2000000 in
theorem alive (w : World) (hL : Laid w) : Calls Tryz.prog 9 #[] w fun e w' => e = .returned (.bool true) ∧ Below w.heap.size w w' := by
  have HL := Lib.hid hL
  clear hL
  go_enter Tryz.func9, Tryz.ntmps9
  go_wp2_with fail
  refine (known w).mono ?_
  rintro e w1 ⟨zb, b, rfl, hk, b1⟩
  have HK := Lib.hid hk
  have HB1 := Lib.hid b1
  clear hk b1
  go_wp2_with fail
  refine (textK zb b w1 (HL.out.below HB1.out) HK.out).mono ?_
  rintro e w2 ⟨rfl, b2⟩
  have HB2 := Lib.hid (below_trans' HB1.out b2)
  clear b2
  go_wp2_with fail
  refine (readRow w2 (HL.out.below HB2.out)).mono ?_
  rintro e w3 ⟨g, cap, rfl, ⟨r0, r1, r6⟩, b3⟩
  have HB3 := Lib.hid (below_trans' HB2.out b3)
  clear b3
  go_wp2
  go_ret
  exact ⟨rfl, HB3.out⟩
theorem aliveC {w : World} (hL : Laid w) : AliveC w := fun W hb => alive W (hL.below hb)
end Go.Proofs.YtkgghnjpegpnlaaGreatDoor
