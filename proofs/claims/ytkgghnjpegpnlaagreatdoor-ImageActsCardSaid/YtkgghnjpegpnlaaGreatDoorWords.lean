/- image.words, line at the entries that 'alive' meets. Conditions: what is read reads as these entries; the library's table is laid. -/
import Derived.Test.YtkgghnjpegpnlaaGreatDoorNum
import Derived.Test.YtkgghnjpegpnlaaGreatDoorBox
import Derived.Deep.RegionLaw
namespace Go.Proofs.YtkgghnjpegpnlaaGreatDoor
open Go.RowKit Go.Proofs
set_option linter.unusedSimpArgs false
set_option linter.unusedVariables false
set_option maxRecDepth 100000

theorem numText_m1 (w : World) (hL : Laid w) : Calls Tryz.prog 89 #[.int .i64 (-1)] w fun e w' => e = .returned (.string ⟨#[45, 49]⟩) ∧ Below w.heap.size w w' := by
  refine (numText (-1) (by decide) (by decide) w hL).mono ?_
  rintro e w' ⟨rfl, h⟩
  exact ⟨by kernel_rfl, h⟩
theorem numText_3 (w : World) (hL : Laid w) : Calls Tryz.prog 89 #[.int .i64 3] w fun e w' => e = .returned (.string ⟨#[51]⟩) ∧ Below w.heap.size w w' := by
  refine (numText 3 (by decide) (by decide) w hL).mono ?_
  rintro e w' ⟨rfl, h⟩
  exact ⟨by kernel_rfl, h⟩
theorem numText_5 (w : World) (hL : Laid w) : Calls Tryz.prog 89 #[.int .i64 5] w fun e w' => e = .returned (.string ⟨#[53]⟩) ∧ Below w.heap.size w w' := by
  refine (numText 5 (by decide) (by decide) w hL).mono ?_
  rintro e w' ⟨rfl, h⟩
  exact ⟨by kernel_rfl, h⟩

def zs0 : ByteArray := ⟨#[54, 50, 58, 45, 49]⟩
def zs1 : ByteArray := ⟨#[54, 49, 58, 51]⟩

set_option maxHeartbeats 4000000 in
theorem wordsZ (zb zo c2 : Nat) (w : World) (hL : Laid w) (z0 : w.cell? ⟨zb, zo, none⟩ = some (.string ⟨#[98]⟩)) (z1 : w.cell? ⟨zb, zo + 1, none⟩ = some (.int .i64 (-1))) (z2 : w.cell? ⟨zb, zo + 2, none⟩ = some (.string ⟨#[97]⟩)) (z3 : w.cell? ⟨zb, zo + 3, none⟩ = some (.int .i64 3)) :
    Calls Tryz.prog 90 #[.agg #[.int .i64 4, .string ⟨#[]⟩, .slice none 0 0, .slice (some ⟨zb, zo, none⟩) 2 c2, .slice none 0 0]] w fun e w' => ∃ v, e = .returned (.tuple #[.string ⟨#[122, 115, 101, 116]⟩, v]) ∧ w'.ownsRow w.heap.size 9 1 v 2 [.string zs0, .string zs1] ∧ Below w.heap.size w w' := by
  obtain ⟨i0, hi, hz0, hz1, hz2⟩ := info_parts infos
  have HL := Lib.hid hL
  have Z0 := Lib.hid z0
  have Z1 := Lib.hid z1
  have Z2 := Lib.hid z2
  have Z3 := Lib.hid z3
  clear hL z0 z1 z2 z3
  go_enter Tryz.func90, Tryz.ntmps90
  go_wp2
  go_loopg [4, 29] 3 (fun gg s4 s29 wr => ∃ (k : Nat) (v4 : Value), k ≤ 2 ∧ 3 - k ≤ gg ∧ s29 = .int .i64 k ∧ v4 = s4 ∧ Hid (wr.ownsRow w.heap.size 9 1 v4 k (([.string zs0, .string zs1] : List Value).take k)) ∧ Hid (Below w.heap.size w wr))
  case atStart => exact ⟨0, _, by omega, by omega, rfl, rfl, World.ownsRow_nil _ _ _ _, (Below.refl _ _).alloc (Nat.le_refl _) _⟩
  case round =>
    obtain ⟨k, v4, hk, hg, rfl, rfl, HO, HB⟩ := hrel
    by_cases h0 : k = 0
    · subst h0
      have HO0 : Hid (wr.ownsRow w.heap.size 9 1 v4 0 []) := HO.out
      clear HO
      -- ROUNDS
      have z0 := (HB.out.cell (p := ⟨zb, zo, none⟩) (World.block_lt_of_cell? w _ Z0.out)).trans Z0.out
      have z1 := (HB.out.cell (p := ⟨zb, zo + 1, none⟩) (World.block_lt_of_cell? w _ Z1.out)).trans Z1.out
      go_upto_region 12 with fail
      refine wp_name fun W hW => ?_
      have c0 : W.cell? ⟨wr.heap.size, 0, none⟩ = some (.string ⟨#[98]⟩) := by rw [hW]; go_simp
      have c1 : W.cell? ⟨wr.heap.size, 1, none⟩ = some (.int .i64 (-1)) := by rw [hW]; go_simp
      have BW : Below wr.heap.size wr W := by
        rw [hW]
        repeat (refine Below.setCell ?_ ?_ _)
        all_goals (first | exact Nat.le_refl _ | exact (Below.refl _ _).alloc (Nat.le_refl _) _)
      have zW : wr.heap.size < W.heap.size := World.block_lt_of_cell? W _ c0
      have HBW := Lib.hid (below_trans' HB.out BW)
      have HOW : Hid (W.ownsRow w.heap.size 9 1 v4 0 []) := ownsRow_move HO0.out (fun q hq => (ownsRow_base HO0.out q hq).1) (fun q hq => BW.block q (ownsRow_base HO0.out q hq).2)
      clear hW BW z0 z1 HB HO0
      go_region_law (first
        | (go_simp; go_at_call 92; refine (hex_98 _).mono ?_; rintro e w5 ⟨rfl, b5⟩; have c1' := (b5.cell (p := ⟨wr.heap.size, 1, none⟩) zW).trans c1; have B5 := below_trans' HBW.out (below_trans' (Below.refl W.heap.size W).drew b5); have HB5 := Lib.hid B5; have HO5 := Lib.hid (ownsRow_move (w1 := w5) HOW.out (fun q hq => (ownsRow_base HOW.out q hq).1) (fun q hq => b5.block q (ownsRow_base HOW.out q hq).2)); clear b5 B5)
        | (go_simp; go_at_call 89; refine (numText_m1 _ (HL.out.below HB5.out)).mono ?_; rintro e w6 ⟨rfl, b6⟩; have HB6 := Lib.hid (below_trans' HB5.out b6); have HO6 := Lib.hid (ownsRow_move (w1 := w6) HO5.out (fun q hq => (ownsRow_base HO5.out q hq).1) (fun q hq => b6.block q (ownsRow_base HO5.out q hq).2)); clear b6)
        | (refine step_append_src ?_ (.tmp 33) (.tmp 42) 24 ?_ w.heap.size 9 i0 (.string ⟨#[]⟩) 1 16 Tryz.underlying24 hi hz0 hz1 hz2 ?_ (Nat.zero_lt_succ _) v4 0 [] ?_ ?_ (some ⟨w6.heap.size, 0, none⟩) 1 1 [.string (⟨#[54, 50]⟩ ++ ⟨#[58]⟩ ++ ⟨#[45, 49]⟩ : ByteArray)] ?_ ?_ ?_ ?_ ?_ ?_; (· rfl); (· rfl); (· rfl); (· rfl); (· exact (World.ownsRow.alloc HO6.out _)); (· rfl); (· exact (Src.block (cs := [.string (⟨#[54, 50]⟩ ++ ⟨#[58]⟩ ++ ⟨#[45, 49]⟩ : ByteArray)]) (heap_alloc_new w6 _) rfl (fun u hu => by rw [List.mem_singleton.1 hu]; rfl))); (· unfold maxLen; omega); (· omega); (· exact (HB6.out.alloc HB6.out.size _).size); intro v7 w7 o7 g7 _; have HB7 := Lib.hid ((HB6.out.alloc HB6.out.size (.cells #[.string (⟨#[54, 50]⟩ ++ ⟨#[58]⟩ ++ ⟨#[45, 49]⟩ : ByteArray)] 9)).grown g7 (HB6.out.alloc HB6.out.size _).size (fun k hk => (ownsRow_base HO6.out k hk).1)); have HO7 : Hid (w7.ownsRow w.heap.size 9 1 v7 1 ([] ++ [.string zs0])) := o7; clear o7 g7))
      all_goals go_wp2
      all_goals go_roundg 2
      all_goals (first | (case rel => exact ⟨1, v7, by omega, by omega, rfl, rfl, HO7.out, HB7.out⟩) | (case measure => omega))
    · by_cases h1 : k = 1
      · subst h1
        have HO0 : Hid (wr.ownsRow w.heap.size 9 1 v4 1 [.string zs0]) := HO.out
        clear HO
        have z0 := (HB.out.cell (p := ⟨zb, zo + 2, none⟩) (World.block_lt_of_cell? w _ Z2.out)).trans Z2.out
        have z1 := (HB.out.cell (p := ⟨zb, zo + 3, none⟩) (World.block_lt_of_cell? w _ Z3.out)).trans Z3.out
        go_upto_region 12 with fail
        refine wp_name fun W hW => ?_
        have c0 : W.cell? ⟨wr.heap.size, 0, none⟩ = some (.string ⟨#[97]⟩) := by rw [hW]; go_simp
        have c1 : W.cell? ⟨wr.heap.size, 1, none⟩ = some (.int .i64 3) := by rw [hW]; go_simp
        have BW : Below wr.heap.size wr W := by
          rw [hW]
          repeat (refine Below.setCell ?_ ?_ _)
          all_goals (first | exact Nat.le_refl _ | exact (Below.refl _ _).alloc (Nat.le_refl _) _)
        have zW : wr.heap.size < W.heap.size := World.block_lt_of_cell? W _ c0
        have HBW := Lib.hid (below_trans' HB.out BW)
        have HOW : Hid (W.ownsRow w.heap.size 9 1 v4 1 [.string zs0]) := ownsRow_move HO0.out (fun q hq => (ownsRow_base HO0.out q hq).1) (fun q hq => BW.block q (ownsRow_base HO0.out q hq).2)
        clear hW BW z0 z1 HB HO0
        go_region_law (first
          | (go_simp; go_at_call 92; refine (hex_97 _).mono ?_; rintro e w5 ⟨rfl, b5⟩; have c1' := (b5.cell (p := ⟨wr.heap.size, 1, none⟩) zW).trans c1; have B5 := below_trans' HBW.out (below_trans' (Below.refl W.heap.size W).drew b5); have HB5 := Lib.hid B5; have HO5 := Lib.hid (ownsRow_move (w1 := w5) HOW.out (fun q hq => (ownsRow_base HOW.out q hq).1) (fun q hq => b5.block q (ownsRow_base HOW.out q hq).2)); clear b5 B5)
          | (go_simp; go_at_call 89; refine (numText_3 _ (HL.out.below HB5.out)).mono ?_; rintro e w6 ⟨rfl, b6⟩; have HB6 := Lib.hid (below_trans' HB5.out b6); have HO6 := Lib.hid (ownsRow_move (w1 := w6) HO5.out (fun q hq => (ownsRow_base HO5.out q hq).1) (fun q hq => b6.block q (ownsRow_base HO5.out q hq).2)); clear b6)
          | (refine step_append_src ?_ (.tmp 33) (.tmp 42) 24 ?_ w.heap.size 9 i0 (.string ⟨#[]⟩) 1 16 Tryz.underlying24 hi hz0 hz1 hz2 ?_ (Nat.zero_lt_succ _) v4 1 [.string zs0] ?_ ?_ (some ⟨w6.heap.size, 0, none⟩) 1 1 [.string (⟨#[54, 49]⟩ ++ ⟨#[58]⟩ ++ ⟨#[51]⟩ : ByteArray)] ?_ ?_ ?_ ?_ ?_ ?_; (· rfl); (· rfl); (· rfl); (· rfl); (· exact (World.ownsRow.alloc HO6.out _)); (· rfl); (· exact (Src.block (cs := [.string (⟨#[54, 49]⟩ ++ ⟨#[58]⟩ ++ ⟨#[51]⟩ : ByteArray)]) (heap_alloc_new w6 _) rfl (fun u hu => by rw [List.mem_singleton.1 hu]; rfl))); (· unfold maxLen; omega); (· omega); (· exact (HB6.out.alloc HB6.out.size _).size); intro v7 w7 o7 g7 _; have HB7 := Lib.hid ((HB6.out.alloc HB6.out.size (.cells #[.string (⟨#[54, 49]⟩ ++ ⟨#[58]⟩ ++ ⟨#[51]⟩ : ByteArray)] 9)).grown g7 (HB6.out.alloc HB6.out.size _).size (fun k hk => (ownsRow_base HO6.out k hk).1)); have HO7 : Hid (w7.ownsRow w.heap.size 9 1 v7 2 ([.string zs0] ++ [.string zs1])) := o7; clear o7 g7))
        all_goals go_wp2
        all_goals go_roundg 1
        all_goals (first | (case rel => exact ⟨2, v7, by omega, by omega, rfl, rfl, HO7.out, HB7.out⟩) | (case measure => omega))
      · obtain rfl : k = 2 := by omega
        have HO0 : Hid (wr.ownsRow w.heap.size 9 1 v4 2 [.string zs0, .string zs1]) := HO.out
        clear HO
        go_wp2
        go_ret2
        exact ⟨_, rfl, HO0.out, HB.out⟩
end Go.Proofs.YtkgghnjpegpnlaaGreatDoor
