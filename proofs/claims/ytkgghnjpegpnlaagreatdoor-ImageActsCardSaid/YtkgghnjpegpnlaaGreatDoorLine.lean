/- image.line at the entries that 'alive' meets. Conditions: what is read reads as these entries; the library's table is laid. -/
import Derived.Test.YtkgghnjpegpnlaaGreatDoorWords
namespace Go.Proofs.YtkgghnjpegpnlaaGreatDoor
open Go.RowKit Go.Proofs
set_option linter.unusedSimpArgs false
set_option linter.unusedVariables false
set_option maxRecDepth 100000

def ds0 : ByteArray := ⟨#[46]⟩
set_option maxHeartbeats 1000000 in
theorem words1 (w : World) : Calls Tryz.prog 90 #[.agg #[.int .i64 1, .string ⟨#[]⟩, .slice none 0 0, .slice none 0 0, .slice none 0 0]] w fun e w' => ∃ v, e = .returned (.tuple #[.string ⟨#[115, 116, 114, 105, 110, 103]⟩, v]) ∧ w'.ownsRow w.heap.size 9 1 v 1 [.string ds0] ∧ Below w.heap.size w w' := by
  have HB : Hid (Below w.heap.size w (w.alloc (.cells #[.int .i64 1, .string ⟨#[]⟩, .slice none 0 0, .slice none 0 0, .slice none 0 0] 28))) := (Below.refl _ _).alloc (Nat.le_refl _) _
  go_enter Tryz.func90, Tryz.ntmps90
  go_wp2_with (go_at_call 92; refine (hex_nil _).mono ?_; rintro e w1 ⟨rfl, b1⟩)
  go_ret2
  refine ⟨_, rfl, ⟨by simp, .inr ⟨w1.heap.size, 1, #[.string ds0], rfl, (below_trans' HB.out b1).size, heap_alloc_new w1 _, by omega, by unfold maxLen; omega, by simp, by simp⟩⟩, (below_trans' HB.out b1).alloc (below_trans' HB.out b1).size _⟩

set_option maxHeartbeats 4000000 in
theorem lineZ (zb zo c2 : Nat) (w : World) (hL : Laid w) (z0 : w.cell? ⟨zb, zo, none⟩ = some (.string ⟨#[98]⟩)) (z1 : w.cell? ⟨zb, zo + 1, none⟩ = some (.int .i64 (-1))) (z2 : w.cell? ⟨zb, zo + 2, none⟩ = some (.string ⟨#[97]⟩)) (z3 : w.cell? ⟨zb, zo + 3, none⟩ = some (.int .i64 3)) :
    Calls Tryz.prog 59 #[.agg #[.string ⟨#[107]⟩, .int .i64 4, .string ⟨#[]⟩, .slice none 0 0, .slice (some ⟨zb, zo, none⟩) 2 c2, .slice none 0 0, .int .i64 (-1)]] w fun e w' => e = .returned (.string ⟨#[122, 115, 101, 116, 32, 54, 98, 32, 45, 32, 54, 50, 58, 45, 49, 32, 54, 49, 58, 51]⟩) ∧ Below w.heap.size w w' := by
  obtain ⟨i0, hi, hz0, hz1, hz2⟩ := info_parts infos
  have HL := Lib.hid hL
  have HB : Hid (Below w.heap.size w (w.alloc (.cells #[.string ⟨#[107]⟩, .int .i64 4, .string ⟨#[]⟩, .slice none 0 0, .slice (some ⟨zb, zo, none⟩) 2 c2, .slice none 0 0, .int .i64 (-1)] 30))) := (Below.refl _ _).alloc (Nat.le_refl _) _
  have Z0 := Lib.hid ((HB.out.cell (World.block_lt_of_cell? w _ z0)).trans z0)
  have Z1 := Lib.hid ((HB.out.cell (World.block_lt_of_cell? w _ z1)).trans z1)
  have Z2 := Lib.hid ((HB.out.cell (World.block_lt_of_cell? w _ z2)).trans z2)
  have Z3 := Lib.hid ((HB.out.cell (World.block_lt_of_cell? w _ z3)).trans z3)
  clear z0 z1 z2 z3
  have hj : (⟨(Lib.join (([⟨#[122, 115, 101, 116]⟩, ⟨#[54, 98]⟩, ⟨#[45]⟩, zs0, zs1] : List ByteArray).map (·.data.toList)) (⟨#[32]⟩ : ByteArray).data.toList).toArray⟩ : ByteArray) = ⟨#[122, 115, 101, 116, 32, 54, 98, 32, 45, 32, 54, 50, 58, 45, 49, 32, 54, 49, 58, 51]⟩ := by kernel_rfl
  have HJ := Lib.hid hj
  clear hL hj
  go_enter Tryz.func59, Tryz.ntmps59
  have k0 : (w.alloc (.cells #[.string ⟨#[107]⟩, .int .i64 4, .string ⟨#[]⟩, .slice none 0 0, .slice (some ⟨zb, zo, none⟩) 2 c2, .slice none 0 0, .int .i64 (-1)] 30)).cell? ⟨w.heap.size, 0, none⟩ = some (.string ⟨#[107]⟩) := by go_simp
  have K0 := Lib.hid k0
  have HB0 := HB
  clear k0
  go_wp2_with fail
  refine (wordsZ zb zo c2 _ (HL.out.below HB.out) Z0.out Z1.out Z2.out Z3.out).mono ?_
  rintro e w1 ⟨v1, rfl, o1, b1⟩
  obtain ⟨g, cap, hv, _, hgl⟩ := o1.form (by decide)
  subst hv
  have c0 : w1.cell? ⟨w.heap.size, 0, none⟩ = some (.string ⟨#[107]⟩) := (b1.cell (p := ⟨w.heap.size, 0, none⟩) (World.block_lt_of_cell? _ _ K0.out)).trans K0.out
  have HB1 := Lib.hid (below_trans' HB0.out b1)
  have HO1 := Lib.hid o1
  clear o1 b1
  go_wp2_with fail
  refine (hex_107 _).mono ?_
  rintro e w2 ⟨rfl, b2⟩
  have HB2 := Lib.hid (below_trans' HB1.out b2)
  have src : Src w2 1 (some ⟨g, 0, none⟩) 2 [.string zs0, .string zs1] := ⟨rfl, by intro u hu; simp at hu; rcases hu with rfl | rfl <;> rfl, fun _ => ⟨_, rfl, fun j u hu => by
    rw [Addr.add_lit, Nat.zero_add]
    have hj := (List.getElem?_eq_some_iff.1 hu).1
    simp at hj
    exact (b2.cell (p := ⟨g, j, none⟩) hgl).trans ((HO1.out.cellAt j (by omega)).trans hu)⟩⟩
  have HS := Lib.hid (src.below ((Below.refl _ _).alloc (Nat.le_refl _) (.cells #[.string ⟨#[122, 115, 101, 116]⟩, .string ⟨#[54, 98]⟩, .string ⟨#[45]⟩] 9)))
  have HN : Hid ((w2.alloc (.cells #[.string ⟨#[122, 115, 101, 116]⟩, .string ⟨#[54, 98]⟩, .string ⟨#[45]⟩] 9)).ownsRow w.heap.size 9 1 (.slice (some ⟨w2.heap.size, 0, none⟩) 3 3) 3 [.string ⟨#[122, 115, 101, 116]⟩, .string ⟨#[54, 98]⟩, .string ⟨#[45]⟩]) := World.ownsRow_lit w2 #[.string ⟨#[122, 115, 101, 116]⟩, .string ⟨#[54, 98]⟩, .string ⟨#[45]⟩] 3 HB2.out.size (by unfold maxLen; omega) rfl
  clear src b2 c0 HO1 hgl
  go_wp2_with (at_builtin; refine wpList_append_src _ (by rfl) (.tmp 23) (.tmp 24) 24 (by rfl) w.heap.size 9 i0 (.string ⟨#[]⟩) 1 16 Tryz.underlying24 hi hz0 hz1 hz2 (by rfl) (Nat.zero_lt_succ _) (.slice (some ⟨w2.heap.size, 0, none⟩) 3 3) 3 [.string ⟨#[122, 115, 101, 116]⟩, .string ⟨#[54, 98]⟩, .string ⟨#[45]⟩] (by rfl) HN.out (some ⟨g, 0, none⟩) 2 cap [.string zs0, .string zs1] (by rfl) HS.out (by unfold maxLen; omega) (by omega) (HB2.out.alloc HB2.out.size _).size ?_; intro v3 w3 o3 g3 _)
  obtain ⟨g', cap', hv, hg1, hg2⟩ := o3.form (by decide)
  subst hv
  have hcap : 5 ≤ cap' := by
    rcases o3.2 with ⟨h0, _⟩ | ⟨_, _, _, he, _, _, hn, _⟩
    · cases h0
    · injection he with _ _ e3
      omega
  have HB3 := Lib.hid ((HB2.out.alloc HB2.out.size (.cells #[.string ⟨#[122, 115, 101, 116]⟩, .string ⟨#[54, 98]⟩, .string ⟨#[45]⟩] 9)).grown g3 (HB2.out.alloc HB2.out.size _).size (fun k hk => (ownsRow_base HN.out k hk).1))
  have hJ : Calls Tryz.prog 91 #[.slice (some ⟨g', 0, none⟩) 5 cap', .string ⟨#[32]⟩] w3 fun e w' => e = .returned (.string ⟨#[122, 115, 101, 116, 32, 54, 98, 32, 45, 32, 54, 50, 58, 45, 49, 32, 54, 49, 58, 51]⟩) ∧ Below w3.heap.size w3 w' := by
    rw [← HJ.out]
    exact Tryz.strings_Join g' 0 cap' [⟨#[122, 115, 101, 116]⟩, ⟨#[54, 98]⟩, ⟨#[45]⟩, zs0, zs1] ⟨#[32]⟩ w3 (fun j x hx => by
      rw [Nat.zero_add]
      have hj := (List.getElem?_eq_some_iff.1 hx).1
      simp at hj
      refine (o3.cellAt j (by omega)).trans ?_
      match j, hx with
      | 0, hx => cases hx; rfl
      | 1, hx => cases hx; rfl
      | 2, hx => cases hx; rfl
      | 3, hx => cases hx; rfl
      | 4, hx => cases hx; rfl
      | j + 5, hx => simp at hx) hg2 (by simp) hcap (by decide +kernel)
  clear o3 g3 HN HS
  go_wp2_with fail
  refine hJ.mono ?_
  rintro e w4 ⟨rfl, b4⟩
  go_wp2
  go_ret
  exact ⟨rfl, below_trans' HB3.out b4⟩

set_option maxHeartbeats 4000000 in
theorem line5 (w : World) (hL : Laid w) :
    Calls Tryz.prog 59 #[.agg #[.string ⟨#[107]⟩, .int .i64 1, .string ⟨#[]⟩, .slice none 0 0, .slice none 0 0, .slice none 0 0, .int .i64 5]] w fun e w' => e = .returned (.string ⟨#[115, 116, 114, 105, 110, 103, 32, 54, 98, 32, 53, 32, 46]⟩) ∧ Below w.heap.size w w' := by
  obtain ⟨i0, hi, hz0, hz1, hz2⟩ := info_parts infos
  have HL := Lib.hid hL
  have HB : Hid (Below w.heap.size w (w.alloc (.cells #[.string ⟨#[107]⟩, .int .i64 1, .string ⟨#[]⟩, .slice none 0 0, .slice none 0 0, .slice none 0 0, .int .i64 5] 30))) := (Below.refl _ _).alloc (Nat.le_refl _) _
  have hj : (⟨(Lib.join (([⟨#[115, 116, 114, 105, 110, 103]⟩, ⟨#[54, 98]⟩, ⟨#[53]⟩, ds0] : List ByteArray).map (·.data.toList)) (⟨#[32]⟩ : ByteArray).data.toList).toArray⟩ : ByteArray) = ⟨#[115, 116, 114, 105, 110, 103, 32, 54, 98, 32, 53, 32, 46]⟩ := by kernel_rfl
  have HJ := Lib.hid hj
  clear hL hj
  go_enter Tryz.func59, Tryz.ntmps59
  go_wp2_with fail
  refine (numText_5 _ (HL.out.below HB.out)).mono ?_
  rintro e w0 ⟨rfl, b0⟩
  have k1 : w0.cell? ⟨w.heap.size, 1, none⟩ = some (.int .i64 1) := (b0.cell (p := ⟨w.heap.size, 1, none⟩) (by simp)).trans (by go_simp)
  have k2 : w0.cell? ⟨w.heap.size, 2, none⟩ = some (.string ⟨#[]⟩) := (b0.cell (p := ⟨w.heap.size, 2, none⟩) (by simp)).trans (by go_simp)
  have k3 : w0.cell? ⟨w.heap.size, 3, none⟩ = some (.slice none 0 0) := (b0.cell (p := ⟨w.heap.size, 3, none⟩) (by simp)).trans (by go_simp)
  have k4 : w0.cell? ⟨w.heap.size, 4, none⟩ = some (.slice none 0 0) := (b0.cell (p := ⟨w.heap.size, 4, none⟩) (by simp)).trans (by go_simp)
  have k5 : w0.cell? ⟨w.heap.size, 5, none⟩ = some (.slice none 0 0) := (b0.cell (p := ⟨w.heap.size, 5, none⟩) (by simp)).trans (by go_simp)
  have k0 : w0.cell? ⟨w.heap.size, 0, none⟩ = some (.string ⟨#[107]⟩) := (b0.cell (p := ⟨w.heap.size, 0, none⟩) (by simp)).trans (by go_simp)
  have HB0 := Lib.hid (below_trans' HB.out b0)
  have zz : w.heap.size < w0.heap.size := World.block_lt_of_cell? w0 _ k0
  clear b0
  go_wp2_with fail
  refine (words1 _).mono ?_
  rintro e w1 ⟨v1, rfl, o1, b1⟩
  obtain ⟨g, cap, hv, _, hgl⟩ := o1.form (by decide)
  subst hv
  have c0 : w1.cell? ⟨w.heap.size, 0, none⟩ = some (.string ⟨#[107]⟩) := (b1.cell (p := ⟨w.heap.size, 0, none⟩) (World.block_lt_of_cell? _ _ k0)).trans k0
  have HB1 := Lib.hid (below_trans' HB0.out b1)
  have HO1 := Lib.hid o1
  clear o1 b1 k0 k1 k2 k3 k4 k5
  go_wp2_with fail
  refine (hex_107 _).mono ?_
  rintro e w2 ⟨rfl, b2⟩
  have HB2 := Lib.hid (below_trans' HB1.out b2)
  have src : Src w2 1 (some ⟨g, 0, none⟩) 1 [.string ds0] := ⟨rfl, by intro u hu; simp at hu; rcases hu with rfl; rfl, fun _ => ⟨_, rfl, fun j u hu => by
    rw [Addr.add_lit, Nat.zero_add]
    have hj := (List.getElem?_eq_some_iff.1 hu).1
    simp at hj
    exact (b2.cell (p := ⟨g, j, none⟩) hgl).trans ((HO1.out.cellAt j (by omega)).trans hu)⟩⟩
  have HS := Lib.hid (src.below ((Below.refl _ _).alloc (Nat.le_refl _) (.cells #[.string ⟨#[115, 116, 114, 105, 110, 103]⟩, .string ⟨#[54, 98]⟩, .string ⟨#[53]⟩] 9)))
  have HN : Hid ((w2.alloc (.cells #[.string ⟨#[115, 116, 114, 105, 110, 103]⟩, .string ⟨#[54, 98]⟩, .string ⟨#[53]⟩] 9)).ownsRow w.heap.size 9 1 (.slice (some ⟨w2.heap.size, 0, none⟩) 3 3) 3 [.string ⟨#[115, 116, 114, 105, 110, 103]⟩, .string ⟨#[54, 98]⟩, .string ⟨#[53]⟩]) := World.ownsRow_lit w2 #[.string ⟨#[115, 116, 114, 105, 110, 103]⟩, .string ⟨#[54, 98]⟩, .string ⟨#[53]⟩] 3 HB2.out.size (by unfold maxLen; omega) rfl
  clear src b2 c0 HO1 hgl
  go_wp2_with (at_builtin; refine wpList_append_src _ (by rfl) (.tmp 23) (.tmp 24) 24 (by rfl) w.heap.size 9 i0 (.string ⟨#[]⟩) 1 16 Tryz.underlying24 hi hz0 hz1 hz2 (by rfl) (Nat.zero_lt_succ _) (.slice (some ⟨w2.heap.size, 0, none⟩) 3 3) 3 [.string ⟨#[115, 116, 114, 105, 110, 103]⟩, .string ⟨#[54, 98]⟩, .string ⟨#[53]⟩] (by rfl) HN.out (some ⟨g, 0, none⟩) 1 cap [.string ds0] (by rfl) HS.out (by unfold maxLen; omega) (by omega) (HB2.out.alloc HB2.out.size _).size ?_; intro v3 w3 o3 g3 _)
  obtain ⟨g', cap', hv, hg1, hg2⟩ := o3.form (by decide)
  subst hv
  have hcap : 4 ≤ cap' := by
    rcases o3.2 with ⟨h0, _⟩ | ⟨_, _, _, he, _, _, hn, _⟩
    · cases h0
    · injection he with _ _ e3
      omega
  have HB3 := Lib.hid ((HB2.out.alloc HB2.out.size (.cells #[.string ⟨#[115, 116, 114, 105, 110, 103]⟩, .string ⟨#[54, 98]⟩, .string ⟨#[53]⟩] 9)).grown g3 (HB2.out.alloc HB2.out.size _).size (fun k hk => (ownsRow_base HN.out k hk).1))
  have hJ : Calls Tryz.prog 91 #[.slice (some ⟨g', 0, none⟩) 4 cap', .string ⟨#[32]⟩] w3 fun e w' => e = .returned (.string ⟨#[115, 116, 114, 105, 110, 103, 32, 54, 98, 32, 53, 32, 46]⟩) ∧ Below w3.heap.size w3 w' := by
    rw [← HJ.out]
    exact Tryz.strings_Join g' 0 cap' [⟨#[115, 116, 114, 105, 110, 103]⟩, ⟨#[54, 98]⟩, ⟨#[53]⟩, ds0] ⟨#[32]⟩ w3 (fun j x hx => by
      rw [Nat.zero_add]
      have hj := (List.getElem?_eq_some_iff.1 hx).1
      simp at hj
      refine (o3.cellAt j (by omega)).trans ?_
      match j, hx with
      | 0, hx => cases hx; rfl
      | 1, hx => cases hx; rfl
      | 2, hx => cases hx; rfl
      | 3, hx => cases hx; rfl
      | j + 4, hx => simp at hx) hg2 (by simp) hcap (by decide +kernel)
  clear o3 g3 HN HS
  go_wp2_with fail
  refine hJ.mono ?_
  rintro e w4 ⟨rfl, b4⟩
  go_wp2
  go_ret
  exact ⟨rfl, below_trans' HB3.out b4⟩
end Go.Proofs.YtkgghnjpegpnlaaGreatDoor
