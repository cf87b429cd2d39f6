/- number.Text, number.Parse("5"), image.unhex at the texts that 'alive' meets. Conditions: the library's table of powers of ten is laid. -/
import Derived.Test.YtkgghnjpegpnlaaGreatDoorHex
import Derived.Test.YtkgghnjpegpnlaaGreatDoorImage
import Derived.Test.YtkgghnjpegpnlaaGreatDoorChain
import Derived.Laws.BytesString
import Derived.Laws.RangeString
namespace Go.Proofs.YtkgghnjpegpnlaaGreatDoor
open Go.RowKit Go.Proofs
set_option linter.unusedSimpArgs false
set_option linter.unusedVariables false
set_option maxRecDepth 100000

theorem bel_grow (w : World) (n : Nat) (os : Array Obj) : Below w.heap.size w (Sort.grow (w.drewN n) os) :=
  ⟨rfl, rfl, rfl, by show w.heap.size ≤ (w.heap ++ os).size; rw [Array.size_append]; omega, fun i hi => by
    show (w.heap ++ os)[i]? = w.heap[i]?
    rw [Array.getElem?_append_left hi]⟩

/-- What the library's variables hold: the table of powers of ten; bytealg.MaxLen some number. -/
def Laid (w : World) : Prop := Lib.TabIs Tryz.prog w "internal/strconv.uint64pow10" .u64 Lib.pow10Tab ∧ ∃ m, w.cell? ⟨0, 0, none⟩ = some (.int .i64 m)
theorem Laid.below {w w' : World} (h : Laid w) (hb : Below w.heap.size w w') : Laid w' := by
  obtain ⟨h1, m, h2⟩ := h
  refine ⟨?_, m, (hb.cell (World.block_lt_of_cell? w _ h2)).trans h2⟩
  unfold Lib.TabIs World.var? at h1 ⊢
  cases hg : Tryz.prog.globalNamed "internal/strconv.uint64pow10" with
  | none => rw [hg] at h1; cases h1
  | some g =>
    rw [hg] at h1
    simp only [Option.bind_some] at h1 ⊢
    rcases Nat.lt_or_ge g w.heap.size with hlt | hge
    · rw [hb.block g hlt]
      exact h1
    · rw [Array.getElem?_eq_none hge] at h1
      cases h1

set_option maxHeartbeats 400000 in
theorem numText (n : Int) (h0 : -9223372036854775808 ≤ n) (h1 : n ≤ 9223372036854775807) (w : World) (hL : Laid w) :
    Calls Tryz.prog 89 #[.int .i64 n] w fun e w' => e = .returned (.string ⟨(Lib.itoa n).toArray⟩) ∧ Below w.heap.size w w' := by
  have hF := Tryz.strconv_FormatInt_10 n h0 h1 w hL.1
  clear h0 h1
  go_enter Tryz.func89, Tryz.ntmps89
  go_wp2_with (go_at_call 145; refine hF.mono ?_; rintro e w' ⟨rfl, k, os, rfl⟩)
  go_ret
  exact ⟨rfl, bel_grow w k os⟩

set_option maxHeartbeats 1000000 in
theorem parse5 (w : World) (hL : Laid w) : Calls Tryz.prog 97 #[.string ⟨#[53]⟩] w fun e w' => e = .returned (.tuple #[.int .i64 5, .int .i64 0]) ∧ Below w.heap.size w w' := by
  have hP := fun W => Tryz.strconv_ParseInt_10_at64_ok ⟨#[53]⟩ (by decide) 5 (by decide) W
  have hF := fun (W : World) (hb : Below w.heap.size w W) => Tryz.strconv_FormatInt_10 5 (by decide) (by decide) W (hL.below hb).1
  have hi5 : (⟨(Lib.itoa 5).toArray⟩ : ByteArray) = ⟨#[53]⟩ := by kernel_rfl
  simp only [hi5] at hF
  have n0 := fun ty => run_next_ascii (P := Tryz.prog) w ⟨#[53]⟩ 0 ty (by decide) (by decide)
  have n1 := fun ty => run_next_end (P := Tryz.prog) w ⟨#[53]⟩ 1 ty (by decide)
  have N0 := Lib.hid n0
  have N1 := Lib.hid n1
  have HP := Lib.hid hP
  have HF := Lib.hid hF
  clear n0 n1 hP hF hi5
  go_enter Tryz.func97, Tryz.ntmps97
  go_wp2
  go_loopg [4] 2 (fun gg s4 wr => ∃ k : Nat, k ≤ 1 ∧ 2 - k ≤ gg ∧ Hid (wr = w.iter ⟨#[53]⟩ k))
  case atStart => exact ⟨0, by omega, by omega, rfl⟩
  case round =>
    obtain ⟨k, hk, hg, hw⟩ := hrel
    by_cases h0 : k = 0
    · subst h0
      obtain rfl := hw.out
      have n0 := N0.out
      clear hw
      go_wp2
      go_roundg 1
      case rel => exact ⟨1, by omega, by omega, rfl⟩
      case measure => omega
    · obtain rfl : k = 1 := by omega
      obtain rfl := hw.out
      have n1 := N1.out
      have hB : Below w.heap.size w (w.iter ⟨#[53]⟩ 1) := (Below.refl _ _).alloc (Nat.le_refl _) _
      have HB := Lib.hid hB
      clear hw hB
      go_wp2_with fail
      refine (HP.out _).mono ?_
      rintro e w1 ⟨rfl, hw1⟩
      have hb1 : Below (w.iter ⟨#[53]⟩ 1).heap.size (w.iter ⟨#[53]⟩ 1) w1 := by
        rcases hw1 with rfl | ⟨t, rfl⟩
        · exact Below.refl _ _
        · exact Lib.bytesWorld_below _ _ _
      have HB1 := Lib.hid (below_trans' HB.out hb1)
      clear hw1 hb1 n1
      go_wp2_with fail
      refine (HF.out _ HB1.out).mono ?_
      rintro e w2 ⟨rfl, q, os, rfl⟩
      go_wp2
      go_ret2
      exact ⟨rfl, below_trans' HB1.out (bel_grow _ _ _)⟩

theorem unhex_dot (w : World) : Calls Tryz.prog 96 #[.string ⟨#[46]⟩] w fun e w' => e = .returned (.tuple #[.string ⟨#[]⟩, .bool true]) ∧ Below w.heap.size w w' := by
  go_enter Tryz.func96, Tryz.ntmps96
  go_wp2
  go_ret2
  exact ⟨rfl, Below.refl _ _⟩

def digits16 : ByteArray := ⟨#[48, 49, 50, 51, 52, 53, 54, 55, 56, 57, 97, 98, 99, 100, 101, 102]⟩
theorem indexByte6 (w : World) : Calls Tryz.prog 149 #[.string digits16, .int .u8 54] w fun e w' => e = .returned (.int .i64 6) ∧ Below w.heap.size w w' := by
  refine (Tryz.strings_IndexByte digits16 54 w).mono ?_
  rintro e w' ⟨rfl, rfl⟩
  exact ⟨by kernel_rfl, Below.refl _ _⟩
theorem indexByteb (w : World) : Calls Tryz.prog 149 #[.string digits16, .int .u8 98] w fun e w' => e = .returned (.int .i64 11) ∧ Below w.heap.size w w' := by
  refine (Tryz.strings_IndexByte digits16 98 w).mono ?_
  rintro e w' ⟨rfl, rfl⟩
  exact ⟨by kernel_rfl, Below.refl _ _⟩

set_option maxHeartbeats 1000000 in
theorem unhex_6b (w : World) : Calls Tryz.prog 96 #[.string ⟨#[54, 98]⟩] w fun e w' => e = .returned (.tuple #[.string ⟨#[107]⟩, .bool true]) ∧ Below w.heap.size w w' := by
  obtain ⟨i0, hi, hz0, hz1, hz2⟩ := info_parts infoByte
  have hmk : ∀ w : World, (Instr.makeSlice 88 (.int .i64 0) (.int .i64 1)).run Tryz.prog w = .ok (.slice (some ⟨w.heap.size, 0, none⟩) 0 1) (w.alloc (.cells #[.int .u8 0] 5)) := fun _ => by kernel_rfl
  go_enter Tryz.func96, Tryz.ntmps96
  go_wp2
  have hbits : bits .or .i64 96 11 = 107 := by kernel_rfl
  clear hmk
  go_loopg [4, 5] 2 (fun gg s4 s5 wr => ∃ (k : Nat) (v4 : Value), k ≤ 1 ∧ 2 - k ≤ gg ∧ s5 = .int .i64 ((2 * k : Nat) : Int) ∧ v4 = s4 ∧ Hid (wr.ownsRow w.heap.size 5 1 v4 k (if k = 0 then [] else [.int .u8 107])) ∧ Hid (Below w.heap.size w wr))
  case atStart => exact ⟨0, _, by omega, by omega, rfl, rfl, ⟨by simp, .inr ⟨w.heap.size, 1, #[.int .u8 0], rfl, Nat.le_refl _, heap_alloc_new w _, by omega, by unfold maxLen; omega, by simp, by simp⟩⟩, (Below.refl _ _).alloc (Nat.le_refl _) _⟩
  case round =>
    obtain ⟨k, v4, hk, hg, rfl, rfl, HO, HB⟩ := hrel
    by_cases h0 : k = 0
    · subst h0
      have HO0 : Hid (wr.ownsRow w.heap.size 5 1 v4 0 []) := HO.out
      clear HO
      go_wp2_with fail
      refine wp_region_later (by kernel_rfl) (by kernel_rfl) ?_
      repeat (go_big_quiet_step ((first | (go_at_call 149; exact Calls.later (indexByte6 _)) | (go_at_call 149; exact Calls.later (indexByteb _)))))
      refine wpQuiet_nil ?_
      rintro _ ⟨q, rfl⟩
      have HB1 := Lib.hid (below_trans' HB.out q.below)
      have HO1 : Hid (q.W.ownsRow w.heap.size 5 1 v4 0 []) := ownsRow_move HO0.out (fun k hk => (ownsRow_base HO0.out k hk).1) (fun k hk => q.below.block k (ownsRow_base HO0.out k hk).2)
      clear HO0 HB
      go_wp2_with (at_builtin; refine wpList_append_src _ (by rfl) (.tmp 43) (.tmp 49) 88 (by rfl) w.heap.size 5 i0 (.int .u8 0) 1 1 Tryz.underlying88 hi hz0 hz1 hz2 (by rfl) (Nat.zero_lt_succ _) v4 0 [] (by rfl) (World.ownsRow.alloc HO1.out _) (some ⟨q.W.heap.size, 0, none⟩) 1 1 [.int .u8 107] (by rfl) (Src.block (cs := [.int .u8 107]) (heap_alloc_new q.W _) rfl (fun u hu => by rw [List.mem_singleton.1 hu]; rfl)) (by unfold maxLen; omega) (by omega) (HB1.out.alloc HB1.out.size _).size ?_; intro v5 w5 o5 g5 _)
      have HO5 := Lib.hid o5
      have HB5 := Lib.hid ((HB1.out.alloc HB1.out.size (.cells #[.int .u8 107] 5)).grown g5 (HB1.out.alloc HB1.out.size _).size (fun k hk => (ownsRow_base HO1.out k hk).1))
      clear o5 g5 HO1
      go_roundg 1
      case rel => exact ⟨1, v5, by omega, by omega, rfl, rfl, HO5.out, HB5.out⟩
      case measure => omega
    · obtain rfl : k = 1 := by omega
      have HO0 : Hid (wr.ownsRow w.heap.size 5 1 v4 1 [.int .u8 107]) := HO.out
      clear HO
      obtain ⟨g, cap, hv, _, _⟩ := HO0.out.form (by decide)
      subst hv
      have hcell : wr.cell? ⟨g, 0, none⟩ = some (.int .u8 107) := by rw [HO0.out.cellAt 0 (by decide)]; rfl
      clear hbits
      have hload : (loadCells ⟨g, 0, none⟩ 1).run Tryz.prog wr = .ok (([107] : List Int).map (Value.int .u8)).toArray wr := run_loadCells_list (P := Tryz.prog) wr ⟨g, 0, none⟩ [.int .u8 107] (fun j u hj => by
        match j, hj with
        | 0, hj => cases hj; rw [Addr.add_lit]; exact hcell)
      have hcv : (Go.convert 88 9 (.slice (some ⟨g, 0, none⟩) 1 cap)).run Tryz.prog wr = .ok (.string ⟨#[107]⟩) wr := by
        rw [run_convert_bytes_string wr 88 9 5 _ _ _ Tryz.underlying88 Tryz.underlying5 Tryz.underlying9, run_bytesToString wr _ 1 cap [107] hload]
        rfl
      clear hload hcell
      go_wp2
      go_ret2
      exact ⟨rfl, HB.out⟩
end Go.Proofs.YtkgghnjpegpnlaaGreatDoor
