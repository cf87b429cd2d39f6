/- slices.BinarySearchFunc over entries. Conditions: the row reads as the list, the comparison answers as a plain function that is monotone along the list. -/
import Derived.Test.YtkgghnjpegpnlaaGreatDoorOwn
import Derived.WalkSpells
import Derived.WalkLawsBesides
import Derived.Deep.LoopGhost
import Derived.Shelf.Abstract
namespace Go.Proofs.YtkgghnjpegpnlaaGreatDoor
open Go.RowKit Go.Proofs
set_option linter.unusedSimpArgs false
set_option linter.unusedVariables false
set_option maxRecDepth 100000

/-- What the search answers. -/
def Found (p : DEntry → Int) (xs : List DEntry) (i : Nat) (b : Bool) : Prop :=
  i ≤ xs.length ∧ (∀ (j : Nat) (x : DEntry), j < i → xs[j]? = some x → p x < 0) ∧ (∀ (j : Nat) (x : DEntry), i ≤ j → xs[j]? = some x → 0 ≤ p x) ∧ (b = true ↔ ∃ x, xs[i]? = some x ∧ p x = 0)
def SearchPost (p : DEntry → Int) (xs : List DEntry) (w : World) (e : Ending) (w' : World) : Prop :=
  ∃ i b, e = .returned (.tuple #[.int .i64 (i : Nat), .bool b]) ∧ Found p xs i b ∧ Below w.heap.size w w'

set_option maxHeartbeats 1000000 in
theorem BinarySearchFunc (g : Nat) (p : DEntry → DEntry → Int) (t : DEntry) (cs : List Value) (S : Nat → Prop) (A : Option Addr) (xs : List DEntry) (c : Nat) (w : World)
    (hx : Row kEntry S w A xs) (ht : kEntry.R S w t cs) (hp : CmpK Tryz.prog kEntry aggOf g #[] p S w) (eg : EntersF Tryz.prog g)
    (hmono : ∀ (i j : Nat) (x y : DEntry), i ≤ j → xs[i]? = some x → xs[j]? = some y → p y t < 0 → p x t < 0) :
    Calls Tryz.prog 25 #[.slice A xs.length c, .agg cs.toArray, .func (.func g) #[] #[]] w (SearchPost (fun x => p x t) xs w) := by
  have ht' := ht
  obtain ⟨tA1, tc1, tA2, tc2, tA3, tc3, rfl, _⟩ := ht'
  have hl := hx.1
  have Hm := Lib.hid hmono
  unfold EntersF at eg
  clear hmono
  go_enter Tryz.func25, Tryz.ntmps25
  go_wp2
  obtain ⟨W, hW⟩ : ∃ W, W = w.alloc (.cells #[.string t.key, .int .i64 t.v.kind, .string t.v.s, .slice tA1 t.v.l.length tc1, .slice tA2 t.v.z.length tc2, .slice tA3 t.v.h.length tc3, .int .i64 t.at_] 30) := ⟨_, rfl⟩
  rw [← hW]
  have hB : Below w.heap.size w W := by rw [hW]; exact (Below.refl _ _).alloc (Nat.le_refl _) _
  have hz0 : w.heap.size < W.heap.size := by rw [hW]; simp
  have t0 : W.cell? ⟨w.heap.size, 0, none⟩ = some (.string t.key) := by rw [hW]; go_simp
  have t1 : W.cell? ⟨w.heap.size, 1, none⟩ = some (.int .i64 t.v.kind) := by rw [hW]; go_simp
  have t2 : W.cell? ⟨w.heap.size, 2, none⟩ = some (.string t.v.s) := by rw [hW]; go_simp
  have t3 : W.cell? ⟨w.heap.size, 3, none⟩ = some (.slice tA1 t.v.l.length tc1) := by rw [hW]; go_simp
  have t4 : W.cell? ⟨w.heap.size, 4, none⟩ = some (.slice tA2 t.v.z.length tc2) := by rw [hW]; go_simp
  have t5 : W.cell? ⟨w.heap.size, 5, none⟩ = some (.slice tA3 t.v.h.length tc3) := by rw [hW]; go_simp
  have t6 : W.cell? ⟨w.heap.size, 6, none⟩ = some (.int .i64 t.at_) := by rw [hW]; go_simp
  clear hW
  have HB0 := Lib.hid hB
  clear hB
  go_loopg [9, 10, 11] xs.length (fun gg s9 s10 _ wr => ∃ lo hi : Nat, lo ≤ hi ∧ hi ≤ xs.length ∧ hi - lo ≤ gg ∧ s9 = .int .i64 lo ∧ s10 = .int .i64 hi ∧ Hid (Below W.heap.size W wr) ∧ Hid (∀ (j : Nat) (x : DEntry), j < lo → xs[j]? = some x → p x t < 0) ∧ Hid (∀ (j : Nat) (x : DEntry), hi ≤ j → xs[j]? = some x → 0 ≤ p x t))
  case atStart => exact ⟨0, xs.length, by omega, by omega, by omega, rfl, rfl, Below.refl _ _, fun j _ h => absurd h (Nat.not_lt_zero _), fun j x h hj => absurd (List.getElem?_eq_some_iff.1 hj).1 (by omega)⟩
  case round =>
    obtain ⟨lo, hi, hlh, hhn, hg, rfl, rfl, HB, HL, HH⟩ := hrel
    have HBw : Below w.heap.size w wr := HB0.out.trans (HB.out.mono (Nat.le_of_lt hz0))
    have HBW := Lib.hid HBw
    clear HBw
    replace t0 := (HB.out.cell (p := ⟨w.heap.size, 0, none⟩) hz0).trans t0
    replace t1 := (HB.out.cell (p := ⟨w.heap.size, 1, none⟩) hz0).trans t1
    replace t2 := (HB.out.cell (p := ⟨w.heap.size, 2, none⟩) hz0).trans t2
    replace t3 := (HB.out.cell (p := ⟨w.heap.size, 3, none⟩) hz0).trans t3
    replace t4 := (HB.out.cell (p := ⟨w.heap.size, 4, none⟩) hz0).trans t4
    replace t5 := (HB.out.cell (p := ⟨w.heap.size, 5, none⟩) hz0).trans t5
    replace t6 := (HB.out.cell (p := ⟨w.heap.size, 6, none⟩) hz0).trans t6
    by_cases hlt : lo < hi
    · have hltz : (lo : Int) < (hi : Int) := by omega
      obtain ⟨m, hm⟩ : ∃ m, m = (lo + hi) / 2 := ⟨_, rfl⟩
      have Hm2 := Lib.hid hm
      have hm1 : lo ≤ m := by omega
      have hm3 : m < hi := by omega
      clear hm
      obtain ⟨x, hx'⟩ : ∃ x, xs[m]? = some x := ⟨_, List.getElem?_eq_getElem (by omega)⟩
      have hrow := hx.move (below_moves HBW.out)
      obtain ⟨fb, foff, fA1, fc1, fA2, fc2, fA3, fc3, rfl, f0, f1, f2, f3, f4, f5, f6, fR⟩ := (hrow).entry hx'
      have hcall : ∀ q : Later wr, Calls Tryz.prog g #[.agg #[.string x.key, .int .i64 x.v.kind, .string x.v.s, .slice fA1 x.v.l.length fc1, .slice fA2 x.v.z.length fc2, .slice fA3 x.v.h.length fc3, .int .i64 x.at_], .agg #[.string t.key, .int .i64 t.v.kind, .string t.v.s, .slice tA1 t.v.l.length tc1, .slice tA2 t.v.z.length tc2, .slice tA3 t.v.h.length tc3, .int .i64 t.at_]] q.W fun e W' => e = .returned (.int .i64 (p x t)) ∧ Below q.W.heap.size q.W W' :=
        fun q => hp q.W x t [.string x.key, .int .i64 x.v.kind, .string x.v.s, .slice fA1 x.v.l.length fc1, .slice fA2 x.v.z.length fc2, .slice fA3 x.v.h.length fc3, .int .i64 x.at_] [.string t.key, .int .i64 t.v.kind, .string t.v.s, .slice tA1 t.v.l.length tc1, .slice tA2 t.v.z.length tc2, .slice tA3 t.v.h.length tc3, .int .i64 t.at_] (kEntry.move (below_moves q.below) fR) (kEntry.move (below_moves (below_trans' HBW.out q.below)) ht) (below_trans' HBW.out q.below)
      have HX := Lib.hid hx'
      clear fR hrow hx' hx hp ht
      replace f0 := Later.cell f0
      replace f1 := Later.cell f1
      replace f2 := Later.cell f2
      replace f3 := Later.cell f3
      replace f4 := Later.cell f4
      replace f5 := Later.cell f5
      replace f6 := Later.cell f6
      replace t0 := Later.cell t0
      replace t1 := Later.cell t1
      replace t2 := Later.cell t2
      replace t3 := Later.cell t3
      replace t4 := Later.cell t4
      replace t5 := Later.cell t5
      replace t6 := Later.cell t6
      go_wp2_with fail
      rw [show ((lo : Int) + (hi : Int)) / 2 = (m : Int) from by rw [Hm2.out]; omega]
      refine wp_region_later (by kernel_rfl) (by kernel_rfl) ?_
      repeat (go_big_quiet_step ((go_at_fn g; exact Calls.later (hcall _))))
      refine wpQuiet_nil ?_
      rintro _ ⟨q, rfl⟩
      clear hcall
      by_cases hq : p x t < 0
      · go_wp2
        go_roundg (hi - (m + 1))
        case rel =>
          refine ⟨m + 1, hi, by omega, hhn, by omega, by go_num, rfl, below_trans' HB.out q.below, fun j z hj hz => ?_, HH.out⟩
          exact Hm.out j m z x (by omega) hz HX.out hq
        case measure => omega
      · go_wp2
        go_roundg (m - lo)
        case rel =>
          refine ⟨lo, m, by omega, by omega, by omega, rfl, rfl, below_trans' HB.out q.below, HL.out, fun j z hj hz => ?_⟩
          rcases Int.lt_or_le (p z t) 0 with h | h
          · exact absurd (Hm.out m j x z hj HX.out hz h) (by omega)
          · exact h
        case measure => omega
    · obtain rfl : lo = hi := by omega
      go_wp2_with fail
      by_cases hin : lo < xs.length
      · have hinz : decide ((lo : Int) < (xs.length : Int)) = true := by simp; omega
        obtain ⟨x, hx'⟩ : ∃ x, xs[lo]? = some x := ⟨_, List.getElem?_eq_getElem hin⟩
        have hrow := hx.move (below_moves HBW.out)
        obtain ⟨fb, foff, fA1, fc1, fA2, fc2, fA3, fc3, rfl, f0, f1, f2, f3, f4, f5, f6, fR⟩ := (hrow).entry hx'
        have hcall : ∀ q : Later wr, Calls Tryz.prog g #[.agg #[.string x.key, .int .i64 x.v.kind, .string x.v.s, .slice fA1 x.v.l.length fc1, .slice fA2 x.v.z.length fc2, .slice fA3 x.v.h.length fc3, .int .i64 x.at_], .agg #[.string t.key, .int .i64 t.v.kind, .string t.v.s, .slice tA1 t.v.l.length tc1, .slice tA2 t.v.z.length tc2, .slice tA3 t.v.h.length tc3, .int .i64 t.at_]] q.W fun e W' => e = .returned (.int .i64 (p x t)) ∧ Below q.W.heap.size q.W W' :=
          fun q => hp q.W x t [.string x.key, .int .i64 x.v.kind, .string x.v.s, .slice fA1 x.v.l.length fc1, .slice fA2 x.v.z.length fc2, .slice fA3 x.v.h.length fc3, .int .i64 x.at_] [.string t.key, .int .i64 t.v.kind, .string t.v.s, .slice tA1 t.v.l.length tc1, .slice tA2 t.v.z.length tc2, .slice tA3 t.v.h.length tc3, .int .i64 t.at_] (kEntry.move (below_moves q.below) fR) (kEntry.move (below_moves (below_trans' HBW.out q.below)) ht) (below_trans' HBW.out q.below)
        have HX := Lib.hid hx'
        have hinz2 : (lo : Int) < (xs.length : Int) := by omega
        clear fR hrow hx' hx hp ht
        replace f0 := Later.cell f0
        replace f1 := Later.cell f1
        replace f2 := Later.cell f2
        replace f3 := Later.cell f3
        replace f4 := Later.cell f4
        replace f5 := Later.cell f5
        replace f6 := Later.cell f6
        replace t0 := Later.cell t0
        replace t1 := Later.cell t1
        replace t2 := Later.cell t2
        replace t3 := Later.cell t3
        replace t4 := Later.cell t4
        replace t5 := Later.cell t5
        replace t6 := Later.cell t6
        refine wp_region_later (by kernel_rfl) (by kernel_rfl) ?_
        repeat (go_big_quiet_step ((go_at_fn g; exact Calls.later (hcall _))))
        refine wpQuiet_nil ?_
        rintro _ ⟨q, rfl⟩
        clear hcall
        go_wp2
        go_ret2
        refine ⟨lo, p x t == 0, by simp, ⟨hhn, HL.out, HH.out, ?_⟩, below_trans' HBW.out q.below⟩
        rw [HX.out]
        simp
      · have hinz : decide ((lo : Int) < (xs.length : Int)) = false := by simp; omega
        refine wp_region_later (by kernel_rfl) (by kernel_rfl) ?_
        repeat (go_big_quiet_step ((fail)))
        refine wpQuiet_nil ?_
        rintro _ ⟨q, rfl⟩
        go_wp2
        go_ret2
        refine ⟨lo, false, by simp, ⟨hhn, HL.out, HH.out, ?_⟩, below_trans' HBW.out q.below⟩
        rw [List.getElem?_eq_none (by omega)]
        simp
end Go.Proofs.YtkgghnjpegpnlaaGreatDoor
