/- The reference's scans: millpondref09.sized, texts, fields, millpondref07.Ahead: what they answer. Conditions: what is read reads as the data. -/
import Derived.Test.YtkgghnjpegpnlaaGreatDoorOrder
import Derived.Test.YtkgghnjpegpnlaaGreatDoorRead
import Derived.Test.YtkgghnjpegpnlaaGreatDoorImage
namespace Go.Proofs.YtkgghnjpegpnlaaGreatDoor
open Go.RowKit Go.Proofs
set_option linter.unusedSimpArgs false
set_option linter.unusedVariables false
set_option maxRecDepth 100000

theorem cmpS_less (a b : ByteArray) : Op.bytesLess a.toList b.toList = decide (cmpS a b < 0) := by
  unfold cmpS
  cases Op.bytesLess a.toList b.toList
  · simp only [Bool.false_eq_true, if_false]
    split <;> rfl
  · rfl
theorem short_dec (a : ByteArray) : decide ((65536 : Int) < (a.size : Int)) = !shortB a := by
  unfold shortB
  by_cases h : a.size ≤ 65536
  · rw [decide_eq_true h, decide_eq_false (by omega)]; rfl
  · rw [decide_eq_false h, decide_eq_true (by omega)]; rfl

theorem all_no {α : Type} {p : α → Bool} {l : List α} {k : Nat} {x : α} (hx : l[k]? = some x) (h : p x = false) : l.all p = false := by
  rw [List.all_eq_false]
  exact ⟨x, List.mem_of_getElem? hx, by simp [h]⟩
theorem all_yes {α : Type} {p : α → Bool} {l : List α} (h : ∀ k x, k < l.length → l[k]? = some x → p x = true) : l.all p = true := by
  rw [List.all_eq_true]
  intro x hx
  obtain ⟨k, hk, rfl⟩ := List.mem_iff_getElem.1 hx
  exact h k _ hk (List.getElem?_eq_getElem hk)

theorem rsized (n : Nat) (w : World) (hn : n ≤ 140737488355328) : Calls Tryz.prog 99 #[.int .i64 n] w fun e w' => e = .returned (.bool (sizedB n)) ∧ w = w' := by
  by_cases h1 : 1 ≤ n
  · have h3 : sizedB n = decide (n ≤ 65536) := by
      unfold sizedB
      rw [decide_eq_true h1, Bool.true_and]
    have h4 : (1 : Int) ≤ (n : Int) := by omega
    rw [h3]
    by_cases h5 : n ≤ 65536
    · rw [decide_eq_true h5]
      have h6 : (n : Int) ≤ 65536 := by omega
      clear h3 h1 h5
      go_enter Tryz.func99, Tryz.ntmps99
      go_wp2
      go_ret
      exact ⟨rfl, rfl⟩
    · rw [decide_eq_false h5]
      have h6 : (65536 : Int) < (n : Int) := by omega
      have h7 : decide ((n : Int) ≤ 65536) = false := by simp; omega
      clear h3 h1 h5
      go_enter Tryz.func99, Tryz.ntmps99
      go_wp2
      go_ret
      exact ⟨rfl, rfl⟩
  · have h3 : sizedB n = false := by
      unfold sizedB
      rw [decide_eq_false (by omega), Bool.false_and]
    rw [h3]
    have h4 : (n : Int) < 1 := by omega
    clear h3 h1
    go_enter Tryz.func99, Tryz.ntmps99
    go_wp2
    go_ret
    exact ⟨rfl, rfl⟩

def aheadB (x y : DScored) : Bool := decide (cmpScored x y < 0)
theorem ahead_val (x y : DScored) : aheadB x y = (decide (x.n < y.n) || (x.n == y.n && Op.bytesLess x.m.toList y.m.toList)) := by
  unfold aheadB cmpScored cmpI
  rw [cmpS_less]
  rcases Int.lt_trichotomy x.n y.n with h | h | h
  · simp [h]
  · simp [h]
  · have h1 : ¬ x.n < y.n := by omega
    have h2 : x.n ≠ y.n := by omega
    simp [h, h1, h2]

set_option maxHeartbeats 400000 in
theorem Ahead (x y : DScored) (w : World) : Calls Tryz.prog 76 #[.agg #[.string x.m, .int .i64 x.n], .agg #[.string y.m, .int .i64 y.n]] w fun e w' => e = .returned (.bool (aheadB x y)) ∧ Below w.heap.size w w' := by
  have hv := ahead_val x y
  have HB : Below w.heap.size w ((w.alloc (.cells #[.string x.m, .int .i64 x.n] 70)).alloc (.cells #[.string y.m, .int .i64 y.n] 70)) := ((Below.refl _ _).alloc (Nat.le_refl _) _).alloc (by simp) _
  have H := Lib.hid HB
  clear HB
  rcases Int.lt_trichotomy x.n y.n with h | h | h
  · have HV : Hid (aheadB x y = true) := by unfold Hid; rw [hv]; simp [h]
    clear hv
    go_enter Tryz.func76, Tryz.ntmps76
    go_wp2
    go_ret
    exact ⟨by rw [HV.out]; rfl, H.out⟩
  · have HV : Hid (aheadB x y = Op.bytesLess x.m.toList y.m.toList) := by unfold Hid; rw [hv]; simp [h]
    have h1 : (x.n == y.n) = true := by simp [h]
    have h2 : decide (x.n < y.n) = false := by simp; omega
    have h3 : ¬ x.n < y.n := by omega
    clear hv h
    go_enter Tryz.func76, Tryz.ntmps76
    go_wp2
    go_ret
    exact ⟨by rw [HV.out]; rfl, H.out⟩
  · have HV : Hid (aheadB x y = false) := by unfold Hid; rw [hv]; simp; omega
    have h1 : (x.n == y.n) = false := by simp; omega
    have h2 : decide (x.n < y.n) = false := by simp; omega
    have h3 : ¬ x.n < y.n := by omega
    clear hv h
    go_enter Tryz.func76, Tryz.ntmps76
    go_wp2
    go_ret
    exact ⟨by rw [HV.out]; rfl, H.out⟩

def textsB (r : Bool) (l : List ByteArray) : Bool := l.all shortB && (!r || risingB cmpS l)
theorem textsB_short (r : Bool) {l : List ByteArray} {k : Nat} {x : ByteArray} (hx : l[k]? = some x) (h : shortB x = false) : textsB r l = false := by
  unfold textsB
  rw [all_no hx h, Bool.false_and]
theorem textsB_rise {l : List ByteArray} {k : Nat} {x y : ByteArray} (hx : l[k]? = some x) (hy : l[k + 1]? = some y) (h : 0 ≤ cmpS x y) : textsB true l = false := by
  unfold textsB
  rw [risingB_no cmpS l k x y hx hy h]
  simp
theorem textsB_yes (r : Bool) {l : List ByteArray} (h : ∀ k x, k < l.length → l[k]? = some x → shortB x = true) (k : r = true → risingB cmpS l = true) : textsB r l = true := by
  unfold textsB
  rw [all_yes h]
  cases r
  · rfl
  · rw [k rfl]; rfl

set_option maxHeartbeats 1000000 in
theorem texts_false (S : Nat → Prop) (A : Option Addr) (xs : List ByteArray) (c : Nat) (w : World) (hx : Row kStr S w A xs) :
    Calls Tryz.prog 100 #[.slice A xs.length c, .bool false] w fun e w' => e = .returned (.bool (textsB false xs)) ∧ Below w.heap.size w w' := by
  have hl := hx.1
  go_enter Tryz.func100, Tryz.ntmps100
  go_wp2
  go_loopg [5] xs.length (fun gg s5 wr => ∃ k : Nat, k ≤ xs.length ∧ xs.length - k ≤ gg ∧ s5 = .int .i64 k ∧ Hid (Below w.heap.size w wr) ∧ Hid (∀ j y, j < k → xs[j]? = some y → shortB y = true) ∧ True)
  case atStart => exact ⟨0, Nat.zero_le _, by omega, rfl, Below.refl _ w, fun j _ hj => absurd hj (Nat.not_lt_zero _), trivial⟩
  case round =>
    obtain ⟨k, hk, hg, rfl, HB, HA, HR⟩ := hrel
    by_cases hlt : k < xs.length
    · have hltz : (k : Int) < (xs.length : Int) := by omega
      obtain ⟨y, hy⟩ : ∃ y, xs[k]? = some y := ⟨_, List.getElem?_eq_getElem hlt⟩
      have hrow := hx.move (below_moves HB.out)
      obtain ⟨gb, goff, rfl, g0, gR⟩ := hrow.str hy
      have HY := Lib.hid hy
      have d1 := short_dec y
      clear gR hy
      replace g0 := Later.cell g0
      cases hs : shortB y with
      | false =>
        rw [hs] at d1
        have HS := Lib.hid hs
        clear hs hrow hx
        go_wp2_with fail
        refine wp_region_later (by kernel_rfl) (by kernel_rfl) ?_
        repeat (go_big_quiet_step (fail))
        refine wpQuiet_nil ?_
        rintro _ ⟨q, rfl⟩
        go_wp2
        go_ret
        refine ⟨?_, below_trans' HB.out q.below⟩
        rw [textsB_short _ HY.out HS.out]
        rfl
      | true =>
        rw [hs] at d1
        have HS := Lib.hid hs
        clear hs
        clear hrow hx
        go_wp2_with fail
        refine wp_region_later (by kernel_rfl) (by kernel_rfl) ?_
        repeat (go_big_quiet_step (fail))
        refine wpQuiet_nil ?_
        rintro _ ⟨q, rfl⟩
        go_wp2
        go_roundg (xs.length - (k + 1))
        case rel =>
          refine ⟨k + 1, by omega, by omega, by go_num, below_trans' HB.out q.below, fun j z hj hz => ?_, trivial⟩
          rcases Nat.lt_or_ge j k with h | h
          · exact HA.out j z h hz
          · obtain rfl : j = k := by omega
            rw [HY.out] at hz
            cases hz
            exact HS.out
        case measure => omega
    · obtain rfl : k = xs.length := by omega
      go_wp2
      go_ret
      refine ⟨?_, HB.out⟩
      rw [textsB_yes _ (fun j y hj hy => HA.out j y hj hy) (fun h => by cases h)]
      rfl

set_option maxHeartbeats 1000000 in
theorem texts_true (S : Nat → Prop) (A : Option Addr) (xs : List ByteArray) (c : Nat) (w : World) (hx : Row kStr S w A xs) :
    Calls Tryz.prog 100 #[.slice A xs.length c, .bool true] w fun e w' => e = .returned (.bool (textsB true xs)) ∧ Below w.heap.size w w' := by
  have hl := hx.1
  go_enter Tryz.func100, Tryz.ntmps100
  go_wp2
  go_loopg [5] xs.length (fun gg s5 wr => ∃ k : Nat, k ≤ xs.length ∧ xs.length - k ≤ gg ∧ s5 = .int .i64 k ∧ Hid (Below w.heap.size w wr) ∧ Hid (∀ j y, j < k → xs[j]? = some y → shortB y = true) ∧ Hid (∀ j x y, j + 1 < k → xs[j]? = some x → xs[j + 1]? = some y → cmpS x y < 0))
  case atStart => exact ⟨0, Nat.zero_le _, by omega, rfl, Below.refl _ w, fun j _ hj => absurd hj (Nat.not_lt_zero _), fun j _ _ hj => absurd hj (Nat.not_lt_zero _)⟩
  case round =>
    obtain ⟨k, hk, hg, rfl, HB, HA, HR⟩ := hrel
    by_cases hlt : k < xs.length
    · have hltz : (k : Int) < (xs.length : Int) := by omega
      obtain ⟨y, hy⟩ : ∃ y, xs[k]? = some y := ⟨_, List.getElem?_eq_getElem hlt⟩
      have hrow := hx.move (below_moves HB.out)
      obtain ⟨gb, goff, rfl, g0, gR⟩ := hrow.str hy
      have HY := Lib.hid hy
      have d1 := short_dec y
      clear gR hy
      replace g0 := Later.cell g0
      cases hs : shortB y with
      | false =>
        rw [hs] at d1
        have HS := Lib.hid hs
        clear hs hrow hx
        go_wp2_with fail
        refine wp_region_later (by kernel_rfl) (by kernel_rfl) ?_
        repeat (go_big_quiet_step (fail))
        refine wpQuiet_nil ?_
        rintro _ ⟨q, rfl⟩
        go_wp2
        go_ret
        refine ⟨?_, below_trans' HB.out q.below⟩
        rw [textsB_short _ HY.out HS.out]
        rfl
      | true =>
        rw [hs] at d1
        have HS := Lib.hid hs
        clear hs
        rcases Nat.eq_zero_or_pos k with h0 | h0
        · have d2 : decide (0 < k) = false := by simp; omega
          have d3 : ¬ 0 < k := by omega
          have H0 := Lib.hid h0
          clear hrow hx h0
          go_wp2_with fail
          refine wp_region_later (by kernel_rfl) (by kernel_rfl) ?_
          repeat (go_big_quiet_step (fail))
          refine wpQuiet_nil ?_
          rintro _ ⟨q, rfl⟩
          go_wp2
          go_roundg (xs.length - (k + 1))
          case rel =>
            refine ⟨k + 1, by omega, by omega, by go_num, below_trans' HB.out q.below, fun j z hj hz => ?_, fun j a b hj ha hb => absurd hj (by have := H0.out; omega)⟩
            rcases Nat.lt_or_ge j k with h | h
            · exact HA.out j z h hz
            · obtain rfl : j = k := by omega
              rw [HY.out] at hz
              cases hz
              exact HS.out
          case measure => omega
        · have d2 : decide (0 < k) = true := by simpa using h0
          have d3 : decide ((0 : Int) < (k : Int)) = true := by simp; omega
          obtain ⟨x, hx'⟩ : ∃ x, xs[k-1]? = some x := ⟨_, List.getElem?_eq_getElem (by omega)⟩
          obtain ⟨fb, foff, e', f0, fR⟩ := hrow.str hx'
          cases e'
          have HX := Lib.hid hx'
          have d4 := cmpS_less x y
          clear fR hx' hrow hx
          replace f0 := Later.cell f0
          by_cases hq : cmpS x y < 0
          · rw [decide_eq_true hq] at d4
            have HQ := Lib.hid hq
            clear hq
            go_wp2_with fail
            refine wp_region_later (by kernel_rfl) (by kernel_rfl) ?_
            repeat (go_big_quiet_step (fail))
            refine wpQuiet_nil ?_
            rintro _ ⟨q, rfl⟩
            go_wp2
            go_roundg (xs.length - (k + 1))
            case rel =>
              refine ⟨k + 1, by omega, by omega, by go_num, below_trans' HB.out q.below, fun j z hj hz => ?_, fun j a b hj ha hb => ?_⟩
              · rcases Nat.lt_or_ge j k with h | h
                · exact HA.out j z h hz
                · obtain rfl : j = k := by omega
                  rw [HY.out] at hz
                  cases hz
                  exact HS.out
              · rcases Nat.lt_or_ge (j + 1) k with h | h
                · exact HR.out j a b h ha hb
                · obtain rfl : j = k - 1 := by omega
                  rw [HX.out] at ha
                  rw [show k - 1 + 1 = k from by omega, HY.out] at hb
                  cases ha
                  cases hb
                  exact HQ.out
            case measure => omega
          · rw [decide_eq_false hq] at d4
            have HQ := Lib.hid hq
            clear hq
            go_wp2_with fail
            refine wp_region_later (by kernel_rfl) (by kernel_rfl) ?_
            repeat (go_big_quiet_step (fail))
            refine wpQuiet_nil ?_
            rintro _ ⟨q, rfl⟩
            go_wp2
            go_ret
            refine ⟨?_, below_trans' HB.out q.below⟩
            rw [textsB_rise HX.out (by rw [show k - 1 + 1 = k from by have := h0; omega]; exact HY.out) (by have := HQ.out; omega)]
            rfl
    · obtain rfl : k = xs.length := by omega
      go_wp2
      go_ret
      refine ⟨?_, HB.out⟩
      rw [textsB_yes _ (fun j y hj hy => HA.out j y hj hy) (fun _ => risingB_yes cmpS xs fun j a b ha hb => HR.out j a b (by have := (List.getElem?_eq_some_iff.1 hb).1; omega) ha hb)]
      rfl
end Go.Proofs.YtkgghnjpegpnlaaGreatDoor
