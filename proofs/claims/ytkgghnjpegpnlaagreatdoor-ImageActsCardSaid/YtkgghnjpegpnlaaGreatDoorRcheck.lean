/- millpondref09.entry, Check: may an entry be, is a row an image, by the reference? Conditions: what is read reads as the data. -/
import Derived.Test.YtkgghnjpegpnlaaGreatDoorIs
import Derived.Test.YtkgghnjpegpnlaaGreatDoorCheck
namespace Go.Proofs.YtkgghnjpegpnlaaGreatDoor
open Go.RowKit Go.Proofs
set_option linter.unusedSimpArgs false
set_option linter.unusedVariables false
set_option maxRecDepth 100000

set_option maxHeartbeats 2000000 in
theorem rentry {S : Nat → Prop} {x : DEntry} {cs : List Value} {w : World} (h : kEntry.R S w x cs) :
    Calls Tryz.prog 33 #[.agg cs.toArray] w fun e w' => e = .returned (.bool (entryB x)) ∧ Below w.heap.size w w' := by
  obtain ⟨A1, c1, A2, c2, A3, c3, rfl, ⟨hk, ha1, ha2⟩, hv⟩ := h
  have hr : ∀ W, Below w.heap.size w W → Calls Tryz.prog 68 #[.agg #[.int .i64 x.v.kind, .string x.v.s, .slice A1 x.v.l.length c1, .slice A2 x.v.z.length c2, .slice A3 x.v.h.length c3]] W fun e w' => e = .returned (.bool (rightB x.v)) ∧ Below W.heap.size W w' :=
    fun W hb => is (cs := [.int .i64 x.v.kind, .string x.v.s, .slice A1 x.v.l.length c1, .slice A2 x.v.z.length c2, .slice A3 x.v.h.length c3]) (kVal.move (below_moves hb) hv)
  have HW : Hid (Below w.heap.size w (w.alloc (.cells #[.string x.key, .int .i64 x.v.kind, .string x.v.s, .slice A1 x.v.l.length c1, .slice A2 x.v.z.length c2, .slice A3 x.v.h.length c3, .int .i64 x.at_] 30))) := (Below.refl _ _).alloc (Nat.le_refl _) _
  have HR : Hid (entryB x = (shortB x.key && (decide (-1 ≤ x.at_) && (decide (x.at_ ≤ 1099511627776) && rightB x.v)))) := rfl
  have d0 := short_le x.key
  clear hv
  generalize rightB x.v = r at hr HR
  cases hq : shortB x.key with
  | false =>
    rw [hq] at d0 HR
    clear hr hq
    go_enter Tryz.func33, Tryz.ntmps33
    go_wp2
    go_ret
    exact ⟨by rw [HR.out]; rfl, HW.out⟩
  | true =>
    rw [hq] at d0 HR
    clear hq
    by_cases h1 : x.at_ = -1
    · have t1 : (x.at_ == -1) = true := by simp [h1]
      have H1 : Hid (entryB x = r) := by unfold Hid; rw [HR.out, h1]; simp
      clear h1
      go_enter Tryz.func33, Tryz.ntmps33
      go_wp2_with (go_at_call 68; refine (hr _ HW.out).mono ?_; rintro e w1 ⟨rfl, b1⟩)
      go_ret
      exact ⟨by rw [H1.out]; rfl, below_trans' HW.out b1⟩
    · have t1 : (x.at_ == -1) = false := by simp [h1]
      by_cases h2 : 0 ≤ x.at_
      · have t2 : decide (0 ≤ x.at_) = true := by simpa using h2
        by_cases h3 : x.at_ ≤ 1099511627776
        · have t3 : decide (x.at_ ≤ 1099511627776) = true := by simpa using h3
          have H1 : Hid (entryB x = r) := by unfold Hid; rw [HR.out, decide_eq_true (show -1 ≤ x.at_ by omega), t3]; simp
          clear h1
          go_enter Tryz.func33, Tryz.ntmps33
          go_wp2_with (go_at_call 68; refine (hr _ HW.out).mono ?_; rintro e w1 ⟨rfl, b1⟩)
          go_ret
          exact ⟨by rw [H1.out]; rfl, below_trans' HW.out b1⟩
        · have t3 : decide (x.at_ ≤ 1099511627776) = false := by simpa using h3
          have H1 : Hid (entryB x = false) := by unfold Hid; rw [HR.out, t3]; simp
          clear h1 hr
          go_enter Tryz.func33, Tryz.ntmps33
          go_wp2
          go_ret
          exact ⟨by rw [H1.out]; rfl, HW.out⟩
      · have t2 : decide (0 ≤ x.at_) = false := by simpa using h2
        have H1 : Hid (entryB x = false) := by unfold Hid; rw [HR.out, decide_eq_false (show ¬ -1 ≤ x.at_ by omega)]; simp
        clear h1 hr
        go_enter Tryz.func33, Tryz.ntmps33
        go_wp2
        go_ret
        exact ⟨by rw [H1.out]; rfl, HW.out⟩

theorem any_not {l : List DEntry} (h : l.all entryB = true) : l.any (fun e => !entryB e) = false := by
  rw [List.all_eq_true] at h
  rw [List.any_eq_false]
  intro x hx
  simp [h x hx]
theorem checkN_bad {l : List DEntry} (hm : l.length ≤ 65536) {k : Nat} {x : DEntry} (hx : l[k]? = some x) (h : entryB x = false) : checkN l = 90 := by
  unfold checkN
  have : l.any (fun e => !entryB e) = true := List.any_eq_true.2 ⟨x, List.mem_of_getElem? hx, by simp [h]⟩
  rw [if_neg (by omega), this]
  simp
theorem checkN_rise {l : List DEntry} (hm : l.length ≤ 65536) {k : Nat} {x y : DEntry} (hx : l[k]? = some x) (hy : l[k + 1]? = some y) (h : 0 ≤ cmpS x.key y.key) : checkN l = 90 := by
  unfold checkN
  rw [if_neg (by omega), risingB_no (fun x y => cmpS x.key y.key) l k x y hx hy h]
  simp
theorem checkN_ok {l : List DEntry} (hm : l.length ≤ 65536) (h1 : l.all entryB = true) (h2 : risingB (fun x y => cmpS x.key y.key) l = true) : checkN l = 0 := by
  unfold checkN
  rw [if_neg (by omega), h2, any_not h1]
  simp

set_option maxHeartbeats 2000000 in
theorem rCheck {S : Nat → Prop} {A : Option Addr} {xs : List DEntry} {c : Nat} {w : World} (hx : Row kEntry S w A xs) :
    Calls Tryz.prog 12 #[.slice A xs.length c] w fun e w' => e = .returned (.int .i64 (checkN xs)) ∧ Below w.heap.size w w' := by
  have hl := hx.1
  by_cases hm : 65536 < xs.length
  · have HR : Hid (checkN xs = 3) := by unfold Hid checkN; rw [if_pos hm]
    have hm' : (65536 : Int) < (xs.length : Int) := by omega
    clear hm hx
    go_enter Tryz.func12, Tryz.ntmps12
    go_wp2
    go_ret
    exact ⟨by rw [HR.out]; rfl, Below.refl _ _⟩
  have hm2 : xs.length ≤ 65536 := by omega
  have hm' : (xs.length : Int) ≤ 65536 := by omega
  clear hm
  go_enter Tryz.func12, Tryz.ntmps12
  go_wp2
  go_loopg [3] xs.length (fun gg s5 wr => ∃ k : Nat, k ≤ xs.length ∧ xs.length - k ≤ gg ∧ s5 = .int .i64 k ∧ Hid (Below w.heap.size w wr) ∧ Hid (∀ j y, j < k → xs[j]? = some y → entryB y = true) ∧ Hid (∀ j x y, j + 1 < k → xs[j]? = some x → xs[j + 1]? = some y → cmpS x.key y.key < 0))
  case atStart => exact ⟨0, Nat.zero_le _, by omega, rfl, Below.refl _ w, fun j _ hj => absurd hj (Nat.not_lt_zero _), fun j _ _ hj => absurd hj (Nat.not_lt_zero _)⟩
  case round =>
    obtain ⟨k, hk, hg, rfl, HB, HA, HR⟩ := hrel
    by_cases hlt : k < xs.length
    · have hltz : (k : Int) < (xs.length : Int) := by omega
      obtain ⟨y, hy⟩ : ∃ y, xs[k]? = some y := ⟨_, List.getElem?_eq_getElem hlt⟩
      have hrow := hx.move (below_moves HB.out)
      obtain ⟨gb, goff, gA1, gc1, gA2, gc2, gA3, gc3, rfl, g0, g1, g2, g3, g4, g5, g6, gR⟩ := (hrow).entry hy
      have hE : ∀ q : Later wr, Calls Tryz.prog 33 #[.agg #[.string y.key, .int .i64 y.v.kind, .string y.v.s, .slice gA1 y.v.l.length gc1, .slice gA2 y.v.z.length gc2, .slice gA3 y.v.h.length gc3, .int .i64 y.at_]] q.W fun e w' => e = .returned (.bool (entryB y)) ∧ Below q.W.heap.size q.W w' := fun q => rentry (kEntry.move (below_moves q.below) gR)
      have HY := Lib.hid hy
      clear gR hy
      replace g0 := Later.cell g0
      replace g1 := Later.cell g1
      replace g2 := Later.cell g2
      replace g3 := Later.cell g3
      replace g4 := Later.cell g4
      replace g5 := Later.cell g5
      replace g6 := Later.cell g6
      cases hs : entryB y with
      | false =>
        rw [hs] at hE
        have HS := Lib.hid hs
        clear hs hrow hx
        go_wp2_with fail
        refine wp_region_later (by kernel_rfl) (by kernel_rfl) ?_
        repeat (go_big_quiet_step ((go_at_call 33; exact Calls.later (hE _))))
        refine wpQuiet_nil ?_
        rintro _ ⟨q, rfl⟩
        go_wp2
        go_ret
        refine ⟨?_, below_trans' HB.out q.below⟩
        rw [checkN_bad hm2 HY.out HS.out]
        rfl
      | true =>
        rw [hs] at hE
        have HS := Lib.hid hs
        clear hs
        rcases Nat.eq_zero_or_pos k with h0 | h0
        · have e2 : decide (0 < k) = false := by simp; omega
          have e3 : ¬ 0 < k := by omega
          have H0 := Lib.hid h0
          clear hrow hx h0
          go_wp2_with fail
          refine wp_region_later (by kernel_rfl) (by kernel_rfl) ?_
          repeat (go_big_quiet_step ((go_at_call 33; exact Calls.later (hE _))))
          refine wpQuiet_nil ?_
          rintro _ ⟨q, rfl⟩
          go_wp2
          go_roundg (xs.length - (k + 1))
          case rel =>
            refine ⟨k + 1, by omega, by omega, by go_num, below_trans' HB.out q.below, fun j z hj hz => ?_, fun j a b hj ha hb => absurd hj (by have := H0.out; omega)⟩
            · rcases Nat.lt_or_ge j k with h | h
              · exact HA.out j z h hz
              · obtain rfl : j = k := by omega
                rw [HY.out] at hz
                cases hz
                exact HS.out
          case measure => omega
        · have e2 : decide (0 < k) = true := by simpa using h0
          have e3 : decide ((0 : Int) < (k : Int)) = true := by simp; omega
          obtain ⟨x, hx'⟩ : ∃ x, xs[k-1]? = some x := ⟨_, List.getElem?_eq_getElem (by omega)⟩
          obtain ⟨fb, foff, fA1, fc1, fA2, fc2, fA3, fc3, e', f0, f1, f2, f3, f4, f5, f6, fR⟩ := (hrow).entry hx'
          cases e'
          have HX := Lib.hid hx'
          have e4 := cmpS_less x.key y.key
          clear fR hx' hrow hx
          replace f0 := Later.cell f0
          replace f1 := Later.cell f1
          replace f2 := Later.cell f2
          replace f3 := Later.cell f3
          replace f4 := Later.cell f4
          replace f5 := Later.cell f5
          replace f6 := Later.cell f6
          by_cases hq : cmpS x.key y.key < 0
          · rw [decide_eq_true hq] at e4
            have HQ := Lib.hid hq
            clear hq
            go_wp2_with fail
            refine wp_region_later (by kernel_rfl) (by kernel_rfl) ?_
            repeat (go_big_quiet_step ((go_at_call 33; exact Calls.later (hE _))))
            refine wpQuiet_nil ?_
            rintro _ ⟨q, rfl⟩
            go_wp2
            go_roundg (xs.length - (k + 1))
            case rel =>
              refine ⟨k + 1, by omega, by omega, by go_num, below_trans' HB.out q.below, fun j z hj hz => ?_, fun j a b hj ha hb => ?_⟩
              · rcases Nat.lt_or_ge j k with h | h
                · exact HA.out j z h hz
                · obtain rfl : j = k := by omega
                  rw [HY.out] at hz
                  cases hz
                  exact HS.out
              · rcases Nat.lt_or_ge (j + 1) k with h | h
                · exact HR.out j a b h ha hb
                · obtain rfl : j = k - 1 := by omega
                  rw [HX.out] at ha
                  rw [show k - 1 + 1 = k from by omega, HY.out] at hb
                  cases ha
                  cases hb
                  exact HQ.out
            case measure => omega
          · rw [decide_eq_false hq] at e4
            have HQ := Lib.hid hq
            clear hq
            go_wp2_with fail
            refine wp_region_later (by kernel_rfl) (by kernel_rfl) ?_
            repeat (go_big_quiet_step ((go_at_call 33; exact Calls.later (hE _))))
            refine wpQuiet_nil ?_
            rintro _ ⟨q, rfl⟩
            go_wp2
            go_ret
            refine ⟨?_, below_trans' HB.out q.below⟩
            rw [checkN_rise hm2 HX.out (by rw [show k - 1 + 1 = k from by have := h0; omega]; exact HY.out) (by have := HQ.out; omega)]
            rfl
    · obtain rfl : k = xs.length := by omega
      have h1 := checkN_ok hm2 (all_yes HA.out) (risingB_yes (fun x y => cmpS x.key y.key) xs fun j a b ha hb => HR.out j a b (by have := (List.getElem?_eq_some_iff.1 hb).1; omega) ha hb)
      have H1 := Lib.hid h1
      clear h1 hx
      go_wp2
      go_ret
      refine ⟨?_, HB.out⟩
      rw [H1.out]
      rfl
end Go.Proofs.YtkgghnjpegpnlaaGreatDoor
