/- millpondref09.Same: are two rows of entries the same? Conditions: what is read reads as the data. -/
import Derived.Test.YtkgghnjpegpnlaaGreatDoorSameV
namespace Go.Proofs.YtkgghnjpegpnlaaGreatDoor
open Go.RowKit Go.Proofs
set_option linter.unusedSimpArgs false
set_option linter.unusedVariables false
set_option maxRecDepth 100000

def eqE (x y : DEntry) : Bool := eqStr x.key y.key && (x.at_ == y.at_ && eqVal x.v y.v)

theorem entry_val {S : Nat → Prop} {w : World} {x : DEntry} {A1 A2 A3 : Option Addr} {c1 c2 c3 : Nat} (h : kEntry.R S w x [.string x.key, .int .i64 x.v.kind, .string x.v.s, .slice A1 x.v.l.length c1, .slice A2 x.v.z.length c2, .slice A3 x.v.h.length c3, .int .i64 x.at_]) :
    kVal.R S w x.v [.int .i64 x.v.kind, .string x.v.s, .slice A1 x.v.l.length c1, .slice A2 x.v.z.length c2, .slice A3 x.v.h.length c3] := by
  obtain ⟨_, _, _, _, _, _, he, _, hv⟩ := h
  injection he with _ he; injection he with _ he; injection he with _ he; injection he with e1 he; injection he with e2 he; injection he with e3 he
  cases e1; cases e2; cases e3
  exact hv

set_option maxHeartbeats 4000000 in
theorem Same9 {S : Nat → Prop} {A B : Option Addr} {xs ys : List DEntry} {c d : Nat} {w : World} (hx : Row kEntry S w A xs) (hy : Row kEntry S w B ys) :
    Calls Tryz.prog 11 #[.slice A xs.length c, .slice B ys.length d] w (SameVPost (eqRows eqE xs ys) w) := by
  have hl := hx.1
  have hm := hy.1
  by_cases hn : xs.length = ys.length
  · have hnz : ((xs.length : Int) == (ys.length : Int)) = true := by simp; omega
    have hnz' : ((xs.length : Int) != (ys.length : Int)) = false := by simp; omega
    have hln := Nat.le_of_eq hn
    have HN := Lib.hid hn
    clear hn
    go_enter Tryz.func11, Tryz.ntmps11
    go_wp2
    clear hnz hnz'
    go_loopg [5] xs.length (fun gg s5 wr => ∃ k : Nat, k ≤ xs.length ∧ xs.length - k ≤ gg ∧ s5 = .int .i64 k ∧ Hid (Below w.heap.size w wr) ∧ Hid (∀ (j : Nat) (x y : DEntry), j < k → xs[j]? = some x → ys[j]? = some y → eqE x y = true))
    case atStart => exact ⟨0, Nat.zero_le _, by omega, rfl, Below.refl _ _, fun j x y hj => absurd hj (Nat.not_lt_zero _)⟩
    case round =>
      obtain ⟨k, hk, hg, rfl, HB, HE⟩ := hrel
      by_cases hlt : k < xs.length
      · have hltz : (k : Int) < (xs.length : Int) := by omega
        have hltz2 : (k : Int) < (ys.length : Int) := by omega
        obtain ⟨x, hx'⟩ : ∃ x, xs[k]? = some x := ⟨_, List.getElem?_eq_getElem hlt⟩
        obtain ⟨y, hy'⟩ : ∃ y, ys[k]? = some y := ⟨_, List.getElem?_eq_getElem (by omega)⟩
        obtain ⟨fb, foff, fA1, fc1, fA2, fc2, fA3, fc3, rfl, f0, f1, f2, f3, f4, f5, f6, fR⟩ := (hx.move (below_moves HB.out)).entry hx'
        obtain ⟨gb, goff, gA1, gc1, gA2, gc2, gA3, gc3, rfl, g0, g1, g2, g3, g4, g5, g6, gR⟩ := (hy.move (below_moves HB.out)).entry hy'
        have hS : ∀ q : Later wr, Calls Tryz.prog 32 #[.agg #[.int .i64 x.v.kind, .string x.v.s, .slice fA1 x.v.l.length fc1, .slice fA2 x.v.z.length fc2, .slice fA3 x.v.h.length fc3], .agg #[.int .i64 y.v.kind, .string y.v.s, .slice gA1 y.v.l.length gc1, .slice gA2 y.v.z.length gc2, .slice gA3 y.v.h.length gc3]] q.W fun e w' => e = .returned (.bool (eqVal x.v y.v)) ∧ Below q.W.heap.size q.W w' :=
          fun q => SameValue (kVal.move (below_moves q.below) (entry_val fR)) (kVal.move (below_moves q.below) (entry_val gR))
        have HX := Lib.hid hx'
        have HY := Lib.hid hy'
        clear fR gR hx hy hx' hy'
        replace f0 := Later.cell f0
        replace f1 := Later.cell f1
        replace f2 := Later.cell f2
        replace f3 := Later.cell f3
        replace f4 := Later.cell f4
        replace f5 := Later.cell f5
        replace f6 := Later.cell f6
        replace g0 := Later.cell g0
        replace g1 := Later.cell g1
        replace g2 := Later.cell g2
        replace g3 := Later.cell g3
        replace g4 := Later.cell g4
        replace g5 := Later.cell g5
        replace g6 := Later.cell g6
        cases h1 : eqStr x.key y.key with
        | false =>
          have HQ : Hid (eqE x y = false) := by unfold Hid eqE; rw [h1]; rfl
          have t1 : (x.key.toList == y.key.toList) = false := h1
          have t2 : (!(x.key.toList == y.key.toList)) = true := by rw [t1]; rfl
          clear h1 hS
          go_wp2_with fail
          refine wp_region_later (by kernel_rfl) (by kernel_rfl) ?_
          repeat (go_big_quiet_step (fail))
          refine wpQuiet_nil ?_
          rintro _ ⟨q, rfl⟩
          go_wp2
          go_ret
          exact ⟨by rw [eqRows_no eqE xs ys k x y HX.out HY.out HQ.out]; rfl, below_trans' HB.out q.below⟩
        | true =>
          have t1 : (x.key.toList == y.key.toList) = true := h1
          have t2 : (!(x.key.toList == y.key.toList)) = false := by rw [t1]; rfl
          cases h2 : (x.at_ == y.at_) with
          | false =>
            have HQ : Hid (eqE x y = false) := by unfold Hid eqE; rw [h1, h2]; rfl
            have t3 : (x.at_ == y.at_) = false := h2
            have t4 : (x.at_ != y.at_) = true := by simp at t3; simp [t3]
            clear h1 h2 hS
            go_wp2_with fail
            refine wp_region_later (by kernel_rfl) (by kernel_rfl) ?_
            repeat (go_big_quiet_step (fail))
            refine wpQuiet_nil ?_
            rintro _ ⟨q, rfl⟩
            go_wp2
            go_ret
            exact ⟨by rw [eqRows_no eqE xs ys k x y HX.out HY.out HQ.out]; rfl, below_trans' HB.out q.below⟩
          | true =>
            have t3 : (x.at_ == y.at_) = true := h2
            have t4 : (x.at_ != y.at_) = false := by simp at t3; simp [t3]
            cases h3 : eqVal x.v y.v with
            | false =>
              have HQ : Hid (eqE x y = false) := by unfold Hid eqE; rw [h1, h2, h3]; rfl
              rw [h3] at hS
              clear h1 h2 h3
              go_wp2_with fail
              refine wp_region_later (by kernel_rfl) (by kernel_rfl) ?_
              repeat (go_big_quiet_step ((go_at_call 32; exact Calls.later (hS _))))
              refine wpQuiet_nil ?_
              rintro _ ⟨q, rfl⟩
              go_wp2
              go_ret
              exact ⟨by rw [eqRows_no eqE xs ys k x y HX.out HY.out HQ.out]; rfl, below_trans' HB.out q.below⟩
            | true =>
              have HQ : Hid (eqE x y = true) := by unfold Hid eqE; rw [h1, h2, h3]; rfl
              rw [h3] at hS
              clear h1 h2 h3
              go_wp2_with fail
              refine wp_region_later (by kernel_rfl) (by kernel_rfl) ?_
              repeat (go_big_quiet_step ((go_at_call 32; exact Calls.later (hS _))))
              refine wpQuiet_nil ?_
              rintro _ ⟨q, rfl⟩
              go_wp2
              go_roundg (xs.length - (k + 1))
              case rel =>
                refine ⟨k + 1, by omega, by omega, by go_num, below_trans' HB.out q.below, fun j a b hj ha hb => ?_⟩
                rcases Nat.lt_or_ge j k with h | h
                · exact HE.out j a b h ha hb
                · obtain rfl : j = k := by omega
                  rw [HX.out] at ha
                  rw [HY.out] at hb
                  cases ha
                  cases hb
                  exact HQ.out
              case measure => omega
      · obtain rfl : k = xs.length := by omega
        go_wp2
        go_ret
        refine ⟨?_, HB.out⟩
        rw [eqRows_yes eqE xs ys HN.out (fun j a b ha hb => HE.out j a b (List.getElem?_eq_some_iff.1 ha).1 ha hb)]
        rfl
  · have hnz : ((xs.length : Int) == (ys.length : Int)) = false := by simp; omega
    have hnz' : ((xs.length : Int) != (ys.length : Int)) = true := by simp; omega
    have he := eqRows_len eqE xs ys hn
    have HE := Lib.hid he
    clear he
    go_enter Tryz.func11, Tryz.ntmps11
    go_wp2
    go_ret
    exact ⟨by rw [HE.out]; rfl, Below.refl _ _⟩
end Go.Proofs.YtkgghnjpegpnlaaGreatDoor
