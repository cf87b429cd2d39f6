/- Go's slices.IndexFunc, slices.ContainsFunc and image.rising at each kind of element: what they answer. Conditions: the row reads as the list, the function value answers as the plain function. -/
import Derived.Test.YtkgghnjpegpnlaaGreatDoorData
import Derived.WalkSpells
import Derived.WalkLawsBesides
import Derived.Deep.LoopGhost
import Derived.Shelf.Abstract
namespace Go.Proofs.YtkgghnjpegpnlaaGreatDoor
open Go.RowKit Go.Proofs
set_option linter.unusedSimpArgs false
set_option linter.unusedVariables false

set_option maxHeartbeats 400000 in
theorem IndexFuncE (g : Nat) (lb : Array Value) (p : DEntry → Bool) (S : Nat → Prop) (A : Option Addr) (xs : List DEntry) (c : Nat) (w : World)
    (hx : Row kEntry S w A xs) (hp : PredK Tryz.prog kEntry aggOf g lb p S w) (eg : EntersF Tryz.prog g) :
    Calls Tryz.prog 65 #[.slice A xs.length c, .func (.func g) #[] lb] w fun e w' => e = .returned (.int .i64 (idxW p xs)) ∧ Below w.heap.size w w' := by
  have hl := hx.1
  unfold EntersF at eg
  go_enter Tryz.func65, Tryz.ntmps65
  go_wp2
  go_loopg [5, 8] xs.length (fun gg _ s8 wr => ∃ k : Nat, k ≤ xs.length ∧ xs.length - k ≤ gg ∧ s8 = .int .i64 k ∧ Hid (Below w.heap.size w wr) ∧ Hid (∀ j y, j < k → xs[j]? = some y → p y = false))
  case atStart => exact ⟨0, Nat.zero_le _, by omega, rfl, Below.refl _ w, fun j _ hj => absurd hj (Nat.not_lt_zero _)⟩
  case round =>
    obtain ⟨k, hk, hg, rfl, HB, HA⟩ := hrel
    by_cases hlt : k < xs.length
    · have hltz : (k : Int) < (xs.length : Int) := by omega
      obtain ⟨y, hy⟩ : ∃ y, xs[k]? = some y := ⟨_, List.getElem?_eq_getElem hlt⟩
      obtain ⟨fb, foff, fA1, fc1, fA2, fc2, fA3, fc3, rfl, f0, f1, f2, f3, f4, f5, f6, fR⟩ := (hx.move (below_moves HB.out)).entry hy
      have hcall : Calls Tryz.prog g (#[.agg #[.string y.key, .int .i64 y.v.kind, .string y.v.s, .slice fA1 y.v.l.length fc1, .slice fA2 y.v.z.length fc2, .slice fA3 y.v.h.length fc3, .int .i64 y.at_]] ++ lb) wr _ := hp wr y [.string y.key, .int .i64 y.v.kind, .string y.v.s, .slice fA1 y.v.l.length fc1, .slice fA2 y.v.z.length fc2, .slice fA3 y.v.h.length fc3, .int .i64 y.at_] fR HB.out
      clear fR hp
      have HY := Lib.hid hy
      clear hy hx
      cases hq : p y with
      | true =>
        rw [hq] at hcall
        go_wp2_with (go_at_fn g; refine hcall.mono ?_; rintro e w' ⟨rfl, hb'⟩)
        go_ret
        refine ⟨?_, below_trans' HB.out hb'⟩
        rw [idxW_hit p xs k y HY.out hq HA.out]
        rfl
      | false =>
        rw [hq] at hcall
        go_wp2_with (go_at_fn g; refine hcall.mono ?_; rintro e w' ⟨rfl, hb'⟩)
        go_roundg (xs.length - (k + 1))
        case rel =>
          refine ⟨k + 1, by omega, by omega, by go_num, below_trans' HB.out hb', fun j z hj hz => ?_⟩
          rcases Nat.lt_or_ge j k with h | h
          · exact HA.out j z h hz
          · obtain rfl : j = k := by omega
            rw [HY.out] at hz
            cases hz
            exact hq
        case measure => omega
    · obtain rfl : k = xs.length := by omega
      go_wp2
      go_ret
      exact ⟨by rw [idxW_none p xs HA.out]; rfl, HB.out⟩

set_option maxHeartbeats 400000 in
theorem ContainsFuncE (g : Nat) (lb : Array Value) (p : DEntry → Bool) (S : Nat → Prop) (A : Option Addr) (xs : List DEntry) (c : Nat) (w : World)
    (hx : Row kEntry S w A xs) (hp : PredK Tryz.prog kEntry aggOf g lb p S w) (eg : EntersF Tryz.prog g) :
    Calls Tryz.prog 47 #[.slice A xs.length c, .func (.func g) #[] lb] w fun e w' => e = .returned (.bool (xs.any p)) ∧ Below w.heap.size w w' := by
  have hcall := IndexFuncE g lb p S A xs c w hx hp eg
  have HA := Lib.hid (idxW_any p xs)
  clear hx hp eg
  generalize idxW p xs = n at hcall HA
  go_enter Tryz.func47, Tryz.ntmps47
  go_wp2_with (go_at_call 65; refine hcall.mono ?_; rintro e w' ⟨rfl, hb'⟩)
  go_ret
  exact ⟨by rw [← HA.out]; rfl, hb'⟩

set_option maxHeartbeats 400000 in
theorem IndexFuncF (g : Nat) (lb : Array Value) (p : DField → Bool) (S : Nat → Prop) (A : Option Addr) (xs : List DField) (c : Nat) (w : World)
    (hx : Row kField S w A xs) (hp : PredK Tryz.prog kField aggOf g lb p S w) (eg : EntersF Tryz.prog g) :
    Calls Tryz.prog 142 #[.slice A xs.length c, .func (.func g) #[] lb] w fun e w' => e = .returned (.int .i64 (idxW p xs)) ∧ Below w.heap.size w w' := by
  have hl := hx.1
  unfold EntersF at eg
  go_enter Tryz.func142, Tryz.ntmps142
  go_wp2
  go_loopg [5, 8] xs.length (fun gg _ s8 wr => ∃ k : Nat, k ≤ xs.length ∧ xs.length - k ≤ gg ∧ s8 = .int .i64 k ∧ Hid (Below w.heap.size w wr) ∧ Hid (∀ j y, j < k → xs[j]? = some y → p y = false))
  case atStart => exact ⟨0, Nat.zero_le _, by omega, rfl, Below.refl _ w, fun j _ hj => absurd hj (Nat.not_lt_zero _)⟩
  case round =>
    obtain ⟨k, hk, hg, rfl, HB, HA⟩ := hrel
    by_cases hlt : k < xs.length
    · have hltz : (k : Int) < (xs.length : Int) := by omega
      obtain ⟨y, hy⟩ : ∃ y, xs[k]? = some y := ⟨_, List.getElem?_eq_getElem hlt⟩
      obtain ⟨fb, foff, rfl, f0, f1, fR⟩ := (hx.move (below_moves HB.out)).field hy
      have hcall : Calls Tryz.prog g (#[.agg #[.string y.f, .string y.v]] ++ lb) wr _ := hp wr y [.string y.f, .string y.v] fR HB.out
      clear fR hp
      have HY := Lib.hid hy
      clear hy hx
      cases hq : p y with
      | true =>
        rw [hq] at hcall
        go_wp2_with (go_at_fn g; refine hcall.mono ?_; rintro e w' ⟨rfl, hb'⟩)
        go_ret
        refine ⟨?_, below_trans' HB.out hb'⟩
        rw [idxW_hit p xs k y HY.out hq HA.out]
        rfl
      | false =>
        rw [hq] at hcall
        go_wp2_with (go_at_fn g; refine hcall.mono ?_; rintro e w' ⟨rfl, hb'⟩)
        go_roundg (xs.length - (k + 1))
        case rel =>
          refine ⟨k + 1, by omega, by omega, by go_num, below_trans' HB.out hb', fun j z hj hz => ?_⟩
          rcases Nat.lt_or_ge j k with h | h
          · exact HA.out j z h hz
          · obtain rfl : j = k := by omega
            rw [HY.out] at hz
            cases hz
            exact hq
        case measure => omega
    · obtain rfl : k = xs.length := by omega
      go_wp2
      go_ret
      exact ⟨by rw [idxW_none p xs HA.out]; rfl, HB.out⟩

set_option maxHeartbeats 400000 in
theorem ContainsFuncF (g : Nat) (lb : Array Value) (p : DField → Bool) (S : Nat → Prop) (A : Option Addr) (xs : List DField) (c : Nat) (w : World)
    (hx : Row kField S w A xs) (hp : PredK Tryz.prog kField aggOf g lb p S w) (eg : EntersF Tryz.prog g) :
    Calls Tryz.prog 84 #[.slice A xs.length c, .func (.func g) #[] lb] w fun e w' => e = .returned (.bool (xs.any p)) ∧ Below w.heap.size w w' := by
  have hcall := IndexFuncF g lb p S A xs c w hx hp eg
  have HA := Lib.hid (idxW_any p xs)
  clear hx hp eg
  generalize idxW p xs = n at hcall HA
  go_enter Tryz.func84, Tryz.ntmps84
  go_wp2_with (go_at_call 142; refine hcall.mono ?_; rintro e w' ⟨rfl, hb'⟩)
  go_ret
  exact ⟨by rw [← HA.out]; rfl, hb'⟩

set_option maxHeartbeats 400000 in
theorem IndexFuncs (g : Nat) (lb : Array Value) (p : ByteArray → Bool) (S : Nat → Prop) (A : Option Addr) (xs : List ByteArray) (c : Nat) (w : World)
    (hx : Row kStr S w A xs) (hp : PredK Tryz.prog kStr oneOf g lb p S w) (eg : EntersF Tryz.prog g) :
    Calls Tryz.prog 140 #[.slice A xs.length c, .func (.func g) #[] lb] w fun e w' => e = .returned (.int .i64 (idxW p xs)) ∧ Below w.heap.size w w' := by
  have hl := hx.1
  unfold EntersF at eg
  go_enter Tryz.func140, Tryz.ntmps140
  go_wp2
  go_loopg [5, 8] xs.length (fun gg _ s8 wr => ∃ k : Nat, k ≤ xs.length ∧ xs.length - k ≤ gg ∧ s8 = .int .i64 k ∧ Hid (Below w.heap.size w wr) ∧ Hid (∀ j y, j < k → xs[j]? = some y → p y = false))
  case atStart => exact ⟨0, Nat.zero_le _, by omega, rfl, Below.refl _ w, fun j _ hj => absurd hj (Nat.not_lt_zero _)⟩
  case round =>
    obtain ⟨k, hk, hg, rfl, HB, HA⟩ := hrel
    by_cases hlt : k < xs.length
    · have hltz : (k : Int) < (xs.length : Int) := by omega
      obtain ⟨y, hy⟩ : ∃ y, xs[k]? = some y := ⟨_, List.getElem?_eq_getElem hlt⟩
      obtain ⟨fb, foff, rfl, f0, fR⟩ := (hx.move (below_moves HB.out)).str hy
      have hcall : Calls Tryz.prog g (#[.string y] ++ lb) wr _ := hp wr y [.string y] fR HB.out
      clear fR hp
      have HY := Lib.hid hy
      clear hy hx
      cases hq : p y with
      | true =>
        rw [hq] at hcall
        go_wp2_with (go_at_fn g; refine hcall.mono ?_; rintro e w' ⟨rfl, hb'⟩)
        go_ret
        refine ⟨?_, below_trans' HB.out hb'⟩
        rw [idxW_hit p xs k y HY.out hq HA.out]
        rfl
      | false =>
        rw [hq] at hcall
        go_wp2_with (go_at_fn g; refine hcall.mono ?_; rintro e w' ⟨rfl, hb'⟩)
        go_roundg (xs.length - (k + 1))
        case rel =>
          refine ⟨k + 1, by omega, by omega, by go_num, below_trans' HB.out hb', fun j z hj hz => ?_⟩
          rcases Nat.lt_or_ge j k with h | h
          · exact HA.out j z h hz
          · obtain rfl : j = k := by omega
            rw [HY.out] at hz
            cases hz
            exact hq
        case measure => omega
    · obtain rfl : k = xs.length := by omega
      go_wp2
      go_ret
      exact ⟨by rw [idxW_none p xs HA.out]; rfl, HB.out⟩

set_option maxHeartbeats 400000 in
theorem ContainsFuncs (g : Nat) (lb : Array Value) (p : ByteArray → Bool) (S : Nat → Prop) (A : Option Addr) (xs : List ByteArray) (c : Nat) (w : World)
    (hx : Row kStr S w A xs) (hp : PredK Tryz.prog kStr oneOf g lb p S w) (eg : EntersF Tryz.prog g) :
    Calls Tryz.prog 80 #[.slice A xs.length c, .func (.func g) #[] lb] w fun e w' => e = .returned (.bool (xs.any p)) ∧ Below w.heap.size w w' := by
  have hcall := IndexFuncs g lb p S A xs c w hx hp eg
  have HA := Lib.hid (idxW_any p xs)
  clear hx hp eg
  generalize idxW p xs = n at hcall HA
  go_enter Tryz.func80, Tryz.ntmps80
  go_wp2_with (go_at_call 140; refine hcall.mono ?_; rintro e w' ⟨rfl, hb'⟩)
  go_ret
  exact ⟨by rw [← HA.out]; rfl, hb'⟩

set_option maxRecDepth 100000 in
set_option maxHeartbeats 400000 in
theorem risingE (g : Nat) (p : DEntry → DEntry → Int) (S : Nat → Prop) (A : Option Addr) (xs : List DEntry) (c : Nat) (w : World)
    (hx : Row kEntry S w A xs) (hp : CmpK Tryz.prog kEntry aggOf g #[] p S w) (eg : EntersF Tryz.prog g) :
    Calls Tryz.prog 46 #[.slice A xs.length c, .func (.func g) #[] #[]] w fun e w' => e = .returned (.bool (risingB p xs)) ∧ Below w.heap.size w w' := by
  have hl := hx.1
  unfold EntersF at eg
  go_enter Tryz.func46, Tryz.ntmps46
  go_wp2
  go_loopg [4, 5] xs.length (fun gg _ s5 wr => ∃ k : Nat, 1 ≤ k ∧ (k ≤ xs.length ∨ k = 1) ∧ xs.length - k ≤ gg ∧ s5 = .int .i64 k ∧ Hid (Below w.heap.size w wr) ∧ Hid (∀ j x y, j + 1 < k → xs[j]? = some x → xs[j + 1]? = some y → p x y < 0))
  case atStart => exact ⟨1, by omega, .inr rfl, by omega, rfl, Below.refl _ w, fun j _ _ hj => by omega⟩
  case round =>
    obtain ⟨k, hk0, hk, hg, rfl, HB, HA⟩ := hrel
    by_cases hlt : k < xs.length
    · have hltz : (k : Int) < (xs.length : Int) := by omega
      obtain ⟨x, hx'⟩ : ∃ x, xs[k-1]? = some x := ⟨_, List.getElem?_eq_getElem (by omega)⟩
      obtain ⟨y, hy⟩ : ∃ y, xs[k]? = some y := ⟨_, List.getElem?_eq_getElem hlt⟩
      have hrow := hx.move (below_moves HB.out)
      obtain ⟨fb, foff, fA1, fc1, fA2, fc2, fA3, fc3, rfl, f0, f1, f2, f3, f4, f5, f6, fR⟩ := (hrow).entry hx'
      obtain ⟨gb, goff, gA1, gc1, gA2, gc2, gA3, gc3, e', g0, g1, g2, g3, g4, g5, g6, gR⟩ := (hrow).entry hy
      cases e'
      have hcall : ∀ q : Later wr, Calls Tryz.prog g #[.agg #[.string x.key, .int .i64 x.v.kind, .string x.v.s, .slice fA1 x.v.l.length fc1, .slice fA2 x.v.z.length fc2, .slice fA3 x.v.h.length fc3, .int .i64 x.at_], .agg #[.string y.key, .int .i64 y.v.kind, .string y.v.s, .slice gA1 y.v.l.length gc1, .slice gA2 y.v.z.length gc2, .slice gA3 y.v.h.length gc3, .int .i64 y.at_]] q.W fun e W' => e = .returned (.int .i64 (p x y)) ∧ Below q.W.heap.size q.W W' :=
        fun q => hp q.W x y [.string x.key, .int .i64 x.v.kind, .string x.v.s, .slice fA1 x.v.l.length fc1, .slice fA2 x.v.z.length fc2, .slice fA3 x.v.h.length fc3, .int .i64 x.at_] [.string y.key, .int .i64 y.v.kind, .string y.v.s, .slice gA1 y.v.l.length gc1, .slice gA2 y.v.z.length gc2, .slice gA3 y.v.h.length gc3, .int .i64 y.at_] (kEntry.move (below_moves q.below) fR) (kEntry.move (below_moves q.below) gR) (below_trans' HB.out q.below)
      clear fR gR hp hrow
      have HX := Lib.hid hx'
      have HY := Lib.hid hy
      clear hy hx hx'
      replace f0 := Later.cell f0
      replace f1 := Later.cell f1
      replace f2 := Later.cell f2
      replace f3 := Later.cell f3
      replace f4 := Later.cell f4
      replace f5 := Later.cell f5
      replace f6 := Later.cell f6
      replace g0 := Later.cell g0
      replace g1 := Later.cell g1
      replace g2 := Later.cell g2
      replace g3 := Later.cell g3
      replace g4 := Later.cell g4
      replace g5 := Later.cell g5
      replace g6 := Later.cell g6
      go_wp2_with fail
      refine wp_region_later (by kernel_rfl) (by kernel_rfl) ?_
      repeat (go_big_quiet_step ((go_at_fn g; exact Calls.later (hcall _))))
      refine wpQuiet_nil ?_
      rintro _ ⟨q, rfl⟩
      clear hcall
      by_cases hq : 0 ≤ p x y
      · go_wp2
        go_ret
        refine ⟨?_, below_trans' HB.out q.below⟩
        rw [risingB_no p xs (k - 1) x y HX.out (by rw [show k - 1 + 1 = k from by omega]; exact HY.out) hq]
        rfl
      · go_wp2
        go_roundg (xs.length - (k + 1))
        case rel =>
          refine ⟨k + 1, by omega, .inl (by omega), by omega, by go_num, below_trans' HB.out q.below, fun j a b hj ha hb => ?_⟩
          rcases Nat.lt_or_ge (j + 1) k with h | h
          · exact HA.out j a b h ha hb
          · obtain rfl : j = k - 1 := by omega
            rw [HX.out] at ha
            rw [show k - 1 + 1 = k from by omega, HY.out] at hb
            cases ha
            cases hb
            omega
        case measure => omega
    · go_wp2
      go_ret
      refine ⟨?_, HB.out⟩
      rw [risingB_yes p xs (fun j a b ha hb => HA.out j a b (by have := (List.getElem?_eq_some_iff.1 hb).1; omega) ha hb)]
      rfl

set_option maxRecDepth 100000 in
set_option maxHeartbeats 400000 in
theorem risingS (g : Nat) (p : DScored → DScored → Int) (S : Nat → Prop) (A : Option Addr) (xs : List DScored) (c : Nat) (w : World)
    (hx : Row kScored S w A xs) (hp : CmpK Tryz.prog kScored aggOf g #[] p S w) (eg : EntersF Tryz.prog g) :
    Calls Tryz.prog 141 #[.slice A xs.length c, .func (.func g) #[] #[]] w fun e w' => e = .returned (.bool (risingB p xs)) ∧ Below w.heap.size w w' := by
  have hl := hx.1
  unfold EntersF at eg
  go_enter Tryz.func141, Tryz.ntmps141
  go_wp2
  go_loopg [4, 5] xs.length (fun gg _ s5 wr => ∃ k : Nat, 1 ≤ k ∧ (k ≤ xs.length ∨ k = 1) ∧ xs.length - k ≤ gg ∧ s5 = .int .i64 k ∧ Hid (Below w.heap.size w wr) ∧ Hid (∀ j x y, j + 1 < k → xs[j]? = some x → xs[j + 1]? = some y → p x y < 0))
  case atStart => exact ⟨1, by omega, .inr rfl, by omega, rfl, Below.refl _ w, fun j _ _ hj => by omega⟩
  case round =>
    obtain ⟨k, hk0, hk, hg, rfl, HB, HA⟩ := hrel
    by_cases hlt : k < xs.length
    · have hltz : (k : Int) < (xs.length : Int) := by omega
      obtain ⟨x, hx'⟩ : ∃ x, xs[k-1]? = some x := ⟨_, List.getElem?_eq_getElem (by omega)⟩
      obtain ⟨y, hy⟩ : ∃ y, xs[k]? = some y := ⟨_, List.getElem?_eq_getElem hlt⟩
      have hrow := hx.move (below_moves HB.out)
      obtain ⟨fb, foff, rfl, f0, f1, fR⟩ := (hrow).scored hx'
      obtain ⟨gb, goff, e', g0, g1, gR⟩ := (hrow).scored hy
      cases e'
      have hcall : ∀ q : Later wr, Calls Tryz.prog g #[.agg #[.string x.m, .int .i64 x.n], .agg #[.string y.m, .int .i64 y.n]] q.W fun e W' => e = .returned (.int .i64 (p x y)) ∧ Below q.W.heap.size q.W W' :=
        fun q => hp q.W x y [.string x.m, .int .i64 x.n] [.string y.m, .int .i64 y.n] (kScored.move (below_moves q.below) fR) (kScored.move (below_moves q.below) gR) (below_trans' HB.out q.below)
      clear fR gR hp hrow
      have HX := Lib.hid hx'
      have HY := Lib.hid hy
      clear hy hx hx'
      replace f0 := Later.cell f0
      replace f1 := Later.cell f1
      replace g0 := Later.cell g0
      replace g1 := Later.cell g1
      go_wp2_with fail
      refine wp_region_later (by kernel_rfl) (by kernel_rfl) ?_
      repeat (go_big_quiet_step ((go_at_fn g; exact Calls.later (hcall _))))
      refine wpQuiet_nil ?_
      rintro _ ⟨q, rfl⟩
      clear hcall
      by_cases hq : 0 ≤ p x y
      · go_wp2
        go_ret
        refine ⟨?_, below_trans' HB.out q.below⟩
        rw [risingB_no p xs (k - 1) x y HX.out (by rw [show k - 1 + 1 = k from by omega]; exact HY.out) hq]
        rfl
      · go_wp2
        go_roundg (xs.length - (k + 1))
        case rel =>
          refine ⟨k + 1, by omega, .inl (by omega), by omega, by go_num, below_trans' HB.out q.below, fun j a b hj ha hb => ?_⟩
          rcases Nat.lt_or_ge (j + 1) k with h | h
          · exact HA.out j a b h ha hb
          · obtain rfl : j = k - 1 := by omega
            rw [HX.out] at ha
            rw [show k - 1 + 1 = k from by omega, HY.out] at hb
            cases ha
            cases hb
            omega
        case measure => omega
    · go_wp2
      go_ret
      refine ⟨?_, HB.out⟩
      rw [risingB_yes p xs (fun j a b ha hb => HA.out j a b (by have := (List.getElem?_eq_some_iff.1 hb).1; omega) ha hb)]
      rfl

set_option maxRecDepth 100000 in
set_option maxHeartbeats 400000 in
theorem risingF (g : Nat) (p : DField → DField → Int) (S : Nat → Prop) (A : Option Addr) (xs : List DField) (c : Nat) (w : World)
    (hx : Row kField S w A xs) (hp : CmpK Tryz.prog kField aggOf g #[] p S w) (eg : EntersF Tryz.prog g) :
    Calls Tryz.prog 83 #[.slice A xs.length c, .func (.func g) #[] #[]] w fun e w' => e = .returned (.bool (risingB p xs)) ∧ Below w.heap.size w w' := by
  have hl := hx.1
  unfold EntersF at eg
  go_enter Tryz.func83, Tryz.ntmps83
  go_wp2
  go_loopg [4, 5] xs.length (fun gg _ s5 wr => ∃ k : Nat, 1 ≤ k ∧ (k ≤ xs.length ∨ k = 1) ∧ xs.length - k ≤ gg ∧ s5 = .int .i64 k ∧ Hid (Below w.heap.size w wr) ∧ Hid (∀ j x y, j + 1 < k → xs[j]? = some x → xs[j + 1]? = some y → p x y < 0))
  case atStart => exact ⟨1, by omega, .inr rfl, by omega, rfl, Below.refl _ w, fun j _ _ hj => by omega⟩
  case round =>
    obtain ⟨k, hk0, hk, hg, rfl, HB, HA⟩ := hrel
    by_cases hlt : k < xs.length
    · have hltz : (k : Int) < (xs.length : Int) := by omega
      obtain ⟨x, hx'⟩ : ∃ x, xs[k-1]? = some x := ⟨_, List.getElem?_eq_getElem (by omega)⟩
      obtain ⟨y, hy⟩ : ∃ y, xs[k]? = some y := ⟨_, List.getElem?_eq_getElem hlt⟩
      have hrow := hx.move (below_moves HB.out)
      obtain ⟨fb, foff, rfl, f0, f1, fR⟩ := (hrow).field hx'
      obtain ⟨gb, goff, e', g0, g1, gR⟩ := (hrow).field hy
      cases e'
      have hcall : ∀ q : Later wr, Calls Tryz.prog g #[.agg #[.string x.f, .string x.v], .agg #[.string y.f, .string y.v]] q.W fun e W' => e = .returned (.int .i64 (p x y)) ∧ Below q.W.heap.size q.W W' :=
        fun q => hp q.W x y [.string x.f, .string x.v] [.string y.f, .string y.v] (kField.move (below_moves q.below) fR) (kField.move (below_moves q.below) gR) (below_trans' HB.out q.below)
      clear fR gR hp hrow
      have HX := Lib.hid hx'
      have HY := Lib.hid hy
      clear hy hx hx'
      replace f0 := Later.cell f0
      replace f1 := Later.cell f1
      replace g0 := Later.cell g0
      replace g1 := Later.cell g1
      go_wp2_with fail
      refine wp_region_later (by kernel_rfl) (by kernel_rfl) ?_
      repeat (go_big_quiet_step ((go_at_fn g; exact Calls.later (hcall _))))
      refine wpQuiet_nil ?_
      rintro _ ⟨q, rfl⟩
      clear hcall
      by_cases hq : 0 ≤ p x y
      · go_wp2
        go_ret
        refine ⟨?_, below_trans' HB.out q.below⟩
        rw [risingB_no p xs (k - 1) x y HX.out (by rw [show k - 1 + 1 = k from by omega]; exact HY.out) hq]
        rfl
      · go_wp2
        go_roundg (xs.length - (k + 1))
        case rel =>
          refine ⟨k + 1, by omega, .inl (by omega), by omega, by go_num, below_trans' HB.out q.below, fun j a b hj ha hb => ?_⟩
          rcases Nat.lt_or_ge (j + 1) k with h | h
          · exact HA.out j a b h ha hb
          · obtain rfl : j = k - 1 := by omega
            rw [HX.out] at ha
            rw [show k - 1 + 1 = k from by omega, HY.out] at hb
            cases ha
            cases hb
            omega
        case measure => omega
    · go_wp2
      go_ret
      refine ⟨?_, HB.out⟩
      rw [risingB_yes p xs (fun j a b ha hb => HA.out j a b (by have := (List.getElem?_eq_some_iff.1 hb).1; omega) ha hb)]
      rfl

set_option maxRecDepth 100000 in
set_option maxHeartbeats 400000 in
theorem risings (g : Nat) (p : ByteArray → ByteArray → Int) (S : Nat → Prop) (A : Option Addr) (xs : List ByteArray) (c : Nat) (w : World)
    (hx : Row kStr S w A xs) (hp : CmpK Tryz.prog kStr oneOf g #[] p S w) (eg : EntersF Tryz.prog g) :
    Calls Tryz.prog 77 #[.slice A xs.length c, .func (.func g) #[] #[]] w fun e w' => e = .returned (.bool (risingB p xs)) ∧ Below w.heap.size w w' := by
  have hl := hx.1
  unfold EntersF at eg
  go_enter Tryz.func77, Tryz.ntmps77
  go_wp2
  go_loopg [4, 5] xs.length (fun gg _ s5 wr => ∃ k : Nat, 1 ≤ k ∧ (k ≤ xs.length ∨ k = 1) ∧ xs.length - k ≤ gg ∧ s5 = .int .i64 k ∧ Hid (Below w.heap.size w wr) ∧ Hid (∀ j x y, j + 1 < k → xs[j]? = some x → xs[j + 1]? = some y → p x y < 0))
  case atStart => exact ⟨1, by omega, .inr rfl, by omega, rfl, Below.refl _ w, fun j _ _ hj => by omega⟩
  case round =>
    obtain ⟨k, hk0, hk, hg, rfl, HB, HA⟩ := hrel
    by_cases hlt : k < xs.length
    · have hltz : (k : Int) < (xs.length : Int) := by omega
      obtain ⟨x, hx'⟩ : ∃ x, xs[k-1]? = some x := ⟨_, List.getElem?_eq_getElem (by omega)⟩
      obtain ⟨y, hy⟩ : ∃ y, xs[k]? = some y := ⟨_, List.getElem?_eq_getElem hlt⟩
      have hrow := hx.move (below_moves HB.out)
      obtain ⟨fb, foff, rfl, f0, fR⟩ := (hrow).str hx'
      obtain ⟨gb, goff, e', g0, gR⟩ := (hrow).str hy
      cases e'
      have hcall : ∀ q : Later wr, Calls Tryz.prog g #[.string x, .string y] q.W fun e W' => e = .returned (.int .i64 (p x y)) ∧ Below q.W.heap.size q.W W' :=
        fun q => hp q.W x y [.string x] [.string y] (kStr.move (below_moves q.below) fR) (kStr.move (below_moves q.below) gR) (below_trans' HB.out q.below)
      clear fR gR hp hrow
      have HX := Lib.hid hx'
      have HY := Lib.hid hy
      clear hy hx hx'
      replace f0 := Later.cell f0
      replace g0 := Later.cell g0
      go_wp2_with fail
      refine wp_region_later (by kernel_rfl) (by kernel_rfl) ?_
      repeat (go_big_quiet_step ((go_at_fn g; exact Calls.later (hcall _))))
      refine wpQuiet_nil ?_
      rintro _ ⟨q, rfl⟩
      clear hcall
      by_cases hq : 0 ≤ p x y
      · go_wp2
        go_ret
        refine ⟨?_, below_trans' HB.out q.below⟩
        rw [risingB_no p xs (k - 1) x y HX.out (by rw [show k - 1 + 1 = k from by omega]; exact HY.out) hq]
        rfl
      · go_wp2
        go_roundg (xs.length - (k + 1))
        case rel =>
          refine ⟨k + 1, by omega, .inl (by omega), by omega, by go_num, below_trans' HB.out q.below, fun j a b hj ha hb => ?_⟩
          rcases Nat.lt_or_ge (j + 1) k with h | h
          · exact HA.out j a b h ha hb
          · obtain rfl : j = k - 1 := by omega
            rw [HX.out] at ha
            rw [show k - 1 + 1 = k from by omega, HY.out] at hb
            cases ha
            cases hb
            omega
        case measure => omega
    · go_wp2
      go_ret
      refine ⟨?_, HB.out⟩
      rw [risingB_yes p xs (fun j a b ha hb => HA.out j a b (by have := (List.getElem?_eq_some_iff.1 hb).1; omega) ha hb)]
      rfl
end Go.Proofs.YtkgghnjpegpnlaaGreatDoor
