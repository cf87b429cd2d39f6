/- millpondref09.is: may a value be, by the reference? Conditions: what is read reads as the data. -/
import Derived.Test.YtkgghnjpegpnlaaGreatDoorRefs2
import Derived.Test.YtkgghnjpegpnlaaGreatDoorRight
namespace Go.Proofs.YtkgghnjpegpnlaaGreatDoor
open Go.RowKit Go.Proofs
set_option linter.unusedSimpArgs false
set_option linter.unusedVariables false
set_option maxRecDepth 100000

set_option maxHeartbeats 2000000 in
theorem is_k1 (s : ByteArray) (A1 A2 A3 : Option Addr) (n1 n2 n3 c1 c2 c3 : Nat) (w : World) (b0 bsh bl bz bh : Bool) (m1 : n1 ≤ 140737488355328) (m2 : n2 ≤ 140737488355328) (m3 : n3 ≤ 140737488355328) (h0 : s.toList.isEmpty = b0) (hsh : decide ((s.size : Int) ≤ 65536) = bsh) (hl : ((n1 : Int) == 0) = bl) (hz : ((n2 : Int) == 0) = bz) (hh : ((n3 : Int) == 0) = bh) :
    Calls Tryz.prog 68 #[.agg #[.int .i64 1, .string s, .slice A1 n1 c1, .slice A2 n2 c2, .slice A3 n3 c3]] w fun e w' => e = .returned (.bool (bsh && (bl && (bz && bh)))) ∧ Below w.heap.size w w' := by
  have a0 := Later.cell (show (w.alloc (.cells #[.int .i64 1, .string s, .slice A1 n1 c1, .slice A2 n2 c2, .slice A3 n3 c3] 28)).cell? ⟨w.heap.size, 0, none⟩ = some (.int .i64 1) from by go_simp)
  have a1 := Later.cell (show (w.alloc (.cells #[.int .i64 1, .string s, .slice A1 n1 c1, .slice A2 n2 c2, .slice A3 n3 c3] 28)).cell? ⟨w.heap.size, 1, none⟩ = some (.string s) from by go_simp)
  have a2 := Later.cell (show (w.alloc (.cells #[.int .i64 1, .string s, .slice A1 n1 c1, .slice A2 n2 c2, .slice A3 n3 c3] 28)).cell? ⟨w.heap.size, 2, none⟩ = some (.slice A1 n1 c1) from by go_simp)
  have a3 := Later.cell (show (w.alloc (.cells #[.int .i64 1, .string s, .slice A1 n1 c1, .slice A2 n2 c2, .slice A3 n3 c3] 28)).cell? ⟨w.heap.size, 3, none⟩ = some (.slice A2 n2 c2) from by go_simp)
  have a4 := Later.cell (show (w.alloc (.cells #[.int .i64 1, .string s, .slice A1 n1 c1, .slice A2 n2 c2, .slice A3 n3 c3] 28)).cell? ⟨w.heap.size, 4, none⟩ = some (.slice A3 n3 c3) from by go_simp)
  have HW : Hid (Below w.heap.size w (w.alloc (.cells #[.int .i64 1, .string s, .slice A1 n1 c1, .slice A2 n2 c2, .slice A3 n3 c3] 28))) := (Below.refl _ _).alloc (Nat.le_refl _) _
  cases bsh with
  | false =>
    go_enter Tryz.func68, Tryz.ntmps68
    go_wp2_with fail
    refine wp_region_later (by kernel_rfl) (by kernel_rfl) ?_
    repeat (go_big_quiet_step (fail))
    refine wpQuiet_nil ?_
    rintro _ ⟨q, rfl⟩
    have HQ := Lib.hid (below_trans' HW.out q.below)
    go_wp2
    go_ret
    exact ⟨rfl, HQ.out⟩
  | true =>
    cases bl with
    | false =>
      go_enter Tryz.func68, Tryz.ntmps68
      go_wp2_with fail
      refine wp_region_later (by kernel_rfl) (by kernel_rfl) ?_
      repeat (go_big_quiet_step (fail))
      refine wpQuiet_nil ?_
      rintro _ ⟨q, rfl⟩
      have HQ := Lib.hid (below_trans' HW.out q.below)
      go_wp2
      go_ret
      exact ⟨rfl, HQ.out⟩
    | true =>
      cases bz with
      | false =>
        go_enter Tryz.func68, Tryz.ntmps68
        go_wp2_with fail
        refine wp_region_later (by kernel_rfl) (by kernel_rfl) ?_
        repeat (go_big_quiet_step (fail))
        refine wpQuiet_nil ?_
        rintro _ ⟨q, rfl⟩
        have HQ := Lib.hid (below_trans' HW.out q.below)
        go_wp2
        go_ret
        exact ⟨rfl, HQ.out⟩
      | true =>
        go_enter Tryz.func68, Tryz.ntmps68
        go_wp2_with fail
        refine wp_region_later (by kernel_rfl) (by kernel_rfl) ?_
        repeat (go_big_quiet_step (fail))
        refine wpQuiet_nil ?_
        rintro _ ⟨q, rfl⟩
        have HQ := Lib.hid (below_trans' HW.out q.below)
        go_wp2
        go_ret
        exact ⟨rfl, HQ.out⟩

set_option maxHeartbeats 2000000 in
theorem is_k2 (s : ByteArray) (A1 A2 A3 : Option Addr) (n1 n2 n3 c1 c2 c3 : Nat) (w : World) (b0 bsh bl bz bh bsz bin : Bool) (m1 : n1 ≤ 140737488355328) (m2 : n2 ≤ 140737488355328) (m3 : n3 ≤ 140737488355328) (h0 : s.toList.isEmpty = b0) (hsh : decide ((s.size : Int) ≤ 65536) = bsh) (hl : ((n1 : Int) == 0) = bl) (hz : ((n2 : Int) == 0) = bz) (hh : ((n3 : Int) == 0) = bh) (hsz : ∀ W, Calls Tryz.prog 99 #[.int .i64 n1] W fun e w' => e = .returned (.bool bsz) ∧ W = w') (hin : bsz = true → ∀ W, Below w.heap.size w W → Calls Tryz.prog 100 #[.slice A1 n1 c1, .bool false] W fun e w' => e = .returned (.bool bin) ∧ Below W.heap.size W w') :
    Calls Tryz.prog 68 #[.agg #[.int .i64 2, .string s, .slice A1 n1 c1, .slice A2 n2 c2, .slice A3 n3 c3]] w fun e w' => e = .returned (.bool (b0 && (bz && (bh && (bsz && bin))))) ∧ Below w.heap.size w w' := by
  have a0 := Later.cell (show (w.alloc (.cells #[.int .i64 2, .string s, .slice A1 n1 c1, .slice A2 n2 c2, .slice A3 n3 c3] 28)).cell? ⟨w.heap.size, 0, none⟩ = some (.int .i64 2) from by go_simp)
  have a1 := Later.cell (show (w.alloc (.cells #[.int .i64 2, .string s, .slice A1 n1 c1, .slice A2 n2 c2, .slice A3 n3 c3] 28)).cell? ⟨w.heap.size, 1, none⟩ = some (.string s) from by go_simp)
  have a2 := Later.cell (show (w.alloc (.cells #[.int .i64 2, .string s, .slice A1 n1 c1, .slice A2 n2 c2, .slice A3 n3 c3] 28)).cell? ⟨w.heap.size, 2, none⟩ = some (.slice A1 n1 c1) from by go_simp)
  have a3 := Later.cell (show (w.alloc (.cells #[.int .i64 2, .string s, .slice A1 n1 c1, .slice A2 n2 c2, .slice A3 n3 c3] 28)).cell? ⟨w.heap.size, 3, none⟩ = some (.slice A2 n2 c2) from by go_simp)
  have a4 := Later.cell (show (w.alloc (.cells #[.int .i64 2, .string s, .slice A1 n1 c1, .slice A2 n2 c2, .slice A3 n3 c3] 28)).cell? ⟨w.heap.size, 4, none⟩ = some (.slice A3 n3 c3) from by go_simp)
  have HW : Hid (Below w.heap.size w (w.alloc (.cells #[.int .i64 2, .string s, .slice A1 n1 c1, .slice A2 n2 c2, .slice A3 n3 c3] 28))) := (Below.refl _ _).alloc (Nat.le_refl _) _
  have HI := Lib.hid hin
  clear hin
  cases b0 with
  | false =>
    go_enter Tryz.func68, Tryz.ntmps68
    go_wp2_with fail
    refine wp_region_later (by kernel_rfl) (by kernel_rfl) ?_
    repeat (go_big_quiet_step (fail))
    refine wpQuiet_nil ?_
    rintro _ ⟨q, rfl⟩
    have HQ := Lib.hid (below_trans' HW.out q.below)
    go_wp2
    go_ret
    exact ⟨rfl, HQ.out⟩
  | true =>
    cases bz with
    | false =>
      go_enter Tryz.func68, Tryz.ntmps68
      go_wp2_with fail
      refine wp_region_later (by kernel_rfl) (by kernel_rfl) ?_
      repeat (go_big_quiet_step (fail))
      refine wpQuiet_nil ?_
      rintro _ ⟨q, rfl⟩
      have HQ := Lib.hid (below_trans' HW.out q.below)
      go_wp2
      go_ret
      exact ⟨rfl, HQ.out⟩
    | true =>
      cases bh with
      | false =>
        go_enter Tryz.func68, Tryz.ntmps68
        go_wp2_with fail
        refine wp_region_later (by kernel_rfl) (by kernel_rfl) ?_
        repeat (go_big_quiet_step (fail))
        refine wpQuiet_nil ?_
        rintro _ ⟨q, rfl⟩
        have HQ := Lib.hid (below_trans' HW.out q.below)
        go_wp2
        go_ret
        exact ⟨rfl, HQ.out⟩
      | true =>
        cases bsz with
        | false =>
          go_enter Tryz.func68, Tryz.ntmps68
          go_wp2_with fail
          refine wp_region_later (by kernel_rfl) (by kernel_rfl) ?_
          repeat (go_big_quiet_step (fail))
          refine wpQuiet_nil ?_
          rintro _ ⟨q, rfl⟩
          have HQ := Lib.hid (below_trans' HW.out q.below)
          go_wp2_with (first | (go_at_call 99; refine (hsz _).mono ?_; rintro e w' ⟨rfl, rfl⟩))
          go_ret
          exact ⟨rfl, HQ.out⟩
        | true =>
          have HJ := Lib.hid (HI.out rfl)
          clear HI
          go_enter Tryz.func68, Tryz.ntmps68
          go_wp2_with fail
          refine wp_region_later (by kernel_rfl) (by kernel_rfl) ?_
          repeat (go_big_quiet_step (fail))
          refine wpQuiet_nil ?_
          rintro _ ⟨q, rfl⟩
          have HQ := Lib.hid (below_trans' HW.out q.below)
          go_wp2_with (first | (go_at_call 99; refine (hsz _).mono ?_; rintro e w' ⟨rfl, rfl⟩) | (go_at_call 100; refine (HJ.out _ HQ.out).mono ?_; rintro e w1 ⟨rfl, b1⟩))
          go_ret
          exact ⟨rfl, below_trans' HQ.out b1⟩

set_option maxHeartbeats 2000000 in
theorem is_k3 (s : ByteArray) (A1 A2 A3 : Option Addr) (n1 n2 n3 c1 c2 c3 : Nat) (w : World) (b0 bsh bl bz bh bsz bin : Bool) (m1 : n1 ≤ 140737488355328) (m2 : n2 ≤ 140737488355328) (m3 : n3 ≤ 140737488355328) (h0 : s.toList.isEmpty = b0) (hsh : decide ((s.size : Int) ≤ 65536) = bsh) (hl : ((n1 : Int) == 0) = bl) (hz : ((n2 : Int) == 0) = bz) (hh : ((n3 : Int) == 0) = bh) (hsz : ∀ W, Calls Tryz.prog 99 #[.int .i64 n1] W fun e w' => e = .returned (.bool bsz) ∧ W = w') (hin : bsz = true → ∀ W, Below w.heap.size w W → Calls Tryz.prog 100 #[.slice A1 n1 c1, .bool true] W fun e w' => e = .returned (.bool bin) ∧ Below W.heap.size W w') :
    Calls Tryz.prog 68 #[.agg #[.int .i64 3, .string s, .slice A1 n1 c1, .slice A2 n2 c2, .slice A3 n3 c3]] w fun e w' => e = .returned (.bool (b0 && (bz && (bh && (bsz && bin))))) ∧ Below w.heap.size w w' := by
  have a0 := Later.cell (show (w.alloc (.cells #[.int .i64 3, .string s, .slice A1 n1 c1, .slice A2 n2 c2, .slice A3 n3 c3] 28)).cell? ⟨w.heap.size, 0, none⟩ = some (.int .i64 3) from by go_simp)
  have a1 := Later.cell (show (w.alloc (.cells #[.int .i64 3, .string s, .slice A1 n1 c1, .slice A2 n2 c2, .slice A3 n3 c3] 28)).cell? ⟨w.heap.size, 1, none⟩ = some (.string s) from by go_simp)
  have a2 := Later.cell (show (w.alloc (.cells #[.int .i64 3, .string s, .slice A1 n1 c1, .slice A2 n2 c2, .slice A3 n3 c3] 28)).cell? ⟨w.heap.size, 2, none⟩ = some (.slice A1 n1 c1) from by go_simp)
  have a3 := Later.cell (show (w.alloc (.cells #[.int .i64 3, .string s, .slice A1 n1 c1, .slice A2 n2 c2, .slice A3 n3 c3] 28)).cell? ⟨w.heap.size, 3, none⟩ = some (.slice A2 n2 c2) from by go_simp)
  have a4 := Later.cell (show (w.alloc (.cells #[.int .i64 3, .string s, .slice A1 n1 c1, .slice A2 n2 c2, .slice A3 n3 c3] 28)).cell? ⟨w.heap.size, 4, none⟩ = some (.slice A3 n3 c3) from by go_simp)
  have HW : Hid (Below w.heap.size w (w.alloc (.cells #[.int .i64 3, .string s, .slice A1 n1 c1, .slice A2 n2 c2, .slice A3 n3 c3] 28))) := (Below.refl _ _).alloc (Nat.le_refl _) _
  have HI := Lib.hid hin
  clear hin
  cases b0 with
  | false =>
    go_enter Tryz.func68, Tryz.ntmps68
    go_wp2_with fail
    refine wp_region_later (by kernel_rfl) (by kernel_rfl) ?_
    repeat (go_big_quiet_step (fail))
    refine wpQuiet_nil ?_
    rintro _ ⟨q, rfl⟩
    have HQ := Lib.hid (below_trans' HW.out q.below)
    go_wp2
    go_ret
    exact ⟨rfl, HQ.out⟩
  | true =>
    cases bz with
    | false =>
      go_enter Tryz.func68, Tryz.ntmps68
      go_wp2_with fail
      refine wp_region_later (by kernel_rfl) (by kernel_rfl) ?_
      repeat (go_big_quiet_step (fail))
      refine wpQuiet_nil ?_
      rintro _ ⟨q, rfl⟩
      have HQ := Lib.hid (below_trans' HW.out q.below)
      go_wp2
      go_ret
      exact ⟨rfl, HQ.out⟩
    | true =>
      cases bh with
      | false =>
        go_enter Tryz.func68, Tryz.ntmps68
        go_wp2_with fail
        refine wp_region_later (by kernel_rfl) (by kernel_rfl) ?_
        repeat (go_big_quiet_step (fail))
        refine wpQuiet_nil ?_
        rintro _ ⟨q, rfl⟩
        have HQ := Lib.hid (below_trans' HW.out q.below)
        go_wp2
        go_ret
        exact ⟨rfl, HQ.out⟩
      | true =>
        cases bsz with
        | false =>
          go_enter Tryz.func68, Tryz.ntmps68
          go_wp2_with fail
          refine wp_region_later (by kernel_rfl) (by kernel_rfl) ?_
          repeat (go_big_quiet_step (fail))
          refine wpQuiet_nil ?_
          rintro _ ⟨q, rfl⟩
          have HQ := Lib.hid (below_trans' HW.out q.below)
          go_wp2_with (first | (go_at_call 99; refine (hsz _).mono ?_; rintro e w' ⟨rfl, rfl⟩))
          go_ret
          exact ⟨rfl, HQ.out⟩
        | true =>
          have HJ := Lib.hid (HI.out rfl)
          clear HI
          go_enter Tryz.func68, Tryz.ntmps68
          go_wp2_with fail
          refine wp_region_later (by kernel_rfl) (by kernel_rfl) ?_
          repeat (go_big_quiet_step (fail))
          refine wpQuiet_nil ?_
          rintro _ ⟨q, rfl⟩
          have HQ := Lib.hid (below_trans' HW.out q.below)
          go_wp2_with (first | (go_at_call 99; refine (hsz _).mono ?_; rintro e w' ⟨rfl, rfl⟩) | (go_at_call 100; refine (HJ.out _ HQ.out).mono ?_; rintro e w1 ⟨rfl, b1⟩))
          go_ret
          exact ⟨rfl, below_trans' HQ.out b1⟩

set_option maxHeartbeats 2000000 in
theorem is_k4 (s : ByteArray) (A1 A2 A3 : Option Addr) (n1 n2 n3 c1 c2 c3 : Nat) (w : World) (b0 bsh bl bz bh bsz bin : Bool) (m1 : n1 ≤ 140737488355328) (m2 : n2 ≤ 140737488355328) (m3 : n3 ≤ 140737488355328) (h0 : s.toList.isEmpty = b0) (hsh : decide ((s.size : Int) ≤ 65536) = bsh) (hl : ((n1 : Int) == 0) = bl) (hz : ((n2 : Int) == 0) = bz) (hh : ((n3 : Int) == 0) = bh) (hsz : ∀ W, Calls Tryz.prog 99 #[.int .i64 n2] W fun e w' => e = .returned (.bool bsz) ∧ W = w') (hin : bsz = true → ∀ W, Below w.heap.size w W → Calls Tryz.prog 101 #[.slice A2 n2 c2] W fun e w' => e = .returned (.bool bin) ∧ Below W.heap.size W w') :
    Calls Tryz.prog 68 #[.agg #[.int .i64 4, .string s, .slice A1 n1 c1, .slice A2 n2 c2, .slice A3 n3 c3]] w fun e w' => e = .returned (.bool (b0 && (bl && (bh && (bsz && bin))))) ∧ Below w.heap.size w w' := by
  have a0 := Later.cell (show (w.alloc (.cells #[.int .i64 4, .string s, .slice A1 n1 c1, .slice A2 n2 c2, .slice A3 n3 c3] 28)).cell? ⟨w.heap.size, 0, none⟩ = some (.int .i64 4) from by go_simp)
  have a1 := Later.cell (show (w.alloc (.cells #[.int .i64 4, .string s, .slice A1 n1 c1, .slice A2 n2 c2, .slice A3 n3 c3] 28)).cell? ⟨w.heap.size, 1, none⟩ = some (.string s) from by go_simp)
  have a2 := Later.cell (show (w.alloc (.cells #[.int .i64 4, .string s, .slice A1 n1 c1, .slice A2 n2 c2, .slice A3 n3 c3] 28)).cell? ⟨w.heap.size, 2, none⟩ = some (.slice A1 n1 c1) from by go_simp)
  have a3 := Later.cell (show (w.alloc (.cells #[.int .i64 4, .string s, .slice A1 n1 c1, .slice A2 n2 c2, .slice A3 n3 c3] 28)).cell? ⟨w.heap.size, 3, none⟩ = some (.slice A2 n2 c2) from by go_simp)
  have a4 := Later.cell (show (w.alloc (.cells #[.int .i64 4, .string s, .slice A1 n1 c1, .slice A2 n2 c2, .slice A3 n3 c3] 28)).cell? ⟨w.heap.size, 4, none⟩ = some (.slice A3 n3 c3) from by go_simp)
  have HW : Hid (Below w.heap.size w (w.alloc (.cells #[.int .i64 4, .string s, .slice A1 n1 c1, .slice A2 n2 c2, .slice A3 n3 c3] 28))) := (Below.refl _ _).alloc (Nat.le_refl _) _
  have HI := Lib.hid hin
  clear hin
  cases b0 with
  | false =>
    go_enter Tryz.func68, Tryz.ntmps68
    go_wp2_with fail
    refine wp_region_later (by kernel_rfl) (by kernel_rfl) ?_
    repeat (go_big_quiet_step (fail))
    refine wpQuiet_nil ?_
    rintro _ ⟨q, rfl⟩
    have HQ := Lib.hid (below_trans' HW.out q.below)
    go_wp2
    go_ret
    exact ⟨rfl, HQ.out⟩
  | true =>
    cases bl with
    | false =>
      go_enter Tryz.func68, Tryz.ntmps68
      go_wp2_with fail
      refine wp_region_later (by kernel_rfl) (by kernel_rfl) ?_
      repeat (go_big_quiet_step (fail))
      refine wpQuiet_nil ?_
      rintro _ ⟨q, rfl⟩
      have HQ := Lib.hid (below_trans' HW.out q.below)
      go_wp2
      go_ret
      exact ⟨rfl, HQ.out⟩
    | true =>
      cases bh with
      | false =>
        go_enter Tryz.func68, Tryz.ntmps68
        go_wp2_with fail
        refine wp_region_later (by kernel_rfl) (by kernel_rfl) ?_
        repeat (go_big_quiet_step (fail))
        refine wpQuiet_nil ?_
        rintro _ ⟨q, rfl⟩
        have HQ := Lib.hid (below_trans' HW.out q.below)
        go_wp2
        go_ret
        exact ⟨rfl, HQ.out⟩
      | true =>
        cases bsz with
        | false =>
          go_enter Tryz.func68, Tryz.ntmps68
          go_wp2_with fail
          refine wp_region_later (by kernel_rfl) (by kernel_rfl) ?_
          repeat (go_big_quiet_step (fail))
          refine wpQuiet_nil ?_
          rintro _ ⟨q, rfl⟩
          have HQ := Lib.hid (below_trans' HW.out q.below)
          go_wp2_with (first | (go_at_call 99; refine (hsz _).mono ?_; rintro e w' ⟨rfl, rfl⟩))
          go_ret
          exact ⟨rfl, HQ.out⟩
        | true =>
          have HJ := Lib.hid (HI.out rfl)
          clear HI
          go_enter Tryz.func68, Tryz.ntmps68
          go_wp2_with fail
          refine wp_region_later (by kernel_rfl) (by kernel_rfl) ?_
          repeat (go_big_quiet_step (fail))
          refine wpQuiet_nil ?_
          rintro _ ⟨q, rfl⟩
          have HQ := Lib.hid (below_trans' HW.out q.below)
          go_wp2_with (first | (go_at_call 99; refine (hsz _).mono ?_; rintro e w' ⟨rfl, rfl⟩) | (go_at_call 101; refine (HJ.out _ HQ.out).mono ?_; rintro e w1 ⟨rfl, b1⟩))
          go_ret
          exact ⟨rfl, below_trans' HQ.out b1⟩

set_option maxHeartbeats 2000000 in
theorem is_k5 (s : ByteArray) (A1 A2 A3 : Option Addr) (n1 n2 n3 c1 c2 c3 : Nat) (w : World) (b0 bsh bl bz bh bsz bin : Bool) (m1 : n1 ≤ 140737488355328) (m2 : n2 ≤ 140737488355328) (m3 : n3 ≤ 140737488355328) (h0 : s.toList.isEmpty = b0) (hsh : decide ((s.size : Int) ≤ 65536) = bsh) (hl : ((n1 : Int) == 0) = bl) (hz : ((n2 : Int) == 0) = bz) (hh : ((n3 : Int) == 0) = bh) (hsz : ∀ W, Calls Tryz.prog 99 #[.int .i64 n3] W fun e w' => e = .returned (.bool bsz) ∧ W = w') (hin : bsz = true → ∀ W, Below w.heap.size w W → Calls Tryz.prog 102 #[.slice A3 n3 c3] W fun e w' => e = .returned (.bool bin) ∧ Below W.heap.size W w') :
    Calls Tryz.prog 68 #[.agg #[.int .i64 5, .string s, .slice A1 n1 c1, .slice A2 n2 c2, .slice A3 n3 c3]] w fun e w' => e = .returned (.bool (b0 && (bl && (bz && (bsz && bin))))) ∧ Below w.heap.size w w' := by
  have a0 := Later.cell (show (w.alloc (.cells #[.int .i64 5, .string s, .slice A1 n1 c1, .slice A2 n2 c2, .slice A3 n3 c3] 28)).cell? ⟨w.heap.size, 0, none⟩ = some (.int .i64 5) from by go_simp)
  have a1 := Later.cell (show (w.alloc (.cells #[.int .i64 5, .string s, .slice A1 n1 c1, .slice A2 n2 c2, .slice A3 n3 c3] 28)).cell? ⟨w.heap.size, 1, none⟩ = some (.string s) from by go_simp)
  have a2 := Later.cell (show (w.alloc (.cells #[.int .i64 5, .string s, .slice A1 n1 c1, .slice A2 n2 c2, .slice A3 n3 c3] 28)).cell? ⟨w.heap.size, 2, none⟩ = some (.slice A1 n1 c1) from by go_simp)
  have a3 := Later.cell (show (w.alloc (.cells #[.int .i64 5, .string s, .slice A1 n1 c1, .slice A2 n2 c2, .slice A3 n3 c3] 28)).cell? ⟨w.heap.size, 3, none⟩ = some (.slice A2 n2 c2) from by go_simp)
  have a4 := Later.cell (show (w.alloc (.cells #[.int .i64 5, .string s, .slice A1 n1 c1, .slice A2 n2 c2, .slice A3 n3 c3] 28)).cell? ⟨w.heap.size, 4, none⟩ = some (.slice A3 n3 c3) from by go_simp)
  have HW : Hid (Below w.heap.size w (w.alloc (.cells #[.int .i64 5, .string s, .slice A1 n1 c1, .slice A2 n2 c2, .slice A3 n3 c3] 28))) := (Below.refl _ _).alloc (Nat.le_refl _) _
  have HI := Lib.hid hin
  clear hin
  cases b0 with
  | false =>
    go_enter Tryz.func68, Tryz.ntmps68
    go_wp2_with fail
    refine wp_region_later (by kernel_rfl) (by kernel_rfl) ?_
    repeat (go_big_quiet_step (fail))
    refine wpQuiet_nil ?_
    rintro _ ⟨q, rfl⟩
    have HQ := Lib.hid (below_trans' HW.out q.below)
    go_wp2
    go_ret
    exact ⟨rfl, HQ.out⟩
  | true =>
    cases bl with
    | false =>
      go_enter Tryz.func68, Tryz.ntmps68
      go_wp2_with fail
      refine wp_region_later (by kernel_rfl) (by kernel_rfl) ?_
      repeat (go_big_quiet_step (fail))
      refine wpQuiet_nil ?_
      rintro _ ⟨q, rfl⟩
      have HQ := Lib.hid (below_trans' HW.out q.below)
      go_wp2
      go_ret
      exact ⟨rfl, HQ.out⟩
    | true =>
      cases bz with
      | false =>
        go_enter Tryz.func68, Tryz.ntmps68
        go_wp2_with fail
        refine wp_region_later (by kernel_rfl) (by kernel_rfl) ?_
        repeat (go_big_quiet_step (fail))
        refine wpQuiet_nil ?_
        rintro _ ⟨q, rfl⟩
        have HQ := Lib.hid (below_trans' HW.out q.below)
        go_wp2
        go_ret
        exact ⟨rfl, HQ.out⟩
      | true =>
        cases bsz with
        | false =>
          go_enter Tryz.func68, Tryz.ntmps68
          go_wp2_with fail
          refine wp_region_later (by kernel_rfl) (by kernel_rfl) ?_
          repeat (go_big_quiet_step (fail))
          refine wpQuiet_nil ?_
          rintro _ ⟨q, rfl⟩
          have HQ := Lib.hid (below_trans' HW.out q.below)
          go_wp2_with (first | (go_at_call 99; refine (hsz _).mono ?_; rintro e w' ⟨rfl, rfl⟩))
          go_ret
          exact ⟨rfl, HQ.out⟩
        | true =>
          have HJ := Lib.hid (HI.out rfl)
          clear HI
          go_enter Tryz.func68, Tryz.ntmps68
          go_wp2_with fail
          refine wp_region_later (by kernel_rfl) (by kernel_rfl) ?_
          repeat (go_big_quiet_step (fail))
          refine wpQuiet_nil ?_
          rintro _ ⟨q, rfl⟩
          have HQ := Lib.hid (below_trans' HW.out q.below)
          go_wp2_with (first | (go_at_call 99; refine (hsz _).mono ?_; rintro e w' ⟨rfl, rfl⟩) | (go_at_call 102; refine (HJ.out _ HQ.out).mono ?_; rintro e w1 ⟨rfl, b1⟩))
          go_ret
          exact ⟨rfl, below_trans' HQ.out b1⟩

set_option maxHeartbeats 2000000 in
theorem is_other (kind : Int) (s : ByteArray) (A1 A2 A3 : Option Addr) (n1 n2 n3 c1 c2 c3 : Nat) (w : World) (m1 : n1 ≤ 140737488355328) (m2 : n2 ≤ 140737488355328) (m3 : n3 ≤ 140737488355328) (k1 : kind ≠ 1) (k2 : kind ≠ 2) (k3 : kind ≠ 3) (k4 : kind ≠ 4) (k5 : kind ≠ 5) :
    Calls Tryz.prog 68 #[.agg #[.int .i64 kind, .string s, .slice A1 n1 c1, .slice A2 n2 c2, .slice A3 n3 c3]] w fun e w' => e = .returned (.bool false) ∧ Below w.heap.size w w' := by
  have t1 : (kind == 1) = false := by simp [k1]
  have t2 : (kind == 2) = false := by simp [k2]
  have t3 : (kind == 3) = false := by simp [k3]
  have t4 : (kind == 4) = false := by simp [k4]
  have t5 : (kind == 5) = false := by simp [k5]
  clear k1 k2 k3 k4 k5
  have a0 := Later.cell (show (w.alloc (.cells #[.int .i64 kind, .string s, .slice A1 n1 c1, .slice A2 n2 c2, .slice A3 n3 c3] 28)).cell? ⟨w.heap.size, 0, none⟩ = some (.int .i64 kind) from by go_simp)
  have a1 := Later.cell (show (w.alloc (.cells #[.int .i64 kind, .string s, .slice A1 n1 c1, .slice A2 n2 c2, .slice A3 n3 c3] 28)).cell? ⟨w.heap.size, 1, none⟩ = some (.string s) from by go_simp)
  have a2 := Later.cell (show (w.alloc (.cells #[.int .i64 kind, .string s, .slice A1 n1 c1, .slice A2 n2 c2, .slice A3 n3 c3] 28)).cell? ⟨w.heap.size, 2, none⟩ = some (.slice A1 n1 c1) from by go_simp)
  have a3 := Later.cell (show (w.alloc (.cells #[.int .i64 kind, .string s, .slice A1 n1 c1, .slice A2 n2 c2, .slice A3 n3 c3] 28)).cell? ⟨w.heap.size, 3, none⟩ = some (.slice A2 n2 c2) from by go_simp)
  have a4 := Later.cell (show (w.alloc (.cells #[.int .i64 kind, .string s, .slice A1 n1 c1, .slice A2 n2 c2, .slice A3 n3 c3] 28)).cell? ⟨w.heap.size, 4, none⟩ = some (.slice A3 n3 c3) from by go_simp)
  have HW : Hid (Below w.heap.size w (w.alloc (.cells #[.int .i64 kind, .string s, .slice A1 n1 c1, .slice A2 n2 c2, .slice A3 n3 c3] 28))) := (Below.refl _ _).alloc (Nat.le_refl _) _
  go_enter Tryz.func68, Tryz.ntmps68
  go_wp2_with fail
  refine wp_region_later (by kernel_rfl) (by kernel_rfl) ?_
  repeat (go_big_quiet_step (fail))
  refine wpQuiet_nil ?_
  rintro _ ⟨q, rfl⟩
  have HQ := Lib.hid (below_trans' HW.out q.below)
  go_wp2
  go_ret
  exact ⟨rfl, HQ.out⟩

theorem int_len (n : Nat) : ((n : Int) == 0) = decide (n = 0) := by rw [Bool.eq_iff_iff]; simp
theorem short_le (s : ByteArray) : decide ((s.size : Int) ≤ 65536) = shortB s := by unfold shortB; rw [Bool.eq_iff_iff]; simp; omega
theorem dec_add2 (a b : Nat) : decide (a + b = 0) = (decide (a = 0) && decide (b = 0)) := by rw [Bool.eq_iff_iff]; simp
theorem dec_add3 (a b c : Nat) : decide (a + b + c = 0) = (decide (a = 0) && (decide (b = 0) && decide (c = 0))) := by rw [Bool.eq_iff_iff]; simp [and_assoc]
theorem any_all {α : Type} (p : α → Bool) (l : List α) : (!l.any (fun x => !p x)) = l.all p := by induction l <;> simp_all
theorem any_okF (l : List DField) : (!l.any (fun s => !shortB s.f || !shortB s.v)) = l.all okF := by
  rw [show (fun s : DField => !shortB s.f || !shortB s.v) = fun s => !okF s from by funext s; unfold okF; rw [Bool.not_and]]
  exact any_all okF l

theorem sized_small {n : Nat} (h : sizedB n = true) : n ≤ 1000000 := by
  unfold sizedB at h
  simp at h
  omega

theorem is {S : Nat → Prop} {v : DVal} {cs : List Value} {w : World} (h : kVal.R S w v cs) :
    Calls Tryz.prog 68 #[.agg cs.toArray] w fun e w' => e = .returned (.bool (rightB v)) ∧ Below w.heap.size w w' := by
  obtain ⟨A1, c1, A2, c2, A3, c3, rfl, _, _, hs, _, _, _, r1, r2, r3⟩ := h
  by_cases n1 : v.kind = 1
  · have hv : rightB v = (shortB v.s && (decide (v.l.length = 0) && (decide (v.z.length = 0) && decide (v.h.length = 0)))) := by unfold rightB; rw [if_pos n1, dec_add3]
    rw [hv, n1]
    exact is_k1 v.s A1 A2 A3 _ _ _ c1 c2 c3 w (emptyB v.s) _ _ _ _ r1.1 r2.1 r3.1 rfl (short_le _) (int_len _) (int_len _) (int_len _)
  by_cases n2 : v.kind = 2
  · have hv : rightB v = (emptyB v.s && (decide (v.z.length = 0) && (decide (v.h.length = 0) && (sizedB v.l.length && textsB false v.l)))) := by
      unfold rightB textsB
      rw [if_neg (by omega), if_neg (by omega), if_pos n2, dec_add2, any_all]
      cases sizedB v.l.length <;> cases v.l.all shortB <;> cases emptyB v.s <;> simp
    rw [hv, n2]
    exact is_k2 v.s A1 A2 A3 _ _ _ c1 c2 c3 w (emptyB v.s) (shortB v.s) (decide (v.l.length = 0)) _ _ _ _ r1.1 r2.1 r3.1 rfl (short_le _) (int_len _) (int_len _) (int_len _) (fun W => rsized v.l.length W r1.1) (fun _ W hb => texts_false S A1 v.l c1 W (r1.move (below_moves hb)))
  by_cases n3 : v.kind = 3
  · have hv : rightB v = (emptyB v.s && (decide (v.z.length = 0) && (decide (v.h.length = 0) && (sizedB v.l.length && textsB true v.l)))) := by
      unfold rightB textsB
      rw [if_neg (by omega), if_pos n3, dec_add2, any_all]
      cases sizedB v.l.length <;> cases v.l.all shortB <;> cases emptyB v.s <;> cases risingB cmpS v.l <;> simp
    rw [hv, n3]
    exact is_k3 v.s A1 A2 A3 _ _ _ c1 c2 c3 w (emptyB v.s) (shortB v.s) (decide (v.l.length = 0)) _ _ _ _ r1.1 r2.1 r3.1 rfl (short_le _) (int_len _) (int_len _) (int_len _) (fun W => rsized v.l.length W r1.1) (fun _ W hb => texts_true S A1 v.l c1 W (r1.move (below_moves hb)))
  by_cases n4 : v.kind = 4
  · have hv : rightB v = (emptyB v.s && (decide (v.l.length = 0) && (decide (v.h.length = 0) && (sizedB v.z.length && membersB v.z)))) := by
      unfold rightB membersB zsetB
      rw [if_neg (by omega), if_neg (by omega), if_neg (by omega), if_pos n4, dec_add2, show (fun x : DScored => shortB x.m) = okS from rfl]
      cases sizedB v.z.length <;> cases v.z.all okS <;> cases emptyB v.s <;> cases risingB cmpScored v.z <;> cases decide (v.l.length = 0) <;> cases decide (v.h.length = 0) <;> cases decide (Nod v.z) <;> rfl
    rw [hv, n4]
    exact is_k4 v.s A1 A2 A3 _ _ _ c1 c2 c3 w (emptyB v.s) (shortB v.s) _ (decide (v.z.length = 0)) _ _ _ r1.1 r2.1 r3.1 rfl (short_le _) (int_len _) (int_len _) (int_len _) (fun W => rsized v.z.length W r2.1) (fun hz W hb => members (r2.move (below_moves hb)) (sized_small hz))
  by_cases n5 : v.kind = 5
  · have hv : rightB v = (emptyB v.s && (decide (v.l.length = 0) && (decide (v.z.length = 0) && (sizedB v.h.length && fieldsB v.h)))) := by
      unfold rightB fieldsB
      rw [if_neg (by omega), if_neg (by omega), if_neg (by omega), if_neg (by omega), if_pos n5, dec_add2, any_okF, show (fun x y : DField => cmpS x.f y.f) = cmpF from rfl]
      cases sizedB v.h.length <;> cases v.h.all okF <;> cases emptyB v.s <;> cases risingB cmpF v.h <;> simp
    rw [hv, n5]
    exact is_k5 v.s A1 A2 A3 _ _ _ c1 c2 c3 w (emptyB v.s) (shortB v.s) _ _ (decide (v.h.length = 0)) _ _ r1.1 r2.1 r3.1 rfl (short_le _) (int_len _) (int_len _) (int_len _) (fun W => rsized v.h.length W r3.1) (fun _ W hb => fields (r3.move (below_moves hb)))
  · have hv : rightB v = false := by unfold rightB; rw [if_neg n1, if_neg n3, if_neg n2, if_neg n4, if_neg n5]
    rw [hv]
    exact is_other v.kind v.s A1 A2 A3 _ _ _ c1 c2 c3 w r1.1 r2.1 r3.1 n1 n2 n3 n4 n5
end Go.Proofs.YtkgghnjpegpnlaaGreatDoor
