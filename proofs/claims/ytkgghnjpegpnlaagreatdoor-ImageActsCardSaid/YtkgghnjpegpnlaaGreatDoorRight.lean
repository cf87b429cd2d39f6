/- image.right, entry, Check: which values, entries, rows may be. Conditions: what is read reads as the data. -/
import Derived.Test.YtkgghnjpegpnlaaGreatDoorZset
namespace Go.Proofs.YtkgghnjpegpnlaaGreatDoor
open Go.RowKit Go.Proofs
set_option linter.unusedSimpArgs false
set_option linter.unusedVariables false
set_option maxRecDepth 100000

def emptyB (s : ByteArray) : Bool := s.toList.isEmpty
def rightB (v : DVal) : Bool :=
  if v.kind = 1 then shortB v.s && decide (v.l.length + v.z.length + v.h.length = 0)
  else if v.kind = 3 then risingB cmpS v.l && (sizedB v.l.length && !v.l.any (fun s => !shortB s) && (emptyB v.s && decide (v.z.length + v.h.length = 0)))
  else if v.kind = 2 then sizedB v.l.length && !v.l.any (fun s => !shortB s) && (emptyB v.s && decide (v.z.length + v.h.length = 0))
  else if v.kind = 4 then sizedB v.z.length && zsetB v.z && (emptyB v.s && decide (v.l.length + v.h.length = 0))
  else if v.kind = 5 then sizedB v.h.length && risingB (fun x y => cmpS x.f y.f) v.h && !v.h.any (fun s => !shortB s.f || !shortB s.v) && (emptyB v.s && decide (v.l.length + v.z.length = 0))
  else false

theorem sum3 (a b c : Nat) : decide (a + b + c = 0) = (((a : Int) + (b : Int) + (c : Int)) == 0) := by
  rw [Bool.eq_iff_iff]; simp; omega
theorem sum2 (a b : Nat) : decide (a + b = 0) = (((a : Int) + (b : Int)) == 0) := by
  rw [Bool.eq_iff_iff]; simp; omega

set_option maxHeartbeats 1000000 in
theorem right_other (S : Nat → Prop) (v : DVal) (A1 A2 A3 : Option Addr) (c1 c2 c3 : Nat) (w : World) (n1 : v.kind ≠ 1) (n2 : v.kind ≠ 2) (n3 : v.kind ≠ 3) (n4 : v.kind ≠ 4) (n5 : v.kind ≠ 5)
    (h : ValR S w v [.int .i64 v.kind, .string v.s, .slice A1 v.l.length c1, .slice A2 v.z.length c2, .slice A3 v.h.length c3]) :
    Calls Tryz.prog 50 #[.agg #[.int .i64 v.kind, .string v.s, .slice A1 v.l.length c1, .slice A2 v.z.length c2, .slice A3 v.h.length c3]] w fun e w' => e = .returned (.bool (rightB v)) ∧ Below w.heap.size w w' := by
  obtain ⟨B1, d1, B2, d2, B3, d3, he, hk1, hk2, hs, h1, h2, h3, r1, r2, r3⟩ := h
  injection he with _ he; injection he with _ he; injection he with e1 he; injection he with e2 he; injection he with e3 he
  cases e1; cases e2; cases e3
  have l1 := r1.1
  have l2 := r2.1
  have l3 := r3.1
  have HR : Hid (rightB v = false) := by unfold Hid rightB; rw [if_neg n1, if_neg n3, if_neg n2, if_neg n4, if_neg n5]
  have t1 : (v.kind == 1) = false := by simpa using n1
  have t2 : (v.kind == 2) = false := by simpa using n2
  have t3 : (v.kind == 3) = false := by simpa using n3
  have t4 : (v.kind == 4) = false := by simpa using n4
  have t5 : (v.kind == 5) = false := by simpa using n5
  clear r1 r2 r3 n1 n2 n3 n4 n5 he
  go_enter Tryz.func50, Tryz.ntmps50
  go_wp2
  go_ret
  refine ⟨by rw [HR.out]; rfl, ?_⟩
  exact ((Below.refl _ _).alloc (Nat.le_refl _) _).alloc (by simp) _

set_option maxHeartbeats 1000000 in
theorem right_k1 (S : Nat → Prop) (v : DVal) (A1 A2 A3 : Option Addr) (c1 c2 c3 : Nat) (w : World) (n1 : v.kind = 1)
    (h : ValR S w v [.int .i64 v.kind, .string v.s, .slice A1 v.l.length c1, .slice A2 v.z.length c2, .slice A3 v.h.length c3]) :
    Calls Tryz.prog 50 #[.agg #[.int .i64 v.kind, .string v.s, .slice A1 v.l.length c1, .slice A2 v.z.length c2, .slice A3 v.h.length c3]] w fun e w' => e = .returned (.bool (rightB v)) ∧ Below w.heap.size w w' := by
  obtain ⟨B1, d1, B2, d2, B3, d3, he, hk1, hk2, hs, h1, h2, h3, r1, r2, r3⟩ := h
  injection he with _ he; injection he with _ he; injection he with e1 he; injection he with e2 he; injection he with e3 he
  cases e1; cases e2; cases e3
  have l1 := r1.1
  have l2 := r2.1
  have l3 := r3.1
  have t1 : (v.kind == 1) = true := by simpa using n1
  have HR : Hid (rightB v = (shortB v.s && (((v.l.length : Int) + (v.z.length : Int) + (v.h.length : Int)) == 0))) := by unfold Hid rightB; rw [if_pos n1, sum3]
  have hss := short v.s
  clear r1 r2 r3 n1 he
  cases hq : shortB v.s with
  | false =>
    rw [hq] at hss HR
    go_enter Tryz.func50, Tryz.ntmps50
    go_wp2_with (go_at_call 49; refine (hss _).mono ?_; rintro e w' ⟨rfl, rfl⟩)
    go_ret
    refine ⟨by rw [HR.out]; rfl, ?_⟩
    exact ((Below.refl _ _).alloc (Nat.le_refl _) _).alloc (by simp) _
  | true =>
    rw [hq] at hss HR
    go_enter Tryz.func50, Tryz.ntmps50
    go_wp2_with (go_at_call 49; refine (hss _).mono ?_; rintro e w' ⟨rfl, rfl⟩)
    go_ret
    refine ⟨by rw [HR.out]; rfl, ?_⟩
    exact ((Below.refl _ _).alloc (Nat.le_refl _) _).alloc (by simp) _

set_option maxHeartbeats 1000000 in
theorem right_k2 (S : Nat → Prop) (v : DVal) (A1 A2 A3 : Option Addr) (c1 c2 c3 : Nat) (w : World) (n1 : v.kind = 2)
    (h : ValR S w v [.int .i64 v.kind, .string v.s, .slice A1 v.l.length c1, .slice A2 v.z.length c2, .slice A3 v.h.length c3]) :
    Calls Tryz.prog 50 #[.agg #[.int .i64 v.kind, .string v.s, .slice A1 v.l.length c1, .slice A2 v.z.length c2, .slice A3 v.h.length c3]] w fun e w' => e = .returned (.bool (rightB v)) ∧ Below w.heap.size w w' := by
  obtain ⟨B1, d1, B2, d2, B3, d3, he, hk1, hk2, hs, h1, h2, h3, r1, r2, r3⟩ := h
  injection he with _ he; injection he with _ he; injection he with e1 he; injection he with e2 he; injection he with e3 he
  cases e1; cases e2; cases e3
  have l1 := r1.1
  have l2 := r2.1
  have l3 := r3.1
  have t1 : (v.kind == 1) = false := by simp [n1]
  have t3 : (v.kind == 3) = false := by simp [n1]
  have t2 : (v.kind == 2) = true := by simp [n1]
  have t4 : (v.kind == 4) = false := by simp [n1]
  have t5 : (v.kind == 5) = false := by simp [n1]
  have HR : Hid (rightB v = (sizedB v.l.length && !v.l.any (fun s => !shortB s) && (emptyB v.s && (((v.z.length : Int) + (v.h.length : Int)) == 0)))) := by unfold Hid rightB; rw [if_neg (by omega), if_neg (by omega), if_pos n1, sum2]
  have hz := fun W => sized v.l.length W l1
  have hany : ∀ W, Below w.heap.size w W → _ := fun W hb => ContainsFuncs 81 #[] (fun s => !shortB s) S A1 v.l c1 W (r1.move (below_moves hb)) (right1 S W) enters_right1
  have HE : v.s.toList.isEmpty = emptyB v.s := rfl
  have HE2 : v.s.toList = [] ↔ emptyB v.s = true := by unfold emptyB; simp
  clear r1 r2 r3 n1 he
  cases hq0 : sizedB v.l.length with
  | false =>
    simp only [hq0] at hz HR
    go_enter Tryz.func50, Tryz.ntmps50
    go_wp2_with (first
      | (go_at_call 79; refine (hz _).mono ?_; rintro e w' ⟨rfl, rfl⟩))
    go_ret
    refine ⟨by rw [HR.out]; rfl, ?_⟩
    exact ((Below.refl _ _).alloc (Nat.le_refl _) _).alloc (by simp) _
  | true =>
    simp only [hq0] at hz HR
    cases hq1 : v.l.any (fun s => !shortB s) with
    | false =>
      simp only [hq1] at hany HR
      cases hq2 : emptyB v.s with
      | false =>
        simp only [hq2] at HE HE2 HR
        go_enter Tryz.func50, Tryz.ntmps50
        go_wp2_with (first
          | (go_at_call 79; refine (hz _).mono ?_; rintro e w' ⟨rfl, rfl⟩)
          | (go_at_call 80; refine (hany _ (((Below.refl _ _).alloc (Nat.le_refl _) _).alloc (by simp) _)).mono ?_; rintro e w' ⟨rfl, hA⟩; obtain ⟨hAc, hAf⟩ := bcell hA; have hAz : w.heap.size + 1 < w'.heap.size := by (have hh := hA.size; (try simp at hh); omega)))
        go_ret
        refine ⟨by rw [HR.out]; rfl, ?_⟩
        exact (((Below.refl _ _).alloc (Nat.le_refl _) _).alloc (by simp) _).trans (hA.mono (by simp; omega))
      | true =>
        simp only [hq2] at HE HE2 HR
        go_enter Tryz.func50, Tryz.ntmps50
        go_wp2_with (first
          | (go_at_call 79; refine (hz _).mono ?_; rintro e w' ⟨rfl, rfl⟩)
          | (go_at_call 80; refine (hany _ (((Below.refl _ _).alloc (Nat.le_refl _) _).alloc (by simp) _)).mono ?_; rintro e w' ⟨rfl, hA⟩; obtain ⟨hAc, hAf⟩ := bcell hA; have hAz : w.heap.size + 1 < w'.heap.size := by (have hh := hA.size; (try simp at hh); omega)))
        go_ret
        refine ⟨by rw [HR.out]; rfl, ?_⟩
        exact (((Below.refl _ _).alloc (Nat.le_refl _) _).alloc (by simp) _).trans (hA.mono (by simp; omega))
    | true =>
      simp only [hq1] at hany HR
      go_enter Tryz.func50, Tryz.ntmps50
      go_wp2_with (first
        | (go_at_call 79; refine (hz _).mono ?_; rintro e w' ⟨rfl, rfl⟩)
        | (go_at_call 80; refine (hany _ (((Below.refl _ _).alloc (Nat.le_refl _) _).alloc (by simp) _)).mono ?_; rintro e w' ⟨rfl, hA⟩; obtain ⟨hAc, hAf⟩ := bcell hA; have hAz : w.heap.size + 1 < w'.heap.size := by (have hh := hA.size; (try simp at hh); omega)))
      go_ret
      refine ⟨by rw [HR.out]; rfl, ?_⟩
      exact (((Below.refl _ _).alloc (Nat.le_refl _) _).alloc (by simp) _).trans (hA.mono (by simp; omega))


set_option maxHeartbeats 1000000 in
theorem right_k3 (S : Nat → Prop) (v : DVal) (A1 A2 A3 : Option Addr) (c1 c2 c3 : Nat) (w : World) (n1 : v.kind = 3)
    (h : ValR S w v [.int .i64 v.kind, .string v.s, .slice A1 v.l.length c1, .slice A2 v.z.length c2, .slice A3 v.h.length c3]) :
    Calls Tryz.prog 50 #[.agg #[.int .i64 v.kind, .string v.s, .slice A1 v.l.length c1, .slice A2 v.z.length c2, .slice A3 v.h.length c3]] w fun e w' => e = .returned (.bool (rightB v)) ∧ Below w.heap.size w w' := by
  obtain ⟨B1, d1, B2, d2, B3, d3, he, hk1, hk2, hs, h1, h2, h3, r1, r2, r3⟩ := h
  injection he with _ he; injection he with _ he; injection he with e1 he; injection he with e2 he; injection he with e3 he
  cases e1; cases e2; cases e3
  have l1 := r1.1
  have l2 := r2.1
  have l3 := r3.1
  have t1 : (v.kind == 1) = false := by simp [n1]
  have t3 : (v.kind == 3) = true := by simp [n1]
  have t2 : (v.kind == 2) = false := by simp [n1]
  have t4 : (v.kind == 4) = false := by simp [n1]
  have t5 : (v.kind == 5) = false := by simp [n1]
  have HR : Hid (rightB v = (risingB cmpS v.l && (sizedB v.l.length && !v.l.any (fun s => !shortB s) && (emptyB v.s && (((v.z.length : Int) + (v.h.length : Int)) == 0))))) := by unfold Hid rightB; rw [if_neg (by omega), if_pos n1, sum2]
  have hz := fun W => sized v.l.length W l1
  have hris : ∀ W, Below w.heap.size w W → _ := fun W hb => risings 78 cmpS S A1 v.l c1 W (r1.move (below_moves hb)) (cmpK_str S W) enters_strCompare
  have hany : ∀ W, Below w.heap.size w W → _ := fun W hb => ContainsFuncs 81 #[] (fun s => !shortB s) S A1 v.l c1 W (r1.move (below_moves hb)) (right1 S W) enters_right1
  have HE : v.s.toList.isEmpty = emptyB v.s := rfl
  have HE2 : v.s.toList = [] ↔ emptyB v.s = true := by unfold emptyB; simp
  clear r1 r2 r3 n1 he
  cases hq0 : risingB cmpS v.l with
  | false =>
    simp only [hq0] at hris HR
    go_enter Tryz.func50, Tryz.ntmps50
    go_wp2_with (first
      | (go_at_call 77; refine (hris _ (((Below.refl _ _).alloc (Nat.le_refl _) _).alloc (by simp) _)).mono ?_; rintro e w' ⟨rfl, hA⟩; obtain ⟨hAc, hAf⟩ := bcell hA; have hAz : w.heap.size + 1 < w'.heap.size := by (have hh := hA.size; (try simp at hh); omega)))
    go_ret
    refine ⟨by rw [HR.out]; rfl, ?_⟩
    exact (((Below.refl _ _).alloc (Nat.le_refl _) _).alloc (by simp) _).trans (hA.mono (by simp; omega))
  | true =>
    simp only [hq0] at hris HR
    cases hq1 : sizedB v.l.length with
    | false =>
      simp only [hq1] at hz HR
      go_enter Tryz.func50, Tryz.ntmps50
      go_wp2_with (first
        | (go_at_call 77; refine (hris _ (((Below.refl _ _).alloc (Nat.le_refl _) _).alloc (by simp) _)).mono ?_; rintro e w' ⟨rfl, hA⟩; obtain ⟨hAc, hAf⟩ := bcell hA; have hAz : w.heap.size + 1 < w'.heap.size := by (have hh := hA.size; (try simp at hh); omega))
        | (go_at_call 79; refine (hz _).mono ?_; rintro e w' ⟨rfl, rfl⟩))
      go_ret
      refine ⟨by rw [HR.out]; rfl, ?_⟩
      exact ((((Below.refl _ _).alloc (Nat.le_refl _) _).alloc (by simp) _).trans (hA.mono (by simp; omega))).setCell (by simp) _
    | true =>
      simp only [hq1] at hz HR
      cases hq2 : v.l.any (fun s => !shortB s) with
      | false =>
        simp only [hq2] at hany HR
        cases hq3 : emptyB v.s with
        | false =>
          simp only [hq3] at HE HE2 HR
          go_enter Tryz.func50, Tryz.ntmps50
          go_wp2_with (first
            | (go_at_call 77; refine (hris _ (((Below.refl _ _).alloc (Nat.le_refl _) _).alloc (by simp) _)).mono ?_; rintro e w' ⟨rfl, hA⟩; obtain ⟨hAc, hAf⟩ := bcell hA; have hAz : w.heap.size + 1 < w'.heap.size := by (have hh := hA.size; (try simp at hh); omega))
            | (go_at_call 79; refine (hz _).mono ?_; rintro e w' ⟨rfl, rfl⟩)
            | (go_at_call 80; refine (hany _ (((((Below.refl _ _).alloc (Nat.le_refl _) _).alloc (by simp) _).trans (hA.mono (by simp; omega))).setCell (by simp) _)).mono ?_; rintro e w' ⟨rfl, hC⟩; obtain ⟨hCc, hCf⟩ := bcell hC; have hCz : w.heap.size + 1 < w'.heap.size := by (have hh := hC.size; (try simp at hh); omega)))
          go_ret
          refine ⟨by rw [HR.out]; rfl, ?_⟩
          exact (((((Below.refl _ _).alloc (Nat.le_refl _) _).alloc (by simp) _).trans (hA.mono (by simp; omega))).setCell (by simp) _).trans (hC.mono (by simp at *; omega))
        | true =>
          simp only [hq3] at HE HE2 HR
          go_enter Tryz.func50, Tryz.ntmps50
          go_wp2_with (first
            | (go_at_call 77; refine (hris _ (((Below.refl _ _).alloc (Nat.le_refl _) _).alloc (by simp) _)).mono ?_; rintro e w' ⟨rfl, hA⟩; obtain ⟨hAc, hAf⟩ := bcell hA; have hAz : w.heap.size + 1 < w'.heap.size := by (have hh := hA.size; (try simp at hh); omega))
            | (go_at_call 79; refine (hz _).mono ?_; rintro e w' ⟨rfl, rfl⟩)
            | (go_at_call 80; refine (hany _ (((((Below.refl _ _).alloc (Nat.le_refl _) _).alloc (by simp) _).trans (hA.mono (by simp; omega))).setCell (by simp) _)).mono ?_; rintro e w' ⟨rfl, hC⟩; obtain ⟨hCc, hCf⟩ := bcell hC; have hCz : w.heap.size + 1 < w'.heap.size := by (have hh := hC.size; (try simp at hh); omega)))
          go_ret
          refine ⟨by rw [HR.out]; rfl, ?_⟩
          exact (((((Below.refl _ _).alloc (Nat.le_refl _) _).alloc (by simp) _).trans (hA.mono (by simp; omega))).setCell (by simp) _).trans (hC.mono (by simp at *; omega))
      | true =>
        simp only [hq2] at hany HR
        go_enter Tryz.func50, Tryz.ntmps50
        go_wp2_with (first
          | (go_at_call 77; refine (hris _ (((Below.refl _ _).alloc (Nat.le_refl _) _).alloc (by simp) _)).mono ?_; rintro e w' ⟨rfl, hA⟩; obtain ⟨hAc, hAf⟩ := bcell hA; have hAz : w.heap.size + 1 < w'.heap.size := by (have hh := hA.size; (try simp at hh); omega))
          | (go_at_call 79; refine (hz _).mono ?_; rintro e w' ⟨rfl, rfl⟩)
          | (go_at_call 80; refine (hany _ (((((Below.refl _ _).alloc (Nat.le_refl _) _).alloc (by simp) _).trans (hA.mono (by simp; omega))).setCell (by simp) _)).mono ?_; rintro e w' ⟨rfl, hC⟩; obtain ⟨hCc, hCf⟩ := bcell hC; have hCz : w.heap.size + 1 < w'.heap.size := by (have hh := hC.size; (try simp at hh); omega)))
        go_ret
        refine ⟨by rw [HR.out]; rfl, ?_⟩
        exact (((((Below.refl _ _).alloc (Nat.le_refl _) _).alloc (by simp) _).trans (hA.mono (by simp; omega))).setCell (by simp) _).trans (hC.mono (by simp at *; omega))


set_option maxHeartbeats 1000000 in
theorem right_k4 (S : Nat → Prop) (v : DVal) (A1 A2 A3 : Option Addr) (c1 c2 c3 : Nat) (w : World) (n1 : v.kind = 4)
    (h : ValR S w v [.int .i64 v.kind, .string v.s, .slice A1 v.l.length c1, .slice A2 v.z.length c2, .slice A3 v.h.length c3]) :
    Calls Tryz.prog 50 #[.agg #[.int .i64 v.kind, .string v.s, .slice A1 v.l.length c1, .slice A2 v.z.length c2, .slice A3 v.h.length c3]] w fun e w' => e = .returned (.bool (rightB v)) ∧ Below w.heap.size w w' := by
  obtain ⟨B1, d1, B2, d2, B3, d3, he, hk1, hk2, hs, h1, h2, h3, r1, r2, r3⟩ := h
  injection he with _ he; injection he with _ he; injection he with e1 he; injection he with e2 he; injection he with e3 he
  cases e1; cases e2; cases e3
  have l1 := r1.1
  have l2 := r2.1
  have l3 := r3.1
  have t1 : (v.kind == 1) = false := by simp [n1]
  have t3 : (v.kind == 3) = false := by simp [n1]
  have t2 : (v.kind == 2) = false := by simp [n1]
  have t4 : (v.kind == 4) = true := by simp [n1]
  have t5 : (v.kind == 5) = false := by simp [n1]
  have HR : Hid (rightB v = (sizedB v.z.length && zsetB v.z && (emptyB v.s && (((v.l.length : Int) + (v.h.length : Int)) == 0)))) := by unfold Hid rightB; rw [if_neg (by omega), if_neg (by omega), if_neg (by omega), if_pos n1, sum2]
  have hz := fun W => sized v.z.length W l2
  have hzs : ∀ W, Below w.heap.size w W → _ := fun W hb => zset S A2 v.z c2 W (r2.move (below_moves hb))
  have HE : v.s.toList.isEmpty = emptyB v.s := rfl
  have HE2 : v.s.toList = [] ↔ emptyB v.s = true := by unfold emptyB; simp
  clear r1 r2 r3 n1 he
  cases hq0 : sizedB v.z.length with
  | false =>
    simp only [hq0] at hz HR
    go_enter Tryz.func50, Tryz.ntmps50
    go_wp2_with (first
      | (go_at_call 79; refine (hz _).mono ?_; rintro e w' ⟨rfl, rfl⟩))
    go_ret
    refine ⟨by rw [HR.out]; rfl, ?_⟩
    exact ((Below.refl _ _).alloc (Nat.le_refl _) _).alloc (by simp) _
  | true =>
    simp only [hq0] at hz HR
    cases hq1 : zsetB v.z with
    | false =>
      simp only [hq1] at hzs HR
      go_enter Tryz.func50, Tryz.ntmps50
      go_wp2_with (first
        | (go_at_call 79; refine (hz _).mono ?_; rintro e w' ⟨rfl, rfl⟩)
        | (go_at_call 82; refine (hzs _ (((Below.refl _ _).alloc (Nat.le_refl _) _).alloc (by simp) _)).mono ?_; rintro e w' ⟨rfl, hA⟩; obtain ⟨hAc, hAf⟩ := bcell hA; have hAz : w.heap.size + 1 < w'.heap.size := by (have hh := hA.size; (try simp at hh); omega)))
      go_ret
      refine ⟨by rw [HR.out]; rfl, ?_⟩
      exact (((Below.refl _ _).alloc (Nat.le_refl _) _).alloc (by simp) _).trans (hA.mono (by simp; omega))
    | true =>
      simp only [hq1] at hzs HR
      cases hq2 : emptyB v.s with
      | false =>
        simp only [hq2] at HE HE2 HR
        go_enter Tryz.func50, Tryz.ntmps50
        go_wp2_with (first
          | (go_at_call 79; refine (hz _).mono ?_; rintro e w' ⟨rfl, rfl⟩)
          | (go_at_call 82; refine (hzs _ (((Below.refl _ _).alloc (Nat.le_refl _) _).alloc (by simp) _)).mono ?_; rintro e w' ⟨rfl, hA⟩; obtain ⟨hAc, hAf⟩ := bcell hA; have hAz : w.heap.size + 1 < w'.heap.size := by (have hh := hA.size; (try simp at hh); omega)))
        go_ret
        refine ⟨by rw [HR.out]; rfl, ?_⟩
        exact (((Below.refl _ _).alloc (Nat.le_refl _) _).alloc (by simp) _).trans (hA.mono (by simp; omega))
      | true =>
        simp only [hq2] at HE HE2 HR
        go_enter Tryz.func50, Tryz.ntmps50
        go_wp2_with (first
          | (go_at_call 79; refine (hz _).mono ?_; rintro e w' ⟨rfl, rfl⟩)
          | (go_at_call 82; refine (hzs _ (((Below.refl _ _).alloc (Nat.le_refl _) _).alloc (by simp) _)).mono ?_; rintro e w' ⟨rfl, hA⟩; obtain ⟨hAc, hAf⟩ := bcell hA; have hAz : w.heap.size + 1 < w'.heap.size := by (have hh := hA.size; (try simp at hh); omega)))
        go_ret
        refine ⟨by rw [HR.out]; rfl, ?_⟩
        exact (((Below.refl _ _).alloc (Nat.le_refl _) _).alloc (by simp) _).trans (hA.mono (by simp; omega))


set_option maxHeartbeats 1000000 in
theorem right_k5 (S : Nat → Prop) (v : DVal) (A1 A2 A3 : Option Addr) (c1 c2 c3 : Nat) (w : World) (n1 : v.kind = 5)
    (h : ValR S w v [.int .i64 v.kind, .string v.s, .slice A1 v.l.length c1, .slice A2 v.z.length c2, .slice A3 v.h.length c3]) :
    Calls Tryz.prog 50 #[.agg #[.int .i64 v.kind, .string v.s, .slice A1 v.l.length c1, .slice A2 v.z.length c2, .slice A3 v.h.length c3]] w fun e w' => e = .returned (.bool (rightB v)) ∧ Below w.heap.size w w' := by
  obtain ⟨B1, d1, B2, d2, B3, d3, he, hk1, hk2, hs, h1, h2, h3, r1, r2, r3⟩ := h
  injection he with _ he; injection he with _ he; injection he with e1 he; injection he with e2 he; injection he with e3 he
  cases e1; cases e2; cases e3
  have l1 := r1.1
  have l2 := r2.1
  have l3 := r3.1
  have t1 : (v.kind == 1) = false := by simp [n1]
  have t3 : (v.kind == 3) = false := by simp [n1]
  have t2 : (v.kind == 2) = false := by simp [n1]
  have t4 : (v.kind == 4) = false := by simp [n1]
  have t5 : (v.kind == 5) = true := by simp [n1]
  have HR : Hid (rightB v = (sizedB v.h.length && risingB (fun x y => cmpS x.f y.f) v.h && !v.h.any (fun s => !shortB s.f || !shortB s.v) && (emptyB v.s && (((v.l.length : Int) + (v.z.length : Int)) == 0)))) := by unfold Hid rightB; rw [if_neg (by omega), if_neg (by omega), if_neg (by omega), if_neg (by omega), if_pos n1, sum2]
  have hz := fun W => sized v.h.length W l3
  have hris : ∀ W, Below w.heap.size w W → _ := fun W hb => risingF 43 (fun x y => cmpS x.f y.f) S A3 v.h c3 W (r3.move (below_moves hb)) (cmpK_byField S W) enters_byField
  have hany : ∀ W, Below w.heap.size w W → _ := fun W hb => ContainsFuncF 85 #[] (fun s => !shortB s.f || !shortB s.v) S A3 v.h c3 W (r3.move (below_moves hb)) (right2 S W) enters_right2
  have HE : v.s.toList.isEmpty = emptyB v.s := rfl
  have HE2 : v.s.toList = [] ↔ emptyB v.s = true := by unfold emptyB; simp
  clear r1 r2 r3 n1 he
  cases hq0 : sizedB v.h.length with
  | false =>
    simp only [hq0] at hz HR
    go_enter Tryz.func50, Tryz.ntmps50
    go_wp2_with (first
      | (go_at_call 79; refine (hz _).mono ?_; rintro e w' ⟨rfl, rfl⟩))
    go_ret
    refine ⟨by rw [HR.out]; rfl, ?_⟩
    exact ((Below.refl _ _).alloc (Nat.le_refl _) _).alloc (by simp) _
  | true =>
    simp only [hq0] at hz HR
    cases hq1 : risingB (fun x y => cmpS x.f y.f) v.h with
    | false =>
      simp only [hq1] at hris HR
      go_enter Tryz.func50, Tryz.ntmps50
      go_wp2_with (first
        | (go_at_call 79; refine (hz _).mono ?_; rintro e w' ⟨rfl, rfl⟩)
        | (go_at_call 83; refine (hris _ (((Below.refl _ _).alloc (Nat.le_refl _) _).alloc (by simp) _)).mono ?_; rintro e w' ⟨rfl, hA⟩; obtain ⟨hAc, hAf⟩ := bcell hA; have hAz : w.heap.size + 1 < w'.heap.size := by (have hh := hA.size; (try simp at hh); omega)))
      go_ret
      refine ⟨by rw [HR.out]; rfl, ?_⟩
      exact (((Below.refl _ _).alloc (Nat.le_refl _) _).alloc (by simp) _).trans (hA.mono (by simp; omega))
    | true =>
      simp only [hq1] at hris HR
      cases hq2 : v.h.any (fun s => !shortB s.f || !shortB s.v) with
      | false =>
        simp only [hq2] at hany HR
        cases hq3 : emptyB v.s with
        | false =>
          simp only [hq3] at HE HE2 HR
          go_enter Tryz.func50, Tryz.ntmps50
          go_wp2_with (first
            | (go_at_call 79; refine (hz _).mono ?_; rintro e w' ⟨rfl, rfl⟩)
            | (go_at_call 83; refine (hris _ (((Below.refl _ _).alloc (Nat.le_refl _) _).alloc (by simp) _)).mono ?_; rintro e w' ⟨rfl, hA⟩; obtain ⟨hAc, hAf⟩ := bcell hA; have hAz : w.heap.size + 1 < w'.heap.size := by (have hh := hA.size; (try simp at hh); omega))
            | (go_at_call 84; refine (hany _ ((((Below.refl _ _).alloc (Nat.le_refl _) _).alloc (by simp) _).trans (hA.mono (by simp; omega)))).mono ?_; rintro e w' ⟨rfl, hC⟩; obtain ⟨hCc, hCf⟩ := bcell hC; have hCz : w.heap.size + 1 < w'.heap.size := by (have hh := hC.size; (try simp at hh); omega)))
          go_ret
          refine ⟨by rw [HR.out]; rfl, ?_⟩
          exact ((((Below.refl _ _).alloc (Nat.le_refl _) _).alloc (by simp) _).trans (hA.mono (by simp; omega))).trans (hC.mono (by simp at *; omega))
        | true =>
          simp only [hq3] at HE HE2 HR
          go_enter Tryz.func50, Tryz.ntmps50
          go_wp2_with (first
            | (go_at_call 79; refine (hz _).mono ?_; rintro e w' ⟨rfl, rfl⟩)
            | (go_at_call 83; refine (hris _ (((Below.refl _ _).alloc (Nat.le_refl _) _).alloc (by simp) _)).mono ?_; rintro e w' ⟨rfl, hA⟩; obtain ⟨hAc, hAf⟩ := bcell hA; have hAz : w.heap.size + 1 < w'.heap.size := by (have hh := hA.size; (try simp at hh); omega))
            | (go_at_call 84; refine (hany _ ((((Below.refl _ _).alloc (Nat.le_refl _) _).alloc (by simp) _).trans (hA.mono (by simp; omega)))).mono ?_; rintro e w' ⟨rfl, hC⟩; obtain ⟨hCc, hCf⟩ := bcell hC; have hCz : w.heap.size + 1 < w'.heap.size := by (have hh := hC.size; (try simp at hh); omega)))
          go_ret
          refine ⟨by rw [HR.out]; rfl, ?_⟩
          exact ((((Below.refl _ _).alloc (Nat.le_refl _) _).alloc (by simp) _).trans (hA.mono (by simp; omega))).trans (hC.mono (by simp at *; omega))
      | true =>
        simp only [hq2] at hany HR
        go_enter Tryz.func50, Tryz.ntmps50
        go_wp2_with (first
          | (go_at_call 79; refine (hz _).mono ?_; rintro e w' ⟨rfl, rfl⟩)
          | (go_at_call 83; refine (hris _ (((Below.refl _ _).alloc (Nat.le_refl _) _).alloc (by simp) _)).mono ?_; rintro e w' ⟨rfl, hA⟩; obtain ⟨hAc, hAf⟩ := bcell hA; have hAz : w.heap.size + 1 < w'.heap.size := by (have hh := hA.size; (try simp at hh); omega))
          | (go_at_call 84; refine (hany _ ((((Below.refl _ _).alloc (Nat.le_refl _) _).alloc (by simp) _).trans (hA.mono (by simp; omega)))).mono ?_; rintro e w' ⟨rfl, hC⟩; obtain ⟨hCc, hCf⟩ := bcell hC; have hCz : w.heap.size + 1 < w'.heap.size := by (have hh := hC.size; (try simp at hh); omega)))
        go_ret
        refine ⟨by rw [HR.out]; rfl, ?_⟩
        exact ((((Below.refl _ _).alloc (Nat.le_refl _) _).alloc (by simp) _).trans (hA.mono (by simp; omega))).trans (hC.mono (by simp at *; omega))


theorem right {S : Nat → Prop} {v : DVal} {cs : List Value} {w : World} (h : kVal.R S w v cs) :
    Calls Tryz.prog 50 #[.agg cs.toArray] w fun e w' => e = .returned (.bool (rightB v)) ∧ Below w.heap.size w w' := by
  have h' := h
  obtain ⟨A1, c1, A2, c2, A3, c3, rfl, _⟩ := h'
  by_cases n1 : v.kind = 1
  · exact right_k1 S v A1 A2 A3 c1 c2 c3 w n1 h
  by_cases n2 : v.kind = 2
  · exact right_k2 S v A1 A2 A3 c1 c2 c3 w n2 h
  by_cases n3 : v.kind = 3
  · exact right_k3 S v A1 A2 A3 c1 c2 c3 w n3 h
  by_cases n4 : v.kind = 4
  · exact right_k4 S v A1 A2 A3 c1 c2 c3 w n4 h
  by_cases n5 : v.kind = 5
  · exact right_k5 S v A1 A2 A3 c1 c2 c3 w n5 h
  exact right_other S v A1 A2 A3 c1 c2 c3 w n1 n2 n3 n4 n5 h

def entryB (e : DEntry) : Bool := shortB e.key && (decide (-1 ≤ e.at_) && (decide (e.at_ ≤ 1099511627776) && rightB e.v))

set_option maxHeartbeats 1000000 in
theorem entry {S : Nat → Prop} {x : DEntry} {cs : List Value} {w : World} (h : kEntry.R S w x cs) :
    Calls Tryz.prog 22 #[.agg cs.toArray] w fun e w' => e = .returned (.bool (entryB x)) ∧ Below w.heap.size w w' := by
  obtain ⟨A1, c1, A2, c2, A3, c3, rfl, ⟨hk, ha1, ha2⟩, hv⟩ := h
  have hss := short x.key
  have hr : ∀ W, Below w.heap.size w W → Calls Tryz.prog 50 #[.agg #[.int .i64 x.v.kind, .string x.v.s, .slice A1 x.v.l.length c1, .slice A2 x.v.z.length c2, .slice A3 x.v.h.length c3]] W fun e w' => e = .returned (.bool (rightB x.v)) ∧ Below W.heap.size W w' :=
    fun W hb => right (cs := [.int .i64 x.v.kind, .string x.v.s, .slice A1 x.v.l.length c1, .slice A2 x.v.z.length c2, .slice A3 x.v.h.length c3]) (kVal.move (below_moves hb) hv)
  have HR : Hid (entryB x = (shortB x.key && (decide (-1 ≤ x.at_) && (decide (x.at_ ≤ 1099511627776) && rightB x.v)))) := rfl
  clear hv
  generalize rightB x.v = r at hr HR
  cases hq : shortB x.key with
  | false =>
    rw [hq] at hss HR
    go_enter Tryz.func22, Tryz.ntmps22
    go_wp2_with (go_at_call 49; refine (hss _).mono ?_; rintro e w' ⟨rfl, rfl⟩)
    go_ret
    exact ⟨by rw [HR.out]; rfl, (Below.refl _ _).alloc (Nat.le_refl _) _⟩
  | true =>
    rw [hq] at hss HR
    by_cases h1 : -1 ≤ x.at_
    · by_cases h2 : x.at_ ≤ 1099511627776
      · rw [decide_eq_true h1, decide_eq_true h2] at HR
        go_enter Tryz.func22, Tryz.ntmps22
        go_wp2_with (first
          | (go_at_call 49; refine (hss _).mono ?_; rintro e w' ⟨rfl, rfl⟩)
          | (go_at_call 50; refine (hr _ ((Below.refl _ _).alloc (Nat.le_refl _) _)).mono ?_; rintro e w' ⟨rfl, hA⟩))
        go_ret
        exact ⟨by rw [HR.out]; rfl, ((Below.refl _ _).alloc (Nat.le_refl _) _).trans (hA.mono (by simp))⟩
      · rw [decide_eq_false h2] at HR
        have h3 : decide (x.at_ ≤ 1099511627776) = false := by simpa using h2
        go_enter Tryz.func22, Tryz.ntmps22
        go_wp2_with (go_at_call 49; refine (hss _).mono ?_; rintro e w' ⟨rfl, rfl⟩)
        go_ret
        exact ⟨by rw [HR.out]; simp, (Below.refl _ _).alloc (Nat.le_refl _) _⟩
    · rw [decide_eq_false h1] at HR
      have h3 : decide (-1 ≤ x.at_) = false := by simpa using h1
      go_enter Tryz.func22, Tryz.ntmps22
      go_wp2_with (go_at_call 49; refine (hss _).mono ?_; rintro e w' ⟨rfl, rfl⟩)
      go_ret
      exact ⟨by rw [HR.out]; simp, (Below.refl _ _).alloc (Nat.le_refl _) _⟩

end Go.Proofs.YtkgghnjpegpnlaaGreatDoor
