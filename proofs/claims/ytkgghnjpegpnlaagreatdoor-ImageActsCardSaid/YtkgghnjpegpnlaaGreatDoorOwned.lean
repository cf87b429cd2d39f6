/- image.own, image.owned: values and rows of entries in new memory. Conditions: what is read reads as the data; the bytes of each row stay below an append's bound. -/
import Derived.Test.YtkgghnjpegpnlaaGreatDoorClone
import Derived.Deep.RegionWith
import Derived.Deep.DeepCutAuto
import Derived.Deep.LoopGhost
namespace Go.Proofs.YtkgghnjpegpnlaaGreatDoor
open Go.RowKit Go.Proofs
set_option linter.unusedSimpArgs false
set_option linter.unusedVariables false
set_option maxRecDepth 100000

def valFits (v : DVal) : Prop := v.l.length * 16 ≤ 140737488355328 ∧ v.z.length * 24 ≤ 140737488355328 ∧ v.h.length * 32 ≤ 140737488355328

/-- What the three clones leave. -/
def OwnMid (b : Nat) (v : DVal) (w wx : World) : Prop :=
  ∃ E1 d1 E2 d2 E3 d3, wx.cell? ⟨b, 0, none⟩ = some (.int .i64 v.kind) ∧ wx.cell? ⟨b, 1, none⟩ = some (.string v.s) ∧ wx.cell? ⟨b, 2, none⟩ = some (.slice E1 v.l.length d1) ∧ wx.cell? ⟨b, 3, none⟩ = some (.slice E2 v.z.length d2) ∧ wx.cell? ⟨b, 4, none⟩ = some (.slice E3 v.h.length d3) ∧
    (∀ i, i < 5 → ∃ u, wx.cell? ⟨b + 1, i, none⟩ = some u) ∧ (∀ i, wx.frozen? ⟨b + 1, i, none⟩ = false) ∧
    (v.l.length ≤ d1 ∧ d1 ≤ 9223372036854775807 ∧ Row kStr (fun k => b + 1 < k) wx E1 v.l) ∧ (v.z.length ≤ d2 ∧ d2 ≤ 9223372036854775807 ∧ Row kScored (fun k => b + 1 < k) wx E2 v.z) ∧ (v.h.length ≤ d3 ∧ d3 ≤ 9223372036854775807 ∧ Row kField (fun k => b + 1 < k) wx E3 v.h) ∧ Below b w wx

theorem own_mid {b : Nat} {v : DVal} {w W w1 w2 w3 : World} {S1 S2 S3 : Nat → Prop} {E1 E2 E3 A1 A2 A3 : Option Addr} {d1 d2 d3 c1 c2 c3 : Nat} (hB : Below b w W) (hz : b + 1 < W.heap.size)
    (g0 : W.cell? ⟨b, 0, none⟩ = some (.int .i64 v.kind)) (g1 : W.cell? ⟨b, 1, none⟩ = some (.string v.s)) (g2 : W.cell? ⟨b, 2, none⟩ = some (.slice A1 v.l.length c1)) (g3 : W.cell? ⟨b, 3, none⟩ = some (.slice A2 v.z.length c2)) (g4 : W.cell? ⟨b, 4, none⟩ = some (.slice A3 v.h.length c3))
    (gz : ∀ i, i < 5 → ∃ u, W.cell? ⟨b + 1, i, none⟩ = some u) (fr1 : ∀ i, W.frozen? ⟨b + 1, i, none⟩ = false) (l1 : v.l.length ≤ 140737488355328) (l2 : v.z.length ≤ 140737488355328) (l3 : v.h.length ≤ 140737488355328)
    (o1 : Own kStr 9 S1 w1 W.drew.heap.size (.slice E1 v.l.length d1) v.l) (b1 : Below W.drew.heap.size W.drew w1)
    (o2 : Own kScored 70 S2 w2 w1.heap.size (.slice E2 v.z.length d2) v.z) (b2 : Below w1.heap.size w1 w2)
    (o3 : Own kField 74 S3 w3 w2.heap.size (.slice E3 v.h.length d3) v.h) (b3 : Below w2.heap.size w2 w3) :
    OwnMid b v w (((w3.setCell ⟨b, 2, none⟩ (.slice E1 v.l.length d1)).setCell ⟨b, 3, none⟩ (.slice E2 v.z.length d2)).setCell ⟨b, 4, none⟩ (.slice E3 v.h.length d3)) := by
  have C1 : Below W.heap.size W w1 := below_trans' (Below.refl W.heap.size W).drew b1
  have C2 := below_trans' C1 b2
  have C3 := below_trans' C2 b3
  have hz0 : b < W.heap.size := by omega
  have hw1 := C1.size
  have hw2 := b2.size
  have far : ∀ k, k ≠ b → ((((w3.setCell ⟨b, 2, none⟩ (.slice E1 v.l.length d1)).setCell ⟨b, 3, none⟩ (.slice E2 v.z.length d2)).setCell ⟨b, 4, none⟩ (.slice E3 v.h.length d3))).heap[k]? = w3.heap[k]? := fun k hk => by
    rw [Below.heap_setCell _ _ _ _ (by simpa using hk), Below.heap_setCell _ _ _ _ (by simpa using hk), Below.heap_setCell _ _ _ _ (by simpa using hk)]
  have c0 := (C3.cell (p := ⟨b, 0, none⟩) hz0).trans g0
  have c1' := (C3.cell (p := ⟨b, 1, none⟩) hz0).trans g1
  have c2' := (C3.cell (p := ⟨b, 2, none⟩) hz0).trans g2
  have c3' := (C3.cell (p := ⟨b, 3, none⟩) hz0).trans g3
  have c4' := (C3.cell (p := ⟨b, 4, none⟩) hz0).trans g4
  refine ⟨E1, d1, E2, d2, E3, d3, by go_simp, by go_simp, by go_simp, by go_simp, by go_simp, ?_, ?_, ?_, ?_, ?_, ?_⟩
  · intro i hi
    obtain ⟨u, hu⟩ := gz i hi
    exact ⟨u, (cell_moved (far _ (by omega)) i).trans ((C3.cell (p := ⟨b + 1, i, none⟩) hz).trans hu)⟩
  · intro i
    exact (World.frozen?_of_block (a := ⟨b + 1, i, none⟩) (far _ (by simp))).trans ((C3.frozen (p := ⟨b + 1, i, none⟩) hz).trans (fr1 i))
  · exact o1.later flat_str l1 (fun k h1 h2 => by
      have : W.heap.size ≤ k := h1
      rw [far k (by omega), b3.block k (by omega), b2.block k h2]) (fun k h1 => by have : W.heap.size ≤ k := h1; omega)
  · exact o2.later flat_scored l2 (fun k h1 h2 => by rw [far k (by omega), b3.block k h2]) (fun k h1 => by omega)
  · exact o3.later flat_field l3 (fun k h1 h2 => by rw [far k (by omega)]) (fun k h1 => by omega)
  · exact (((hB.trans (C3.mono (by omega))).setCell (Nat.le_refl _) _).setCell (Nat.le_refl _) _).setCell (Nat.le_refl _) _

set_option maxHeartbeats 3200000 in
theorem own {S : Nat → Prop} {v : DVal} {cs : List Value} {w : World} (h : kVal.R S w v cs) (hf : valFits v) :
    Calls Tryz.prog 24 #[.agg cs.toArray] w fun e w' => ∃ ds, e = .returned (.agg ds.toArray) ∧ kVal.R (fun k => w.heap.size ≤ k) w' v ds ∧ Below w.heap.size w w' := by
  obtain ⟨A1, c1, A2, c2, A3, c3, rfl, hk1, hk2, hs, h1, h2, h3, r1, r2, r3⟩ := h
  obtain ⟨f1, f2, f3⟩ := hf
  have l1 := r1.1
  have l2 := r2.1
  have l3 := r3.1
  have hC1 : ∀ W, Below w.heap.size w W → _ := fun W hb => Clones (c := c1) (r1.any.move (below_moves hb)) f1
  have hC2 : ∀ W, Below w.heap.size w W → _ := fun W hb => CloneS (c := c2) (r2.any.move (below_moves hb)) f2
  have hC3 : ∀ W, Below w.heap.size w W → _ := fun W hb => CloneF (c := c3) (r3.any.move (below_moves hb)) f3
  clear r1 r2 r3
  go_enter Tryz.func24, Tryz.ntmps24
  go_upto_region 1 with fail
  obtain ⟨W, hW⟩ : ∃ W, W = (w.alloc (.cells #[.int .i64 v.kind, .string v.s, .slice A1 v.l.length c1, .slice A2 v.z.length c2, .slice A3 v.h.length c3] 28)).alloc (.cells #[.int .i64 0, .string ⟨#[]⟩, .slice none 0 0, .slice none 0 0, .slice none 0 0] 28) := ⟨_, rfl⟩
  rw [← hW]
  have hB : Below w.heap.size w W := by rw [hW]; exact ((Below.refl _ _).alloc (Nat.le_refl _) _).alloc (by simp) _
  have hz : w.heap.size + 1 < W.heap.size := by rw [hW]; simp
  have hz0 : w.heap.size < W.heap.size := by rw [hW]; simp; omega
  have g0 : W.cell? ⟨w.heap.size, 0, none⟩ = some (.int .i64 v.kind) := by rw [hW]; go_simp
  have g1 : W.cell? ⟨w.heap.size, 1, none⟩ = some (.string v.s) := by rw [hW]; go_simp
  have g2 : W.cell? ⟨w.heap.size, 2, none⟩ = some (.slice A1 v.l.length c1) := by rw [hW]; go_simp
  have g3 : W.cell? ⟨w.heap.size, 3, none⟩ = some (.slice A2 v.z.length c2) := by rw [hW]; go_simp
  have g4 : W.cell? ⟨w.heap.size, 4, none⟩ = some (.slice A3 v.h.length c3) := by rw [hW]; go_simp
  have gz : Hid (∀ i, i < 5 → ∃ u, W.cell? ⟨w.heap.size + 1, i, none⟩ = some u) := by
    intro i hi
    rw [hW]
    match i, hi with
    | 0, _ => exact ⟨.int .i64 0, by go_simp⟩
    | 1, _ => exact ⟨.string ⟨#[]⟩, by go_simp⟩
    | 2, _ => exact ⟨.slice none 0 0, by go_simp⟩
    | 3, _ => exact ⟨.slice none 0 0, by go_simp⟩
    | 4, _ => exact ⟨.slice none 0 0, by go_simp⟩
  have fr : ∀ i, W.frozen? ⟨w.heap.size, i, none⟩ = false := by intro i; rw [hW]; go_simp
  have fr1 : ∀ i, W.frozen? ⟨w.heap.size + 1, i, none⟩ = false := by intro i; rw [hW]; go_simp
  clear hW
  generalize hb : w.heap.size = b at *
  have HB := Lib.hid hb
  clear hb
  go_cut [2] (fun s2 wx => s2 = .pointer (some ⟨b + 1, 0, none⟩) ∧ OwnMid b v w wx)
  case first =>
    go_region_with
      (first
        | (go_at_call 52; refine (hC1 _ (hB.trans (((Below.refl W.heap.size W).drew).mono (Nat.le_of_lt hz0)))).mono ?_; rintro e w1 ⟨v1, rfl, o1, b1⟩; have C1 : Below W.heap.size W w1 := below_trans' ((Below.refl W.heap.size W).drew) b1; have p1 := (C1.cell (p := ⟨b, 2, none⟩) hz0).trans g2; have q1 := (C1.cell (p := ⟨b, 3, none⟩) hz0).trans g3; have r1 := (C1.cell (p := ⟨b, 4, none⟩) hz0).trans g4)
        | (go_at_call 53; refine (hC2 _ (hB.trans ((C1).mono (Nat.le_of_lt hz0)))).mono ?_; rintro e w2 ⟨v2, rfl, o2, b2⟩; have C2 : Below W.heap.size W w2 := below_trans' (C1) b2; have p2 := (C2.cell (p := ⟨b, 2, none⟩) hz0).trans g2; have q2 := (C2.cell (p := ⟨b, 3, none⟩) hz0).trans g3; have r2 := (C2.cell (p := ⟨b, 4, none⟩) hz0).trans g4)
        | (go_at_call 54; refine (hC3 _ (hB.trans ((C2).mono (Nat.le_of_lt hz0)))).mono ?_; rintro e w3 ⟨v3, rfl, o3, b3⟩; have C3 : Below W.heap.size W w3 := below_trans' (C2) b3; have p3 := (C3.cell (p := ⟨b, 2, none⟩) hz0).trans g2; have q3 := (C3.cell (p := ⟨b, 3, none⟩) hz0).trans g3; have r3 := (C3.cell (p := ⟨b, 4, none⟩) hz0).trans g4; have s2 := (C3.frozen (p := ⟨b, 2, none⟩) hz0).trans (fr 2); have s3 := (C3.frozen (p := ⟨b, 3, none⟩) hz0).trans (fr 3); have s4 := (C3.frozen (p := ⟨b, 4, none⟩) hz0).trans (fr 4); have e1 := o1.sliceR l1; have e2 := o2.sliceR l2; have e3 := o3.sliceR l3; obtain ⟨E1, d1, rfl, _⟩ := e1; obtain ⟨E2, d2, rfl, _⟩ := e2; obtain ⟨E3, d3, rfl, _⟩ := e3))
    all_goals
      have M := own_mid hB hz g0 g1 g2 g3 g4 gz.out fr1 l1 l2 l3 o1 b1 o2 b2 o3 b3
      go_wp2_with fail
      go_meet
      exact ⟨rfl, M⟩
  case rest =>
    obtain ⟨rfl, E1, d1, E2, d2, E3, d3, u0, u1, u2, u3, u4, uz, uf, R1, R2, R3, UB⟩ := hcut
    obtain ⟨y0, x0⟩ := uz 0 (by omega)
    obtain ⟨y1, x1⟩ := uz 1 (by omega)
    obtain ⟨y2, x2⟩ := uz 2 (by omega)
    obtain ⟨y3, x3⟩ := uz 3 (by omega)
    obtain ⟨y4, x4⟩ := uz 4 (by omega)
    have Hr1 := Lib.hid R1
    have Hr2 := Lib.hid R2
    have Hr3 := Lib.hid R3
    have HU := Lib.hid UB
    clear R1 R2 R3 UB uz gz hC1 hC2 hC3 hB hz hz0 g0 g1 g2 g3 g4 fr fr1
    go_wp2
    rw [HB.out]
    refine bodyPost_ret (v := .agg #[.int .i64 v.kind, .string v.s, .slice E1 v.l.length d1, .slice E2 v.z.length d2, .slice E3 v.h.length d3]) (by simp [results, Tryz.results24, go_sem, x0, x1, x2, x3, x4]) rfl ?_
    refine ⟨[.int .i64 v.kind, .string v.s, .slice E1 v.l.length d1, .slice E2 v.z.length d2, .slice E3 v.h.length d3], rfl, ⟨E1, d1, E2, d2, E3, d3, rfl, hk1, hk2, hs, ⟨Hr1.out.1, Hr1.out.2.1⟩, ⟨Hr2.out.1, Hr2.out.2.1⟩, ⟨Hr3.out.1, Hr3.out.2.1⟩, ?_, ?_, ?_⟩, ?_⟩
    · exact Hr1.out.2.2.move fun k hk _ => ⟨by simp only [ne_eq, Below.heap_setCell, show k ≠ b + 1 from by omega, not_false_eq_true], by omega⟩
    · exact Hr2.out.2.2.move fun k hk _ => ⟨by simp only [ne_eq, Below.heap_setCell, show k ≠ b + 1 from by omega, not_false_eq_true], by omega⟩
    · exact Hr3.out.2.2.move fun k hk _ => ⟨by simp only [ne_eq, Below.heap_setCell, show k ≠ b + 1 from by omega, not_false_eq_true], by omega⟩
    · exact ((((HU.out.setCell (by simp) _).setCell (by simp) _).setCell (by simp) _).setCell (by simp) _).setCell (by simp) _
end Go.Proofs.YtkgghnjpegpnlaaGreatDoor
