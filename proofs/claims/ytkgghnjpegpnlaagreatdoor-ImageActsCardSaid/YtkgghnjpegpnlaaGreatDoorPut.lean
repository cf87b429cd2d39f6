/- image.Put: a row with one more, or another, entry. Conditions: what is read reads as the data; the bytes stay below an append's bound. -/
import Derived.Test.YtkgghnjpegpnlaaGreatDoorCheck
import Derived.Test.YtkgghnjpegpnlaaGreatDoorOwneds
import Derived.Test.YtkgghnjpegpnlaaGreatDoorSearch
import Derived.Test.YtkgghnjpegpnlaaGreatDoorInsert
import Derived.Test.YtkgghnjpegpnlaaGreatDoorOrder
namespace Go.Proofs.YtkgghnjpegpnlaaGreatDoor
open Go.RowKit Go.Proofs
set_option linter.unusedSimpArgs false
set_option linter.unusedVariables false
set_option maxRecDepth 100000

/-- What Put makes of a row. -/
def PutRel (l : List DEntry) (e : DEntry) (zs : List DEntry) (f : Int) : Prop :=
  (checkN l ≠ 0 → zs = [] ∧ f = checkN l) ∧ (checkN l = 0 → entryB e = false → zs = [] ∧ f = 90) ∧
  (checkN l = 0 → entryB e = true → ∃ i b, Found (fun x => cmpS x.key e.key) l i b ∧ (b = true → f = 0 ∧ zs = l.set i e) ∧ (b = false → l.length = 65536 → f = 3 ∧ zs = []) ∧ (b = false → l.length ≠ 65536 → f = 0 ∧ zs = l.take i ++ e :: l.drop i))

def PutPost (l : List DEntry) (x : DEntry) (w : World) (e : Ending) (w' : World) : Prop :=
  ∃ v zs f, e = .returned (.tuple #[v, .int .i64 f]) ∧ OwnX kEntry 30 w' w.heap.size v zs ∧ PutRel l x zs f ∧ Below w.heap.size w w'

theorem own_nil (w : World) (b : Nat) : OwnX kEntry 30 w b (.slice none 0 0) [] := Own.nil _ _ _ _ _

theorem OwnX.lower {α : Type} {d : Kd α} {e : TypeId} {w : World} {base base' : Nat} {v : Value} {xs : List α} (h : OwnX d e w base v xs) (hB : base' ≤ base) : OwnX d e w base' v xs := h.below (Below.refl _ _) hB

theorem checkN_zero {l : List DEntry} (h : checkN l = 0) : l.length ≤ 65536 ∧ risingB (fun x y => cmpS x.key y.key) l = true ∧ l.any (fun e => !entryB e) = false := by
  unfold checkN at h
  split at h
  · cases h
  · split at h
    · rename_i h1 h2
      simp only [Bool.and_eq_true, Bool.not_eq_true'] at h2
      exact ⟨by omega, h2.1, h2.2⟩
    · cases h

set_option maxHeartbeats 1000000 in
theorem Put_bad1 {S : Nat → Prop} {A : Option Addr} {l : List DEntry} {c : Nat} {x : DEntry} {cs : List Value} {w : World} (h : Row kEntry S w A l) (hx : kEntry.R S w x cs) (hc : checkN l ≠ 0) :
    Calls Tryz.prog 8 #[.slice A l.length c, .agg cs.toArray] w (PutPost l x w) := by
  have hC := fun (W : World) (hb : Below w.heap.size w W) => Check (c := c) (h.move (below_moves hb))
  obtain ⟨A1, c1, A2, c2, A3, c3, rfl, _⟩ := hx
  have hl := h.1
  have Hc := Lib.hid hc
  have hcz : (checkN l == 0) = false := by simpa using hc
  clear h hc
  go_enter Tryz.func8, Tryz.ntmps8
  go_wp2_with (go_at_call 21; refine (hC _ ((Below.refl _ _).alloc (Nat.le_refl _) _)).mono ?_; rintro e w1 ⟨rfl, b1⟩)
  go_ret2
  exact ⟨_, [], _, rfl, own_nil _ _, ⟨fun _ => ⟨rfl, rfl⟩, fun h => absurd h Hc.out, fun h => absurd h Hc.out⟩, ((Below.refl _ _).alloc (Nat.le_refl _) _).trans (b1.mono (by simp))⟩

set_option maxHeartbeats 1000000 in
theorem Put_bad2 {S : Nat → Prop} {A : Option Addr} {l : List DEntry} {c : Nat} {x : DEntry} {cs : List Value} {w : World} (h : Row kEntry S w A l) (hx : kEntry.R S w x cs) (hc : checkN l = 0) (he : entryB x = false) :
    Calls Tryz.prog 8 #[.slice A l.length c, .agg cs.toArray] w (PutPost l x w) := by
  have hC := fun (W : World) (hb : Below w.heap.size w W) => Check (c := c) (h.move (below_moves hb))
  rw [hc] at hC
  have hE := fun (W : World) (hb : Below w.heap.size w W) => entry (kEntry.move (below_moves hb) hx)
  rw [he] at hE
  obtain ⟨A1, c1, A2, c2, A3, c3, rfl, _⟩ := hx
  have hl := h.1
  have Hc := Lib.hid hc
  have He := Lib.hid he
  clear h hc he
  go_enter Tryz.func8, Tryz.ntmps8
  go_upto_region 1 with fail
  obtain ⟨W, hW⟩ : ∃ W, W = w.alloc (.cells #[.string x.key, .int .i64 x.v.kind, .string x.v.s, .slice A1 x.v.l.length c1, .slice A2 x.v.z.length c2, .slice A3 x.v.h.length c3, .int .i64 x.at_] 30) := ⟨_, rfl⟩
  rw [← hW]
  have hB : Below w.heap.size w W := by rw [hW]; exact (Below.refl _ _).alloc (Nat.le_refl _) _
  have hz0 : w.heap.size < W.heap.size := by rw [hW]; simp
  have t0 : W.cell? ⟨w.heap.size, 0, none⟩ = some (.string x.key) := by rw [hW]; go_simp
  have t1 : W.cell? ⟨w.heap.size, 1, none⟩ = some (.int .i64 x.v.kind) := by rw [hW]; go_simp
  have t2 : W.cell? ⟨w.heap.size, 2, none⟩ = some (.string x.v.s) := by rw [hW]; go_simp
  have t3 : W.cell? ⟨w.heap.size, 3, none⟩ = some (.slice A1 x.v.l.length c1) := by rw [hW]; go_simp
  have t4 : W.cell? ⟨w.heap.size, 4, none⟩ = some (.slice A2 x.v.z.length c2) := by rw [hW]; go_simp
  have t5 : W.cell? ⟨w.heap.size, 5, none⟩ = some (.slice A3 x.v.h.length c3) := by rw [hW]; go_simp
  have t6 : W.cell? ⟨w.heap.size, 6, none⟩ = some (.int .i64 x.at_) := by rw [hW]; go_simp
  clear hW
  go_wp2_with (first
    | (go_at_call 21; refine (hC _ hB).mono ?_; rintro e w1 ⟨rfl, b1⟩; replace t0 := (b1.cell (p := ⟨w.heap.size, 0, none⟩) hz0).trans t0; replace t1 := (b1.cell (p := ⟨w.heap.size, 1, none⟩) hz0).trans t1; replace t2 := (b1.cell (p := ⟨w.heap.size, 2, none⟩) hz0).trans t2; replace t3 := (b1.cell (p := ⟨w.heap.size, 3, none⟩) hz0).trans t3; replace t4 := (b1.cell (p := ⟨w.heap.size, 4, none⟩) hz0).trans t4; replace t5 := (b1.cell (p := ⟨w.heap.size, 5, none⟩) hz0).trans t5; replace t6 := (b1.cell (p := ⟨w.heap.size, 6, none⟩) hz0).trans t6)
    | (go_at_call 22; refine (hE _ (below_trans' hB b1)).mono ?_; rintro e w2 ⟨rfl, b2⟩))
  go_ret2
  exact ⟨_, [], _, rfl, own_nil _ _, ⟨fun h => absurd Hc.out h, fun _ _ => ⟨rfl, rfl⟩, fun _ h => by rw [He.out] at h; cases h⟩, below_trans' (below_trans' hB b1) b2⟩

set_option maxHeartbeats 2000000 in
theorem Put_ok {S : Nat → Prop} {A : Option Addr} {l : List DEntry} {c : Nat} {x : DEntry} {cs : List Value} {w : World} (h : Row kEntry S w A l) (hx : kEntry.R S w x cs) (hc : checkN l = 0) (he : entryB x = true) (hf : rowFits l) (hfx : valFits x.v) :
    Calls Tryz.prog 8 #[.slice A l.length c, .agg cs.toArray] w (PutPost l x w) := by
  have hC := fun (W : World) (hb : Below w.heap.size w W) => Check (c := c) (h.move (below_moves hb))
  rw [hc] at hC
  have hE := fun (W : World) (hb : Below w.heap.size w W) => entry (kEntry.move (below_moves hb) hx)
  rw [he] at hE
  have hO := fun (W : World) (hb : Below w.heap.size w W) => ownedS (c := c) (h.old.move (below_moves hb)) hf
  obtain ⟨A1, c1, A2, c2, A3, c3, rfl, hk, hval⟩ := hx
  have hV : ∀ (W : World), Below w.heap.size w W → Calls Tryz.prog 24 #[.agg #[.int .i64 x.v.kind, .string x.v.s, .slice A1 x.v.l.length c1, .slice A2 x.v.z.length c2, .slice A3 x.v.h.length c3]] W fun e w' => ∃ ds, e = .returned (.agg ds.toArray) ∧ kVal.R (fun k => W.heap.size ≤ k) w' x.v ds ∧ Below W.heap.size W w' :=
    fun (W : World) (hb : Below w.heap.size w W) => own (kVal.move (below_moves hb) hval) hfx
  have hl := h.1
  have Hc := Lib.hid hc
  have He := Lib.hid he
  have Hk := Lib.hid hk
  clear h hc he hval hk
  go_enter Tryz.func8, Tryz.ntmps8
  go_upto_region 1 with fail
  obtain ⟨W, hW⟩ : ∃ W, W = w.alloc (.cells #[.string x.key, .int .i64 x.v.kind, .string x.v.s, .slice A1 x.v.l.length c1, .slice A2 x.v.z.length c2, .slice A3 x.v.h.length c3, .int .i64 x.at_] 30) := ⟨_, rfl⟩
  rw [← hW]
  have hB : Below w.heap.size w W := by rw [hW]; exact (Below.refl _ _).alloc (Nat.le_refl _) _
  have hz0 : w.heap.size < W.heap.size := by rw [hW]; simp
  have t0 : W.cell? ⟨w.heap.size, 0, none⟩ = some (.string x.key) := by rw [hW]; go_simp
  have t1 : W.cell? ⟨w.heap.size, 1, none⟩ = some (.int .i64 x.v.kind) := by rw [hW]; go_simp
  have t2 : W.cell? ⟨w.heap.size, 2, none⟩ = some (.string x.v.s) := by rw [hW]; go_simp
  have t3 : W.cell? ⟨w.heap.size, 3, none⟩ = some (.slice A1 x.v.l.length c1) := by rw [hW]; go_simp
  have t4 : W.cell? ⟨w.heap.size, 4, none⟩ = some (.slice A2 x.v.z.length c2) := by rw [hW]; go_simp
  have t5 : W.cell? ⟨w.heap.size, 5, none⟩ = some (.slice A3 x.v.h.length c3) := by rw [hW]; go_simp
  have t6 : W.cell? ⟨w.heap.size, 6, none⟩ = some (.int .i64 x.at_) := by rw [hW]; go_simp
  have u0 : W.frozen? ⟨w.heap.size, 0, none⟩ = false := by rw [hW]; go_simp
  have u1 : W.frozen? ⟨w.heap.size, 1, none⟩ = false := by rw [hW]; go_simp
  have u2 : W.frozen? ⟨w.heap.size, 2, none⟩ = false := by rw [hW]; go_simp
  have u3 : W.frozen? ⟨w.heap.size, 3, none⟩ = false := by rw [hW]; go_simp
  have u4 : W.frozen? ⟨w.heap.size, 4, none⟩ = false := by rw [hW]; go_simp
  have u5 : W.frozen? ⟨w.heap.size, 5, none⟩ = false := by rw [hW]; go_simp
  have u6 : W.frozen? ⟨w.heap.size, 6, none⟩ = false := by rw [hW]; go_simp
  clear hW
  go_wp2_with (first
    | (go_at_call 21; refine (hC _ hB).mono ?_; rintro e w1 ⟨rfl, b1⟩; have s1 : w.heap.size < w1.heap.size := Nat.lt_of_lt_of_le hz0 b1.size; have B1 := below_trans' hB b1; replace t0 := (b1.cell (p := ⟨w.heap.size, 0, none⟩) hz0).trans t0; replace t1 := (b1.cell (p := ⟨w.heap.size, 1, none⟩) hz0).trans t1; replace t2 := (b1.cell (p := ⟨w.heap.size, 2, none⟩) hz0).trans t2; replace t3 := (b1.cell (p := ⟨w.heap.size, 3, none⟩) hz0).trans t3; replace t4 := (b1.cell (p := ⟨w.heap.size, 4, none⟩) hz0).trans t4; replace t5 := (b1.cell (p := ⟨w.heap.size, 5, none⟩) hz0).trans t5; replace t6 := (b1.cell (p := ⟨w.heap.size, 6, none⟩) hz0).trans t6; replace u0 := (b1.frozen (p := ⟨w.heap.size, 0, none⟩) hz0).trans u0; replace u1 := (b1.frozen (p := ⟨w.heap.size, 1, none⟩) hz0).trans u1; replace u2 := (b1.frozen (p := ⟨w.heap.size, 2, none⟩) hz0).trans u2; replace u3 := (b1.frozen (p := ⟨w.heap.size, 3, none⟩) hz0).trans u3; replace u4 := (b1.frozen (p := ⟨w.heap.size, 4, none⟩) hz0).trans u4; replace u5 := (b1.frozen (p := ⟨w.heap.size, 5, none⟩) hz0).trans u5; replace u6 := (b1.frozen (p := ⟨w.heap.size, 6, none⟩) hz0).trans u6)
    | (go_at_call 22; refine (hE _ B1).mono ?_; rintro e w2 ⟨rfl, b2⟩; have s2 : w.heap.size < w2.heap.size := Nat.lt_of_lt_of_le s1 b2.size; have B2 := below_trans' B1 b2; replace t0 := (b2.cell (p := ⟨w.heap.size, 0, none⟩) s1).trans t0; replace t1 := (b2.cell (p := ⟨w.heap.size, 1, none⟩) s1).trans t1; replace t2 := (b2.cell (p := ⟨w.heap.size, 2, none⟩) s1).trans t2; replace t3 := (b2.cell (p := ⟨w.heap.size, 3, none⟩) s1).trans t3; replace t4 := (b2.cell (p := ⟨w.heap.size, 4, none⟩) s1).trans t4; replace t5 := (b2.cell (p := ⟨w.heap.size, 5, none⟩) s1).trans t5; replace t6 := (b2.cell (p := ⟨w.heap.size, 6, none⟩) s1).trans t6; replace u0 := (b2.frozen (p := ⟨w.heap.size, 0, none⟩) s1).trans u0; replace u1 := (b2.frozen (p := ⟨w.heap.size, 1, none⟩) s1).trans u1; replace u2 := (b2.frozen (p := ⟨w.heap.size, 2, none⟩) s1).trans u2; replace u3 := (b2.frozen (p := ⟨w.heap.size, 3, none⟩) s1).trans u3; replace u4 := (b2.frozen (p := ⟨w.heap.size, 4, none⟩) s1).trans u4; replace u5 := (b2.frozen (p := ⟨w.heap.size, 5, none⟩) s1).trans u5; replace u6 := (b2.frozen (p := ⟨w.heap.size, 6, none⟩) s1).trans u6)
    | (go_at_call 23; refine (hO _ B2).mono ?_; rintro e w3 ⟨v3, rfl, o3, b3⟩; have s3 : w.heap.size < w3.heap.size := Nat.lt_of_lt_of_le s2 b3.size; have B3 := below_trans' B2 b3; have HO := Lib.hid o3; obtain ⟨A4, c4, rfl, _⟩ := o3.weak.row hl; clear o3; replace t0 := (b3.cell (p := ⟨w.heap.size, 0, none⟩) s2).trans t0; replace t1 := (b3.cell (p := ⟨w.heap.size, 1, none⟩) s2).trans t1; replace t2 := (b3.cell (p := ⟨w.heap.size, 2, none⟩) s2).trans t2; replace t3 := (b3.cell (p := ⟨w.heap.size, 3, none⟩) s2).trans t3; replace t4 := (b3.cell (p := ⟨w.heap.size, 4, none⟩) s2).trans t4; replace t5 := (b3.cell (p := ⟨w.heap.size, 5, none⟩) s2).trans t5; replace t6 := (b3.cell (p := ⟨w.heap.size, 6, none⟩) s2).trans t6; replace u0 := (b3.frozen (p := ⟨w.heap.size, 0, none⟩) s2).trans u0; replace u1 := (b3.frozen (p := ⟨w.heap.size, 1, none⟩) s2).trans u1; replace u2 := (b3.frozen (p := ⟨w.heap.size, 2, none⟩) s2).trans u2; replace u3 := (b3.frozen (p := ⟨w.heap.size, 3, none⟩) s2).trans u3; replace u4 := (b3.frozen (p := ⟨w.heap.size, 4, none⟩) s2).trans u4; replace u5 := (b3.frozen (p := ⟨w.heap.size, 5, none⟩) s2).trans u5; replace u6 := (b3.frozen (p := ⟨w.heap.size, 6, none⟩) s2).trans u6)
    | (go_at_call 24; refine (hV _ B3).mono ?_; rintro e w4 ⟨ds, rfl, R4, b4⟩; have s4 : w.heap.size < w4.heap.size := Nat.lt_of_lt_of_le s3 b4.size; have B4 := below_trans' B3 b4; have HR := Lib.hid R4; obtain ⟨E1, e1, E2, e2, E3, e3, rfl, _⟩ := R4; replace t0 := (b4.cell (p := ⟨w.heap.size, 0, none⟩) s3).trans t0; replace t1 := (b4.cell (p := ⟨w.heap.size, 1, none⟩) s3).trans t1; replace t2 := (b4.cell (p := ⟨w.heap.size, 2, none⟩) s3).trans t2; replace t3 := (b4.cell (p := ⟨w.heap.size, 3, none⟩) s3).trans t3; replace t4 := (b4.cell (p := ⟨w.heap.size, 4, none⟩) s3).trans t4; replace t5 := (b4.cell (p := ⟨w.heap.size, 5, none⟩) s3).trans t5; replace t6 := (b4.cell (p := ⟨w.heap.size, 6, none⟩) s3).trans t6; replace u0 := (b4.frozen (p := ⟨w.heap.size, 0, none⟩) s3).trans u0; replace u1 := (b4.frozen (p := ⟨w.heap.size, 1, none⟩) s3).trans u1; replace u2 := (b4.frozen (p := ⟨w.heap.size, 2, none⟩) s3).trans u2; replace u3 := (b4.frozen (p := ⟨w.heap.size, 3, none⟩) s3).trans u3; replace u4 := (b4.frozen (p := ⟨w.heap.size, 4, none⟩) s3).trans u4; replace u5 := (b4.frozen (p := ⟨w.heap.size, 5, none⟩) s3).trans u5; replace u6 := (b4.frozen (p := ⟨w.heap.size, 6, none⟩) s3).trans u6))
  obtain ⟨W5, hW5⟩ : ∃ W5, W5 = ((((w4.setCell ⟨w.heap.size, 1, none⟩ (.int .i64 x.v.kind)).setCell ⟨w.heap.size, 2, none⟩ (.string x.v.s)).setCell ⟨w.heap.size, 3, none⟩ (.slice E1 x.v.l.length e1)).setCell ⟨w.heap.size, 4, none⟩ (.slice E2 x.v.z.length e2)).setCell ⟨w.heap.size, 5, none⟩ (.slice E3 x.v.h.length e3) := ⟨_, rfl⟩
  rw [← hW5]
  have far : ∀ q, q ≠ w.heap.size → W5.heap[q]? = w4.heap[q]? := fun q hq => by
    rw [hW5, Below.heap_setCell _ _ _ _ hq, Below.heap_setCell _ _ _ _ hq, Below.heap_setCell _ _ _ _ hq, Below.heap_setCell _ _ _ _ hq, Below.heap_setCell _ _ _ _ hq]
  have B5 : Below w.heap.size w W5 := by
    rw [hW5]
    exact ((((B4.setCell (Nat.le_refl _) _).setCell (Nat.le_refl _) _).setCell (Nat.le_refl _) _).setCell (Nat.le_refl _) _).setCell (Nat.le_refl _) _
  have s5 : W5.heap.size = w4.heap.size := by rw [hW5]; simp
  have O5 : OwnX kEntry 30 W5 w2.heap.size (.slice A4 l.length c4) l :=
    Own.weak (Own.move (S' := fun k => k ≠ w.heap.size ∧ (Value.slice A4 l.length c4).ownBlock ≠ some k) HO.out
      (fun k hk hlt => by
        have hkb : k ≠ w.heap.size := by
          rcases hk.1 with h | h
          · omega
          · omega
        exact ⟨(far k hkb).trans (b4.block k hlt), hkb, hk.2⟩)
      (fun k hk hge hlt => ⟨hge, (far k (by omega)).trans (b4.block k hlt), fun h => h.2 hk⟩))
  have R5 : kEntry.R (fun k => w3.heap.size ≤ k) W5 x [.string x.key, .int .i64 x.v.kind, .string x.v.s, .slice E1 x.v.l.length e1, .slice E2 x.v.z.length e2, .slice E3 x.v.h.length e3, .int .i64 x.at_] :=
    ⟨E1, e1, E2, e2, E3, e3, rfl, Hk.out, kVal.move (fun q hq _ => ⟨far q (by omega), hq⟩) HR.out⟩
  have g0 : W5.cell? ⟨w.heap.size, 0, none⟩ = some (.string x.key) := by rw [hW5]; go_simp
  have g1 : W5.cell? ⟨w.heap.size, 1, none⟩ = some (.int .i64 x.v.kind) := by rw [hW5]; go_simp
  have g2 : W5.cell? ⟨w.heap.size, 2, none⟩ = some (.string x.v.s) := by rw [hW5]; go_simp
  have g3 : W5.cell? ⟨w.heap.size, 3, none⟩ = some (.slice E1 x.v.l.length e1) := by rw [hW5]; go_simp
  have g4 : W5.cell? ⟨w.heap.size, 4, none⟩ = some (.slice E2 x.v.z.length e2) := by rw [hW5]; go_simp
  have g5 : W5.cell? ⟨w.heap.size, 5, none⟩ = some (.slice E3 x.v.h.length e3) := by rw [hW5]; go_simp
  have g6 : W5.cell? ⟨w.heap.size, 6, none⟩ = some (.int .i64 x.at_) := by rw [hW5]; go_simp
  obtain ⟨hlen, hris, _⟩ := checkN_zero Hc.out
  obtain ⟨_, _, ee, hlc, hc63, r5⟩ := O5.row hl
  injection ee with ee1 _ ee2
  subst ee1
  subst ee2
  have hS := BinarySearchFunc 26 (fun x y => cmpS x.key y.key) x [.string x.key, .int .i64 x.v.kind, .string x.v.s, .slice E1 x.v.l.length e1, .slice E2 x.v.z.length e2, .slice E3 x.v.h.length e3, .int .i64 x.at_] (fun _ => True) A4 l c4 W5 r5 (kEntry.move (fun k _ _ => ⟨rfl, trivial⟩) R5) (cmpK_byKey _ _) enters_byKey (fun i j a b hij ha hb hlt => keys_mono (f := DEntry.key) hris x.key i j a b hij ha hb hlt)
  have z5 : w.heap.size < W5.heap.size := by omega
  have hg3 : ∀ k, (Value.slice A4 l.length c4).ownBlock = some k → k < w3.heap.size := fun k hk => (ownsRow_base HO.out.choose_spec.1 k hk).2
  have h45 : w2.heap.size ≤ W5.heap.size := by
    have e3 := b3.size
    have e4 := b4.size
    omega
  have h35 : w3.heap.size ≤ W5.heap.size := by
    have e4 := b4.size
    omega
  have H0 := Lib.hid hg3
  have H1 := Lib.hid R5
  have H2 := Lib.hid O5
  clear hg3
  have H3 := Lib.hid B5
  clear R5 O5 hW5 far t0 t1 t2 t3 t4 t5 t6 u0 u1 u2 u3 u4 u5 u6 HR HO r5 hris B1 B2 B3 B4 b1 b2 b3 b4 hC hE hO hV hB B5
  refine hS.mono ?_
  clear hS
  rintro e w6 ⟨i, bb, rfl, hFound, b6⟩
  replace g0 := (b6.cell (p := ⟨w.heap.size, 0, none⟩) z5).trans g0
  replace g1 := (b6.cell (p := ⟨w.heap.size, 1, none⟩) z5).trans g1
  replace g2 := (b6.cell (p := ⟨w.heap.size, 2, none⟩) z5).trans g2
  replace g3 := (b6.cell (p := ⟨w.heap.size, 3, none⟩) z5).trans g3
  replace g4 := (b6.cell (p := ⟨w.heap.size, 4, none⟩) z5).trans g4
  replace g5 := (b6.cell (p := ⟨w.heap.size, 5, none⟩) z5).trans g5
  replace g6 := (b6.cell (p := ⟨w.heap.size, 6, none⟩) z5).trans g6
  have O6 := H2.out.below b6 (Nat.le_refl _)
  have R6 := kEntry.move (below_moves b6) H1.out
  have B6 := below_trans' H3.out b6
  have HF := Lib.hid hFound
  have hi := hFound.1
  clear hFound
  cases bb with
  | true =>
    obtain ⟨y, hy, hy0⟩ := HF.out.2.2.2.1 rfl
    have hin : i < l.length := (List.getElem?_eq_some_iff.1 hy).1
    obtain ⟨g, cap, hee, hgb, hgl⟩ := O6.form (by omega)
    injection hee with hee1 _ hee2
    subst hee1
    subst hee2
    obtain ⟨cs, hrow, _, hparts⟩ := O6
    obtain ⟨P, el, Q, rfl, hP, hel⟩ := hparts.split hy
    have hel7 : el.length = 7 := kEntry.len hel
    have hP' : P.length = i * 7 := hP
    have hrow7 : w6.ownsRow w2.heap.size 30 7 (.slice (some ⟨g, 0, none⟩) l.length c4) l.length (P ++ (el ++ Q)) := hrow
    have hz := fun k => hrow7.frozenAt (i * 7 + k)
    obtain ⟨D1, d1, D2, d2, D3, d3, rfl, _⟩ := hel
    have hcell : ∀ j u, [Value.string y.key, .int .i64 y.v.kind, .string y.v.s, .slice D1 y.v.l.length d1, .slice D2 y.v.z.length d2, .slice D3 y.v.h.length d3, .int .i64 y.at_][j]? = some u → w6.cell? ⟨g, i * 7 + j, none⟩ = some u := by
      intro j u hj
      have hj7 : j < 7 := (List.getElem?_eq_some_iff.1 hj).1
      rw [hrow7.cellAt (i * 7 + j) (by omega), ← hP', List.getElem?_append_right (by omega), Nat.add_sub_cancel_left, List.getElem?_append_left (by simpa using hj7)]
      exact hj
    have f0 : w6.cell? ⟨g, i * 7, none⟩ = some (.string y.key) := hcell 0 _ rfl
    have f1 := hcell 1 _ rfl
    have f2 := hcell 2 _ rfl
    have f3 := hcell 3 _ rfl
    have f4 := hcell 4 _ rfl
    have f5 := hcell 5 _ rfl
    have f6 := hcell 6 _ rfl
    have q0 : w6.frozen? ⟨g, i * 7, none⟩ = false := hz 0
    have q1 := hz 1
    have q2 := hz 2
    have q3 := hz 3
    have q4 := hz 4
    have q5 := hz 5
    have q6 := hz 6
    have hinz : (i : Int) < (l.length : Int) := by omega
    clear hcell hz
    have H7 := Lib.hid hrow7
    have H8 := Lib.hid hparts
    have H9 := Lib.hid R6
    clear hrow hrow7 hparts R6
    go_wp2_with fail
    go_ret2
    have hst := (((((((H7.out.stored (i * 7 + 0) (.string x.key)).1.stored (i * 7 + 1) (.int .i64 x.v.kind)).1.stored (i * 7 + 2) (.string x.v.s)).1.stored (i * 7 + 3) (.slice E1 x.v.l.length e1)).1.stored (i * 7 + 4) (.slice E2 x.v.z.length e2)).1.stored (i * 7 + 5) (.slice E3 x.v.h.length e3)).1.stored (i * 7 + 6) (.int .i64 x.at_)).1
    rw [← hP'] at hst
    simp only [set_mid] at hst
    rw [hP'] at hst
    have far : ∀ (q : Nat), q ≠ g → (((((((w6.setCell ⟨g, i * 7 + 0, none⟩ (.string x.key)).setCell ⟨g, i * 7 + 1, none⟩ (.int .i64 x.v.kind)).setCell ⟨g, i * 7 + 2, none⟩ (.string x.v.s)).setCell ⟨g, i * 7 + 3, none⟩ (.slice E1 x.v.l.length e1)).setCell ⟨g, i * 7 + 4, none⟩ (.slice E2 x.v.z.length e2)).setCell ⟨g, i * 7 + 5, none⟩ (.slice E3 x.v.h.length e3)).setCell ⟨g, i * 7 + 6, none⟩ (.int .i64 x.at_)).heap[q]? = w6.heap[q]? := fun q hq => by
      rw [Below.heap_setCell _ _ _ _ hq, Below.heap_setCell _ _ _ _ hq, Below.heap_setCell _ _ _ _ hq, Below.heap_setCell _ _ _ _ hq, Below.heap_setCell _ _ _ _ hq, Below.heap_setCell _ _ _ _ hq, Below.heap_setCell _ _ _ _ hq]
    have hg3 : g < w3.heap.size := H0.out g rfl
    have hwg : w.heap.size ≤ g := by omega
    have hput := OwnX.put (d := kEntry) H8.out hy hP' rfl (ds := [.string x.key, .int .i64 x.v.kind, .string x.v.s, .slice E1 x.v.l.length e1, .slice E2 x.v.z.length e2, .slice E3 x.v.h.length e3, .int .i64 x.at_]) (y := x)
      (fun q hq => far q (fun e => hq (by rw [e]; rfl)))
      (kEntry.move (fun q hq hlt => ⟨far q (by omega), fun e => by injection e with e; simp at e; omega⟩) H9.out) hst
    refine ⟨_, l.set i x, 0, rfl, ?_, ⟨fun h => absurd Hc.out h, fun _ h => absurd (He.out.symm.trans h) (by decide), fun _ _ => ⟨i, true, HF.out, fun _ => ⟨rfl, rfl⟩, fun h => absurd h (by decide), fun h => absurd h (by decide)⟩⟩, ?_⟩
    · exact OwnX.lower hput (by omega)
    · exact (((((((B6.setCell hwg _).setCell hwg _).setCell hwg _).setCell hwg _).setCell hwg _).setCell hwg _).setCell hwg _)
  | false =>
    have hw26 : w2.heap.size ≤ w6.heap.size := Nat.le_trans h45 b6.size
    by_cases h65 : l.length = 65536
    · have h65z : ((l.length : Int) == 65536) = true := by simp; omega
      go_wp2_with fail
      go_ret2
      exact ⟨_, [], 3, rfl, own_nil _ _, ⟨fun h => absurd Hc.out h, fun _ h => absurd (He.out.symm.trans h) (by decide), fun _ _ => ⟨i, false, HF.out, fun h => absurd h (by decide), fun _ _ => ⟨rfl, rfl⟩, fun _ h => absurd h65 h⟩⟩, B6⟩
    · have h65z : ((l.length : Int) == 65536) = false := by simp; omega
      have hI : ∀ W, W = w6.alloc (.cells #[.string x.key, .int .i64 x.v.kind, .string x.v.s, .slice E1 x.v.l.length e1, .slice E2 x.v.z.length e2, .slice E3 x.v.h.length e3, .int .i64 x.at_] 30) → Calls Tryz.prog 27 #[.slice A4 l.length c4, .int .i64 i, .slice (some ⟨w6.heap.size, 0, none⟩) 1 1] W (InsPost w2.heap.size W (l.take i ++ x :: l.drop i)) := by
        rintro W rfl
        refine slicesInsertE w2.heap.size l (.slice A4 l.length c4) i w6.heap.size x _ (O6.below ((Below.refl _ _).alloc (Nat.le_refl _) _) (Nat.le_refl _)) (by simp; omega) ⟨[.string x.key, .int .i64 x.v.kind, .string x.v.s, .slice E1 x.v.l.length e1, .slice E2 x.v.z.length e2, .slice E3 x.v.h.length e3, .int .i64 x.at_], ?_, ?_⟩ ?_ hi (by omega)
        · show (w6.heap.push _)[w6.heap.size]? = _
          rw [Array.getElem?_push_size]
        · refine kEntry.move (fun q hq hlt => ⟨Below.heap_alloc _ _ _ hlt, fun e => ?_⟩) R6
          have := H0.out q e
          omega
        · intro e
          have := H0.out _ e
          have := b6.size
          omega
      have HI := Lib.hid hI
      clear hI O6 R6
      go_wp2_with (go_at_call 27; refine (HI.out _ rfl).mono ?_; rintro e w8 ⟨v8, rfl, o8, b8⟩)
      go_ret2
      exact ⟨_, l.take i ++ x :: l.drop i, 0, rfl, OwnX.lower o8 (by omega), ⟨fun h => absurd Hc.out h, fun _ h => absurd (He.out.symm.trans h) (by decide), fun _ _ => ⟨i, false, HF.out, fun h => absurd h (by decide), fun _ h => absurd h h65, fun _ _ => ⟨rfl, rfl⟩⟩⟩, (B6.alloc B6.size _).trans (b8.mono (by omega))⟩

theorem Put {S : Nat → Prop} {A : Option Addr} {l : List DEntry} {c : Nat} {x : DEntry} {cs : List Value} {w : World} (h : Row kEntry S w A l) (hx : kEntry.R S w x cs) (hf : rowFits l) (hfx : valFits x.v) :
    Calls Tryz.prog 8 #[.slice A l.length c, .agg cs.toArray] w (PutPost l x w) := by
  by_cases hc : checkN l = 0
  · cases he : entryB x with
    | true => exact Put_ok h hx hc he hf hfx
    | false => exact Put_bad2 h hx hc he
  · exact Put_bad1 h hx hc
end Go.Proofs.YtkgghnjpegpnlaaGreatDoor
