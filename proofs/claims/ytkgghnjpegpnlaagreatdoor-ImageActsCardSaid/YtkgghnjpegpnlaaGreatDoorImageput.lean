/- The walk of millpondlaw09.ImagePut: it returns true. Conditions: what is read reads as the data; 'alive' returns true. -/
import Derived.Test.YtkgghnjpegpnlaaGreatDoorBox
namespace Go.Proofs.YtkgghnjpegpnlaaGreatDoor
open Go.RowKit Go.Proofs
set_option linter.unusedSimpArgs false
set_option linter.unusedVariables false
set_option maxRecDepth 100000

/-- What 'alive' does, from a world on. -/
def AliveC (w : World) : Prop := ∀ W, Below w.heap.size w W → Calls Tryz.prog 9 #[] W fun e w' => e = .returned (.bool true) ∧ Below W.heap.size W w'

set_option maxHeartbeats 4000000 in
theorem imagePut {S : Nat → Prop} {A : Option Addr} {l : List DEntry} {c : Nat} {x : DEntry} {xA1 xA2 xA3 : Option Addr} {xc1 xc2 xc3 : Nat} {w : World} (key : ByteArray) (hA : AliveC w) (h : Row kEntry S w A l) (hx : kEntry.R S w x [.string x.key, .int .i64 x.v.kind, .string x.v.s, .slice xA1 x.v.l.length xc1, .slice xA2 x.v.z.length xc2, .slice xA3 x.v.h.length xc3, .int .i64 x.at_]) :
    Calls Tryz.prog 3 #[.slice A l.length c, .agg #[.string x.key, .int .i64 x.v.kind, .string x.v.s, .slice xA1 x.v.l.length xc1, .slice xA2 x.v.z.length xc2, .slice xA3 x.v.h.length xc3, .int .i64 x.at_], .string key] w fun e w' => e = .returned (.bool true) ∧ Below w.heap.size w w' := by
  have hlen := h.1
  go_enter Tryz.func3, Tryz.ntmps3
  go_upto_region 1 with fail
  refine wp_name fun W1 hW1 => ?_
  have bx1 : Box W1 (w.heap.size) [.string x.key, .int .i64 x.v.kind, .string x.v.s, .slice xA1 x.v.l.length xc1, .slice xA2 x.v.z.length xc2, .slice xA3 x.v.h.length xc3, .int .i64 x.at_] := by
    rw [hW1]
    exact box7 (by go_simp) (by go_simp) (by go_simp) (by go_simp) (by go_simp) (by go_simp) (by go_simp) (by go_simp) (by go_simp) (by go_simp) (by go_simp) (by go_simp) (by go_simp) (by go_simp)
  have B1 : Below w.heap.size w W1 := by
    rw [hW1]
    exact (Below.refl _ _).alloc (Nat.le_refl _) _
  have z1 : w.heap.size < W1.heap.size := by rw [hW1]; simp
  clear hW1
  have hC := cut (c := c) (h.old.move (below_moves B1))
  have HX1 := Lib.hid bx1
  have HBX := Lib.hid (Kd.old hx)
  have HH := Lib.hid h
  have HB1 := Lib.hid B1
  clear h bx1 hx B1
  go_wp2_with fail
  refine hC.mono ?_
  clear hC
  rintro e w2 ⟨v, rfl, o2, b2⟩
  have hcl : (cutD l).length ≤ 140737488355328 := fits_len (cut_fits l)
  obtain ⟨A2, c2, he, q1, q2, r2⟩ := Own.slice o2 hcl
  subst he
  have r2' : Row kEntry (fun k => w.heap.size ≠ k) w2 A2 (cutD l) := r2.move fun k hk hlt => ⟨rfl, by
    rcases hk with hk | hk
    · have := hk.1.1.2
      omega
    · have := (ownsRow_base o2.choose_spec.1 k hk).1
      omega⟩
  have HR2 := Lib.hid r2'
  have b2' := below_trans' HB1.out b2
  have HB2 := Lib.hid b2'
  have bx2 := HX1.out.below b2
  have z2 : w.heap.size < w2.heap.size := Nat.lt_of_lt_of_le z1 b2.size
  have fitc := cut_fits l
  obtain ⟨cl, hcl'⟩ : ∃ cl, cl = cutD l := ⟨_, rfl⟩
  rw [← hcl'] at HR2 q1 hcl fitc ⊢
  have HCL := Lib.hid hcl'
  have HFC := Lib.hid fitc
  have H1q := Lib.hid q1
  have H2q := Lib.hid q2
  have H3q := Lib.hid hcl
  clear r2 r2' o2 b2 b2' hcl' HX1 fitc z1 q1 q2 hcl
  have HX2 := Lib.hid bx2
  clear bx2
  have t1 : w2.cell? ⟨w.heap.size, 1, none⟩ = some (.int .i64 x.v.kind) := (HX2.out 1 _ rfl).1
  have t2 : w2.cell? ⟨w.heap.size, 2, none⟩ = some (.string x.v.s) := (HX2.out 2 _ rfl).1
  have t3 : w2.cell? ⟨w.heap.size, 3, none⟩ = some (.slice xA1 x.v.l.length xc1) := (HX2.out 3 _ rfl).1
  have t4 : w2.cell? ⟨w.heap.size, 4, none⟩ = some (.slice xA2 x.v.z.length xc2) := (HX2.out 4 _ rfl).1
  have t5 : w2.cell? ⟨w.heap.size, 5, none⟩ = some (.slice xA3 x.v.h.length xc3) := (HX2.out 5 _ rfl).1
  have hF := few (kVal.move (below_moves HB2.out) (entry_val HBX.out))
  go_wp2_with fail
  refine hF.mono ?_
  clear hF t1 t2 t3 t4 t5
  rintro e w3 ⟨rfl, R3, b3⟩
  replace R3 := kVal.move (below_moves b3) R3
  obtain ⟨n1, hn1⟩ : ∃ n1, n1 = (fewD x.v).l.length := ⟨_, rfl⟩
  obtain ⟨n2, hn2⟩ : ∃ n2, n2 = (fewD x.v).z.length := ⟨_, rfl⟩
  obtain ⟨n3, hn3⟩ : ∃ n3, n3 = (fewD x.v).h.length := ⟨_, rfl⟩
  rw [← hn1, ← hn2, ← hn3] at R3 ⊢
  have N1 := Lib.hid hn1
  have N2 := Lib.hid hn2
  have N3 := Lib.hid hn3
  have HR3 := Lib.hid R3
  have HB3 := Lib.hid (below_trans' HB2.out b3)
  have bx3 := HX2.out.below b3
  have r3 := HR2.out.move (below_moves b3)
  have z3 : w.heap.size < w3.heap.size := Nat.lt_of_lt_of_le z2 b3.size
  have Hr3 := Lib.hid r3
  clear hn1 hn2 hn3 R3 b3 HX2 r3 z2 HR2 HB2
  have HX3 := Lib.hid bx3
  clear bx3
  have t0 : w3.cell? ⟨w.heap.size, 0, none⟩ = some (.string x.key) := (HX3.out 0 _ rfl).1
  have t1 : w3.cell? ⟨w.heap.size, 1, none⟩ = some (.int .i64 x.v.kind) := (HX3.out 1 _ rfl).1
  have t2 : w3.cell? ⟨w.heap.size, 2, none⟩ = some (.string x.v.s) := (HX3.out 2 _ rfl).1
  have t3 : w3.cell? ⟨w.heap.size, 3, none⟩ = some (.slice xA1 x.v.l.length xc1) := (HX3.out 3 _ rfl).1
  have t4 : w3.cell? ⟨w.heap.size, 4, none⟩ = some (.slice xA2 x.v.z.length xc2) := (HX3.out 4 _ rfl).1
  have t5 : w3.cell? ⟨w.heap.size, 5, none⟩ = some (.slice xA3 x.v.h.length xc3) := (HX3.out 5 _ rfl).1
  have t6 : w3.cell? ⟨w.heap.size, 6, none⟩ = some (.int .i64 x.at_) := (HX3.out 6 _ rfl).1
  have tf0 : w3.frozen? ⟨w.heap.size, 0, none⟩ = false := (HX3.out 0 _ rfl).2
  have tf1 : w3.frozen? ⟨w.heap.size, 1, none⟩ = false := (HX3.out 1 _ rfl).2
  have tf2 : w3.frozen? ⟨w.heap.size, 2, none⟩ = false := (HX3.out 2 _ rfl).2
  have tf3 : w3.frozen? ⟨w.heap.size, 3, none⟩ = false := (HX3.out 3 _ rfl).2
  have tf4 : w3.frozen? ⟨w.heap.size, 4, none⟩ = false := (HX3.out 4 _ rfl).2
  have tf5 : w3.frozen? ⟨w.heap.size, 5, none⟩ = false := (HX3.out 5 _ rfl).2
  have tf6 : w3.frozen? ⟨w.heap.size, 6, none⟩ = false := (HX3.out 6 _ rfl).2
  go_upto_region 3 with fail
  refine wp_name fun W4 hW4 => ?_
  have bx4 : Box W4 (w.heap.size) [.string x.key, .int .i64 x.v.kind, .string x.v.s, .slice xA1 n1 xc1, .slice xA2 n2 xc2, .slice xA3 n3 xc3, .int .i64 x.at_] := by
    rw [hW4]
    exact box7 (by go_simp) (by go_simp) (by go_simp) (by go_simp) (by go_simp) (by go_simp) (by go_simp) (by go_simp) (by go_simp) (by go_simp) (by go_simp) (by go_simp) (by go_simp) (by go_simp)
  have far4 : ∀ k, w.heap.size ≠ k → W4.heap[k]? = w3.heap[k]? := fun k hk => by
    rw [hW4]
    repeat rw [Below.heap_setCell _ _ _ _ (fun e => hk e.symm)]
  have B4 : Below w.heap.size w W4 := by
    rw [hW4]
    repeat (refine Below.setCell ?_ ?_ _)
    all_goals (first | exact HB3.out | exact Nat.le_refl _)
  have s4 : W4.heap.size = w3.heap.size := by rw [hW4]; simp
  have z4 : w.heap.size < W4.heap.size := by rw [s4]; exact z3
  have r4 : Row kEntry (fun _ => True) W4 A2 cl := Hr3.out.move fun k hk hlt => ⟨far4 k hk, trivial⟩
  have hk4 : kEntry.R (fun _ => True) W4 (fewE x) [.string x.key, .int .i64 x.v.kind, .string x.v.s, .slice xA1 n1 xc1, .slice xA2 n2 xc2, .slice xA3 n3 xc3, .int .i64 x.at_] := by
    obtain ⟨_, _, _, _, _, _, _, hkey, _⟩ := HBX.out
    have hr := HR3.out
    rw [N1.out, N2.out, N3.out] at hr ⊢
    exact ⟨xA1, xc1, xA2, xc2, xA3, xc3, rfl, hkey, kVal.move (S := fun k => S k ∧ k < w.heap.size) (fun k hk _ => ⟨far4 k (Nat.ne_of_gt hk.2), trivial⟩) hr⟩
  clear t0 t1 t2 t3 t4 t5 t6 tf0 tf1 tf2 tf3 tf4 tf5 tf6 hW4 s4 z3 far4
  have hP : Calls Tryz.prog 8 #[.slice A2 cl.length c2, .agg #[.string x.key, .int .i64 x.v.kind, .string x.v.s, .slice xA1 n1 xc1, .slice xA2 n2 xc2, .slice xA3 n3 xc3, .int .i64 x.at_]] W4 (PutPost cl (fewE x) W4) := Put r4 hk4 HFC.out (few_fits x.v)
  have HB4 := Lib.hid B4
  have Hr4 := Lib.hid r4
  have Hk4 := Lib.hid hk4
  have HX4 := Lib.hid bx4
  clear B4 r4 hk4 bx4 HX3 HB3 Hr3 HR3
  have t0 : W4.cell? ⟨w.heap.size, 0, none⟩ = some (.string x.key) := (HX4.out 0 _ rfl).1
  have t1 : W4.cell? ⟨w.heap.size, 1, none⟩ = some (.int .i64 x.v.kind) := (HX4.out 1 _ rfl).1
  have t2 : W4.cell? ⟨w.heap.size, 2, none⟩ = some (.string x.v.s) := (HX4.out 2 _ rfl).1
  have t3 : W4.cell? ⟨w.heap.size, 3, none⟩ = some (.slice xA1 n1 xc1) := (HX4.out 3 _ rfl).1
  have t4 : W4.cell? ⟨w.heap.size, 4, none⟩ = some (.slice xA2 n2 xc2) := (HX4.out 4 _ rfl).1
  have t5 : W4.cell? ⟨w.heap.size, 5, none⟩ = some (.slice xA3 n3 xc3) := (HX4.out 5 _ rfl).1
  have t6 : W4.cell? ⟨w.heap.size, 6, none⟩ = some (.int .i64 x.at_) := (HX4.out 6 _ rfl).1
  go_wp2_with fail
  refine hP.mono ?_
  clear hP t0 t1 t2 t3 t4 t5 t6
  rintro e w5 ⟨v5, zs, f, rfl, o5, hrel, b5⟩
  have B5 := below_trans' HB4.out b5
  have z5 : w.heap.size < w5.heap.size := Nat.lt_of_lt_of_le z4 b5.size
  have HREL := Lib.hid hrel
  have HO5 := Lib.hid o5
  have HX5 := Lib.hid (HX4.out.below b5)
  have Hr5 := Lib.hid (Hr4.out.move (below_moves b5))
  have Hk5 := Lib.hid (kEntry.move (below_moves b5) Hk4.out)
  have HB5 := Lib.hid B5
  clear hrel o5 b5 B5 z4 HX4 Hr4 Hk4 HB4
  by_cases hf : f = 0
  · subst hf
    have hzl : zs.length ≤ 140737488355328 := fits_len (put_fits HREL.out HFC.out (few_fits x.v))
    obtain ⟨A5, c5, he, q3, q4, r5⟩ := HO5.out.row hzl
    subst he
    have HZF := Lib.hid (put_fits HREL.out HFC.out (few_fits x.v))
    have HR5 := Lib.hid r5
    have Hq3 := Lib.hid q3
    have Hq4 := Lib.hid q4
    clear r5 HO5 hzl q3 q4
    have hFi := Find (fewE x).key HR5.out Hq3.out Hq4.out HZF.out
    unfold FindPost at hFi
    rw [put_found HREL.out] at hFi
    have t0 : w5.cell? ⟨w.heap.size, 0, none⟩ = some (.string x.key) := (HX5.out 0 _ rfl).1
    go_wp2_with fail
    refine hFi.mono ?_
    clear hFi t0
    rintro e w6 ⟨ds6, rfl, R6, b6⟩
    have R6' := R6
    obtain ⟨dA1, dc1, dA2, dc2, dA3, dc3, rfl, _⟩ := R6'
    have B6 := below_trans' HB5.out b6
    have z6 : w.heap.size < w6.heap.size := Nat.lt_of_lt_of_le z5 b6.size
    have HX6 := Lib.hid (HX5.out.below b6)
    have Hr6 := Lib.hid (Hr5.out.move (below_moves b6))
    have Hk6 := Lib.hid (kEntry.move (below_moves b6) Hk5.out)
    have HR6 := Lib.hid (HR5.out.move (below_moves b6))
    have HF6 := Lib.hid R6
    have HB6 := Lib.hid B6
    clear R6 B6 b6 z5 HX5 Hr5 Hk5 HR5 HB5
    go_upto_region 7 with fail
    refine wp_name fun W7 hW7 => ?_
    have bx7 : Box W7 (w6.heap.size) [.string (fewE x).key, .int .i64 (fewE x).v.kind, .string (fewE x).v.s, .slice dA1 (fewE x).v.l.length dc1, .slice dA2 (fewE x).v.z.length dc2, .slice dA3 (fewE x).v.h.length dc3, .int .i64 (fewE x).at_] := by
      rw [hW7]
      exact box7 (by go_simp) (by go_simp) (by go_simp) (by go_simp) (by go_simp) (by go_simp) (by go_simp) (by go_simp) (by go_simp) (by go_simp) (by go_simp) (by go_simp) (by go_simp) (by go_simp)
    have belW7 : Below w6.heap.size w6 W7 := by
      rw [hW7]
      repeat (refine Below.setCell ?_ ?_ _)
      all_goals (first | exact Nat.le_refl _ | exact (Below.refl _ _).alloc (Nat.le_refl _) _)
    clear hW7
    have HX7 := Lib.hid (HX6.out.below belW7)
    have Hr7 := Lib.hid (Hr6.out.move (below_moves belW7))
    have Hk7 := Lib.hid (kEntry.move (below_moves belW7) Hk6.out)
    have HR7 := Lib.hid (HR6.out.move (below_moves belW7))
    have HF7 := Lib.hid (kEntry.move (below_moves belW7) HF6.out)
    have HB7 := Lib.hid (below_trans' HB6.out belW7)
    have z7 : w.heap.size < W7.heap.size := Nat.lt_of_lt_of_le z6 belW7.size
    have HY7 := Lib.hid bx7
    clear bx7 belW7 z6 HX6 Hr6 Hk6 HR6 HF6 HB6
    have hS := same_pair HF7.out Hk7.out
    rw [eqE_refl] at hS
    have t0 : W7.cell? ⟨w.heap.size, 0, none⟩ = some (.string x.key) := (HX7.out 0 _ rfl).1
    have t1 : W7.cell? ⟨w.heap.size, 1, none⟩ = some (.int .i64 x.v.kind) := (HX7.out 1 _ rfl).1
    have t2 : W7.cell? ⟨w.heap.size, 2, none⟩ = some (.string x.v.s) := (HX7.out 2 _ rfl).1
    have t3 : W7.cell? ⟨w.heap.size, 3, none⟩ = some (.slice xA1 n1 xc1) := (HX7.out 3 _ rfl).1
    have t4 : W7.cell? ⟨w.heap.size, 4, none⟩ = some (.slice xA2 n2 xc2) := (HX7.out 4 _ rfl).1
    have t5 : W7.cell? ⟨w.heap.size, 5, none⟩ = some (.slice xA3 n3 xc3) := (HX7.out 5 _ rfl).1
    have t6 : W7.cell? ⟨w.heap.size, 6, none⟩ = some (.int .i64 x.at_) := (HX7.out 6 _ rfl).1
    have u0 : W7.cell? ⟨w6.heap.size, 0, none⟩ = some (.string (fewE x).key) := (HY7.out 0 _ rfl).1
    have u1 : W7.cell? ⟨w6.heap.size, 1, none⟩ = some (.int .i64 (fewE x).v.kind) := (HY7.out 1 _ rfl).1
    have u2 : W7.cell? ⟨w6.heap.size, 2, none⟩ = some (.string (fewE x).v.s) := (HY7.out 2 _ rfl).1
    have u3 : W7.cell? ⟨w6.heap.size, 3, none⟩ = some (.slice dA1 (fewE x).v.l.length dc1) := (HY7.out 3 _ rfl).1
    have u4 : W7.cell? ⟨w6.heap.size, 4, none⟩ = some (.slice dA2 (fewE x).v.z.length dc2) := (HY7.out 4 _ rfl).1
    have u5 : W7.cell? ⟨w6.heap.size, 5, none⟩ = some (.slice dA3 (fewE x).v.h.length dc3) := (HY7.out 5 _ rfl).1
    have u6 : W7.cell? ⟨w6.heap.size, 6, none⟩ = some (.int .i64 (fewE x).at_) := (HY7.out 6 _ rfl).1
    go_wp2_with fail
    refine hS.mono ?_
    rintro e w8 ⟨rfl, b8⟩
    clear hS t0 t1 t2 t3 t4 t5 t6 u0 u1 u2 u3 u4 u5 u6 HY7 HF7
    have HX8 := Lib.hid (HX7.out.below b8)
    have Hr8 := Lib.hid (Hr7.out.move (below_moves b8))
    have HR8 := Lib.hid (HR7.out.move (below_moves b8))
    have HB8 := Lib.hid (below_trans' HB7.out b8)
    have z8 : w.heap.size < w8.heap.size := Nat.lt_of_lt_of_le z7 b8.size
    clear b8 HX7 Hr7 HR7 HB7 z7 Hk7
    have hCk := rCheck (c := c5) HR8.out
    rw [(img_iff zs).2 (put_img HREL.out).2.2.1] at hCk
    go_wp2_with fail
    refine hCk.mono ?_
    rintro e w9 ⟨rfl, b9⟩
    clear hCk
    have HX9 := Lib.hid (HX8.out.below b9)
    have Hr9 := Lib.hid (Hr8.out.move (below_moves b9))
    have HR9 := Lib.hid (HR8.out.move (below_moves b9))
    have HB9 := Lib.hid (below_trans' HB8.out b9)
    have z9 : w.heap.size < w9.heap.size := Nat.lt_of_lt_of_le z8 b9.size
    clear b9 HX8 Hr8 HR8 HB8 z8
    cases hkb : keyB x.key (⟨key, x.v, 0⟩ : DEntry) with
    | false =>
      have hke : key ≠ (fewE x).key := fun e => by rw [keyB_iff.2 e] at hkb; cases hkb
      have hFo := Find (c := c5) key HR9.out Hq3.out Hq4.out HZF.out
      unfold FindPost at hFo
      rw [put_other HREL.out hke] at hFo
      have hRo := fun (W : World) (hb : Below w9.heap.size w9 W) => rFind (c := c2) key (Hr9.out.move (below_moves hb))
      unfold RFindPost at hRo
      obtain ⟨y, hy⟩ : ∃ y, y = (findD cl key).1 := ⟨_, rfl⟩
      obtain ⟨ob, hob⟩ : ∃ ob, ob = (findD cl key).2 := ⟨_, rfl⟩
      rw [← hy, ← hob] at hFo
      simp only [← hy, ← hob] at hRo
      clear hy hob
      have HRO := Lib.hid hRo
      have t1 : (key.toList == x.key.toList) = false := hkb
      have t2 : (!(key.toList == x.key.toList)) = true := by rw [t1]; rfl
      clear hRo hke hkb
      have t0 : w9.cell? ⟨w.heap.size, 0, none⟩ = some (.string x.key) := (HX9.out 0 _ rfl).1
      go_wp2_with fail
      refine hFo.mono ?_
      clear hFo t0 t1 t2
      rintro e w10 ⟨ds10, rfl, R10, b10⟩
      have R10' := R10
      obtain ⟨dA1, dc1, dA2, dc2, dA3, dc3, rfl, _⟩ := R10'
      have HF10 := Lib.hid R10
      have HG10 := Lib.hid b10
      clear R10 b10
      go_upto_region 11 with fail
      refine wp_name fun W11 hW11 => ?_
      have bx11 : Box W11 (w10.heap.size) [.string y.key, .int .i64 y.v.kind, .string y.v.s, .slice dA1 y.v.l.length dc1, .slice dA2 y.v.z.length dc2, .slice dA3 y.v.h.length dc3, .int .i64 y.at_] := by
        rw [hW11]
        exact box7 (by go_simp) (by go_simp) (by go_simp) (by go_simp) (by go_simp) (by go_simp) (by go_simp) (by go_simp) (by go_simp) (by go_simp) (by go_simp) (by go_simp) (by go_simp) (by go_simp)
      have belW11 : Below w10.heap.size w10 W11 := by
        rw [hW11]
        repeat (refine Below.setCell ?_ ?_ _)
        all_goals (first | exact Nat.le_refl _ | exact (Below.refl _ _).alloc (Nat.le_refl _) _)
      clear hW11
      have HG11 := Lib.hid (below_trans' HG10.out belW11)
      have HF11 := Lib.hid (kEntry.move (below_moves belW11) HF10.out)
      have HY11 := Lib.hid bx11
      clear belW11 bx11 HF10
      have hRo := HRO.out _ HG11.out
      go_wp2_with fail
      refine hRo.mono ?_
      clear hRo HRO
      rintro e w12 ⟨ds12, rfl, R12, b12⟩
      have R12' := R12
      obtain ⟨gA1, gc1, gA2, gc2, gA3, gc3, rfl, _⟩ := R12'
      have HG12 := Lib.hid (below_trans' HG11.out b12)
      have HF12 := Lib.hid (kEntry.move (below_moves b12) HF11.out)
      have HE12 := Lib.hid (kEntry.move (S' := fun _ => True) (fun k _ _ => ⟨rfl, trivial⟩) R12)
      have HY12 := Lib.hid (HY11.out.below b12)
      have z12 : w10.heap.size < w12.heap.size := Nat.lt_of_lt_of_le (World.block_lt_of_cell? W11 _ (HY11.out 0 _ rfl).1) b12.size
      clear R12 b12 HF11 HG11 HY11
      go_upto_region 12 with fail
      refine wp_name fun W13 hW13 => ?_
      have bx13 : Box W13 (w12.heap.size) [.string y.key, .int .i64 y.v.kind, .string y.v.s, .slice gA1 y.v.l.length gc1, .slice gA2 y.v.z.length gc2, .slice gA3 y.v.h.length gc3, .int .i64 y.at_] := by
        rw [hW13]
        exact box7 (by go_simp) (by go_simp) (by go_simp) (by go_simp) (by go_simp) (by go_simp) (by go_simp) (by go_simp) (by go_simp) (by go_simp) (by go_simp) (by go_simp) (by go_simp) (by go_simp)
      have belW13 : Below w12.heap.size w12 W13 := by
        rw [hW13]
        repeat (refine Below.setCell ?_ ?_ _)
        all_goals (first | exact Nat.le_refl _ | exact (Below.refl _ _).alloc (Nat.le_refl _) _)
      clear hW13
      have HG13 := Lib.hid (below_trans' HG12.out belW13)
      have HF13 := Lib.hid (kEntry.move (below_moves belW13) HF12.out)
      have HE13 := Lib.hid (kEntry.move (below_moves belW13) HE12.out)
      have HY13 := Lib.hid (HY12.out.below belW13)
      have HZ13 := Lib.hid bx13
      clear belW13 bx13 HF12 HE12 HG12 HY12
      have hS := same_pair HF13.out HE13.out
      rw [eqE_refl] at hS
      have z13 : w12.heap.size < W13.heap.size := World.block_lt_of_cell? W13 _ (HZ13.out 0 _ rfl).1
      have e1 : (ob == ob) = true := by simp
      have e2 : (ob != ob) = false := by simp
      have t0 : W13.cell? ⟨w10.heap.size, 0, none⟩ = some (.string y.key) := (HY13.out 0 _ rfl).1
      have t1 : W13.cell? ⟨w10.heap.size, 1, none⟩ = some (.int .i64 y.v.kind) := (HY13.out 1 _ rfl).1
      have t2 : W13.cell? ⟨w10.heap.size, 2, none⟩ = some (.string y.v.s) := (HY13.out 2 _ rfl).1
      have t3 : W13.cell? ⟨w10.heap.size, 3, none⟩ = some (.slice dA1 y.v.l.length dc1) := (HY13.out 3 _ rfl).1
      have t4 : W13.cell? ⟨w10.heap.size, 4, none⟩ = some (.slice dA2 y.v.z.length dc2) := (HY13.out 4 _ rfl).1
      have t5 : W13.cell? ⟨w10.heap.size, 5, none⟩ = some (.slice dA3 y.v.h.length dc3) := (HY13.out 5 _ rfl).1
      have t6 : W13.cell? ⟨w10.heap.size, 6, none⟩ = some (.int .i64 y.at_) := (HY13.out 6 _ rfl).1
      have u0 : W13.cell? ⟨w12.heap.size, 0, none⟩ = some (.string y.key) := (HZ13.out 0 _ rfl).1
      have u1 : W13.cell? ⟨w12.heap.size, 1, none⟩ = some (.int .i64 y.v.kind) := (HZ13.out 1 _ rfl).1
      have u2 : W13.cell? ⟨w12.heap.size, 2, none⟩ = some (.string y.v.s) := (HZ13.out 2 _ rfl).1
      have u3 : W13.cell? ⟨w12.heap.size, 3, none⟩ = some (.slice gA1 y.v.l.length gc1) := (HZ13.out 3 _ rfl).1
      have u4 : W13.cell? ⟨w12.heap.size, 4, none⟩ = some (.slice gA2 y.v.z.length gc2) := (HZ13.out 4 _ rfl).1
      have u5 : W13.cell? ⟨w12.heap.size, 5, none⟩ = some (.slice gA3 y.v.h.length gc3) := (HZ13.out 5 _ rfl).1
      have u6 : W13.cell? ⟨w12.heap.size, 6, none⟩ = some (.int .i64 y.at_) := (HZ13.out 6 _ rfl).1
      go_wp2_with fail
      refine hS.mono ?_
      rintro e w14 ⟨rfl, b14⟩
      clear hS t0 t1 t2 t3 t4 t5 t6 u0 u1 u2 u3 u4 u5 u6 HY13 HZ13 HF13 HE13 e1 e2
      have B14 := below_trans' HG13.out b14
      have HX14 := Lib.hid (HX9.out.below B14)
      have HR14 := Lib.hid (HR9.out.move (below_moves B14))
      have HB14 := Lib.hid (below_trans' HB9.out B14)
      clear B14 b14 HX9 HR9 HB9 HG13 Hr9
      have hD := Del (c := c5) (fewE x).key HR14.out HZF.out
      unfold DelPost at hD
      rw [(put_del HREL.out).1] at hD
      have t0 : w14.cell? ⟨w.heap.size, 0, none⟩ = some (.string x.key) := (HX14.out 0 _ rfl).1
      go_wp2_with fail
      refine hD.mono ?_
      clear hD t0
      rintro e w20 ⟨v20, rfl, o20, b20⟩
      have hdf := del_fits HZF.out (fewE x).key
      obtain ⟨A20, c20, he, q5, q6, r20⟩ := o20.row (fits_len hdf)
      subst he
      have HX20 := Lib.hid (HX14.out.below b20)
      have HB20 := Lib.hid (below_trans' HB14.out b20)
      have HR20 := Lib.hid r20
      have hFj := Find (fewE x).key r20 q5 q6 hdf
      have hleft := (put_del HREL.out).2.1
      have hchk := (put_del HREL.out).2.2
      unfold FindPost at hFj
      rw [hleft] at hFj
      have HCH := Lib.hid hchk
      clear o20 b20 q5 q6 r20 hdf hleft hchk HX14 HB14
      obtain ⟨dl, hdl⟩ : ∃ dl, dl = (delD zs (fewE x).key).1 := ⟨_, rfl⟩
      rw [← hdl] at HR20 HCH hFj ⊢
      clear hdl
      have t0 : w20.cell? ⟨w.heap.size, 0, none⟩ = some (.string x.key) := (HX20.out 0 _ rfl).1
      go_wp2_with fail
      refine hFj.mono ?_
      clear hFj t0
      rintro e w21 ⟨ds21, rfl, R21, b21⟩
      obtain ⟨gA1, gc1, gA2, gc2, gA3, gc3, rfl, _⟩ := R21
      have HB21 := Lib.hid (below_trans' HB20.out b21)
      have HR21 := Lib.hid (HR20.out.move (below_moves b21))
      clear b21 HB20 HR20 HX20
      go_upto_region 16 with fail
      refine wp_name fun W22 hW22 => ?_
      have belW22 : Below w21.heap.size w21 W22 := by
        rw [hW22]
        repeat (refine Below.setCell ?_ ?_ _)
        all_goals (first | exact Nat.le_refl _ | exact (Below.refl _ _).alloc (Nat.le_refl _) _)
      clear hW22
      have HB22 := Lib.hid (below_trans' HB21.out belW22)
      have hCj := rCheck (c := c20) (HR21.out.move (below_moves belW22))
      rw [HCH.out] at hCj
      clear belW22 HB21 HR21
      go_wp2_with fail
      refine hCj.mono ?_
      rintro e w23 ⟨rfl, b23⟩
      clear hCj
      have B23 := below_trans' HB22.out b23
      have hAe := hA w23 B23
      have HB23 := Lib.hid B23
      clear hA B23 b23 HB22
      go_wp2_with fail
      refine hAe.mono ?_
      rintro e w24 ⟨rfl, b24⟩
      clear hAe
      go_wp2
      go_ret
      exact ⟨rfl, below_trans' HB23.out b24⟩
    | true =>
      have t1 : (key.toList == x.key.toList) = true := hkb
      have t2 : (!(key.toList == x.key.toList)) = false := by rw [t1]; rfl
      clear hkb Hr9
      have t0 : w9.cell? ⟨w.heap.size, 0, none⟩ = some (.string x.key) := (HX9.out 0 _ rfl).1
      go_upto_region 14 with fail
      clear t0 t1 t2
      have hD := Del (c := c5) (fewE x).key HR9.out HZF.out
      unfold DelPost at hD
      rw [(put_del HREL.out).1] at hD
      have t0 : w9.cell? ⟨w.heap.size, 0, none⟩ = some (.string x.key) := (HX9.out 0 _ rfl).1
      go_wp2_with fail
      refine hD.mono ?_
      clear hD t0
      rintro e w20 ⟨v20, rfl, o20, b20⟩
      have hdf := del_fits HZF.out (fewE x).key
      obtain ⟨A20, c20, he, q5, q6, r20⟩ := o20.row (fits_len hdf)
      subst he
      have HX20 := Lib.hid (HX9.out.below b20)
      have HB20 := Lib.hid (below_trans' HB9.out b20)
      have HR20 := Lib.hid r20
      have hFj := Find (fewE x).key r20 q5 q6 hdf
      have hleft := (put_del HREL.out).2.1
      have hchk := (put_del HREL.out).2.2
      unfold FindPost at hFj
      rw [hleft] at hFj
      have HCH := Lib.hid hchk
      clear o20 b20 q5 q6 r20 hdf hleft hchk HX9 HB9
      obtain ⟨dl, hdl⟩ : ∃ dl, dl = (delD zs (fewE x).key).1 := ⟨_, rfl⟩
      rw [← hdl] at HR20 HCH hFj ⊢
      clear hdl
      have t0 : w20.cell? ⟨w.heap.size, 0, none⟩ = some (.string x.key) := (HX20.out 0 _ rfl).1
      go_wp2_with fail
      refine hFj.mono ?_
      clear hFj t0
      rintro e w21 ⟨ds21, rfl, R21, b21⟩
      obtain ⟨gA1, gc1, gA2, gc2, gA3, gc3, rfl, _⟩ := R21
      have HB21 := Lib.hid (below_trans' HB20.out b21)
      have HR21 := Lib.hid (HR20.out.move (below_moves b21))
      clear b21 HB20 HR20 HX20
      go_upto_region 16 with fail
      refine wp_name fun W22 hW22 => ?_
      have belW22 : Below w21.heap.size w21 W22 := by
        rw [hW22]
        repeat (refine Below.setCell ?_ ?_ _)
        all_goals (first | exact Nat.le_refl _ | exact (Below.refl _ _).alloc (Nat.le_refl _) _)
      clear hW22
      have HB22 := Lib.hid (below_trans' HB21.out belW22)
      have hCj := rCheck (c := c20) (HR21.out.move (below_moves belW22))
      rw [HCH.out] at hCj
      clear belW22 HB21 HR21
      go_wp2_with fail
      refine hCj.mono ?_
      rintro e w23 ⟨rfl, b23⟩
      clear hCj
      have B23 := below_trans' HB22.out b23
      have hAe := hA w23 B23
      have HB23 := Lib.hid B23
      clear hA B23 b23 HB22
      go_wp2_with fail
      refine hAe.mono ?_
      rintro e w24 ⟨rfl, b24⟩
      clear hAe
      go_wp2
      go_ret
      exact ⟨rfl, below_trans' HB23.out b24⟩
  · have hzs := put_bad HREL.out hf
    subst hzs
    have t1 : (f == 0) = false := by simp [hf]
    have t2 : (f != 0) = true := by simp [hf]
    obtain ⟨A5, c5, he, _, _, _⟩ := HO5.out.row (by simp)
    subst he
    have hA5 := hA w5 HB5.out
    clear hf hA
    go_wp2_with (go_at_call 9; refine hA5.mono ?_; rintro e w9 ⟨rfl, b9⟩)
    go_ret
    exact ⟨rfl, below_trans' HB5.out b9⟩
end Go.Proofs.YtkgghnjpegpnlaaGreatDoor
