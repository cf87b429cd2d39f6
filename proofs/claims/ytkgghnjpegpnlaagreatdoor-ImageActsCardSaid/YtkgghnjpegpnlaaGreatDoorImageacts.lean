/- The walk of millpondlaw09.ImageActs: it returns true. Conditions: what is read reads as the data; 'alive' returns true. -/
import Derived.Test.YtkgghnjpegpnlaaGreatDoorImageput
import Derived.Test.YtkgghnjpegpnlaaGreatDoorRput
import Derived.Test.YtkgghnjpegpnlaaGreatDoorLive
namespace Go.Proofs.YtkgghnjpegpnlaaGreatDoor
open Go.RowKit Go.Proofs
set_option linter.unusedSimpArgs false
set_option linter.unusedVariables false
set_option maxRecDepth 100000

theorem Own.some_form {α : Type} {d : Kd α} {e : TypeId} {S : Nat → Prop} {w : World} {base : Nat} {v : Value} {xs : List α} (h : Own d e S w base v xs) : ∀ A m c, v = .slice A m c → SlForm A c := by
  rintro A m c rfl
  exact h.formS

theorem put_len {l : List DEntry} {e : DEntry} {zs : List DEntry} {f : Int} (h : PutRel l e zs f) (hl : l.length ≤ 20) : zs.length ≤ 21 := by
  by_cases hc : checkN l = 0
  · cases he : entryB e with
    | false =>
      rw [(h.2.1 hc he).1]
      simp
    | true =>
      obtain ⟨i, b, hF, h1, h2, h3⟩ := h.2.2 hc he
      cases b with
      | true =>
        rw [(h1 rfl).2, List.length_set]
        omega
      | false =>
        rw [(h3 rfl (by omega)).2, List.length_append, List.length_cons, List.length_take, List.length_drop]
        have := hF.1
        omega
  · rw [(h.1 hc).1]
    simp

/-- The reference makes the same of a row. -/
theorem put_same {l : List DEntry} {e : DEntry} {zs zs' : List DEntry} {f f' : Int} (h : PutRel l e zs f) (k : RPutRel l e zs' f') (hl : l.length ≤ 20) : zs' = zs ∧ f' = f := by
  by_cases hc : checkN l = 0
  · cases he : entryB e with
    | false =>
      obtain ⟨h1, h2⟩ := h.2.1 hc he
      obtain ⟨k1, k2⟩ := k.2.1 hc he
      exact ⟨k1.trans h1.symm, k2.trans h2.symm⟩
    | true =>
      obtain ⟨i, b, ⟨hi, hlo, hhi, hb⟩, h1, h2, h3⟩ := h.2.2 hc he
      obtain ⟨k1, p, q, hp, hq, klo, khi, kq, rfl⟩ := k.2.2 hc he
      have hpi : p = i := by
        rcases Nat.lt_trichotomy p i with hlt | rfl | hlt
        · have hx : l[p]? = some l[p] := List.getElem?_eq_getElem (by omega)
          have a1 : cmpS (l[p].key) e.key < 0 := hlo p _ hlt hx
          have a2 := khi _ hx
          omega
        · rfl
        · have hx : l[i]? = some l[i] := List.getElem?_eq_getElem (by omega)
          have a1 := klo i _ hlt hx
          have a2 : 0 ≤ cmpS (l[i].key) e.key := hhi i _ (Nat.le_refl _) hx
          omega
      subst hpi
      cases b with
      | true =>
        obtain ⟨x, hx, hx0⟩ := hb.1 rfl
        obtain ⟨e1, e2⟩ := h1 rfl
        rcases kq with ⟨_, hne⟩ | ⟨rfl, _⟩
        · exact absurd (cmpS_zero.1 hx0) (hne x hx)
        · have hpl : p < l.length := (List.getElem?_eq_some_iff.1 hx).1
          refine ⟨?_, k1.trans e1.symm⟩
          rw [e2, List.set_eq_take_append_cons_drop, if_pos hpl]
      | false =>
        obtain ⟨e1, e2⟩ := h3 rfl (by omega)
        rcases kq with ⟨rfl, _⟩ | ⟨_, x, hx, hxk⟩
        · exact ⟨e2.symm, k1.trans e1.symm⟩
        · have := hb.2 ⟨x, hx, cmpS_zero.2 hxk⟩
          cases this
  · obtain ⟨h1, h2⟩ := h.1 hc
    obtain ⟨k1, k2⟩ := k.1 hc
    exact ⟨k1.trans h1.symm, k2.trans h2.symm⟩

set_option maxHeartbeats 4000000 in
theorem imageActs {S : Nat → Prop} {A : Option Addr} {l : List DEntry} {c : Nat} {x : DEntry} {xA1 xA2 xA3 : Option Addr} {xc1 xc2 xc3 : Nat} {w : World} (key : ByteArray) (now : Int) (hA : AliveC w) (h : Row kEntry S w A l) (hx : kEntry.R S w x [.string x.key, .int .i64 x.v.kind, .string x.v.s, .slice xA1 x.v.l.length xc1, .slice xA2 x.v.z.length xc2, .slice xA3 x.v.h.length xc3, .int .i64 x.at_]) :
    Calls Tryz.prog 4 #[.slice A l.length c, .agg #[.string x.key, .int .i64 x.v.kind, .string x.v.s, .slice xA1 x.v.l.length xc1, .slice xA2 x.v.z.length xc2, .slice xA3 x.v.h.length xc3, .int .i64 x.at_], .string key, .int .i64 now] w fun e w' => e = .returned (.bool true) ∧ Below w.heap.size w w' := by
  have hlen := h.1
  go_enter Tryz.func4, Tryz.ntmps4
  go_upto_region 1 with fail
  refine wp_name fun W1 hW1 => ?_
  have bx1 : Box W1 (w.heap.size) [.string x.key, .int .i64 x.v.kind, .string x.v.s, .slice xA1 x.v.l.length xc1, .slice xA2 x.v.z.length xc2, .slice xA3 x.v.h.length xc3, .int .i64 x.at_] := by
    rw [hW1]
    exact box7 (by go_simp) (by go_simp) (by go_simp) (by go_simp) (by go_simp) (by go_simp) (by go_simp) (by go_simp) (by go_simp) (by go_simp) (by go_simp) (by go_simp) (by go_simp) (by go_simp)
  have B1 : Below w.heap.size w W1 := by
    rw [hW1]
    exact (Below.refl _ _).alloc (Nat.le_refl _) _
  have z1 : w.heap.size < W1.heap.size := by rw [hW1]; simp
  clear hW1
  have hC := cut (c := c) (h.old.move (below_moves B1))
  have HX1 := Lib.hid bx1
  have HBX := Lib.hid (Kd.old hx)
  have HH := Lib.hid h
  have HB1 := Lib.hid B1
  clear h bx1 hx B1
  go_wp2_with fail
  refine hC.mono ?_
  clear hC
  rintro e w2 ⟨v, rfl, o2, b2⟩
  have hcl : (cutD l).length ≤ 140737488355328 := fits_len (cut_fits l)
  have hform := o2.some_form
  obtain ⟨A2, c2, he, q1, q2, r2⟩ := Own.slice o2 hcl
  subst he
  replace hform : SlForm A2 c2 := hform _ _ _ rfl
  have r2' : Row kEntry (fun k => w.heap.size ≠ k) w2 A2 (cutD l) := r2.move fun k hk hlt => ⟨rfl, by
    rcases hk with hk | hk
    · have := hk.1.1.2
      omega
    · have := (ownsRow_base o2.choose_spec.1 k hk).1
      omega⟩
  have HR2 := Lib.hid r2'
  have b2' := below_trans' HB1.out b2
  have HB2 := Lib.hid b2'
  have bx2 := HX1.out.below b2
  have z2 : w.heap.size < w2.heap.size := Nat.lt_of_lt_of_le z1 b2.size
  have fitc := cut_fits l
  have h20 : (cutD l).length ≤ 20 := by unfold cutD; simp only [List.length_map, List.length_take]; omega
  obtain ⟨cl, hcl'⟩ : ∃ cl, cl = cutD l := ⟨_, rfl⟩
  rw [← hcl'] at HR2 q1 hcl fitc h20 ⊢
  have HFC := Lib.hid fitc
  have H1q := Lib.hid q1
  have H2q := Lib.hid q2
  have H20 := Lib.hid h20
  have HFM := Lib.hid hform
  clear r2 r2' o2 b2 b2' hcl' HX1 fitc z1 q1 q2 hcl h20 hform
  have HX2 := Lib.hid bx2
  clear bx2
  have t1 : w2.cell? ⟨w.heap.size, 1, none⟩ = some (.int .i64 x.v.kind) := (HX2.out 1 _ rfl).1
  have t2 : w2.cell? ⟨w.heap.size, 2, none⟩ = some (.string x.v.s) := (HX2.out 2 _ rfl).1
  have t3 : w2.cell? ⟨w.heap.size, 3, none⟩ = some (.slice xA1 x.v.l.length xc1) := (HX2.out 3 _ rfl).1
  have t4 : w2.cell? ⟨w.heap.size, 4, none⟩ = some (.slice xA2 x.v.z.length xc2) := (HX2.out 4 _ rfl).1
  have t5 : w2.cell? ⟨w.heap.size, 5, none⟩ = some (.slice xA3 x.v.h.length xc3) := (HX2.out 5 _ rfl).1
  have hF := few (kVal.move (below_moves HB2.out) (entry_val HBX.out))
  go_wp2_with fail
  refine hF.mono ?_
  clear hF t1 t2 t3 t4 t5
  rintro e w3 ⟨rfl, R3, b3⟩
  replace R3 := kVal.move (below_moves b3) R3
  obtain ⟨n1, hn1⟩ : ∃ n1, n1 = (fewD x.v).l.length := ⟨_, rfl⟩
  obtain ⟨n2, hn2⟩ : ∃ n2, n2 = (fewD x.v).z.length := ⟨_, rfl⟩
  obtain ⟨n3, hn3⟩ : ∃ n3, n3 = (fewD x.v).h.length := ⟨_, rfl⟩
  rw [← hn1, ← hn2, ← hn3] at R3 ⊢
  have N1 := Lib.hid hn1
  have N2 := Lib.hid hn2
  have N3 := Lib.hid hn3
  have HR3 := Lib.hid R3
  have HB3 := Lib.hid (below_trans' HB2.out b3)
  have bx3 := HX2.out.below b3
  have r3 := HR2.out.move (below_moves b3)
  have z3 : w.heap.size < w3.heap.size := Nat.lt_of_lt_of_le z2 b3.size
  have Hr3 := Lib.hid r3
  clear hn1 hn2 hn3 R3 b3 HX2 r3 z2 HR2 HB2
  have HX3 := Lib.hid bx3
  clear bx3
  have t0 : w3.cell? ⟨w.heap.size, 0, none⟩ = some (.string x.key) := (HX3.out 0 _ rfl).1
  have t1 : w3.cell? ⟨w.heap.size, 1, none⟩ = some (.int .i64 x.v.kind) := (HX3.out 1 _ rfl).1
  have t2 : w3.cell? ⟨w.heap.size, 2, none⟩ = some (.string x.v.s) := (HX3.out 2 _ rfl).1
  have t3 : w3.cell? ⟨w.heap.size, 3, none⟩ = some (.slice xA1 x.v.l.length xc1) := (HX3.out 3 _ rfl).1
  have t4 : w3.cell? ⟨w.heap.size, 4, none⟩ = some (.slice xA2 x.v.z.length xc2) := (HX3.out 4 _ rfl).1
  have t5 : w3.cell? ⟨w.heap.size, 5, none⟩ = some (.slice xA3 x.v.h.length xc3) := (HX3.out 5 _ rfl).1
  have t6 : w3.cell? ⟨w.heap.size, 6, none⟩ = some (.int .i64 x.at_) := (HX3.out 6 _ rfl).1
  have tf0 : w3.frozen? ⟨w.heap.size, 0, none⟩ = false := (HX3.out 0 _ rfl).2
  have tf1 : w3.frozen? ⟨w.heap.size, 1, none⟩ = false := (HX3.out 1 _ rfl).2
  have tf2 : w3.frozen? ⟨w.heap.size, 2, none⟩ = false := (HX3.out 2 _ rfl).2
  have tf3 : w3.frozen? ⟨w.heap.size, 3, none⟩ = false := (HX3.out 3 _ rfl).2
  have tf4 : w3.frozen? ⟨w.heap.size, 4, none⟩ = false := (HX3.out 4 _ rfl).2
  have tf5 : w3.frozen? ⟨w.heap.size, 5, none⟩ = false := (HX3.out 5 _ rfl).2
  have tf6 : w3.frozen? ⟨w.heap.size, 6, none⟩ = false := (HX3.out 6 _ rfl).2
  go_upto_region 3 with fail
  refine wp_name fun W4 hW4 => ?_
  have bx4 : Box W4 (w.heap.size) [.string x.key, .int .i64 x.v.kind, .string x.v.s, .slice xA1 n1 xc1, .slice xA2 n2 xc2, .slice xA3 n3 xc3, .int .i64 x.at_] := by
    rw [hW4]
    exact box7 (by go_simp) (by go_simp) (by go_simp) (by go_simp) (by go_simp) (by go_simp) (by go_simp) (by go_simp) (by go_simp) (by go_simp) (by go_simp) (by go_simp) (by go_simp) (by go_simp)
  have far4 : ∀ k, w.heap.size ≠ k → W4.heap[k]? = w3.heap[k]? := fun k hk => by
    rw [hW4]
    repeat rw [Below.heap_setCell _ _ _ _ (fun e => hk e.symm)]
  have B4 : Below w.heap.size w W4 := by
    rw [hW4]
    repeat (refine Below.setCell ?_ ?_ _)
    all_goals (first | exact HB3.out | exact Nat.le_refl _)
  have r4 : Row kEntry (fun _ => True) W4 A2 cl := Hr3.out.move fun k hk hlt => ⟨far4 k hk, trivial⟩
  have hk4 : kEntry.R (fun _ => True) W4 (fewE x) [.string x.key, .int .i64 x.v.kind, .string x.v.s, .slice xA1 n1 xc1, .slice xA2 n2 xc2, .slice xA3 n3 xc3, .int .i64 x.at_] := by
    obtain ⟨_, _, _, _, _, _, _, hkey, _⟩ := HBX.out
    have hr := HR3.out
    rw [N1.out, N2.out, N3.out] at hr ⊢
    exact ⟨xA1, xc1, xA2, xc2, xA3, xc3, rfl, hkey, kVal.move (S := fun k => S k ∧ k < w.heap.size) (fun k hk _ => ⟨far4 k (Nat.ne_of_gt hk.2), trivial⟩) hr⟩
  clear t0 t1 t2 t3 t4 t5 t6 tf0 tf1 tf2 tf3 tf4 tf5 tf6 hW4 z3 far4
  have HB := Lib.hid B4
  have HR := Lib.hid r4
  have HK := Lib.hid hk4
  have HX := Lib.hid bx4
  clear B4 r4 hk4 bx4 HX3 HB3 Hr3 HR3
  have hFo := Find (c := c2) key HR.out H1q.out H2q.out HFC.out
  unfold FindPost at hFo
  have hRo := fun (W : World) (hb : Below W4.heap.size W4 W) => rFind (c := c2) key (HR.out.move (below_moves hb))
  unfold RFindPost at hRo
  obtain ⟨y, hy⟩ : ∃ y, y = (findD cl key).1 := ⟨_, rfl⟩
  obtain ⟨ob, hob⟩ : ∃ ob, ob = (findD cl key).2 := ⟨_, rfl⟩
  rw [← hy, ← hob] at hFo
  simp only [← hy, ← hob] at hRo
  clear hy hob
  have HRO := Lib.hid hRo
  clear hRo
  go_wp2_with fail
  refine hFo.mono ?_
  clear hFo
  rintro e w10 ⟨ds10, rfl, R10, b10⟩
  have R10' := R10
  obtain ⟨dA1, dc1, dA2, dc2, dA3, dc3, rfl, _⟩ := R10'
  replace HB := Lib.hid (below_trans' HB.out b10)
  replace HR := Lib.hid (HR.out.move (below_moves b10))
  replace HK := Lib.hid (kEntry.move (below_moves b10) HK.out)
  replace HX := Lib.hid (HX.out.below b10)
  have HF := Lib.hid (kEntry.move (S' := fun _ => True) (fun k _ _ => ⟨rfl, trivial⟩) R10)
  have HG := Lib.hid b10
  clear R10 b10
  go_upto_region 4 with fail
  refine wp_name fun W11 hW11 => ?_
  have bx11 : Box W11 (w10.heap.size) [.string y.key, .int .i64 y.v.kind, .string y.v.s, .slice dA1 y.v.l.length dc1, .slice dA2 y.v.z.length dc2, .slice dA3 y.v.h.length dc3, .int .i64 y.at_] := by
    rw [hW11]
    exact box7 (by go_simp) (by go_simp) (by go_simp) (by go_simp) (by go_simp) (by go_simp) (by go_simp) (by go_simp) (by go_simp) (by go_simp) (by go_simp) (by go_simp) (by go_simp) (by go_simp)
  have belW11 : Below w10.heap.size w10 W11 := by
    rw [hW11]
    repeat (refine Below.setCell ?_ ?_ _)
    all_goals (first | exact Nat.le_refl _ | exact (Below.refl _ _).alloc (Nat.le_refl _) _)
  clear hW11
  replace HB := Lib.hid (below_trans' HB.out belW11)
  replace HR := Lib.hid (HR.out.move (below_moves belW11))
  replace HK := Lib.hid (kEntry.move (below_moves belW11) HK.out)
  replace HX := Lib.hid (HX.out.below belW11)
  replace HF := Lib.hid (kEntry.move (below_moves belW11) HF.out)
  replace HG := Lib.hid (below_trans' HG.out belW11)
  have HY := Lib.hid bx11
  clear belW11 bx11
  have hRo := HRO.out _ HG.out
  go_wp2_with fail
  refine hRo.mono ?_
  clear hRo HRO
  rintro e w12 ⟨ds12, rfl, R12, b12⟩
  have R12' := R12
  obtain ⟨gA1, gc1, gA2, gc2, gA3, gc3, rfl, _⟩ := R12'
  replace HB := Lib.hid (below_trans' HB.out b12)
  replace HR := Lib.hid (HR.out.move (below_moves b12))
  replace HK := Lib.hid (kEntry.move (below_moves b12) HK.out)
  replace HX := Lib.hid (HX.out.below b12)
  replace HF := Lib.hid (kEntry.move (below_moves b12) HF.out)
  replace HG := Lib.hid (below_trans' HG.out b12)
  replace HY := Lib.hid (HY.out.below b12)
  have HE := Lib.hid (kEntry.move (S' := fun _ => True) (fun k _ _ => ⟨rfl, trivial⟩) R12)
  clear R12 b12
  clear HG
  go_upto_region 5 with fail
  refine wp_name fun W13 hW13 => ?_
  have bx13 : Box W13 (w12.heap.size) [.string y.key, .int .i64 y.v.kind, .string y.v.s, .slice gA1 y.v.l.length gc1, .slice gA2 y.v.z.length gc2, .slice gA3 y.v.h.length gc3, .int .i64 y.at_] := by
    rw [hW13]
    exact box7 (by go_simp) (by go_simp) (by go_simp) (by go_simp) (by go_simp) (by go_simp) (by go_simp) (by go_simp) (by go_simp) (by go_simp) (by go_simp) (by go_simp) (by go_simp) (by go_simp)
  have belW13 : Below w12.heap.size w12 W13 := by
    rw [hW13]
    repeat (refine Below.setCell ?_ ?_ _)
    all_goals (first | exact Nat.le_refl _ | exact (Below.refl _ _).alloc (Nat.le_refl _) _)
  clear hW13
  replace HB := Lib.hid (below_trans' HB.out belW13)
  replace HR := Lib.hid (HR.out.move (below_moves belW13))
  replace HK := Lib.hid (kEntry.move (below_moves belW13) HK.out)
  replace HX := Lib.hid (HX.out.below belW13)
  replace HF := Lib.hid (kEntry.move (below_moves belW13) HF.out)
  replace HY := Lib.hid (HY.out.below belW13)
  replace HE := Lib.hid (kEntry.move (below_moves belW13) HE.out)
  have HZ := Lib.hid bx13
  clear belW13 bx13
  have hP : Calls Tryz.prog 8 #[.slice A2 cl.length c2, .agg #[.string x.key, .int .i64 x.v.kind, .string x.v.s, .slice xA1 n1 xc1, .slice xA2 n2 xc2, .slice xA3 n3 xc3, .int .i64 x.at_]] W13 (PutPost cl (fewE x) W13) := Put HR.out HK.out HFC.out (few_fits x.v)
  have t0 : W13.cell? ⟨w.heap.size, 0, none⟩ = some (.string x.key) := (HX.out 0 _ rfl).1
  have t1 : W13.cell? ⟨w.heap.size, 1, none⟩ = some (.int .i64 x.v.kind) := (HX.out 1 _ rfl).1
  have t2 : W13.cell? ⟨w.heap.size, 2, none⟩ = some (.string x.v.s) := (HX.out 2 _ rfl).1
  have t3 : W13.cell? ⟨w.heap.size, 3, none⟩ = some (.slice xA1 n1 xc1) := (HX.out 3 _ rfl).1
  have t4 : W13.cell? ⟨w.heap.size, 4, none⟩ = some (.slice xA2 n2 xc2) := (HX.out 4 _ rfl).1
  have t5 : W13.cell? ⟨w.heap.size, 5, none⟩ = some (.slice xA3 n3 xc3) := (HX.out 5 _ rfl).1
  have t6 : W13.cell? ⟨w.heap.size, 6, none⟩ = some (.int .i64 x.at_) := (HX.out 6 _ rfl).1
  go_wp2_with fail
  refine hP.mono ?_
  clear hP t0 t1 t2 t3 t4 t5 t6
  rintro e w14 ⟨v14, zs, f, rfl, o14, hrel, b14⟩
  have hzl := put_len hrel H20.out
  obtain ⟨A14, c14, he, _, _, r14⟩ := o14.row (by omega)
  subst he
  replace HB := Lib.hid (below_trans' HB.out b14)
  replace HR := Lib.hid (HR.out.move (below_moves b14))
  replace HK := Lib.hid (kEntry.move (below_moves b14) HK.out)
  replace HX := Lib.hid (HX.out.below b14)
  replace HF := Lib.hid (kEntry.move (below_moves b14) HF.out)
  replace HY := Lib.hid (HY.out.below b14)
  replace HE := Lib.hid (kEntry.move (below_moves b14) HE.out)
  replace HZ := Lib.hid (HZ.out.below b14)
  have HA := Lib.hid r14
  have HREL := Lib.hid hrel
  clear r14 hrel b14 o14 hzl
  have hP : Calls Tryz.prog 15 #[.slice A2 cl.length c2, .agg #[.string x.key, .int .i64 x.v.kind, .string x.v.s, .slice xA1 n1 xc1, .slice xA2 n2 xc2, .slice xA3 n3 xc3, .int .i64 x.at_]] w14 (RPutPost (fun _ => True) cl (fewE x) w14) := by
    have hk := HK.out
    have hr := HR.out
    revert hk
    rw [N1.out, N2.out, N3.out]
    intro hk
    exact rPut hr hk HFM.out H1q.out H2q.out (by have := H20.out; omega)
  have t0 : w14.cell? ⟨w.heap.size, 0, none⟩ = some (.string x.key) := (HX.out 0 _ rfl).1
  have t1 : w14.cell? ⟨w.heap.size, 1, none⟩ = some (.int .i64 x.v.kind) := (HX.out 1 _ rfl).1
  have t2 : w14.cell? ⟨w.heap.size, 2, none⟩ = some (.string x.v.s) := (HX.out 2 _ rfl).1
  have t3 : w14.cell? ⟨w.heap.size, 3, none⟩ = some (.slice xA1 n1 xc1) := (HX.out 3 _ rfl).1
  have t4 : w14.cell? ⟨w.heap.size, 4, none⟩ = some (.slice xA2 n2 xc2) := (HX.out 4 _ rfl).1
  have t5 : w14.cell? ⟨w.heap.size, 5, none⟩ = some (.slice xA3 n3 xc3) := (HX.out 5 _ rfl).1
  have t6 : w14.cell? ⟨w.heap.size, 6, none⟩ = some (.int .i64 x.at_) := (HX.out 6 _ rfl).1
  go_wp2_with fail
  refine hP.mono ?_
  clear hP t0 t1 t2 t3 t4 t5 t6
  rintro e w15 ⟨v15, zs', f', rfl, o15, hrel, b15⟩
  obtain ⟨ez, ef⟩ := put_same HREL.out hrel H20.out
  subst ez
  subst ef
  have hzl := put_len HREL.out H20.out
  obtain ⟨A15, c15, he, _, _, r15⟩ := o15.slice (by omega)
  subst he
  replace HB := Lib.hid (below_trans' HB.out b15)
  replace HR := Lib.hid (HR.out.move (below_moves b15))
  replace HK := Lib.hid (kEntry.move (below_moves b15) HK.out)
  replace HX := Lib.hid (HX.out.below b15)
  replace HF := Lib.hid (kEntry.move (below_moves b15) HF.out)
  replace HY := Lib.hid (HY.out.below b15)
  replace HE := Lib.hid (kEntry.move (below_moves b15) HE.out)
  replace HZ := Lib.hid (HZ.out.below b15)
  replace HA := Lib.hid (HA.out.move (below_moves b15))
  have HA2 := Lib.hid r15.any
  clear r15 hrel b15 o15 hzl HREL
  clear HK
  clear HX
  have hD := Del (c := c2) key HR.out HFC.out
  unfold DelPost at hD
  have hdf := del_fits HFC.out key
  have hdl := fits_len hdf
  obtain ⟨dl, hdl'⟩ : ∃ dl, dl = (delD cl key).1 := ⟨_, rfl⟩
  obtain ⟨od, hod⟩ : ∃ od, od = (delD cl key).2 := ⟨_, rfl⟩
  have hD2 := fun (W : World) (hb : Below w15.heap.size w15 W) => rDel (c := c2) key (HR.out.move (below_moves hb)) H1q.out H2q.out (by have := H20.out; omega)
  unfold RDelPost at hD2
  rw [← hdl', ← hod] at hD
  simp only [← hdl', ← hod] at hD2
  rw [← hdl'] at hdl
  clear hdl' hod hdf
  have HDL := Lib.hid hdl
  have HD2 := Lib.hid hD2
  clear hD2 hdl
  go_wp2_with fail
  refine hD.mono ?_
  clear hD
  rintro e w16 ⟨v16, rfl, o16, b16⟩
  obtain ⟨A16, c16, he, _, _, r16⟩ := o16.row HDL.out
  subst he
  replace HB := Lib.hid (below_trans' HB.out b16)
  replace HR := Lib.hid (HR.out.move (below_moves b16))
  replace HF := Lib.hid (kEntry.move (below_moves b16) HF.out)
  replace HY := Lib.hid (HY.out.below b16)
  replace HE := Lib.hid (kEntry.move (below_moves b16) HE.out)
  replace HZ := Lib.hid (HZ.out.below b16)
  replace HA := Lib.hid (HA.out.move (below_moves b16))
  replace HA2 := Lib.hid (HA2.out.move (below_moves b16))
  have HC := Lib.hid r16
  have hD2 := HD2.out w16 b16
  clear r16 o16 b16 HD2
  go_wp2_with fail
  refine hD2.mono ?_
  clear hD2
  rintro e w17 ⟨v17, rfl, o17, b17⟩
  obtain ⟨A17, c17, he, _, _, r17⟩ := o17.slice HDL.out
  subst he
  replace HB := Lib.hid (below_trans' HB.out b17)
  replace HR := Lib.hid (HR.out.move (below_moves b17))
  replace HF := Lib.hid (kEntry.move (below_moves b17) HF.out)
  replace HY := Lib.hid (HY.out.below b17)
  replace HE := Lib.hid (kEntry.move (below_moves b17) HE.out)
  replace HZ := Lib.hid (HZ.out.below b17)
  replace HA := Lib.hid (HA.out.move (below_moves b17))
  replace HA2 := Lib.hid (HA2.out.move (below_moves b17))
  replace HC := Lib.hid (HC.out.move (below_moves b17))
  have HC2 := Lib.hid r17.any
  clear r17 o17 b17
  have hS := same_pair HF.out HE.out
  rw [eqE_refl] at hS
  have e1 : (ob == ob) = true := by simp
  have e2 : (ob != ob) = false := by simp
  have zz : w10.heap.size < w17.heap.size := World.block_lt_of_cell? w17 _ (HY.out 0 _ rfl).1
  have zz2 : w12.heap.size < w17.heap.size := World.block_lt_of_cell? w17 _ (HZ.out 0 _ rfl).1
  have t0 : w17.cell? ⟨w10.heap.size, 0, none⟩ = some (.string y.key) := (HY.out 0 _ rfl).1
  have t1 : w17.cell? ⟨w10.heap.size, 1, none⟩ = some (.int .i64 y.v.kind) := (HY.out 1 _ rfl).1
  have t2 : w17.cell? ⟨w10.heap.size, 2, none⟩ = some (.string y.v.s) := (HY.out 2 _ rfl).1
  have t3 : w17.cell? ⟨w10.heap.size, 3, none⟩ = some (.slice dA1 y.v.l.length dc1) := (HY.out 3 _ rfl).1
  have t4 : w17.cell? ⟨w10.heap.size, 4, none⟩ = some (.slice dA2 y.v.z.length dc2) := (HY.out 4 _ rfl).1
  have t5 : w17.cell? ⟨w10.heap.size, 5, none⟩ = some (.slice dA3 y.v.h.length dc3) := (HY.out 5 _ rfl).1
  have t6 : w17.cell? ⟨w10.heap.size, 6, none⟩ = some (.int .i64 y.at_) := (HY.out 6 _ rfl).1
  have u0 : w17.cell? ⟨w12.heap.size, 0, none⟩ = some (.string y.key) := (HZ.out 0 _ rfl).1
  have u1 : w17.cell? ⟨w12.heap.size, 1, none⟩ = some (.int .i64 y.v.kind) := (HZ.out 1 _ rfl).1
  have u2 : w17.cell? ⟨w12.heap.size, 2, none⟩ = some (.string y.v.s) := (HZ.out 2 _ rfl).1
  have u3 : w17.cell? ⟨w12.heap.size, 3, none⟩ = some (.slice gA1 y.v.l.length gc1) := (HZ.out 3 _ rfl).1
  have u4 : w17.cell? ⟨w12.heap.size, 4, none⟩ = some (.slice gA2 y.v.z.length gc2) := (HZ.out 4 _ rfl).1
  have u5 : w17.cell? ⟨w12.heap.size, 5, none⟩ = some (.slice gA3 y.v.h.length gc3) := (HZ.out 5 _ rfl).1
  have u6 : w17.cell? ⟨w12.heap.size, 6, none⟩ = some (.int .i64 y.at_) := (HZ.out 6 _ rfl).1
  go_wp2_with fail
  refine hS.mono ?_
  rintro e w18 ⟨rfl, b18⟩
  clear hS t0 t1 t2 t3 t4 t5 t6 u0 u1 u2 u3 u4 u5 u6 e1 e2 zz zz2
  clear HY
  clear HZ
  clear HF
  clear HE
  replace HB := Lib.hid (below_trans' HB.out b18)
  replace HR := Lib.hid (HR.out.move (below_moves b18))
  replace HA := Lib.hid (HA.out.move (below_moves b18))
  replace HA2 := Lib.hid (HA2.out.move (below_moves b18))
  replace HC := Lib.hid (HC.out.move (below_moves b18))
  replace HC2 := Lib.hid (HC2.out.move (below_moves b18))
  clear b18
  have hS := Same9 (c := c14) (d := c15) HA.out HA2.out
  rw [eqRows_refl eqE_refl] at hS
  go_wp2_with fail
  refine hS.mono ?_
  rintro e w19 ⟨rfl, b19⟩
  clear hS
  clear HA
  clear HA2
  replace HB := Lib.hid (below_trans' HB.out b19)
  replace HR := Lib.hid (HR.out.move (below_moves b19))
  replace HC := Lib.hid (HC.out.move (below_moves b19))
  replace HC2 := Lib.hid (HC2.out.move (below_moves b19))
  clear b19
  have e1 : (f' == f') = true := by simp
  have e2 : (f' != f') = false := by simp
  have hS := Same9 (c := c16) (d := c17) HC.out HC2.out
  rw [eqRows_refl eqE_refl] at hS
  go_wp2_with fail
  refine hS.mono ?_
  rintro e w20 ⟨rfl, b20⟩
  clear hS e1 e2
  clear HC
  clear HC2
  replace HB := Lib.hid (below_trans' HB.out b20)
  replace HR := Lib.hid (HR.out.move (below_moves b20))
  clear b20
  have e1 : (od == od) = true := by simp
  have e2 : (od != od) = false := by simp
  have hL := Live (c := c2) now HR.out HFC.out (by have := H20.out; omega)
  have hL2 := fun (W : World) (hb : Below w20.heap.size w20 W) => rLive (c := c2) now (HR.out.move (below_moves hb)) (by have := H20.out; omega)
  have hll : (liveD now cl).length ≤ 140737488355328 := by
    have h1 := List.length_filter_le (liveB now) cl
    have h2 := H20.out
    unfold liveD
    omega
  obtain ⟨vl, hvl⟩ : ∃ vl, vl = liveD now cl := ⟨_, rfl⟩
  rw [← hvl] at hL hll
  simp only [← hvl] at hL2
  clear hvl
  have HLL := Lib.hid hll
  have HL2 := Lib.hid hL2
  clear hll hL2
  go_wp2_with fail
  refine hL.mono ?_
  clear hL e1 e2
  rintro e w21 ⟨v21, rfl, o21, b21⟩
  obtain ⟨A21, c21, he, _, _, r21⟩ := o21.row HLL.out
  subst he
  have HV := Lib.hid r21
  have hL2 := HL2.out w21 b21
  clear HR
  replace HB := Lib.hid (below_trans' HB.out b21)
  clear r21 o21 b21 HL2
  go_wp2_with fail
  refine hL2.mono ?_
  clear hL2
  rintro e w22 ⟨v22, rfl, o22, b22⟩
  obtain ⟨A22, c22, he, _, _, r22⟩ := o22.slice HLL.out
  subst he
  replace HB := Lib.hid (below_trans' HB.out b22)
  replace HV := Lib.hid (HV.out.move (below_moves b22))
  have HV2 := Lib.hid r22.any
  clear r22 o22 b22
  have hS := Same9 (c := c21) (d := c22) HV.out HV2.out
  rw [eqRows_refl eqE_refl] at hS
  go_wp2_with fail
  refine hS.mono ?_
  rintro e w23 ⟨rfl, b23⟩
  clear hS
  clear HV
  replace HB := Lib.hid (below_trans' HB.out b23)
  have hAe := hA w23 HB.out
  clear hA b23
  go_wp2_with fail
  refine hAe.mono ?_
  rintro e w24 ⟨rfl, b24⟩
  clear hAe
  go_wp2
  go_ret
  exact ⟨rfl, below_trans' HB.out b24⟩
end Go.Proofs.YtkgghnjpegpnlaaGreatDoor
