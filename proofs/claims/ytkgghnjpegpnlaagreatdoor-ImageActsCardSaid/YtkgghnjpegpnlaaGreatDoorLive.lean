/- slices.DeleteFunc of entries on a row of the call's own; image.Live. Conditions: what is read reads as the data; few enough entries. -/
import Derived.Test.YtkgghnjpegpnlaaGreatDoorDelete
import Derived.Test.YtkgghnjpegpnlaaGreatDoorRset
namespace Go.Proofs.YtkgghnjpegpnlaaGreatDoor
open Go.RowKit Go.Proofs
set_option linter.unusedSimpArgs false
set_option linter.unusedVariables false
set_option maxRecDepth 100000

theorem run_clear_many (P : Program) (w : World) (t ty e : TypeId) (i : TypeInfo) (z : Value) (g o m c : Nat) (cur : List Value) (e' : TypeId)
    (hu : P.underlying t = some (.slice e)) (hi : P.info? e = some i) (hz : i.zero = some z) (hg : w.heap[g]? = some (.cells cur.toArray e' (0, 0))) (hfit : o + m * z.cells.size ≤ cur.length) (hm : 0 < m) (h1 : ∀ u ∈ z.cells.toList, u.oneCell' = true) :
    (Builtin.clear_ #[t] ty #[.slice (some ⟨g, o, none⟩) m c]).run P w = .ok (.tuple #[]) (w.setRow g (splice cur o (Builtin.zeroCells z.cells m).toList).toArray) := by
  have hlen : (Builtin.zeroCells z.cells m).toList.length = m * z.cells.size := by simp [Builtin.zeroCells]
  have hone : ∀ u ∈ (Builtin.zeroCells z.cells m).toList, u.oneCell' = true := by
    intro u hu
    unfold Builtin.zeroCells at hu
    simp only [Array.toList_map, List.mem_map, Array.mem_toList_iff, Array.mem_range] at hu
    obtain ⟨k, hk, rfl⟩ := hu
    have hz' : 0 < z.cells.size := by
      rcases Nat.eq_zero_or_pos z.cells.size with h | h
      · rw [h, Nat.mul_zero] at hk
        omega
      · exact h
    have hlt : k % z.cells.size < z.cells.size := Nat.mod_lt _ hz'
    rw [getElem!_pos z.cells _ hlt]
    exact h1 _ (Array.getElem_mem_toList hlt)
  have hst : (storeCells ⟨g, o, none⟩ (Builtin.zeroCells z.cells m).toList 0).run P w = .ok () (w.setRow g (splice cur o (Builtin.zeroCells z.cells m).toList).toArray) := by
    have h := run_storeCells_at (P := P) g o e' (Builtin.zeroCells z.cells m).toList 0 cur.toArray w hg (by rw [hlen]; simpa using hfit) hone
    simpa [splice] using h
  obtain ⟨m, rfl⟩ : ∃ m', m = m' + 1 := ⟨m - 1, by omega⟩
  simp [Builtin.clear_, run_underlying hu, zeroValue, typeInfo, hi, hz, hst]

theorem drop_next {α : Type} {xs ys : List α} {j : Nat} (h : ys.drop j = xs.drop j) : ys.drop (j + 1) = xs.drop (j + 1) := by
  rw [← List.drop_drop, ← List.drop_drop, h]
theorem filter_next {α : Type} (q : α → Bool) {xs : List α} {j : Nat} {y : α} (h : xs[j]? = some y) : (xs.take (j + 1)).filter q = (xs.take j).filter q ++ if q y then [y] else [] := by
  rw [List.take_add_one, h, List.filter_append]
  cases hq : q y <;> simp [hq]
theorem take_set_next {α : Type} {ys : List α} {i : Nat} {x y : α} (h : ys[i]? = some x) : (ys.set i y).take (i + 1) = ys.take i ++ [y] := by
  have hi : i < ys.length := (List.getElem?_eq_some_iff.1 h).1
  rw [List.take_add_one, List.getElem?_set_self hi, List.take_set_of_le (Nat.le_refl _)]
  rfl

set_option maxHeartbeats 4000000 in
theorem DeleteFunc (g0 : Nat) (lb : Array Value) (p : DEntry → Bool) (W0 w : World) (hB0 : Below W0.heap.size W0 w) (hp : PredK Tryz.prog kEntry aggOf g0 lb p (fun _ => True) W0) (eg : EntersF Tryz.prog g0) (xs : List DEntry) (v : Value) (hv : OwnX kEntry 30 w W0.heap.size v xs) (hl : xs.length ≤ 1000000) :
    Calls Tryz.prog 37 #[v, .func (.func g0) #[] lb] w (InsPost W0.heap.size w (xs.filter fun x => !p x)) := by
  obtain ⟨i0, hi, hz0, hz1, hz2⟩ := info_parts infoE
  obtain ⟨A, c, rfl, hlc, hc63, hrow⟩ := hv.row (by omega)
  have hI := IndexFuncE g0 lb p (fun _ => True) A xs c w hrow (fun W x cs hx hB => hp W x cs hx (below_trans' hB0 hB)) eg
  unfold idxW at hI
  clear hrow
  cases hi2 : xs.findIdx? p with
  | none =>
    rw [hi2] at hI
    have hall : (xs.filter fun x => !p x) = xs := List.filter_eq_self.2 fun x hx => by
      have := List.findIdx?_eq_none_iff.1 hi2 x hx
      simp [this]
    have HA := Lib.hid hall
    have HV := Lib.hid hv
    have HS := Lib.hid hB0
    clear hall hv hp hi2 hB0
    go_enter Tryz.func37, Tryz.ntmps37
    go_wp2_with (go_at_call 65; refine hI.mono ?_; rintro e w1 ⟨rfl, b1⟩)
    go_ret
    rw [HA.out]
    exact ⟨_, rfl, HV.out.below b1 (Nat.le_refl _), b1.mono HS.out.size⟩
  | some k =>
    have hk := findIdx?_some_lt hi2
    obtain ⟨g, cap, he, hgb0, hgl0⟩ := hv.form (by omega)
    injection he with he1 _ he2
    subst he1
    subst he2
    rw [hi2] at hI
    have hkp := List.findIdx?_eq_some_iff_getElem.1 hi2
    obtain ⟨_, hk1, hk2⟩ := hkp
    have hstart : xs.take k = (xs.take (k + 1)).filter fun x => !p x := by
      rw [filter_next _ (List.getElem?_eq_getElem hk), hk1]
      simp only [Bool.not_true, Bool.false_eq_true, if_false, List.append_nil]
      symm
      refine List.filter_eq_self.2 fun x hx => ?_
      obtain ⟨j, hj, rfl⟩ := List.mem_iff_getElem.1 hx
      rw [List.length_take] at hj
      rw [List.getElem_take]
      have := hk2 j (by omega)
      simp at this
      simp [this]
    have HST := Lib.hid hstart
    have HV := Lib.hid hv
    have HB0 := Lib.hid hB0
    have hkz : ((k : Int) == -1) = false := by simp
    have HIX := Lib.hid hi2
    unfold EntersF at eg
    clear hstart hv hi2 hk1 hk2 hB0
    go_enter Tryz.func37, Tryz.ntmps37
    go_wp2_with fail
    refine hI.mono ?_
    clear hI
    rintro e w1 ⟨rfl, b1⟩
    have HB1 := Lib.hid b1
    clear b1
    go_wp2
    go_loopg [5, 6] xs.length (fun gg s5 s6 wr => ∃ (i j : Nat) (ys : List DEntry), i < j ∧ j ≤ xs.length ∧ xs.length - j ≤ gg ∧ s5 = .int .i64 i ∧ s6 = .int .i64 j ∧ Hid (Below W0.heap.size w wr) ∧ Hid (ys.length = xs.length) ∧ Hid (OwnX kEntry 30 wr W0.heap.size (.slice (some ⟨g, 0, none⟩) xs.length c) ys) ∧ Hid (ys.take i = (xs.take j).filter fun x => !p x) ∧ Hid (ys.drop j = xs.drop j))
    case atStart => exact ⟨k, k + 1, xs, by omega, by omega, by omega, rfl, by go_num, HB1.out.mono HB0.out.size, rfl, HV.out.below HB1.out (Nat.le_refl _), HST.out, rfl⟩
    case round =>
      obtain ⟨i, j, ys, hij, hj, hg, rfl, rfl, HB, HYL, HO, HT, HD⟩ := hrel
      by_cases hlt : j < xs.length
      · have hltz : (j : Int) < (xs.length : Int) := by omega
        obtain ⟨y, hy⟩ : ∃ y, xs[j]? = some y := ⟨_, List.getElem?_eq_getElem hlt⟩
        have hyj : ys[j]? = some y := by
          have h1 := congrArg (·[0]?) HD.out
          simp only [List.getElem?_drop, Nat.add_zero] at h1
          rw [h1]
          exact hy
        have HY := Lib.hid hy
        clear hy
        obtain ⟨cs, hrow, _, hparts⟩ := HO.out
        rw [HYL.out] at hrow
        have hrow7 : wr.ownsRow W0.heap.size 30 7 (.slice (some ⟨g, 0, none⟩) xs.length c) xs.length cs := hrow
        obtain ⟨P, el, Q, rfl, hP, hel⟩ := hparts.split hyj
        obtain ⟨fA1, fc1, fA2, fc2, fA3, fc3, rfl, hR⟩ := hel
        have hP' : P.length = j * 7 := hP
        have hcell : ∀ k u, [.string y.key, .int .i64 y.v.kind, .string y.v.s, .slice fA1 y.v.l.length fc1, .slice fA2 y.v.z.length fc2, .slice fA3 y.v.h.length fc3, .int .i64 y.at_][k]? = some u → wr.cell? ⟨g, j * 7 + k, none⟩ = some u := by
          intro k u hk
          have hk7 : k < 7 := (List.getElem?_eq_some_iff.1 hk).1
          rw [hrow7.cellAt (j * 7 + k) (by omega), ← hP', List.getElem?_append_right (by omega), Nat.add_sub_cancel_left, List.getElem?_append_left (by simpa using hk7)]
          exact hk
        have f0 : wr.cell? ⟨g, j * 7, none⟩ = some (.string y.key) := hcell 0 _ rfl
        have f1 := hcell 1 _ rfl
        have f2 := hcell 2 _ rfl
        have f3 := hcell 3 _ rfl
        have f4 := hcell 4 _ rfl
        have f5 := hcell 5 _ rfl
        have f6 := hcell 6 _ rfl
        have HR : Hid (kEntry.R (fun k => ((.slice (some ⟨g, 0, none⟩) xs.length c) : Value).ownBlock ≠ some k) wr y [.string y.key, .int .i64 y.v.kind, .string y.v.s, .slice fA1 y.v.l.length fc1, .slice fA2 y.v.z.length fc2, .slice fA3 y.v.h.length fc3, .int .i64 y.at_]) := ⟨fA1, fc1, fA2, fc2, fA3, fc3, rfl, hR⟩
        clear hcell hR hrow hrow7 hparts hP hP'
        have hcall : ∀ W, Below wr.heap.size wr W → Calls Tryz.prog g0 (#[.agg #[.string y.key, .int .i64 y.v.kind, .string y.v.s, .slice fA1 y.v.l.length fc1, .slice fA2 y.v.z.length fc2, .slice fA3 y.v.h.length fc3, .int .i64 y.at_]] ++ lb) W fun e W' => e = .returned (.bool (p y)) ∧ Below W.heap.size W W' := fun W hb =>
          hp W y [.string y.key, .int .i64 y.v.kind, .string y.v.s, .slice fA1 y.v.l.length fc1, .slice fA2 y.v.z.length fc2, .slice fA3 y.v.h.length fc3, .int .i64 y.at_] (Kd.any (kEntry.move (below_moves hb) HR.out)) (below_trans' (HB0.out.trans HB.out) hb)
        have HBB := Lib.hid (HB0.out.trans HB.out)
        clear hp
        go_upto_region 8 with fail
        refine wp_name fun W2 hW2 => ?_
        have bx : Box W2 (wr.heap.size) [.string y.key, .int .i64 y.v.kind, .string y.v.s, .slice fA1 y.v.l.length fc1, .slice fA2 y.v.z.length fc2, .slice fA3 y.v.h.length fc3, .int .i64 y.at_] := by
          rw [hW2]
          exact box7 (by go_simp) (by go_simp) (by go_simp) (by go_simp) (by go_simp) (by go_simp) (by go_simp) (by go_simp) (by go_simp) (by go_simp) (by go_simp) (by go_simp) (by go_simp) (by go_simp)
        have B2 : Below wr.heap.size wr W2 := by
          rw [hW2]
          repeat (refine Below.setCell ?_ (Nat.le_refl _) _)
          exact (Below.refl _ _).alloc (Nat.le_refl _) _
        clear hW2 f0 f1 f2 f3 f4 f5 f6
        have hc2 := hcall W2 B2
        have HX2 := Lib.hid bx
        have HB2 := Lib.hid B2
        obtain ⟨y0, y1, y2, y3, y4, y5, y6⟩ := HX2.out.seven
        clear hcall bx B2
        cases hq : p y with
        | true =>
          rw [hq] at hc2
          have HQ := Lib.hid hq
          clear hq
          go_wp2_with (go_at_fn g0; refine hc2.mono ?_; rintro e w3 ⟨rfl, b3⟩)
          go_roundg (xs.length - (j + 1))
          case rel =>
            have b23 := below_trans' HB2.out b3
            refine ⟨i, j + 1, ys, by omega, by omega, by omega, rfl, by go_num, HB.out.trans (b23.mono HBB.out.size), HYL.out, HO.out.below b23 (Nat.le_refl _), ?_, drop_next HD.out⟩
            show List.take _ _ = _
            rw [HT.out, filter_next _ HY.out, HQ.out]
            simp
          case measure => omega
        | false =>
          rw [hq] at hc2
          have HQ := Lib.hid hq
          clear hq
          have hinz : (i : Int) < (xs.length : Int) := by omega
          go_wp2_with fail
          refine hc2.mono ?_
          clear hc2 y0 y1 y2 y3 y4 y5 y6
          rintro e w3 ⟨rfl, b3⟩
          obtain ⟨y0, y1, y2, y3, y4, y5, y6⟩ := (HX2.out.below b3).seven
          have b23 := below_trans' HB2.out b3
          have O3 := HO.out.below b23 (Nat.le_refl _)
          have HR3 := Lib.hid (kEntry.move (below_moves b23) HR.out)
          have HB3 := Lib.hid (HB.out.trans (b23.mono HBB.out.size))
          have hgw : g < wr.heap.size := (ownsRow_base HO.out.choose_spec.1 g rfl).2
          have hgb : W0.heap.size ≤ g := (ownsRow_base HO.out.choose_spec.1 g rfl).1
          clear b3 b23 HB2 HX2 HR
          obtain ⟨x', hx'⟩ : ∃ x', ys[i]? = some x' := ⟨_, List.getElem?_eq_getElem (by have := HYL.out; omega)⟩
          obtain ⟨cs, hrow, _, hparts⟩ := O3
          have hyl := HYL.out
          obtain ⟨P, el, Q, rfl, hP, hel⟩ := hparts.split hx'
          have hP' : P.length = i * 7 := hP
          have hrow7 : w3.ownsRow W0.heap.size 30 7 (.slice (some ⟨g, 0, none⟩) xs.length c) ys.length (P ++ (el ++ Q)) := hrow
          have hr := hrow7
          rw [hyl] at hr
          have hz := fun k => hr.frozenAt (i * 7 + k)
          obtain ⟨dA1, dc1, dA2, dc2, dA3, dc3, rfl, _⟩ := hel
          have hcell : ∀ k u, [.string x'.key, .int .i64 x'.v.kind, .string x'.v.s, .slice dA1 x'.v.l.length dc1, .slice dA2 x'.v.z.length dc2, .slice dA3 x'.v.h.length dc3, .int .i64 x'.at_][k]? = some u → w3.cell? ⟨g, i * 7 + k, none⟩ = some u := by
            intro k u hk
            have hk7 : k < 7 := (List.getElem?_eq_some_iff.1 hk).1
            rw [hr.cellAt (i * 7 + k) (by omega), ← hP', List.getElem?_append_right (by omega), Nat.add_sub_cancel_left, List.getElem?_append_left (by simpa using hk7)]
            exact hk
          have f0 : w3.cell? ⟨g, i * 7, none⟩ = some (.string x'.key) := hcell 0 _ rfl
          have f1 := hcell 1 _ rfl
          have f2 := hcell 2 _ rfl
          have f3 := hcell 3 _ rfl
          have f4 := hcell 4 _ rfl
          have f5 := hcell 5 _ rfl
          have f6 := hcell 6 _ rfl
          have q0 : w3.frozen? ⟨g, i * 7, none⟩ = false := hz 0
          have q1 := hz 1
          have q2 := hz 2
          have q3 := hz 3
          have q4 := hz 4
          have q5 := hz 5
          have q6 := hz 6
          have H7 := Lib.hid hr
          have H8 := Lib.hid hparts
          have HP := Lib.hid hP'
          have HX := Lib.hid hx'
          have HGB := Lib.hid hgb
          have HGW := Lib.hid hgw
          clear hcell hz hrow hrow7 hparts hP hP' hx' hyl hgb hgw hr
          go_wp2
          have hst := (((((((H7.out.stored (i * 7 + 0) (.string y.key)).1.stored (i * 7 + 1) (.int .i64 y.v.kind)).1.stored (i * 7 + 2) (.string y.v.s)).1.stored (i * 7 + 3) (.slice fA1 y.v.l.length fc1)).1.stored (i * 7 + 4) (.slice fA2 y.v.z.length fc2)).1.stored (i * 7 + 5) (.slice fA3 y.v.h.length fc3)).1.stored (i * 7 + 6) (.int .i64 y.at_)).1
          rw [← HP.out] at hst
          simp only [set_mid] at hst
          rw [HP.out] at hst
          have far : ∀ (q : Nat), q ≠ g → (((((((w3.setCell ⟨g, i * 7 + 0, none⟩ (.string y.key)).setCell ⟨g, i * 7 + 1, none⟩ (.int .i64 y.v.kind)).setCell ⟨g, i * 7 + 2, none⟩ (.string y.v.s)).setCell ⟨g, i * 7 + 3, none⟩ (.slice fA1 y.v.l.length fc1)).setCell ⟨g, i * 7 + 4, none⟩ (.slice fA2 y.v.z.length fc2)).setCell ⟨g, i * 7 + 5, none⟩ (.slice fA3 y.v.h.length fc3)).setCell ⟨g, i * 7 + 6, none⟩ (.int .i64 y.at_)).heap[q]? = w3.heap[q]? := fun q hq => by
            rw [Below.heap_setCell _ _ _ _ hq, Below.heap_setCell _ _ _ _ hq, Below.heap_setCell _ _ _ _ hq, Below.heap_setCell _ _ _ _ hq, Below.heap_setCell _ _ _ _ hq, Below.heap_setCell _ _ _ _ hq, Below.heap_setCell _ _ _ _ hq]
          have hput := OwnX.put (d := kEntry) H8.out HX.out HP.out rfl (ds := [.string y.key, .int .i64 y.v.kind, .string y.v.s, .slice fA1 y.v.l.length fc1, .slice fA2 y.v.z.length fc2, .slice fA3 y.v.h.length fc3, .int .i64 y.at_]) (y := y)
            (fun q hq => far q (fun e => hq (by rw [e]; rfl)))
            (kEntry.move (fun q hq hlt => ⟨far q (fun e => hq (by rw [e]; rfl)), hq⟩) HR3.out) (by rw [HYL.out]; exact hst)
          have hgb := HGB.out
          have B3 := HB3.out
          go_roundg (xs.length - (j + 1))
          case rel =>
            refine ⟨i + 1, j + 1, ys.set i y, by omega, by omega, by omega, by go_num, by go_num, (((((((B3.setCell hgb _).setCell hgb _).setCell hgb _).setCell hgb _).setCell hgb _).setCell hgb _).setCell hgb _), (List.length_set).trans HYL.out, hput, ?_, ?_⟩
            · show List.take _ _ = _
              rw [take_set_next HX.out, HT.out, filter_next _ HY.out, HQ.out]
              simp
            · show List.drop _ _ = _
              rw [List.drop_set_of_lt (by omega)]
              exact drop_next HD.out
          case measure => omega
      · obtain rfl : j = xs.length := by omega
        have hin : i < xs.length := hij
        have hfil : ys.take i = xs.filter fun x => !p x := by rw [HT.out, List.take_length]
        obtain ⟨cs, hrow, _, hparts⟩ := HO.out
        rw [HYL.out] at hrow
        have hrow7 : wr.ownsRow W0.heap.size 30 7 (.slice (some ⟨g, 0, none⟩) xs.length c) xs.length cs := hrow
        obtain ⟨hcl, ⟨h0, _⟩ | ⟨g', cap', cur, he, hgb, hgh, hnc, hcap, hcs, htk⟩⟩ := hrow7
        · cases h0
        injection he with e1 _ e3
        injection e1 with e1
        injection e1 with e1
        subst e1
        subst e3
        have hcs' : cur.toList.length = c * 7 := by rw [Array.length_toList]; exact hcs
        obtain ⟨z, hz0', hzc, hz1c⟩ : ∃ z, i0.zero = some z ∧ z.cells.size = 7 ∧ ∀ u ∈ z.cells.toList, u.oneCell' = true := by
          refine ⟨_, hz0, rfl, ?_⟩
          intro u hu
          simp only [Value.cells] at hu
          simp at hu
          rcases hu with rfl | rfl | rfl | rfl | rfl <;> rfl
        obtain ⟨Zl, hZl⟩ : ∃ Zl, Zl = (Builtin.zeroCells z.cells (xs.length - i)).toList := ⟨_, rfl⟩
        have hZlen : Zl.length = (xs.length - i) * 7 := by rw [hZl, ← hzc]; simp [Builtin.zeroCells]
        have hfit : i * 7 + (xs.length - i) * z.cells.size ≤ cur.toList.length := by
          rw [hzc, hcs', ← Nat.add_mul]
          exact Nat.mul_le_mul_right 7 (by omega)
        have hr2 : ∀ ty c', (Builtin.clear_ #[22] ty #[.slice (some ⟨g, i * 7, none⟩) (xs.length - i) c']).run Tryz.prog wr = .ok (.tuple #[]) (wr.setRow g (splice cur.toList (i * 7) Zl).toArray) := fun ty c' => by
          rw [hZl]
          exact run_clear_many Tryz.prog wr 22 ty 30 i0 z g (i * 7) (xs.length - i) c' cur.toList 30 Tryz.underlying22 hi hz0' (by simpa using hgh) hfit (by omega) hz1c
        have hw3 : (wr.setRow g (splice cur.toList (i * 7) Zl).toArray).heap[g]? = some (.cells (splice cur.toList (i * 7) Zl).toArray 30 (0, 0)) := setRow_heap wr g _ _ 30 _ hgh
        have hsum : i * 7 + (xs.length - i) * 7 = xs.length * 7 := by rw [← Nat.add_mul]; congr 1; omega
        have hn7 : xs.length * 7 ≤ c * 7 := Nat.mul_le_mul_right 7 hnc
        have hlen3 : (splice cur.toList (i * 7) Zl).length = c * 7 := by rw [splice_fits _ _ _ (by rw [hZlen, hcs']; omega), hcs']
        have far3 : ∀ k, k ≠ g → (wr.setRow g (splice cur.toList (i * 7) Zl).toArray).heap[k]? = wr.heap[k]? := fun k hk => setRow_other wr g k _ hk
        have hcells : (splice cur.toList (i * 7) Zl).take (i * 7) = cs.take (i * 7) := by
          unfold splice
          rw [List.take_append_of_le_length (by rw [List.length_take, hcs']; omega), List.take_take, Nat.min_self, ← htk, List.take_take, Nat.min_eq_left (by omega)]
        have hbel : Below W0.heap.size w (wr.setRow g (splice cur.toList (i * 7) Zl).toArray) := below_setRow HB.out hgb _
        have hyl := HYL.out
        have hxl : (ys.take i).length = i := by rw [List.length_take]; omega
        have hfin : InsPost W0.heap.size w (xs.filter fun x => !p x) (.returned (.slice (some ⟨g, 0, none⟩) i c)) (wr.setRow g (splice cur.toList (i * 7) Zl).toArray) := by
          rw [← hfil]
          refine ⟨_, rfl, ⟨cs.take (i * 7), ?_, fun k hk hne => hne hk, (hparts.take i).move fun k hk hlt => ⟨far3 k fun e => hk (by rw [e]; rfl), hk⟩⟩, hbel⟩
          rw [hxl]
          refine ⟨by rw [List.length_take, hcl]; exact Nat.min_eq_left (by omega), .inr ⟨g, c, _, rfl, hgb, hw3, by omega, hcap, ?_, ?_⟩⟩
          · rw [List.size_toArray]
            exact hlen3
          · exact hcells
        have H2 := Lib.hid hr2
        have H3 := Lib.hid hfin
        have n1 : (i : Int) ≤ (xs.length : Int) := by omega
        have n2 : (i : Int) ≤ (c : Int) := by omega
        have n3 : ¬ c = i := by omega
        have n4 : (xs.length : Int) ≤ (c : Int) := by omega
        clear hfit hfin hyl hxl hbel hcells far3 hlen3 hsum hn7 hw3 hr2 hZlen hZl hz0' hzc hz1c hcs' hcs hcap htk hgh hgb hcl hparts hrow hfil hp
        go_wp2_with (refine wpList_clear_k _ rfl _ _ rfl _ rfl (H2.out _ _) ?_)
        all_goals go_ret
        all_goals exact H3.out

theorem live1 (S : Nat → Prop) (w : World) (b : Nat) (now : Int) (hb : w.cell? ⟨b, 0, none⟩ = some (.int .i64 now)) : PredK Tryz.prog kEntry aggOf 38 #[.pointer (some ⟨b, 0, none⟩)] (fun x => !liveB now x) S w := by
  intro W x cs hx hB
  have hb' : W.cell? ⟨b, 0, none⟩ = some (.int .i64 now) := (hB.cell (World.block_lt_of_cell? w _ hb)).trans hb
  have hbl : b < W.heap.size := World.block_lt_of_cell? W _ hb'
  obtain ⟨fA1, fc1, fA2, fc2, fA3, fc3, rfl, _⟩ := hx
  show Calls Tryz.prog 38 #[.agg #[.string x.key, .int .i64 x.v.kind, .string x.v.s, .slice fA1 x.v.l.length fc1, .slice fA2 x.v.z.length fc2, .slice fA3 x.v.h.length fc3, .int .i64 x.at_], .pointer (some ⟨b, 0, none⟩)] W fun e W' => e = .returned (.bool (!liveB now x)) ∧ Below W.heap.size W W'
  clear hb hB
  by_cases h1 : x.at_ = -1
  · have t1 : (x.at_ == -1) = true := by simp [h1]
    have t2 : (x.at_ != -1) = false := by simp [h1]
    have HL : Hid ((!liveB now x) = false) := by simp [Hid, liveB, h1]
    clear h1
    go_enter Tryz.func38, Tryz.ntmps38
    go_wp2
    go_ret
    exact ⟨by rw [HL.out]; rfl, (Below.refl _ _).alloc (Nat.le_refl _) _⟩
  · have t1 : (x.at_ == -1) = false := by simp [h1]
    have t2 : (x.at_ != -1) = true := by simp [h1]
    by_cases h2 : x.at_ ≤ now
    · have t3 : decide (x.at_ ≤ now) = true := by simpa using h2
      have HL : Hid ((!liveB now x) = true) := by
        have h3 : ¬ now < x.at_ := by omega
        simp [Hid, liveB, h1, h3]
      clear h1
      go_enter Tryz.func38, Tryz.ntmps38
      go_wp2
      go_ret
      exact ⟨by rw [HL.out]; rfl, (Below.refl _ _).alloc (Nat.le_refl _) _⟩
    · have t3 : decide (x.at_ ≤ now) = false := by simpa using h2
      have HL : Hid ((!liveB now x) = false) := by
        have h3 : now < x.at_ := by omega
        simp [Hid, liveB, h1, h3]
      have h2' : now < x.at_ := by omega
      clear h1 h2
      go_enter Tryz.func38, Tryz.ntmps38
      go_wp2
      go_ret
      exact ⟨by rw [HL.out]; rfl, (Below.refl _ _).alloc (Nat.le_refl _) _⟩
theorem enters_live1 : EntersF Tryz.prog 38 := enters_of Tryz.func38 (by kernel_rfl) rfl

set_option maxHeartbeats 1000000 in
theorem Live {S : Nat → Prop} {A : Option Addr} {l : List DEntry} {c : Nat} {w : World} (now : Int) (h : Row kEntry S w A l) (hf : rowFits l) (hl : l.length ≤ 1000000) :
    Calls Tryz.prog 17 #[.slice A l.length c, .int .i64 now] w fun e w' => ∃ v, e = .returned v ∧ OwnX kEntry 30 w' w.heap.size v (liveD now l) ∧ Below w.heap.size w w' := by
  have B0 : Below w.heap.size w (w.alloc (.cells #[.int .i64 now] 3)) := (Below.refl _ _).alloc (Nat.le_refl _) _
  have hO := owned (c := c) (h.move (below_moves B0)) hf
  have hcell : (w.alloc (.cells #[.int .i64 now] 3)).cell? ⟨w.heap.size, 0, none⟩ = some (.int .i64 now) := by go_simp
  have hD := fun (W : World) (v : Value) (hb : Below (w.alloc (.cells #[.int .i64 now] 3)).heap.size (w.alloc (.cells #[.int .i64 now] 3)) W) (ho : OwnX kEntry 30 W (w.alloc (.cells #[.int .i64 now] 3)).heap.size v l) =>
    DeleteFunc 38 #[.pointer (some ⟨w.heap.size, 0, none⟩)] (fun x => !liveB now x) (w.alloc (.cells #[.int .i64 now] 3)) W hb (live1 _ _ _ now hcell) enters_live1 l v ho hl
  have hfe : (l.filter fun x => !(!liveB now x)) = liveD now l := by
    unfold liveD
    congr 1
    funext x
    simp
  rw [hfe] at hD
  have HB0 := Lib.hid B0
  clear h hf hcell hfe B0
  go_enter Tryz.func17, Tryz.ntmps17
  go_wp2_with (first
    | (go_at_call 23; refine hO.mono ?_; rintro e w1 ⟨v1, rfl, o1, b1⟩; have HO1 := Lib.hid o1; have HB1 := Lib.hid b1; clear o1 b1)
    | (go_at_call 37; refine (hD _ _ HB1.out HO1.out).mono ?_; rintro e w2 ⟨v2, rfl, o2, b2⟩))
  go_ret
  have hs : w.heap.size ≤ (w.alloc (.cells #[.int .i64 now] 3)).heap.size := HB0.out.size
  exact ⟨_, rfl, o2.lower hs, (below_trans' HB0.out HB1.out).trans (b2.mono hs)⟩
end Go.Proofs.YtkgghnjpegpnlaaGreatDoor
