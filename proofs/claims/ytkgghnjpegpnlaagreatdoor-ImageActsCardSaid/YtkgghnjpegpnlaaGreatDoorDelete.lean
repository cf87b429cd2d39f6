/- slices.Delete of one entry out of a row of the call's own; image.Del. Conditions: the place lies in the row. -/
import Derived.Test.YtkgghnjpegpnlaaGreatDoorFind
import Derived.Test.YtkgghnjpegpnlaaGreatDoorInsert
namespace Go.Proofs.YtkgghnjpegpnlaaGreatDoor
open Go.RowKit Go.Proofs
set_option linter.unusedSimpArgs false
set_option linter.unusedVariables false
set_option maxRecDepth 100000

theorem run_clear_own (P : Program) (w : World) (t ty e : TypeId) (i : TypeInfo) (z : Value) (g o c : Nat) (cur : List Value) (e' : TypeId)
    (hu : P.underlying t = some (.slice e)) (hi : P.info? e = some i) (hz : i.zero = some z) (hg : w.heap[g]? = some (.cells cur.toArray e' (0, 0))) (hfit : o + z.cells.size ≤ cur.length) (h1 : ∀ u ∈ z.cells.toList, u.oneCell' = true) :
    (Builtin.clear_ #[t] ty #[.slice (some ⟨g, o, none⟩) 1 c]).run P w = .ok (.tuple #[]) (w.setRow g (splice cur o z.cells.toList).toArray) := by
  have hst : (storeCells ⟨g, o, none⟩ z.cells.toList 0).run P w = .ok () (w.setRow g (splice cur o z.cells.toList).toArray) := by
    have h := run_storeCells_at (P := P) g o e' z.cells.toList 0 cur.toArray w hg (by simpa using hfit) h1
    simpa [splice] using h
  have hzc : (Builtin.zeroCells z.cells 1).toList = z.cells.toList := by
    simp [Builtin.zeroCells]
    apply List.ext_getElem
    · simp
    · intro k h1 h2
      have : k % z.cells.size = k := Nat.mod_eq_of_lt (by simpa using h2)
      simp [this]
      exact getElem!_pos z.cells k (by simpa using h2)
  simp [Builtin.clear_, run_underlying hu, zeroValue, typeInfo, hi, hz, hzc, hst]

theorem wpList_clear_k {P : Program} (w : World) {ops : Array Oper} {rest : List Oper} {o : Oper} {a : Act} {Q : Exit → Act → World → Prop} (hgd : o.guard = none) (s : Operand) (t : TypeId)
    (ho : o.op = .call { callee := .builtin .clear, args := #[s], argTypes := #[t] }) (v : Value) (hs : a.eval s = v) {v' : Value} {w' : World}
    (hr : (Builtin.clear_ #[t] o.type #[v]).run P w = .ok v' w') (h : wpList P ops Q rest (a.put o.dst v') w') : wpList P ops Q (o :: rest) a w :=
  wpList_plain hgd fun _ hK => by
    unfold Oper.wp execOp
    simp only [ho, resolve, invoke, builtin, Sem.run_bind, Sem.run_pure, Result.andThen_ok, List.map_toArray, List.map_cons, List.map_nil, hs, hr]
    exact hK _ _ h

theorem del_cells (cur Z : List Value) (I N k : Nat) (hZ : Z.length = k) (hI : I + k ≤ N) (hN : N ≤ cur.length) :
    (splice (splice cur I ((cur.take N).drop (I + k))) (N - k) Z).take (N - k) = (cur.take N).take I ++ (cur.take N).drop (I + k) := by
  have h1 : ((cur.take N).drop (I + k)).length = N - (I + k) := by rw [List.length_drop, List.length_take, Nat.min_eq_left hN]
  have h2 : (cur.take I).length = I := by rw [List.length_take]; omega
  have e1 : (cur.take N).take I = cur.take I := by rw [List.take_take, Nat.min_eq_left (by omega)]
  rw [e1]
  generalize hB : (cur.take N).drop (I + k) = B at *
  have hl : (cur.take I ++ B).length = N - k := by rw [List.length_append, h1, h2]; omega
  have s1 : splice cur I B = (cur.take I ++ B) ++ cur.drop (I + B.length) := by
    unfold splice
    rw [List.append_assoc]
  unfold splice at s1 ⊢
  rw [s1, List.take_append_of_le_length (by rw [List.length_take, List.length_append, hl]; omega), List.take_take, Nat.min_self, List.take_append_of_le_length (by omega), List.take_of_length_le (by omega)]

set_option maxHeartbeats 2000000 in
theorem slicesDeleteE (base : Nat) (xs : List DEntry) (g n cap i : Nat) (w : World) (hv : OwnX kEntry 30 w base (.slice (some ⟨g, 0, none⟩) n cap) xs) (hn : n = xs.length) (hb : base ≤ w.heap.size) (hin : i < n) (hn63 : n ≤ 140737488355328) :
    Calls Tryz.prog 35 #[.slice (some ⟨g, 0, none⟩) n cap, .int .i64 i, .int .i64 ((i : Int) + 1)] w (InsPost base w (xs.take i ++ xs.drop (i + 1))) := by
  obtain ⟨i0, hi, hz0, hz1, hz2⟩ := info_parts infoE
  obtain ⟨cs, hrow, _, hparts⟩ := hv
  rw [← hn] at hrow
  have hrow7 : w.ownsRow base 30 7 (.slice (some ⟨g, 0, none⟩) n cap) n cs := hrow
  obtain ⟨hcl, ⟨h0, _⟩ | ⟨g', cap', cur, he, hgb, hgh, hnc, hcap, hcs, htk⟩⟩ := hrow7
  · cases h0
  injection he with e1 _ e3
  injection e1 with e1
  injection e1 with e1
  subst e1
  subst e3
  have hcap' : cap ≤ 9223372036854775807 := by simpa [maxLen] using hcap
  have hcs' : cur.toList.length = cap * 7 := by rw [Array.length_toList]; exact hcs
  obtain ⟨z, hz0', hzc, hz1c⟩ : ∃ z, i0.zero = some z ∧ z.cells.size = 7 ∧ ∀ u ∈ z.cells.toList, u.oneCell' = true := by
    refine ⟨_, hz0, rfl, ?_⟩
    intro u hu
    simp only [Value.cells] at hu
    simp at hu
    rcases hu with rfl | rfl | rfl | rfl | rfl <;> rfl
  have hB : (cs.drop ((i + 1) * 7)).length = (n - (i + 1)) * 7 := by rw [List.length_drop, hcl, ← Nat.sub_mul]
  have hBc : ∀ j u, (cs.drop ((i + 1) * 7))[j]? = some u → w.cell? ⟨g, (i + 1) * 7 + j, none⟩ = some u := fun j u hj => by
    have hj2 := (List.getElem?_eq_some_iff.1 hj).1
    rw [hB] at hj2
    rw [List.getElem?_drop, ← htk, List.getElem?_take, if_pos (by omega)] at hj
    rw [cell_of_row w g _ cur 30 (0, 0) hgh]
    simpa using hj
  have hr1 : ∀ ty, (Builtin.append_ #[22, 22] ty #[.slice (some ⟨g, 0, none⟩) i cap, .slice (if cap = i + 1 then some ⟨g, 0, none⟩ else some ⟨g, (i + 1) * 7, none⟩) (n - (i + 1)) (cap - (i + 1))]).run Tryz.prog w.drew =
      .ok (.slice (some ⟨g, 0, none⟩) (n - 1) cap) (w.drew.setRow g (splice cur.toList (i * 7) (cs.drop ((i + 1) * 7))).toArray) := fun ty => by
    obtain ⟨a, ha, hac⟩ : ∃ a, (if cap = i + 1 then some (⟨g, 0, none⟩ : Addr) else some ⟨g, (i + 1) * 7, none⟩) = some a ∧ ∀ j u, (cs.drop ((i + 1) * 7))[j]? = some u → w.cell? (a.add j) = some u := by
      split
      · refine ⟨_, rfl, fun j u hj => ?_⟩
        have hj2 := (List.getElem?_eq_some_iff.1 hj).1
        rw [hB] at hj2
        omega
      · exact ⟨_, rfl, fun j u hj => by rw [Addr.add_lit]; exact hBc j u hj⟩
    rw [ha]
    have := run_append_room (P := Tryz.prog) w.drew 22 ty 30 i0 Tryz.underlying22 hi g i cap cur hgh a (n - (i + 1)) (cap - (i + 1)) (cs.drop ((i + 1) * 7)) (by rw [hB, hz1]) hac (fun u hu => hparts.ones u (List.mem_of_mem_drop hu)) (by omega) (by rw [hB, hz1, hcs]; omega)
    rw [this, hz1, show i + (n - (i + 1)) = n - 1 from by omega]
    unfold splice
    rw [List.append_assoc]
  obtain ⟨cur2, hcur2⟩ : ∃ cur2, cur2 = splice cur.toList (i * 7) (cs.drop ((i + 1) * 7)) := ⟨_, rfl⟩
  have hlen2 : cur2.length = cap * 7 := by rw [hcur2, splice_fits _ _ _ (by rw [hB, hcs']; omega), hcs']
  have hw2 : (w.drew.setRow g cur2.toArray).heap[g]? = some (.cells cur2.toArray 30 (0, 0)) := setRow_heap w.drew g cur _ 30 _ hgh
  rw [← hcur2] at hr1
  obtain ⟨W2, hW2⟩ : ∃ W2, W2 = w.drew.setRow g cur2.toArray := ⟨_, rfl⟩
  rw [← hW2] at hr1 hw2
  have hr2 : ∀ ty c, (Builtin.clear_ #[22] ty #[.slice (some ⟨g, (n - 1) * 7, none⟩) 1 c]).run Tryz.prog W2 = .ok (.tuple #[]) (W2.setRow g (splice cur2 ((n - 1) * 7) z.cells.toList).toArray) := fun ty c =>
    run_clear_own Tryz.prog W2 22 ty 30 i0 z g ((n - 1) * 7) c cur2 30 Tryz.underlying22 hi hz0' hw2 (by rw [hzc, hlen2]; omega) hz1c
  have hw3 : (W2.setRow g (splice cur2 ((n - 1) * 7) z.cells.toList).toArray).heap[g]? = some (.cells (splice cur2 ((n - 1) * 7) z.cells.toList).toArray 30 (0, 0)) := setRow_heap W2 g _ _ 30 _ hw2
  have hlen3 : (splice cur2 ((n - 1) * 7) z.cells.toList).length = cap * 7 := by rw [splice_fits _ _ _ (by rw [Array.length_toList, hzc, hlen2]; omega), hlen2]
  have far3 : ∀ k, k ≠ g → (W2.setRow g (splice cur2 ((n - 1) * 7) z.cells.toList).toArray).heap[k]? = w.heap[k]? := fun k hk => by rw [setRow_other W2 g k _ hk, hW2, setRow_other w.drew g k _ hk]; rfl
  have hcells : (splice cur2 ((n - 1) * 7) z.cells.toList).take ((n - 1) * 7) = cs.take (i * 7) ++ cs.drop ((i + 1) * 7) := by
    have := del_cells cur.toList z.cells.toList (i * 7) (n * 7) 7 (by rw [Array.length_toList, hzc]) (by omega) (by rw [hcs']; omega)
    rw [htk, show i * 7 + 7 = (i + 1) * 7 from by omega, show n * 7 - 7 = (n - 1) * 7 from by omega, ← hcur2] at this
    exact this
  have hbel : Below base w (W2.setRow g (splice cur2 ((n - 1) * 7) z.cells.toList).toArray) := by
    rw [hW2]
    exact below_setRow (below_setRow (Below.refl base w).drew hgb _) hgb _
  have hp3 := (hparts.take i).append (hparts.drop (i + 1))
  have hxl : (xs.take i ++ xs.drop (i + 1)).length = n - 1 := by
    rw [List.length_append, List.length_take, List.length_drop, ← hn]
    omega
  have hfin : InsPost base w (xs.take i ++ xs.drop (i + 1)) (.returned (.slice (some ⟨g, 0, none⟩) (n - 1) cap)) (W2.setRow g (splice cur2 ((n - 1) * 7) z.cells.toList).toArray) := by
    refine ⟨_, rfl, ⟨cs.take (i * 7) ++ cs.drop ((i + 1) * 7), ?_, fun k hk hne => hne hk, hp3.move fun k hk hlt => ⟨far3 k fun e => hk (by rw [e]; rfl), hk⟩⟩, hbel⟩
    rw [hxl]
    refine ⟨by rw [← hcells, List.length_take, hlen3]; exact Nat.min_eq_left (Nat.mul_le_mul_right 7 (by omega)), .inr ⟨g, cap, _, rfl, hgb, hw3, by omega, hcap, ?_, ?_⟩⟩
    · rw [List.size_toArray]
      exact hlen3
    · exact hcells
  obtain ⟨Zl, hZl⟩ : ∃ Zl, Zl = z.cells.toList := ⟨_, rfl⟩
  rw [← hZl] at hr2 hfin
  have H1 := Lib.hid hr1
  have H2 := Lib.hid hr2
  have H3 := Lib.hid hfin
  clear hfin hZl hxl hp3 hbel hcells far3 hlen3 hw3 hr2 hW2 hr1 hw2 hlen2 hcur2 hBc hB hz1c hz0' hzc hcs' htk hcs hgh hparts hrow hcap hz0 hz1 hz2 hi hcl hn
  have hne : ((i : Int) == (i : Int) + 1) = false := by simp; omega
  have q1 : (i : Int) + 1 ≤ (n : Int) := by omega
  have q2 : (0 : Int) ≤ (i : Int) + 1 := by omega
  have q3 : ((i : Int) + 1).toNat = i + 1 := by omega
  have q4 : (n : Int) ≤ (cap : Int) := by omega
  have q5 : (i : Int) ≤ (i : Int) + 1 := by omega
  go_enter Tryz.func35, Tryz.ntmps35
  go_wp2_with fail
  have b3 : i + 1 ≤ n := by omega
  have b4 : i ≤ cap := by omega
  refine wp_region_tail 6 (by kernel_rfl) (by kernel_rfl) ?_
  simp only [List.take_succ_cons, List.take_zero, List.drop_succ_cons, List.drop_zero]
  repeat still_step
  refine wpStill_nil ?_
  refine Lib.wpList_append_run _ rfl _ _ 22 22 rfl _ _ ?_ ?_ _ _ (H1.out _) ?_
  · rfl
  · rfl
  have q6 : ((n - 1 : Nat) : Int) ≤ (n : Int) := by omega
  have q7 : n - (n - 1) = 1 := by omega
  have q8 : ¬ cap = n - 1 := by omega
  have q9 : n ≤ cap := by omega
  clear q1 q2 q3 q5 b3 b4
  go_wp2_with (refine wpList_clear_k _ rfl _ _ rfl _ rfl (H2.out _ _) ?_)
  all_goals
    go_ret
    first
      | exact H3.out
      | (subst h
         exact H3.out)

def delD (l : List DEntry) (key : ByteArray) : List DEntry × Bool := match l.findIdx? (keyB key) with | some i => (l.take i ++ l.drop (i + 1), true) | none => (l, false)
def DelPost (l : List DEntry) (key : ByteArray) (w : World) (e : Ending) (w' : World) : Prop :=
  ∃ v, e = .returned (.tuple #[v, .bool (delD l key).2]) ∧ OwnX kEntry 30 w' w.heap.size v (delD l key).1 ∧ Below w.heap.size w w'

set_option maxHeartbeats 1000000 in
theorem Del {S : Nat → Prop} {A : Option Addr} {l : List DEntry} {c : Nat} {w : World} (key : ByteArray) (h : Row kEntry S w A l) (hf : rowFits l) :
    Calls Tryz.prog 14 #[.slice A l.length c, .string key] w (DelPost l key w) := by
  have hO := owned (c := c) h hf
  have hl := h.1
  have hP := fun (W : World) (A : Option Addr) (c : Nat) (hr : Row kEntry (fun _ => True) W A l) => place (c := c) key hr
  unfold placeN idxW at hP
  clear h
  cases hi : l.findIdx? (keyB key) with
  | none =>
    have hfd : delD l key = (l, false) := by simp [delD, hi]
    rw [hi] at hP
    have HD := Lib.hid hfd
    clear hfd hi
    go_enter Tryz.func14, Tryz.ntmps14
    go_wp2_with (first
      | (go_at_call 23; refine hO.mono ?_; rintro e w1 ⟨v1, rfl, o1, b1⟩; obtain ⟨A1, c1, rfl, _, _, r1⟩ := o1.row hl; have HO := Lib.hid o1; clear o1)
      | (go_at_call 31; refine (hP _ _ _ r1).mono ?_; rintro e w2 ⟨rfl, b2⟩))
    go_ret2
    unfold DelPost
    rw [HD.out]
    refine ⟨_, rfl, ?_, below_trans' b1 b2⟩
    exact HO.out.below b2 (Nat.le_refl _)
  | some i =>
    have hin := findIdx?_some_lt hi
    have hfd : delD l key = (l.take i ++ l.drop (i + 1), true) := by simp [delD, hi]
    rw [hi] at hP
    have HD := Lib.hid hfd
    have hX := fun (W : World) (g cap : Nat) (hv : OwnX kEntry 30 W w.heap.size (.slice (some ⟨g, 0, none⟩) l.length cap) l) (hb : w.heap.size ≤ W.heap.size) => slicesDeleteE w.heap.size l g l.length cap i W hv rfl hb hin hl
    clear hfd hi
    go_enter Tryz.func14, Tryz.ntmps14
    go_wp2_with (first
      | (go_at_call 23; refine hO.mono ?_; rintro e w1 ⟨v1, rfl, o1, b1⟩; obtain ⟨g, cap, rfl, _, _⟩ := o1.form (by omega); obtain ⟨_, _, he, _, _, r1⟩ := o1.row hl; injection he with he1 _ he2; subst he1; subst he2; have HO := Lib.hid o1; clear o1)
      | (go_at_call 31; refine (hP _ _ _ r1).mono ?_; rintro e w2 ⟨rfl, b2⟩; have B2 := below_trans' b1 b2)
      | (go_at_call 35; refine (hX _ _ _ (HO.out.below b2 (Nat.le_refl _)) B2.size).mono ?_; rintro e w3 ⟨v3, rfl, o3, b3⟩))
    go_ret2
    unfold DelPost
    rw [HD.out]
    exact ⟨_, rfl, o3, B2.trans b3⟩
end Go.Proofs.YtkgghnjpegpnlaaGreatDoor
