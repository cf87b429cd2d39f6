/- slices.Insert of one entry into a row of the call's own. Conditions: the place lies in the row, the bytes stay below an append's bound. -/
import Derived.Test.YtkgghnjpegpnlaaGreatDoorCopy
import Derived.Test.YtkgghnjpegpnlaaGreatDoorClone
import Derived.Deep.AppendLies
import Derived.Deep.RegionLaw
namespace Go.Proofs.YtkgghnjpegpnlaaGreatDoor
open Go.RowKit Go.Proofs
set_option linter.unusedSimpArgs false
set_option linter.unusedVariables false
set_option maxRecDepth 100000

/-- The entry that is put in lies alone in a block. -/
def Alone (w : World) (vb : Nat) (y : DEntry) (S : Nat → Prop) : Prop := ∃ cs : List Value, w.heap[vb]? = some (.cells cs.toArray 30 (0, 0)) ∧ kEntry.R S w y cs
def InsPost (base : Nat) (w : World) (zs : List DEntry) (e : Ending) (w' : World) : Prop := ∃ v', e = .returned v' ∧ OwnX kEntry 30 w' base v' zs ∧ Below base w w'

theorem cell_of_alone {w : World} {vb : Nat} {cs : List Value} {t : TypeId} (h : w.heap[vb]? = some (.cells cs.toArray t (0, 0))) (j : Nat) (u : Value) (hj : cs[j]? = some u) : w.cell? ⟨vb, j, none⟩ = some u := by
  rw [cell_of_row w vb j _ t _ h]
  simpa using hj

set_option maxHeartbeats 1000000 in
theorem Insert_end (base : Nat) (xs : List DEntry) (v : Value) (vb : Nat) (y : DEntry) (S : Nat → Prop) (w : World) (hv : OwnX kEntry 30 w base v xs) (hb : base ≤ w.heap.size)
    (hy : Alone w vb y (fun k => v.ownBlock ≠ some k)) (hf : (xs.length + 1) * 120 ≤ 140737488355328) :
    Calls Tryz.prog 27 #[v, .int .i64 xs.length, .slice (some ⟨vb, 0, none⟩) 1 1] w (InsPost base w (xs ++ [y])) := by
  obtain ⟨i0, hi, hz0, hz1, hz2⟩ := info_parts infoE
  have hl : xs.length ≤ 140737488355328 := by omega
  obtain ⟨ds, hblk, hR⟩ := hy
  have hlen : ds.length = 7 := kEntry.len hR
  have hones := kEntry.one hR
  obtain ⟨cs, hrow, _, hparts⟩ := hv
  have hrow7 : w.ownsRow base 30 7 v xs.length cs := hrow
  have hcell : ∀ j u, ds[j]? = some u → w.cell? (Addr.add ⟨vb, 0, none⟩ j) = some u := fun j u hj => by rw [Addr.add_lit, Nat.zero_add]; exact cell_of_alone hblk j u hj
  have hbase : ∀ k, v.ownBlock = some k → base ≤ k := fun k hk => (ownsRow_base hrow7 k hk).1
  have hns : ∃ A c, v = .slice A xs.length c ∧ xs.length ≤ c ∧ c ≤ 9223372036854775807 := by
    obtain ⟨_, ⟨rfl, h0⟩ | ⟨g, cap, cur, rfl, hg, hh, hn, hcap, _⟩⟩ := hrow7
    · exact ⟨none, 0, by rw [h0], by omega, by omega⟩
    · exact ⟨_, cap, rfl, hn, by simpa [maxLen] using hcap⟩
  obtain ⟨A, c, rfl, hnc, hc63⟩ := hns
  have H1 := Lib.hid hrow7
  have H2 := Lib.hid hparts
  have H3 := Lib.hid hcell
  have H4 := Lib.hid hblk
  have H5 := Lib.hid hR
  have H6 := Lib.hid hlen
  have H7 := Lib.hid hones
  have H8 := Lib.hid hbase
  clear hrow hrow7 hparts hcell hblk hR hlen hones hbase
  go_enter Tryz.func27, Tryz.ntmps27
  go_wp2_with (at_builtin; refine wpList_append_lies _ rfl _ _ 22 rfl base 30 i0 _ 7 120 Tryz.underlying22 hi hz0 hz1 hz2 rfl (by decide) _ xs.length cs rfl H1.out ⟨vb, 0, none⟩ 1 1 ds rfl (by rw [H6.out]) H3.out H7.out (by decide) (by unfold maxLen; omega) (by omega) hb _ rfl ?_; intro g cap w1 hown hgrow hat hlt; have HO := Lib.hid hown; have HA := Lib.hid hat; clear hown hat)
  all_goals
    go_ret
    exact ⟨_, rfl, OwnX.appended H2.out (Parts.one H5.out) HO.out hgrow HA.out, (Below.refl _ _).grown hgrow hb H8.out⟩

theorem ins_room (cur ds : List Value) (I N k : Nat) (hd : ds.length = k) (hI : I ≤ N) (hN : N + k ≤ cur.length) :
    (splice (splice cur (I + k) ((cur.drop I).take (N - I))) I ds).take (N + k) = (cur.take N).take I ++ (ds ++ (cur.take N).drop I) := by
  have e1 : (cur.take N).take I = cur.take I := by rw [List.take_take, Nat.min_eq_left hI]
  have e2 : (cur.take N).drop I = (cur.drop I).take (N - I) := by rw [List.drop_take]
  have hb : ((cur.drop I).take (N - I)).length = N - I := by rw [List.length_take, List.length_drop]; omega
  rw [e1, e2]
  generalize hB : (cur.drop I).take (N - I) = B at *
  have s1 : (splice cur (I + k) B).take I = cur.take I := by
    unfold splice
    rw [List.take_append_of_le_length (by rw [List.length_take]; omega), List.take_take, Nat.min_eq_left (by omega)]
  have s2 : (splice cur (I + k) B).drop (I + ds.length) = B ++ cur.drop (I + k + B.length) := by
    unfold splice
    rw [hd, List.drop_append_of_le_length (by rw [List.length_take]; omega), List.drop_eq_nil_of_le (by rw [List.length_take]; omega), List.nil_append]
  have s3 : splice (splice cur (I + k) B) I ds = cur.take I ++ (ds ++ (B ++ cur.drop (I + k + B.length))) := by
    rw [← s1, ← s2]
    rfl
  rw [s3]
  have h1 : (cur.take I).length = I := by rw [List.length_take]; omega
  rw [← List.append_assoc, ← List.append_assoc, List.take_append_of_le_length (by simp only [List.length_append, h1, hd, hb]; omega), List.take_of_length_le (by simp only [List.length_append, h1, hd, hb]; omega), List.append_assoc]

theorem ins_grow (cs Z ds : List Value) (I N k : Nat) (hd : ds.length = k) (hI : I ≤ N) (hc : cs.length = N) (hZ : N - I + k ≤ Z.length) :
    (splice (splice (cs.take I ++ Z) I ds) (I + k) (cs.drop I)).take (N + k) = cs.take I ++ (ds ++ cs.drop I) := by
  have h1 : (cs.take I).length = I := by rw [List.length_take]; omega
  have h2 : (cs.drop I).length = N - I := by rw [List.length_drop]; omega
  have s1 : splice (cs.take I ++ Z) I ds = cs.take I ++ (ds ++ Z.drop k) := by
    unfold splice
    rw [List.take_left' h1, hd]
    congr 2
    rw [List.drop_append, h1, List.drop_eq_nil_of_le (by omega), List.nil_append]
    congr 1
    omega
  have s2 : splice (splice (cs.take I ++ Z) I ds) (I + k) (cs.drop I) = (cs.take I ++ ds) ++ (cs.drop I ++ (cs.take I ++ (ds ++ Z.drop k)).drop (I + k + (cs.drop I).length)) := by
    rw [s1]
    unfold splice
    congr 1
    rw [← List.append_assoc, List.take_left' (by simp only [List.length_append, h1, hd])]
  rw [s2, ← List.append_assoc, List.take_append_of_le_length (by simp only [List.length_append, h1, h2, hd]; omega), List.take_of_length_le (by simp only [List.length_append, h1, h2, hd]; omega), List.append_assoc]

theorem splice_fits (cur cs : List Value) (o : Nat) (h : o + cs.length ≤ cur.length) : (splice cur o cs).length = cur.length := length_splice cur o cs h

set_option maxHeartbeats 2000000 in
theorem Insert_room (base : Nat) (xs : List DEntry) (g n cap i vb : Nat) (y : DEntry) (w : World) (hv : OwnX kEntry 30 w base (.slice (some ⟨g, 0, none⟩) n cap) xs) (hn : n = xs.length) (hb : base ≤ w.heap.size)
    (hy : Alone w vb y (fun k => (Value.slice (some ⟨g, 0, none⟩) n cap).ownBlock ≠ some k)) (hvb : vb ≠ g) (hin : i < n) (hroom : n + 1 ≤ cap) (hf : (n + 1) * 120 ≤ 140737488355328) :
    Calls Tryz.prog 27 #[.slice (some ⟨g, 0, none⟩) n cap, .int .i64 i, .slice (some ⟨vb, 0, none⟩) 1 1] w (InsPost base w (xs.take i ++ y :: xs.drop i)) := by
  obtain ⟨i0, hi, hz0, hz1, hz2⟩ := info_parts infoE
  obtain ⟨ds, hblk, hR⟩ := hy
  have hlen : ds.length = 7 := kEntry.len hR
  have hones := kEntry.one hR
  obtain ⟨cs, hrow, _, hparts⟩ := hv
  rw [← hn] at hrow
  have hrow7 : w.ownsRow base 30 7 (.slice (some ⟨g, 0, none⟩) n cap) n cs := hrow
  obtain ⟨hcl, ⟨h0, _⟩ | ⟨g', cap', cur, he, hgb, hgh, hnc, hcap, hcs, htk⟩⟩ := hrow7
  · cases h0
  injection he with e1 _ e3
  injection e1 with e1
  injection e1 with e1
  subst e1
  subst e3
  have hcap' : cap ≤ 9223372036854775807 := by simpa [maxLen] using hcap
  have hcell : ∀ j u, ds[j]? = some u → w.cell? (Addr.add ⟨vb, 0, none⟩ j) = some u := fun j u hj => by rw [Addr.add_lit, Nat.zero_add]; exact cell_of_alone hblk j u hj
  have hov : ∀ (o lb cb : Nat), (callFunc 56 #[.slice (some ⟨vb, 0, none⟩) 1 1, .slice (some ⟨g, o, none⟩) lb cb]).run Tryz.prog w = .ok (.value (.bool false)) w := fun o lb cb => by
    rw [run_callFunc_extern Tryz.func56 (by kernel_rfl) (by kernel_rfl) (by kernel_rfl) (e := Extern.SlicesOverlaps.overlaps #[22, 22] #[4]) (by kernel_rfl),
      Lib.run_overlaps_apart w 22 4 30 Tryz.underlying22 7 Tryz.sizeOf30 ⟨vb, 0, none⟩ ⟨g, o, none⟩ 1 1 lb cb hvb 30 30 7 (cap * 7)
        (by simp [World.shape?, hblk, hlen]) (by simp [World.shape?, hgh, hcs]) (by omega) (by simp [World.frozen?, hblk]) (by simp [World.frozen?, hblk])]
    rfl
  have H1 := Lib.hid hgh
  have H2 := Lib.hid hparts
  have H3 := Lib.hid hcell
  have H5 := Lib.hid hR
  have H6 := Lib.hid hlen
  have H7 := Lib.hid hones
  have H8 := Lib.hid htk
  have H9 := Lib.hid hcs
  have Hn := Lib.hid hn
  have Hcl := Lib.hid hcl
  clear hrow hgh hparts hcell hblk hR hlen hones htk hcs hn hcl
  have hinz : ((i : Int) == (n : Int)) = false := by simp; omega
  go_enter Tryz.func27, Tryz.ntmps27
  have hcs' : cur.toList.length = cap * 7 := by rw [Array.length_toList]; exact H9.out
  have Hcs := Lib.hid hcs'
  have hB : ((cur.toList.drop (i * 7)).take ((n - i) * 7)).length = (n - i) * 7 := by rw [List.length_take, List.length_drop, hcs']; omega
  have HB := Lib.hid hB
  have hones1 : ∀ u ∈ (cur.toList.drop (i * 7)).take ((n - i) * 7), u.oneCell' = true := by
    have : (cur.toList.drop (i * 7)).take ((n - i) * 7) = cs.drop (i * 7) := by rw [← H8.out, List.drop_take]; congr 1; omega
    rw [this]
    exact fun u hu => H2.out.ones u (List.mem_of_mem_drop hu)
  have Hone := Lib.hid hones1
  clear hcs' hB hones1
  have hc1 := run_copy_own Tryz.prog w.drew 22 22 3 30 i0 7 g ((i + 1) * 7) (n - i) (cap - (i + 1)) (n + 1 - i) (cap - i) (some ⟨g, i * 7, none⟩) cur.toList ((cur.toList.drop (i * 7)).take ((n - i) * 7)) 30 Tryz.underlying22 hi hz1
    (by rw [Array.toArray_toList]; exact H1.out) (by rw [HB.out]; congr 1; exact (Nat.min_eq_right (by omega)).symm)
    (fun _ => ⟨_, rfl, fun j u hj => by
      rw [Addr.add_lit]
      have hj2 := (List.getElem?_eq_some_iff.1 hj).1
      rw [HB.out] at hj2
      rw [List.getElem?_take, if_pos (by omega), List.getElem?_drop] at hj
      show w.cell? _ = _
      rw [cell_of_row w g _ cur 30 (0, 0) H1.out, ← hj]
      simp⟩) (by rw [HB.out, Hcs.out]; omega) Hone.out
  have Hc1 := Lib.hid hc1
  clear hc1
  go_wp2_with fail
  have b1 : (i : Int) + 1 ≤ (n : Int) + 1 := by omega
  have b2 : (i : Int) ≤ (n : Int) + 1 := by omega
  have b3 : i + 1 ≤ n + 1 := by omega
  have b4 : i ≤ n + 1 := by omega
  have b5 : ¬ cap - (i + 1) = 0 ∨ True := .inr trivial
  have q2 : (0 : Int) ≤ (i : Int) + 1 := by omega
  have q3 : ((i : Int) + 1).toNat = i + 1 := by omega
  have q1 : IntKind.i64.wrap ((i : Int) + 1) = (i : Int) + 1 := IntWalk.i64_in _ (by omega)
  refine wp_region_tail 8 (by kernel_rfl) (by kernel_rfl) ?_
  simp only [List.take_succ_cons, List.take_zero, List.drop_succ_cons, List.drop_zero]
  repeat still_step
  refine wpStill_nil ?_
  have nn : n + 1 - (i + 1) = n - i := by omega
  refine wpList_copy_own_k _ rfl _ _ 22 22 rfl (.slice (some ⟨g, (i + 1) * 7, none⟩) (n - i) (cap - (i + 1))) (.slice (some ⟨g, i * 7, none⟩) (n + 1 - i) (cap - i)) ?_ ?_ Hc1.out ?_
  · show Value.slice (if cap = i + 1 then _ else _) _ _ = _
    rw [if_neg (by omega)]
  · show Value.slice (if cap = i then _ else _) _ _ = _
    rw [if_neg (by omega)]
  clear nn
  clear q1 q2 q3 b1 b2 b3 b4 b5
  have hw2 : (w.drew.setRow g (splice cur.toList ((i + 1) * 7) ((cur.toList.drop (i * 7)).take ((n - i) * 7))).toArray).heap[g]? = some (.cells (splice cur.toList ((i + 1) * 7) ((cur.toList.drop (i * 7)).take ((n - i) * 7))).toArray 30 (0, 0)) :=
    setRow_heap w.drew g cur _ 30 _ H1.out
  have hlen2 : (splice cur.toList ((i + 1) * 7) ((cur.toList.drop (i * 7)).take ((n - i) * 7))).length = cap * 7 := by
    rw [splice_fits _ _ _ (by rw [HB.out, Hcs.out]; omega), Hcs.out]
  generalize hcur2 : splice cur.toList ((i + 1) * 7) ((cur.toList.drop (i * 7)).take ((n - i) * 7)) = cur2 at *
  obtain ⟨W2, hW2⟩ : ∃ W2, W2 = w.drew.setRow g cur2.toArray := ⟨_, rfl⟩
  rw [← hW2] at hw2 ⊢
  have far2 : ∀ k, k ≠ g → W2.heap[k]? = w.heap[k]? := fun k hk => by rw [hW2]; exact setRow_other w.drew g k _ hk
  have hbel2 : Below base w W2 := by rw [hW2]; exact below_setRow (Below.refl base w).drew hgb _
  have hc2 := run_copy_own Tryz.prog W2 22 22 3 30 i0 7 g (i * 7) (n + 1 - i) (cap - i) 1 1 (some ⟨vb, 0, none⟩) cur2 ds 30 Tryz.underlying22 hi hz1 hw2
    (by rw [H6.out]; exact (congrArg (· * 7) (Nat.min_eq_left (by omega : 1 ≤ n + 1 - i))).symm)
    (fun _ => ⟨_, rfl, fun j u hj => (World.cell?_of_block (w := w) (by rw [Addr.add_lit]; exact far2 vb hvb)).trans (H3.out j u hj)⟩) (by rw [H6.out, hlen2]; omega) H7.out
  have Hc2 := Lib.hid hc2
  have HW2 := Lib.hid hW2
  have Hcur2 := Lib.hid hcur2
  have Hw2 := Lib.hid hw2
  have Hfar2 := Lib.hid far2
  have Hlen2 := Lib.hid hlen2
  have Hbel2 := Lib.hid hbel2
  clear hc2 hW2 hcur2 hw2 far2 hlen2 hbel2
  go_wp2_with (refine wpList_copy_own_k _ rfl _ _ 22 22 rfl _ _ rfl rfl Hc2.out ?_)
  all_goals
    go_ret
    have hw3 : (W2.setRow g (splice cur2 (i * 7) ds).toArray).heap[g]? = some (.cells (splice cur2 (i * 7) ds).toArray 30 (0, 0)) := setRow_heap W2 g cur2.toArray _ 30 _ Hw2.out
    have hlen3 : (splice cur2 (i * 7) ds).length = cap * 7 := by rw [splice_fits _ _ _ (by rw [H6.out, Hlen2.out]; omega), Hlen2.out]
    have hcells : (splice cur2 (i * 7) ds).take ((n + 1) * 7) = cs.take (i * 7) ++ (ds ++ cs.drop (i * 7)) := by
      have := ins_room cur.toList ds (i * 7) (n * 7) 7 H6.out (by omega) (by rw [Hcs.out]; omega)
      rw [H8.out, ← Nat.sub_mul, show i * 7 + 7 = (i + 1) * 7 from by omega, Hcur2.out] at this
      rw [← this]
      congr 1
      omega
    have far3 : ∀ k, k ≠ g → (W2.setRow g (splice cur2 (i * 7) ds).toArray).heap[k]? = w.heap[k]? := fun k hk => by rw [setRow_other W2 g k _ hk, Hfar2.out k hk]
    have hp3 := (H2.out.take i).append ((Parts.one H5.out).append (H2.out.drop i))
    have hxl : (xs.take i ++ y :: xs.drop i).length = n + 1 := by
      rw [List.length_append, List.length_cons, List.length_take, List.length_drop, ← Hn.out]
      omega
    refine ⟨_, rfl, ⟨cs.take (i * 7) ++ (ds ++ cs.drop (i * 7)), ?_, fun k hk hne => hne hk, hp3.move fun k hk hlt => ⟨far3 k fun e => hk (by rw [e]; rfl), hk⟩⟩, below_setRow Hbel2.out hgb _⟩
    rw [hxl]
    refine ⟨by rw [← hcells, List.length_take, hlen3]; exact Nat.min_eq_left (Nat.mul_le_mul_right 7 hroom), .inr ⟨g, cap, (splice cur2 (i * 7) ds).toArray, rfl, hgb, hw3, hroom, hcap, ?_, ?_⟩⟩
    · rw [List.size_toArray]
      exact hlen3
    · exact hcells

set_option maxHeartbeats 2000000 in
theorem Insert_grow (base : Nat) (xs : List DEntry) (g n cap i vb : Nat) (y : DEntry) (w : World) (hv : OwnX kEntry 30 w base (.slice (some ⟨g, 0, none⟩) n cap) xs) (hn : n = xs.length) (hb : base ≤ w.heap.size)
    (hy : Alone w vb y (fun k => (Value.slice (some ⟨g, 0, none⟩) n cap).ownBlock ≠ some k)) (hin : i < n) (hroom : cap < n + 1) (hf : (n + 1) * 120 ≤ 140737488355328) :
    Calls Tryz.prog 27 #[.slice (some ⟨g, 0, none⟩) n cap, .int .i64 i, .slice (some ⟨vb, 0, none⟩) 1 1] w (InsPost base w (xs.take i ++ y :: xs.drop i)) := by
  obtain ⟨i0, hi, hz0, hz1, hz2⟩ := info_parts infoE
  obtain ⟨ds, hblk, hR⟩ := hy
  have hlen : ds.length = 7 := kEntry.len hR
  have hones := kEntry.one hR
  obtain ⟨cs, hrow, _, hparts⟩ := hv
  rw [← hn] at hrow
  have hrow7 : w.ownsRow base 30 7 (.slice (some ⟨g, 0, none⟩) n cap) n cs := hrow
  obtain ⟨hcl, ⟨h0, _⟩ | ⟨g', cap', cur, he, hgb, hgh, hnc, hcap, hcs, htk⟩⟩ := hrow7
  · cases h0
  injection he with e1 _ e3
  injection e1 with e1
  injection e1 with e1
  subst e1
  subst e3
  have hcap' : cap ≤ 9223372036854775807 := by simpa [maxLen] using hcap
  have hgw : g < w.heap.size := (Array.getElem?_eq_some_iff.1 hgh).1
  have hvw : vb < w.heap.size := (Array.getElem?_eq_some_iff.1 hblk).1
  have hccell : ∀ j u, cs[j]? = some u → w.cell? ⟨g, j, none⟩ = some u := fun j u hj => by
    rw [cell_of_row w g j cur 30 (0, 0) hgh]
    have hj2 := (List.getElem?_eq_some_iff.1 hj).1
    rw [hcl] at hj2
    rw [← htk, List.getElem?_take, if_pos hj2] at hj
    simpa using hj
  have hcell : ∀ j u, ds[j]? = some u → w.cell? ⟨vb, j, none⟩ = some u := fun j u hj => cell_of_alone hblk j u hj
  have hil : (cs.take (i * 7)).length = i * i0.size := by rw [List.length_take, hcl, hz1]; exact Nat.min_eq_left (Nat.mul_le_mul_right 7 (by omega))
  have hnn : ((n : Int) + 1 - (i : Int)) = ((n + 1 - i : Nat) : Int) := by omega
  obtain ⟨z, hz0'⟩ : ∃ z, i0.zero = some z := ⟨_, hz0⟩
  have hzc : z.cells.size = 7 := by
    rw [hz0] at hz0'
    injection hz0' with hz0'
    rw [← hz0']
    rfl
  have hrz : ∀ ty, (Builtin.append_ #[22, 3] ty #[.slice (some ⟨g, 0, none⟩) i cap, .int .i64 ((n : Int) + 1 - (i : Int))]).run Tryz.prog w =
      .ok (.slice (some ⟨w.heap.size, 0, none⟩) (n + 1) (grownCap w (n + 1) cap 30)) (w.drew.alloc (.cells ((cs.take (i * 7)).toArray ++ Builtin.zeroCells z.cells (n + 1 - i) ++ Builtin.zeroCells z.cells (grownCap w (n + 1) cap 30 - (n + 1))) 30)) := fun ty => by
    have e := run_append_zeros_grow (P := Tryz.prog) w 22 3 ty 30 i0 z .i64 .i64 Tryz.underlying22 Tryz.underlying3 hi hz0' ⟨g, 0, none⟩ i cap (cs.take (i * 7)) hil
      (fun j u hj => by
        rw [Addr.add_lit, Nat.zero_add]
        refine hccell j u ?_
        rw [List.getElem?_take] at hj
        split at hj
        · exact hj
        · cases hj) (n + 1 - i) (by omega) (by rw [hz1]; decide) (by omega) (by omega) (by rw [hz2]; omega)
    rw [show i + (n + 1 - i) = n + 1 from by omega] at e
    rw [hnn]
    exact e
  obtain ⟨G, hG⟩ : ∃ G, G = grownCap w (n + 1) cap 30 := ⟨_, rfl⟩
  have hGn : n + 1 ≤ G := by rw [hG]; exact grownCap_ge w _ _ _
  have hGm : G ≤ maxLen := by rw [hG]; exact grownCap_le_maxLen w _ _ _ (by unfold maxLen; omega)
  have hG63 : G ≤ 9223372036854775807 := by simpa [maxLen] using hGm
  rw [← hG] at hrz
  obtain ⟨Z, hZ⟩ : ∃ Z, Z = (Builtin.zeroCells z.cells (n + 1 - i) ++ Builtin.zeroCells z.cells (G - (n + 1))).toList := ⟨_, rfl⟩
  have hZl : Z.length = (G - i) * 7 := by
    rw [hZ, Array.length_toList, Array.size_append, size_zeroCells, size_zeroCells, hzc]
    omega
  have hrowz : (cs.take (i * 7)).toArray ++ Builtin.zeroCells z.cells (n + 1 - i) ++ Builtin.zeroCells z.cells (G - (n + 1)) = (cs.take (i * 7) ++ Z).toArray := by
    rw [hZ, Array.append_assoc]
    apply Array.ext'
    simp
  obtain ⟨W1, hW1⟩ : ∃ W1, W1 = w.drew.alloc (.cells ((cs.take (i * 7)).toArray ++ Builtin.zeroCells z.cells (n + 1 - i) ++ Builtin.zeroCells z.cells (G - (n + 1))) 30) := ⟨_, rfl⟩
  rw [← hW1] at hrz
  rw [hrowz] at hW1
  have hw1 : W1.heap[w.heap.size]? = some (.cells (cs.take (i * 7) ++ Z).toArray 30 (0, 0)) := by
    rw [hW1]
    show (w.heap.push _)[w.heap.size]? = _
    rw [Array.getElem?_push_size]
  have far1 : ∀ k, k < w.heap.size → W1.heap[k]? = w.heap[k]? := fun k hk => by rw [hW1]; exact Below.heap_alloc w.drew _ k hk
  have hbel1 : Below base w W1 := by rw [hW1]; exact (Below.refl base w).drew.alloc hb _
  have hl7 : (cs.take (i * 7)).length = i * 7 := by rw [hil, hz1]
  have hlen1 : (cs.take (i * 7) ++ Z).length = G * 7 := by rw [List.length_append, hl7, hZl]; omega
  have hcA := run_copy_own Tryz.prog W1 22 22 3 30 i0 7 w.heap.size (i * 7) (n + 1 - i) (G - i) 1 1 (some ⟨vb, 0, none⟩) (cs.take (i * 7) ++ Z) ds 30 Tryz.underlying22 hi hz1 hw1
    (by rw [hlen]; exact (congrArg (· * 7) (Nat.min_eq_left (by omega : 1 ≤ n + 1 - i))).symm)
    (fun _ => ⟨_, rfl, fun j u hj => (World.cell?_of_block (w := w) (by rw [Addr.add_lit]; exact far1 vb hvw)).trans (by rw [Addr.add_lit, Nat.zero_add]; exact hcell j u hj)⟩) (by rw [hlen, hlen1]; omega) hones
  have hlen2 : (splice (cs.take (i * 7) ++ Z) (i * 7) ds).length = G * 7 := by rw [splice_fits _ _ _ (by rw [hlen, hlen1]; omega), hlen1]
  have hw2 : (W1.setRow w.heap.size (splice (cs.take (i * 7) ++ Z) (i * 7) ds).toArray).heap[w.heap.size]? = some (.cells (splice (cs.take (i * 7) ++ Z) (i * 7) ds).toArray 30 (0, 0)) := setRow_heap W1 w.heap.size _ _ 30 _ hw1
  obtain ⟨cur2, hcur2⟩ : ∃ cur2, cur2 = splice (cs.take (i * 7) ++ Z) (i * 7) ds := ⟨_, rfl⟩
  obtain ⟨W2, hW2⟩ : ∃ W2, W2 = W1.setRow w.heap.size cur2.toArray := ⟨_, rfl⟩
  rw [← hcur2] at hcA hlen2 hw2
  rw [← hW2] at hcA hw2
  have far2 : ∀ k, k < w.heap.size → W2.heap[k]? = w.heap[k]? := fun k hk => by rw [hW2, setRow_other W1 _ k _ (by omega), far1 k hk]
  have hbel2 : Below base w W2 := by rw [hW2]; exact below_setRow hbel1 hb _
  have hdl : (cs.drop (i * 7)).length = (n - i) * 7 := by rw [List.length_drop, hcl, ← Nat.sub_mul]
  have hcB := run_copy_own Tryz.prog W2.drew 22 22 3 30 i0 7 w.heap.size ((i + 1) * 7) (n - i) (G - (i + 1)) (n - i) (cap - i) (some ⟨g, i * 7, none⟩) cur2 (cs.drop (i * 7)) 30 Tryz.underlying22 hi hz1 hw2
    (by rw [hdl]; exact congrArg (· * 7) (Nat.min_self _).symm)
    (fun _ => ⟨_, rfl, fun j u hj => (World.cell?_of_block (w := w) (by rw [Addr.add_lit]; exact far2 g hgw)).trans (by rw [Addr.add_lit]; rw [List.getElem?_drop] at hj; exact hccell _ u hj)⟩) (by rw [hdl, hlen2]; omega) (fun u hu => hparts.ones u (List.mem_of_mem_drop hu))
  have hw3 : (W2.drew.setRow w.heap.size (splice cur2 ((i + 1) * 7) (cs.drop (i * 7))).toArray).heap[w.heap.size]? = some (.cells (splice cur2 ((i + 1) * 7) (cs.drop (i * 7))).toArray 30 (0, 0)) := setRow_heap W2.drew w.heap.size _ _ 30 _ hw2
  obtain ⟨W3, hW3⟩ : ∃ W3, W3 = W2.drew.setRow w.heap.size (splice cur2 ((i + 1) * 7) (cs.drop (i * 7))).toArray := ⟨_, rfl⟩
  rw [← hW3] at hcB hw3
  have hbel3 : Below base w W3 := by rw [hW3]; exact below_setRow hbel2.drew hb _
  have far3 : ∀ k, k < w.heap.size → W3.heap[k]? = w.heap[k]? := fun k hk => by rw [hW3, setRow_other W2.drew _ k _ (by omega)]; exact far2 k hk
  have hlen3 : (splice cur2 ((i + 1) * 7) (cs.drop (i * 7))).length = G * 7 := by rw [splice_fits _ _ _ (by rw [hdl, hlen2]; omega), hlen2]
  have hcells : (splice cur2 ((i + 1) * 7) (cs.drop (i * 7))).take ((n + 1) * 7) = cs.take (i * 7) ++ (ds ++ cs.drop (i * 7)) := by
    have := ins_grow cs Z ds (i * 7) (n * 7) 7 hlen (by omega) hcl (by rw [hZl]; omega)
    rw [show i * 7 + 7 = (i + 1) * 7 from by omega, show n * 7 + 7 = (n + 1) * 7 from by omega, ← hcur2] at this
    exact this
  have hp3 := (hparts.take i).append ((Parts.one hR).append (hparts.drop i))
  have hxl : (xs.take i ++ y :: xs.drop i).length = n + 1 := by
    rw [List.length_append, List.length_cons, List.length_take, List.length_drop, ← hn]
    omega
  have hfin : InsPost base w (xs.take i ++ y :: xs.drop i) (.returned (.slice (some ⟨w.heap.size, 0, none⟩) (n + 1) G)) W3 := by
    refine ⟨_, rfl, ⟨cs.take (i * 7) ++ (ds ++ cs.drop (i * 7)), ?_, fun k hk hne => hne hk, hp3.move fun k hk hlt => ⟨far3 k hlt, fun e => ?_⟩⟩, hbel3⟩
    · rw [hxl]
      refine ⟨by rw [← hcells, List.length_take, hlen3]; exact Nat.min_eq_left (Nat.mul_le_mul_right 7 hGn), .inr ⟨w.heap.size, G, _, rfl, hb, hw3, hGn, hGm, ?_, ?_⟩⟩
      · rw [List.size_toArray]
        exact hlen3
      · exact hcells
    · have : w.heap.size = k := by simpa [Value.ownBlock] using e
      omega
  have H1 := Lib.hid hrz
  have H2 := Lib.hid hcA
  have H3 := Lib.hid hcB
  have H4 := Lib.hid hfin
  clear hfin hp3 hcells hlen3 far3 hbel3 hw3 hW3 hcB hdl hbel2 far2 hW2 hcur2 hw2 hlen2 hcA hlen1 hl7 hbel1 far1 hw1 hW1 hrowz hZl hZ hrz hG hzc hz0' hnn hil hcell hccell hcs htk hgh hparts hones hlen hblk hR hxl hcl hn hrow hGm hcap
  have hinz : ((i : Int) == (n : Int)) = false := by simp; omega
  go_enter Tryz.func27, Tryz.ntmps27
  go_wp2_with (first
    | (at_builtin; refine Lib.wpList_append_run _ rfl _ _ _ _ rfl _ _ rfl rfl _ _ (H1.out _) ?_)
    | (refine wpList_copy_own_k _ rfl _ _ 22 22 rfl _ _ rfl rfl H2.out ?_))
  have b1 : (i : Int) + 1 ≤ (n : Int) + 1 := by omega
  have b2 : (i : Int) ≤ (n : Int) := by omega
  have b3 : i + 1 ≤ n + 1 := by omega
  have b4 : i ≤ n := by omega
  have q2 : (0 : Int) ≤ (i : Int) + 1 := by omega
  have q3 : ((i : Int) + 1).toNat = i + 1 := by omega
  have q1 : IntKind.i64.wrap ((i : Int) + 1) = (i : Int) + 1 := IntWalk.i64_in _ (by omega)
  refine wp_region_tail 8 (by kernel_rfl) (by kernel_rfl) ?_
  simp only [List.take_succ_cons, List.take_zero, List.drop_succ_cons, List.drop_zero]
  repeat still_step
  refine wpStill_nil ?_
  refine wpList_copy_own_k _ rfl _ _ 22 22 rfl (.slice (some ⟨w.heap.size, (i + 1) * 7, none⟩) (n - i) (G - (i + 1))) (.slice (some ⟨g, i * 7, none⟩) (n - i) (cap - i)) ?_ ?_ H3.out ?_
  · show Value.slice (if G = i + 1 then _ else _) _ _ = _
    rw [if_neg (by omega)]
  · show Value.slice (if cap = i then _ else _) _ _ = _
    rw [if_neg (by omega)]
  clear q1 q2 q3 b1 b2 b3 b4
  go_wp2_with fail
  all_goals
    go_ret
    exact H4.out

/-- slices.Insert of one entry. -/
theorem slicesInsertE (base : Nat) (xs : List DEntry) (v : Value) (i vb : Nat) (y : DEntry) (w : World) (hv : OwnX kEntry 30 w base v xs) (hb : base ≤ w.heap.size)
    (hy : Alone w vb y (fun k => v.ownBlock ≠ some k)) (hvb : v.ownBlock ≠ some vb) (hi : i ≤ xs.length) (hf : (xs.length + 1) * 120 ≤ 140737488355328) :
    Calls Tryz.prog 27 #[v, .int .i64 i, .slice (some ⟨vb, 0, none⟩) 1 1] w (InsPost base w (xs.take i ++ y :: xs.drop i)) := by
  rcases Nat.lt_or_ge i xs.length with h | h
  · obtain ⟨g, cap, rfl, _, _⟩ := hv.form (by omega)
    have hne : vb ≠ g := fun e => hvb (by rw [e]; rfl)
    rcases Nat.lt_or_ge cap (xs.length + 1) with hc | hc
    · exact Insert_grow base xs g xs.length cap i vb y w hv rfl hb hy h hc hf
    · exact Insert_room base xs g xs.length cap i vb y w hv rfl hb hy hne h hc hf
  · have e : i = xs.length := by omega
    subst e
    rw [List.take_length, List.drop_length]
    exact Insert_end base xs v vb y (fun _ => True) w hv hb hy hf
end Go.Proofs.YtkgghnjpegpnlaaGreatDoor
