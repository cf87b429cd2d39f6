/- millpondlaw09.cut: the entries that are looked at. Conditions: what is read reads as the data. -/
import Derived.Test.YtkgghnjpegpnlaaGreatDoorFew
import Derived.Test.YtkgghnjpegpnlaaGreatDoorCopy
import Derived.Test.YtkgghnjpegpnlaaGreatDoorInsert
import Derived.Test.YtkgghnjpegpnlaaGreatDoorClone
import Derived.Deep.AppendLies
namespace Go.Proofs.YtkgghnjpegpnlaaGreatDoor
open Go.RowKit Go.Proofs
set_option linter.unusedSimpArgs false
set_option linter.unusedVariables false
set_option maxRecDepth 100000

def fewE (e : DEntry) : DEntry := { e with v := fewD e.v }
def cutD (l : List DEntry) : List DEntry := (l.take 20).map fewE

theorem OwnS.appended {α : Type} {d : Kd α} {e : TypeId} {T : Nat → Prop} {w w1 : World} {base : Nat} {v : Value} {xs ys : List α} {cs ds : List Value} {g cap m : Nat} (hT : ∀ k, T k → k < w.heap.size) (hp : Parts d (fun k => T k ∧ v.ownBlock ≠ some k) w xs cs) (hq : Parts d (fun k => T k ∧ v.ownBlock ≠ some k) w ys ds)
    (hown : w1.ownsRow base e d.sz (.slice (some ⟨g, 0, none⟩) (xs.length + m) cap) (xs.length + ys.length) (cs ++ ds)) (hgrow : w.grownBy w1 v.ownBlock) (hat : v.ownBlock = some g ∨ g = w.heap.size) :
    OwnS d e T w1 base (.slice (some ⟨g, 0, none⟩) (xs.length + m) cap) (xs ++ ys) := by
  refine ⟨cs ++ ds, by rw [List.length_append]; exact hown, fun k hk hn => hn.2 hk, (hp.append hq).move fun k hk hlt => ⟨hgrow.block k hlt (Ne.symm hk.2), hk.1, fun h => ?_⟩⟩
  have hgk : g = k := by simpa [Value.ownBlock] using h
  subst hgk
  rcases hat with hat | hat
  · exact hk.2 hat
  · have := hT _ hk.1
    omega

set_option maxHeartbeats 2000000 in
theorem cut {S : Nat → Prop} {A : Option Addr} {l : List DEntry} {c : Nat} {w : World} (h : Row kEntry S w A l) :
    Calls Tryz.prog 6 #[.slice A l.length c] w fun e w' => ∃ v, e = .returned v ∧ OwnS kEntry 30 (fun q => S q ∧ q < w.heap.size) w' w.heap.size v (cutD l) ∧ Below w.heap.size w w' := by
  obtain ⟨i0, hi, hz0', hz1, hz2⟩ := info_parts infoE
  have hl := h.1
  replace h := h.old
  go_enter Tryz.func6, Tryz.ntmps6
  go_wp2
  go_loopg [3, 4] l.length (fun gg s3 s4 wr => ∃ k : Nat, k ≤ l.length ∧ k ≤ 20 ∧ l.length - k ≤ gg ∧ s4 = .int .i64 k ∧ Hid (Below w.heap.size w wr) ∧ Hid (OwnS kEntry 30 (fun q => S q ∧ q < w.heap.size) wr w.heap.size s3 (cutD (l.take k))))
  case atStart => exact ⟨0, Nat.zero_le _, by omega, by omega, rfl, Below.refl _ _, Own.nil _ _ _ _ _⟩
  case round =>
    obtain ⟨k, hk, hk20, hg, rfl, HB, HO⟩ := hrel
    by_cases hlt : k < l.length
    · by_cases h20 : k < 20
      · have hltz : (k : Int) < (l.length : Int) := by omega
        have h20z : (k : Int) < 20 := by omega
        have hltb : decide ((k : Int) < (l.length : Int)) = true := by simpa using hlt
        obtain ⟨y, hy⟩ : ∃ y, l[k]? = some y := ⟨_, List.getElem?_eq_getElem hlt⟩
        have hrow := h.move (below_moves HB.out)
        obtain ⟨fb, foff, fA1, fc1, fA2, fc2, fA3, fc3, rfl, f0, f1, f2, f3, f4, f5, f6, fR⟩ := (hrow).entry hy
        have hval : kVal.R (fun q => S q ∧ q < w.heap.size) wr y.v [.int .i64 y.v.kind, .string y.v.s, .slice fA1 y.v.l.length fc1, .slice fA2 y.v.z.length fc2, .slice fA3 y.v.h.length fc3] := by
          obtain ⟨_, _, _, _, _, _, he, _, hv⟩ := fR
          injection he with _ he; injection he with _ he; injection he with _ he; injection he with e1 he; injection he with e2 he; injection he with e3 he
          cases e1; cases e2; cases e3
          exact hv
        have hkey : y.key.size ≤ 140737488355328 ∧ -9223372036854775808 ≤ y.at_ ∧ y.at_ ≤ 9223372036854775807 := by
          obtain ⟨_, _, _, _, _, _, _, hkey, _⟩ := fR
          exact hkey
        have HK := Lib.hid hkey
        clear hkey
        have hV0 := Lib.hid hval
        have hF := fun (W : World) (hb : Below wr.heap.size wr W) => few (kVal.move (below_moves hb) hval)
        have HY := Lib.hid hy
        clear hrow hy hval
        go_wp2_with fail
        obtain ⟨W, hW⟩ : ∃ W, W = wr.alloc (.cells #[.string y.key, .int .i64 y.v.kind, .string y.v.s, .slice fA1 y.v.l.length fc1, .slice fA2 y.v.z.length fc2, .slice fA3 y.v.h.length fc3, .int .i64 y.at_] 30) := ⟨_, rfl⟩
        rw [← hW]
        have hB : Below wr.heap.size wr W := by rw [hW]; exact (Below.refl _ _).alloc (Nat.le_refl _) _
        have hz0 : wr.heap.size < W.heap.size := by rw [hW]; simp
        have t0 : W.cell? ⟨wr.heap.size, 0, none⟩ = some (.string y.key) := by rw [hW]; go_simp
        have u0 : W.frozen? ⟨wr.heap.size, 0, none⟩ = false := by rw [hW]; go_simp
        have t1 : W.cell? ⟨wr.heap.size, 1, none⟩ = some (.int .i64 y.v.kind) := by rw [hW]; go_simp
        have u1 : W.frozen? ⟨wr.heap.size, 1, none⟩ = false := by rw [hW]; go_simp
        have t2 : W.cell? ⟨wr.heap.size, 2, none⟩ = some (.string y.v.s) := by rw [hW]; go_simp
        have u2 : W.frozen? ⟨wr.heap.size, 2, none⟩ = false := by rw [hW]; go_simp
        have t3 : W.cell? ⟨wr.heap.size, 3, none⟩ = some (.slice fA1 y.v.l.length fc1) := by rw [hW]; go_simp
        have u3 : W.frozen? ⟨wr.heap.size, 3, none⟩ = false := by rw [hW]; go_simp
        have t4 : W.cell? ⟨wr.heap.size, 4, none⟩ = some (.slice fA2 y.v.z.length fc2) := by rw [hW]; go_simp
        have u4 : W.frozen? ⟨wr.heap.size, 4, none⟩ = false := by rw [hW]; go_simp
        have t5 : W.cell? ⟨wr.heap.size, 5, none⟩ = some (.slice fA3 y.v.h.length fc3) := by rw [hW]; go_simp
        have u5 : W.frozen? ⟨wr.heap.size, 5, none⟩ = false := by rw [hW]; go_simp
        have t6 : W.cell? ⟨wr.heap.size, 6, none⟩ = some (.int .i64 y.at_) := by rw [hW]; go_simp
        have u6 : W.frozen? ⟨wr.heap.size, 6, none⟩ = false := by rw [hW]; go_simp
        clear hW f0 f1 f2 f3 f4 f5 f6
        refine (hF W hB).mono ?_
        rintro e w3 ⟨rfl, R3, b3⟩
        clear hF
        replace t0 := (b3.cell (p := ⟨wr.heap.size, 0, none⟩) hz0).trans t0
        replace u0 := (b3.frozen (p := ⟨wr.heap.size, 0, none⟩) hz0).trans u0
        replace t1 := (b3.cell (p := ⟨wr.heap.size, 1, none⟩) hz0).trans t1
        replace u1 := (b3.frozen (p := ⟨wr.heap.size, 1, none⟩) hz0).trans u1
        replace t2 := (b3.cell (p := ⟨wr.heap.size, 2, none⟩) hz0).trans t2
        replace u2 := (b3.frozen (p := ⟨wr.heap.size, 2, none⟩) hz0).trans u2
        replace t3 := (b3.cell (p := ⟨wr.heap.size, 3, none⟩) hz0).trans t3
        replace u3 := (b3.frozen (p := ⟨wr.heap.size, 3, none⟩) hz0).trans u3
        replace t4 := (b3.cell (p := ⟨wr.heap.size, 4, none⟩) hz0).trans t4
        replace u4 := (b3.frozen (p := ⟨wr.heap.size, 4, none⟩) hz0).trans u4
        replace t5 := (b3.cell (p := ⟨wr.heap.size, 5, none⟩) hz0).trans t5
        replace u5 := (b3.frozen (p := ⟨wr.heap.size, 5, none⟩) hz0).trans u5
        replace t6 := (b3.cell (p := ⟨wr.heap.size, 6, none⟩) hz0).trans t6
        replace u6 := (b3.frozen (p := ⟨wr.heap.size, 6, none⟩) hz0).trans u6
        have B3 := below_trans' hB b3
        have z3 : wr.heap.size < w3.heap.size := Nat.lt_of_lt_of_le hz0 b3.size
        have HR := Lib.hid R3
        have HB3 := Lib.hid B3
        have HBW := Lib.hid hB
        clear R3 B3 hB b3
        obtain ⟨n1, hn1⟩ : ∃ n1, n1 = (fewD y.v).l.length := ⟨_, rfl⟩
        obtain ⟨n2, hn2⟩ : ∃ n2, n2 = (fewD y.v).z.length := ⟨_, rfl⟩
        obtain ⟨n3, hn3⟩ : ∃ n3, n3 = (fewD y.v).h.length := ⟨_, rfl⟩
        rw [← hn1, ← hn2, ← hn3] at HR ⊢
        have N1 := Lib.hid hn1
        have N2 := Lib.hid hn2
        have N3 := Lib.hid hn3
        clear hn1 hn2 hn3
        obtain ⟨cs, hrow, _, hparts⟩ := HO.out
        have hcl : (cutD (l.take k)).length = k := by simp [cutD]; omega
        have hmv := fun (W5 : World) (hb : Below wr.heap.size wr W5) => ownsRow_move hrow (base' := w.heap.size) (w1 := W5) (fun q hq => (ownsRow_base hrow q hq).1) (fun q hq => hb.block q (ownsRow_base hrow q hq).2)
        simp only [hcl] at hmv
        have HS := Lib.hid (fun q hq => (ownsRow_base hrow q hq).1)
        have HM := Lib.hid hmv
        have HP := Lib.hid hparts
        clear hmv hrow hparts
        go_upto_region 7 with fail
        obtain ⟨W4, hW4⟩ : ∃ W4, W4 = ((((w3.setCell ⟨wr.heap.size, 1, none⟩ (.int .i64 y.v.kind)).setCell ⟨wr.heap.size, 2, none⟩ (.string y.v.s)).setCell ⟨wr.heap.size, 3, none⟩ (.slice fA1 n1 fc1)).setCell ⟨wr.heap.size, 4, none⟩ (.slice fA2 n2 fc2)).setCell ⟨wr.heap.size, 5, none⟩ (.slice fA3 n3 fc3) := ⟨_, rfl⟩
        rw [← hW4]
        have t0' : W4.cell? ⟨wr.heap.size, 0, none⟩ = some (Value.string y.key) := by rw [hW4]; go_simp
        have t1' : W4.cell? ⟨wr.heap.size, 1, none⟩ = some (.int .i64 y.v.kind) := by rw [hW4]; go_simp
        have t2' : W4.cell? ⟨wr.heap.size, 2, none⟩ = some (.string y.v.s) := by rw [hW4]; go_simp
        have t3' : W4.cell? ⟨wr.heap.size, 3, none⟩ = some (.slice fA1 n1 fc1) := by rw [hW4]; go_simp
        have t4' : W4.cell? ⟨wr.heap.size, 4, none⟩ = some (.slice fA2 n2 fc2) := by rw [hW4]; go_simp
        have t5' : W4.cell? ⟨wr.heap.size, 5, none⟩ = some (.slice fA3 n3 fc3) := by rw [hW4]; go_simp
        have t6' : W4.cell? ⟨wr.heap.size, 6, none⟩ = some (.int .i64 y.at_) := by rw [hW4]; go_simp
        have B4 : Below wr.heap.size wr W4 := by
          rw [hW4]
          repeat (refine Below.setCell ?_ ?_ _)
          all_goals (first | exact HB3.out | exact Nat.le_refl _)
        clear hW4 t0 t1 t2 t3 t4 t5 t6 u0 u1 u2 u3 u4 u5 u6
        have hnew : ∀ W5, Below W4.heap.size W4 W5 → kEntry.R (fun q => S q ∧ q < w.heap.size) W5 (fewE y) [Value.string y.key, .int .i64 y.v.kind, .string y.v.s, .slice fA1 n1 fc1, .slice fA2 n2 fc2, .slice fA3 n3 fc3, .int .i64 y.at_] := fun W5 hb => by
          have hr := HR.out
          rw [N1.out, N2.out, N3.out] at hr ⊢
          refine ⟨fA1, fc1, fA2, fc2, fA3, fc3, rfl, HK.out, kVal.move (fun q hq _ => ⟨?_, hq⟩) hr⟩
          have hqw : q < wr.heap.size := Nat.lt_of_lt_of_le hq.2 HB.out.size
          rw [hb.block q (Nat.lt_of_lt_of_le hqw B4.size), B4.block q hqw, HBW.out.block q hqw]
        have hcell : ∀ j u, ([Value.string y.key, .int .i64 y.v.kind, .string y.v.s, .slice fA1 n1 fc1, .slice fA2 n2 fc2, .slice fA3 n3 fc3, .int .i64 y.at_] : List Value)[j]? = some u → (W4.alloc (.cells #[Value.string y.key, .int .i64 y.v.kind, .string y.v.s, .slice fA1 n1 fc1, .slice fA2 n2 fc2, .slice fA3 n3 fc3, .int .i64 y.at_] 30)).cell? (Addr.add ⟨W4.heap.size, 0, none⟩ j) = some u := fun j u hj => by
          rw [Addr.add_lit, Nat.zero_add]
          refine cell_of_alone (cs := [Value.string y.key, .int .i64 y.v.kind, .string y.v.s, .slice fA1 n1 fc1, .slice fA2 n2 fc2, .slice fA3 n3 fc3, .int .i64 y.at_]) (t := 30) ?_ j u hj
          show (W4.heap.push _)[W4.heap.size]? = _
          rw [Array.getElem?_push_size]
        have hone : ∀ u ∈ ([Value.string y.key, .int .i64 y.v.kind, .string y.v.s, .slice fA1 n1 fc1, .slice fA2 n2 fc2, .slice fA3 n3 fc3, .int .i64 y.at_] : List Value), u.oneCell' = true := kEntry.one (hnew W4 (Below.refl _ _))
        have hbase : w.heap.size ≤ (W4.alloc (.cells #[Value.string y.key, .int .i64 y.v.kind, .string y.v.s, .slice fA1 n1 fc1, .slice fA2 n2 fc2, .slice fA3 n3 fc3, .int .i64 y.at_] 30)).heap.size := Nat.le_trans HB.out.size (Nat.le_trans B4.size (by simp))
        have HN := Lib.hid hnew
        have HC := Lib.hid hcell
        have HE := Lib.hid hone
        have HZ := Lib.hid hbase
        clear hnew hcell hone hbase
        have HB4 := Lib.hid B4
        clear B4
        go_wp2_with (at_builtin; go_loud (refine wpList_append_lies _ rfl _ _ 22 rfl w.heap.size 30 i0 _ 7 120 Tryz.underlying22 hi hz0' hz1 hz2 rfl (by decide) _ k cs rfl (HM.out _ (HB4.out.alloc HB4.out.size _)) ⟨W4.heap.size, 0, none⟩ 1 1 [Value.string y.key, .int .i64 y.v.kind, .string y.v.s, .slice fA1 n1 fc1, .slice fA2 n2 fc2, .slice fA3 n3 fc3, .int .i64 y.at_] rfl rfl HC.out HE.out (by decide) (by unfold maxLen; omega) (by omega) HZ.out _ rfl ?_; intro g cap w6 hown hgrow hat hlt))
        have B5 := below_trans' HB.out (HB4.out.alloc HB4.out.size (.cells #[Value.string y.key, .int .i64 y.v.kind, .string y.v.s, .slice fA1 n1 fc1, .slice fA2 n2 fc2, .slice fA3 n3 fc3, .int .i64 y.at_] 30))
        have B6 := B5.grown hgrow HZ.out HS.out
        have HH := Lib.hid hown
        have HG := Lib.hid hgrow
        have HA := Lib.hid hat
        clear hown hgrow hat B5
        go_roundg (l.length - (k + 1))
        case rel =>
          refine ⟨k + 1, by omega, by omega, by omega, by go_num, B6, ?_⟩
          have hc1 : cutD (l.take (k + 1)) = cutD (l.take k) ++ [fewE y] := by
            unfold cutD
            rw [List.take_take, List.take_take, Nat.min_eq_right (by omega), Nat.min_eq_right (by omega), List.take_add_one, HY.out]
            simp
          have hq := OwnS.appended (d := kEntry) (e := 30) (T := fun q => S q ∧ q < w.heap.size) (m := 1) (fun q hq => Nat.lt_of_lt_of_le hq.2 (Nat.le_trans HB.out.size (Nat.le_trans HB4.out.size (by simp)))) (HP.out.move (below_moves (HB4.out.alloc HB4.out.size _))) (Parts.one (kEntry.move (fun q hq _ => ⟨rfl, hq, fun e => absurd (HS.out q e) (by omega)⟩) (HN.out _ ((Below.refl _ _).alloc (Nat.le_refl _) _)))) (by rw [hcl]; exact HH.out) HG.out HA.out
          rw [hcl] at hq
          rw [hc1]
          exact hq
        case measure => omega
      · obtain rfl : k = 20 := by omega
        have hltz : decide (((20 : Nat) : Int) < (l.length : Int)) = true := by simp; omega
        go_wp2
        go_ret
        refine ⟨_, rfl, ?_, HB.out⟩
        have e : cutD (l.take 20) = cutD l := by simp [cutD, List.take_take]
        rw [← e]
        exact HO.out
    · obtain rfl : k = l.length := by omega
      go_wp2
      go_ret
      refine ⟨_, rfl, ?_, HB.out⟩
      have e : cutD (l.take l.length) = cutD l := by rw [List.take_length]
      rw [← e]
      exact HO.out
end Go.Proofs.YtkgghnjpegpnlaaGreatDoor
