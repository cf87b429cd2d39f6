/- millpondref09.Live: the entries that are not over. Conditions: what is read reads as the data; few enough entries. -/
import Derived.Test.YtkgghnjpegpnlaaGreatDoorInsert
import Derived.Test.YtkgghnjpegpnlaaGreatDoorFew
import Derived.Test.YtkgghnjpegpnlaaGreatDoorChain
namespace Go.Proofs.YtkgghnjpegpnlaaGreatDoor
open Go.RowKit Go.Proofs
set_option linter.unusedSimpArgs false
set_option linter.unusedVariables false
set_option maxRecDepth 100000

def liveB (now : Int) (e : DEntry) : Bool := decide (e.at_ = -1) || decide (now < e.at_)
def liveD (now : Int) (l : List DEntry) : List DEntry := l.filter (liveB now)

theorem Own.appended {α : Type} {d : Kd α} {e : TypeId} {T : Nat → Prop} {w w1 : World} {base m : Nat} {v v' : Value} {xs ys : List α} {cs ds : List Value} (hm : ys.length = m) (hp : Parts d (fun k => T k ∧ k < base) w xs cs) (hq : Parts d (fun k => T k ∧ k < base) w ys ds)
    (hown : w1.ownsRow base e d.sz v' (xs.length + m) (cs ++ ds)) (hgrow : w.grownBy w1 v.ownBlock) (hv : ∀ q, v.ownBlock = some q → base ≤ q) (hb : base ≤ w.heap.size) :
    Own d e (fun k => T k ∧ k < base) w1 base v' (xs ++ ys) := by
  refine ⟨cs ++ ds, by rw [List.length_append, hm]; exact hown, fun k hk hS => ?_, (hp.append hq).move fun k hk hlt => ⟨hgrow.block k hlt (fun e => ?_), hk⟩⟩
  · have := (ownsRow_base hown k hk).1
    have := hS.2
    omega
  · have := hv k e.symm
    have := hk.2
    omega

set_option maxHeartbeats 2000000 in
theorem rLive {S : Nat → Prop} {A : Option Addr} {l : List DEntry} {c : Nat} {w : World} (now : Int) (h : Row kEntry S w A l) (hl : l.length ≤ 1000000) :
    Calls Tryz.prog 18 #[.slice A l.length c, .int .i64 now] w fun e w' => ∃ v, e = .returned v ∧ Own kEntry 30 (fun q => S q ∧ q < w.heap.size) w' w.heap.size v (liveD now l) ∧ Below w.heap.size w w' := by
  obtain ⟨i0, hi, hz0, hz1, hz2⟩ := info_parts infoE
  have hl1 := h.1
  replace h := h.old
  go_enter Tryz.func18, Tryz.ntmps18
  go_wp2
  go_loopg [5, 6] l.length (fun gg s5 s6 wr => ∃ (k : Nat) (v5 : Value), v5 = s5 ∧ k ≤ l.length ∧ l.length - k ≤ gg ∧ s6 = .int .i64 k ∧ Hid (Below w.heap.size w wr) ∧ Hid (Own kEntry 30 (fun q => S q ∧ q < w.heap.size) wr w.heap.size v5 (liveD now (l.take k))))
  case atStart => exact ⟨0, _, rfl, Nat.zero_le _, by omega, rfl, Below.refl _ _, Own.nil _ _ _ _ _⟩
  case round =>
    obtain ⟨k, v5, rfl, hk, hg, rfl, HB, HO⟩ := hrel
    by_cases hlt : k < l.length
    · have hltz : (k : Int) < (l.length : Int) := by omega
      obtain ⟨y, hy⟩ : ∃ y, l[k]? = some y := ⟨_, List.getElem?_eq_getElem hlt⟩
      obtain ⟨fb, foff, fA1, fc1, fA2, fc2, fA3, fc3, rfl, f0, f1, f2, f3, f4, f5, f6, fR⟩ := (h.move (below_moves HB.out)).entry hy
      obtain ⟨cs, hrow, _, hparts⟩ := HO.out
      have HFR := Lib.hid fR
      have HONE := Lib.hid (kEntry.one fR)
      have HY := Lib.hid hy
      have HP := Lib.hid hparts
      obtain ⟨m, hm⟩ : ∃ m, m = (liveD now (l.take k)).length := ⟨_, rfl⟩
      have hml : m ≤ 1000000 := by
        have h1 := List.length_filter_le (liveB now) (l.take k)
        have h2 : (l.take k).length ≤ l.length := by rw [List.length_take]; omega
        rw [hm]
        unfold liveD
        omega
      rw [← hm] at hrow
      have HM := Lib.hid hm
      have HRW := Lib.hid (show wr.ownsRow w.heap.size 30 7 v5 m cs from hrow)
      have HH := Lib.hid h
      clear hrow hparts hy fR h hm
      by_cases ha : y.at_ = -1
      · have t1 : (y.at_ == -1) = true := by simp [ha]
        have hB1 : liveB now y = true := by simp [liveB, ha]
        clear ha
        have hlive : liveD now (l.take (k + 1)) = liveD now (l.take k) ++ [y] := by
          unfold liveD
          rw [List.take_add_one, HY.out, List.filter_append]
          simp [hB1]
        have HL := Lib.hid hlive
        clear hlive hB1
        go_wp2_with (at_builtin; refine wpList_append_src _ (by rfl) (.tmp 28) (.tmp 33) 22 (by rfl) w.heap.size 30 i0 _ 7 120 Tryz.underlying22 hi hz0 hz1 hz2 (by rfl) (Nat.zero_lt_succ _) v5 m cs (by rfl) (World.ownsRow.alloc HRW.out _) (some ⟨wr.heap.size, 0, none⟩) 1 1 [.string y.key, .int .i64 y.v.kind, .string y.v.s, .slice fA1 y.v.l.length fc1, .slice fA2 y.v.z.length fc2, .slice fA3 y.v.h.length fc3, .int .i64 y.at_] (by rfl) (Src.block (cs := [.string y.key, .int .i64 y.v.kind, .string y.v.s, .slice fA1 y.v.l.length fc1, .slice fA2 y.v.z.length fc2, .slice fA3 y.v.h.length fc3, .int .i64 y.at_]) (heap_alloc_new wr _) rfl HONE.out) (by unfold maxLen; omega) (by omega) (HB.out.alloc HB.out.size _).size ?_; intro v2 w2 o2 g2 _)
        have B2 := HB.out.alloc HB.out.size (.cells #[.string y.key, .int .i64 y.v.kind, .string y.v.s, .slice fA1 y.v.l.length fc1, .slice fA2 y.v.z.length fc2, .slice fA3 y.v.h.length fc3, .int .i64 y.at_] 30)
        have hq := Own.appended (T := S) (m := 1) (ys := [y]) rfl (HP.out.move (below_moves ((Below.refl wr.heap.size wr).alloc (Nat.le_refl _) (.cells #[.string y.key, .int .i64 y.v.kind, .string y.v.s, .slice fA1 y.v.l.length fc1, .slice fA2 y.v.z.length fc2, .slice fA3 y.v.h.length fc3, .int .i64 y.at_] 30)))) (Parts.one (kEntry.move (below_moves ((Below.refl wr.heap.size wr).alloc (Nat.le_refl _) (.cells #[.string y.key, .int .i64 y.v.kind, .string y.v.s, .slice fA1 y.v.l.length fc1, .slice fA2 y.v.z.length fc2, .slice fA3 y.v.h.length fc3, .int .i64 y.at_] 30))) HFR.out)) (by rw [← HM.out]; exact o2) g2 (fun q hq => (ownsRow_base HRW.out q hq).1) B2.size
        rw [← HL.out] at hq
        have B3 := B2.grown g2 B2.size (fun q hq => (ownsRow_base HRW.out q hq).1)
        clear o2 g2 B2
        go_roundg (l.length - (k + 1))
        case rel => exact ⟨k + 1, _, rfl, by omega, by omega, by go_num, B3, hq⟩
        case measure => omega
      · by_cases hn : now < y.at_
        · have t1 : (y.at_ == -1) = false := by simp [ha]
          have t2 : decide (now < y.at_) = true := by simp [hn]
          have hB1 : liveB now y = true := by simp [liveB, hn]
          clear ha
          have hlive : liveD now (l.take (k + 1)) = liveD now (l.take k) ++ [y] := by
            unfold liveD
            rw [List.take_add_one, HY.out, List.filter_append]
            simp [hB1]
          have HL := Lib.hid hlive
          clear hlive hB1
          go_wp2_with (at_builtin; refine wpList_append_src _ (by rfl) (.tmp 28) (.tmp 33) 22 (by rfl) w.heap.size 30 i0 _ 7 120 Tryz.underlying22 hi hz0 hz1 hz2 (by rfl) (Nat.zero_lt_succ _) v5 m cs (by rfl) (World.ownsRow.alloc HRW.out _) (some ⟨wr.heap.size, 0, none⟩) 1 1 [.string y.key, .int .i64 y.v.kind, .string y.v.s, .slice fA1 y.v.l.length fc1, .slice fA2 y.v.z.length fc2, .slice fA3 y.v.h.length fc3, .int .i64 y.at_] (by rfl) (Src.block (cs := [.string y.key, .int .i64 y.v.kind, .string y.v.s, .slice fA1 y.v.l.length fc1, .slice fA2 y.v.z.length fc2, .slice fA3 y.v.h.length fc3, .int .i64 y.at_]) (heap_alloc_new wr _) rfl HONE.out) (by unfold maxLen; omega) (by omega) (HB.out.alloc HB.out.size _).size ?_; intro v2 w2 o2 g2 _)
          have B2 := HB.out.alloc HB.out.size (.cells #[.string y.key, .int .i64 y.v.kind, .string y.v.s, .slice fA1 y.v.l.length fc1, .slice fA2 y.v.z.length fc2, .slice fA3 y.v.h.length fc3, .int .i64 y.at_] 30)
          have hq := Own.appended (T := S) (m := 1) (ys := [y]) rfl (HP.out.move (below_moves ((Below.refl wr.heap.size wr).alloc (Nat.le_refl _) (.cells #[.string y.key, .int .i64 y.v.kind, .string y.v.s, .slice fA1 y.v.l.length fc1, .slice fA2 y.v.z.length fc2, .slice fA3 y.v.h.length fc3, .int .i64 y.at_] 30)))) (Parts.one (kEntry.move (below_moves ((Below.refl wr.heap.size wr).alloc (Nat.le_refl _) (.cells #[.string y.key, .int .i64 y.v.kind, .string y.v.s, .slice fA1 y.v.l.length fc1, .slice fA2 y.v.z.length fc2, .slice fA3 y.v.h.length fc3, .int .i64 y.at_] 30))) HFR.out)) (by rw [← HM.out]; exact o2) g2 (fun q hq => (ownsRow_base HRW.out q hq).1) B2.size
          rw [← HL.out] at hq
          have B3 := B2.grown g2 B2.size (fun q hq => (ownsRow_base HRW.out q hq).1)
          clear o2 g2 B2
          go_roundg (l.length - (k + 1))
          case rel => exact ⟨k + 1, _, rfl, by omega, by omega, by go_num, B3, hq⟩
          case measure => omega
        · have t1 : (y.at_ == -1) = false := by simp [ha]
          have t2 : decide (now < y.at_) = false := by simp; omega
          have hB1 : liveB now y = false := by simp [liveB, ha]; omega
          have hn' : y.at_ ≤ now := by omega
          clear ha hn
          have hlive : liveD now (l.take (k + 1)) = liveD now (l.take k) := by
            unfold liveD
            rw [List.take_add_one, HY.out, List.filter_append]
            simp [hB1]
          have HL := Lib.hid hlive
          clear hlive hB1
          go_wp2
          go_roundg (l.length - (k + 1))
          case rel =>
            refine ⟨k + 1, _, rfl, by omega, by omega, by go_num, HB.out, ?_⟩
            rw [HL.out]
            exact HO.out
          case measure => omega
    · obtain rfl : k = l.length := by omega
      go_wp2
      go_ret
      refine ⟨_, rfl, ?_, HB.out⟩
      have e : liveD now (l.take l.length) = liveD now l := by rw [List.take_length]
      rw [← e]
      exact HO.out
end Go.Proofs.YtkgghnjpegpnlaaGreatDoor
