/- image.zset: may members be? Conditions: the row reads as the list. -/
import Derived.Test.YtkgghnjpegpnlaaGreatDoorImage
namespace Go.Proofs.YtkgghnjpegpnlaaGreatDoor
open Go.RowKit Go.Proofs Go.Maps Go.WideMaps
set_option linter.unusedSimpArgs false
set_option linter.unusedVariables false
set_option maxRecDepth 100000

instance (l : List DScored) : Decidable (Nod l) := inferInstanceAs (Decidable ((l.map (·.m)).Nodup))
def zsetB (l : List DScored) : Bool := l.all (fun x => shortB x.m) && (decide (Nod l) && risingB cmpScored l)
def SeenW (b : Nat) (l : List DScored) (w : World) : Prop := ∃ D, w.ownsMap Tryz.prog 9 (plainElem Tryz.prog 3) b l.length D ∧ Seen l D

theorem wf_i64 {n : Int} (h1 : -9223372036854775808 ≤ n) (h2 : n ≤ 9223372036854775807) : (Lit.int .i64 n).wf = true := WalkArith.wf_i64 (by omega)

set_option maxHeartbeats 1000000 in
theorem zset (S : Nat → Prop) (A : Option Addr) (xs : List DScored) (c : Nat) (w : World) (hx : Row kScored S w A xs) :
    Calls Tryz.prog 82 #[.slice A xs.length c] w fun e w' => e = .returned (.bool (zsetB xs)) ∧ Below w.heap.size w w' := by
  have hl := hx.1
  have hmm := @run_makeMap Tryz.prog
  go_enter Tryz.func82, Tryz.ntmps82
  go_wp2
  clear hmm
  go_loopg [4, 5, 9] xs.length (fun gg _ _ s9 wr => ∃ k : Nat, k ≤ xs.length ∧ xs.length - k ≤ gg ∧ s9 = .int .i64 k ∧ Hid (Below w.heap.size w wr) ∧ Hid (SeenW w.heap.size (xs.take k) wr) ∧ Hid ((xs.take k).all (fun x => shortB x.m) = true))
  case atStart => exact ⟨0, Nat.zero_le _, by omega, rfl, (Below.refl _ w).alloc (Nat.le_refl _) _, ⟨_, World.ownsMap_made w _ _ _, seen_nil⟩, rfl⟩
  case round =>
    obtain ⟨k, hk, hg, rfl, HB, HS, HA⟩ := hrel
    by_cases hlt : k < xs.length
    · have hltz : (k : Int) < (xs.length : Int) := by omega
      obtain ⟨y, hy⟩ : ∃ y, xs[k]? = some y := ⟨_, List.getElem?_eq_getElem hlt⟩
      obtain ⟨fb, foff, rfl, f0, f1, fR⟩ := (hx.move (below_moves HB.out)).scored hy
      obtain ⟨D, hD, hseen⟩ := HS.out
      have hsz := hD.size_le
      have hbl := hD.lt
      have hss := short y.m
      have HY := Lib.hid hy
      have HR := Lib.hid fR
      have Hseen := Lib.hid hseen
      have HD := Lib.hid hD
      have HX := Lib.hid hx
      clear hy fR hx hseen hD HS
      have hk9 : (xs.take k).length = k := by rw [List.length_take]; omega
      rw [hk9] at HD hsz
      have hys : y.m.size ≤ 140737488355328 := HR.out.2.1
      cases hq : shortB y.m with
      | false =>
        rw [hq] at hss
        go_wp2_with (first
          | (at_mapUpdate; refine wpList_mapUpdate_own _ rfl _ _ _ 165 rfl 9 3 keyedS Tryz.underlying165 _ w.heap.size k D rfl (HD.out.alloc _) (by unfold maxLen; omega) _ _ _ rfl rfl (keyOf_string_mk Tryz.underlying9 (by unfold maxLen; omega)) _ [] (plainElem_int Tryz.underlying3 (wf_i64 (by omega) (by omega))) ?_; intro w1 hown1 hgrow1; have hc1 : w1.cell? ⟨wr.heap.size, 0, none⟩ = some (.string y.m) := hgrow1.cell (by go_simp) (by simp; omega); have HO := Lib.hid hown1; clear hown1)
          | (go_at_call 49; refine (hss _).mono ?_; rintro e w' ⟨rfl, rfl⟩))
        go_ret
        refine ⟨?_, (HB.out.alloc (by omega) _).grown hgrow1 (by simp; omega) (fun k hk => by injection hk with hk; omega)⟩
        have : zsetB xs = false := by
          unfold zsetB
          rw [show xs.all (fun x => shortB x.m) = false from List.all_eq_false.2 ⟨y, List.mem_of_getElem? HY.out, by simp [hq]⟩]
          rfl
        rw [this]
        rfl
      | true =>
        rw [hq] at hss
        go_wp2_with (first
          | (at_mapUpdate; refine wpList_mapUpdate_own _ rfl _ _ _ 165 rfl 9 3 keyedS Tryz.underlying165 _ w.heap.size k D rfl (HD.out.alloc _) (by unfold maxLen; omega) _ _ _ rfl rfl (keyOf_string_mk Tryz.underlying9 (by unfold maxLen; omega)) _ [] (plainElem_int Tryz.underlying3 (wf_i64 (by omega) (by omega))) ?_; intro w1 hown1 hgrow1; have hc1 : w1.cell? ⟨wr.heap.size, 0, none⟩ = some (.string y.m) := hgrow1.cell (by go_simp) (by simp; omega); have HO := Lib.hid hown1; clear hown1)
          | (go_at_call 49; refine (hss _).mono ?_; rintro e w' ⟨rfl, rfl⟩))
        go_roundg (xs.length - (k + 1))
        case rel =>
          have ht : xs.take (k + 1) = xs.take k ++ [y] := by rw [List.take_add_one, HY.out]; rfl
          refine ⟨k + 1, by omega, by omega, by go_num, (HB.out.alloc (by omega) _).grown hgrow1 (by simp; omega) (fun k hk => by injection hk with hk; omega), ?_, ?_⟩
          · unfold Hid SeenW
            rw [ht]
            exact ⟨_, by rw [List.length_append, hk9]; exact HO.out, seen_snoc Hseen.out y _⟩
          · unfold Hid
            rw [ht, List.all_append, HA.out]
            simp [hq]
        case measure => omega
    · obtain rfl : k = xs.length := by omega
      obtain ⟨D, hD, hseen⟩ := HS.out
      have hsz := hD.size_le
      rw [List.take_length] at hsz hD
      have hall := HA.out
      have hseen' := hseen
      rw [List.take_length] at hall hseen'
      have hr := risingS 41 cmpScored S A xs c wr (hx.move (below_moves HB.out)) (cmpK_order S wr) enters_order
      have hlen := hD.len (t := 165) Tryz.underlying165
      have HZ : Hid (zsetB xs = (decide (size D = xs.length) && risingB cmpScored xs)) := by
        unfold Hid zsetB
        rw [hall, Bool.true_and, show decide (Nod xs) = decide (size D = xs.length) from decide_eq_decide.2 hseen'.2.2.2.symm]
      have HX := Lib.hid hx
      have Hseen := Lib.hid hseen
      have Hseen' := Lib.hid hseen'
      have HD := Lib.hid hD
      clear hx hseen hseen' hD HS hall HA
      generalize size D = m at *
      by_cases he : m = xs.length
      · have e1 : ((m : Int) == (xs.length : Int)) = true := by rw [he]; simp
        have HZ2 : Hid (zsetB xs = risingB cmpScored xs) := by unfold Hid; rw [HZ.out, decide_eq_true he, Bool.true_and]
        clear HZ
        go_wp2_with (go_at_call 141; refine hr.mono ?_; rintro e w' ⟨rfl, hb⟩)
        go_ret
        exact ⟨by rw [HZ2.out]; rfl, below_trans' HB.out hb⟩
      · have e1 : ((m : Int) == (xs.length : Int)) = false := by simp; omega
        have HZ2 : Hid (zsetB xs = false) := by unfold Hid; rw [HZ.out, decide_eq_false he, Bool.false_and]
        clear HZ hr
        go_wp2
        go_ret
        exact ⟨by rw [HZ2.out]; rfl, HB.out⟩
end Go.Proofs.YtkgghnjpegpnlaaGreatDoor
