/- millpondref09.place, Find: the first entry with a key, by the reference. Conditions: what is read reads as the data. -/
import Derived.Test.YtkgghnjpegpnlaaGreatDoorFind
namespace Go.Proofs.YtkgghnjpegpnlaaGreatDoor
open Go.RowKit Go.Proofs
set_option linter.unusedSimpArgs false
set_option linter.unusedVariables false
set_option maxRecDepth 100000

set_option maxHeartbeats 1000000 in
theorem rplace {S : Nat → Prop} {A : Option Addr} {xs : List DEntry} {c : Nat} {w : World} (key : ByteArray) (hx : Row kEntry S w A xs) :
    Calls Tryz.prog 34 #[.slice A xs.length c, .string key] w fun e w' => e = .returned (.int .i64 (placeN xs key)) ∧ w = w' := by
  have hl := hx.1
  go_enter Tryz.func34, Tryz.ntmps34
  go_wp2
  go_loopg [5] xs.length (fun gg s5 wr => ∃ k : Nat, k ≤ xs.length ∧ xs.length - k ≤ gg ∧ s5 = .int .i64 k ∧ Hid (w = wr) ∧ Hid (∀ j y, j < k → xs[j]? = some y → keyB key y = false))
  case atStart => exact ⟨0, Nat.zero_le _, by omega, rfl, rfl, fun j _ hj => absurd hj (Nat.not_lt_zero _)⟩
  case round =>
    obtain ⟨k, hk, hg, rfl, HB, HA⟩ := hrel
    by_cases hlt : k < xs.length
    · have hltz : (k : Int) < (xs.length : Int) := by omega
      obtain ⟨y, hy⟩ : ∃ y, xs[k]? = some y := ⟨_, List.getElem?_eq_getElem hlt⟩
      obtain ⟨b, off, A1, c1, A2, c2, A3, c3, rfl, f0, _, _, _, _, _, _, _⟩ := hx.entry hy
      have f0' : wr.cell? ⟨b, off + k * 7, none⟩ = some (.string y.key) := by rw [← HB.out]; exact f0
      have HY := Lib.hid hy
      clear hy hx f0
      cases hq : keyB key y with
      | true =>
        have t1 : (y.key.toList == key.toList) = true := hq
        have HQ := Lib.hid hq
        clear hq
        go_wp2
        go_ret
        refine ⟨?_, HB.out⟩
        unfold placeN
        rw [idxW_hit (keyB key) xs k y HY.out HQ.out HA.out]
        rfl
      | false =>
        have t1 : (y.key.toList == key.toList) = false := hq
        have HQ := Lib.hid hq
        clear hq
        go_wp2
        go_roundg (xs.length - (k + 1))
        case rel =>
          refine ⟨k + 1, by omega, by omega, by go_num, HB.out, fun j z hj hz => ?_⟩
          rcases Nat.lt_or_ge j k with h | h
          · exact HA.out j z h hz
          · obtain rfl : j = k := by omega
            rw [HY.out] at hz
            cases hz
            exact HQ.out
        case measure => omega
    · obtain rfl : k = xs.length := by omega
      go_wp2
      go_ret
      refine ⟨?_, HB.out⟩
      unfold placeN
      rw [idxW_none (keyB key) xs HA.out]
      rfl

def RFindPost (S : Nat → Prop) (l : List DEntry) (key : ByteArray) (w : World) (e : Ending) (w' : World) : Prop :=
  ∃ ds, e = .returned (.tuple #[.agg ds.toArray, .bool (findD l key).2]) ∧ kEntry.R (fun k => S k ∧ k < w.heap.size) w' (findD l key).1 ds ∧ Below w.heap.size w w'

theorem zeroE_R (S : Nat → Prop) (w : World) : kEntry.R S w zeroE [.string ⟨#[]⟩, .int .i64 0, .string ⟨#[]⟩, .slice none 0 0, .slice none 0 0, .slice none 0 0, .int .i64 0] :=
  ⟨none, 0, none, 0, none, 0, rfl, ⟨Nat.zero_le _, by simp [zeroE], by simp [zeroE]⟩, none, 0, none, 0, none, 0, rfl, by decide, by decide, by decide, by simp [zeroE], by simp [zeroE], by simp [zeroE], Row.nil _ _ _ _, Row.nil _ _ _ _, Row.nil _ _ _ _⟩

set_option maxHeartbeats 1000000 in
theorem rFind {S : Nat → Prop} {A : Option Addr} {l : List DEntry} {c : Nat} {w : World} (key : ByteArray) (h : Row kEntry S w A l) :
    Calls Tryz.prog 13 #[.slice A l.length c, .string key] w (RFindPost S l key w) := by
  have hP := fun (W : World) (hb : Below w.heap.size w W) => rplace (c := c) key (h.move (below_moves hb))
  unfold placeN idxW at hP
  have hl := h.1
  cases hi : l.findIdx? (keyB key) with
  | none =>
    have hfd : findD l key = (zeroE, false) := by simp [findD, hi]
    rw [hi] at hP
    have HD := Lib.hid hfd
    clear hfd h hi
    go_enter Tryz.func13, Tryz.ntmps13
    go_wp2_with (go_at_call 34; refine (hP _ ((Below.refl _ _).alloc (Nat.le_refl _) _)).mono ?_; rintro e w1 ⟨rfl, rfl⟩)
    refine bodyPost_ret (v := .tuple #[.agg #[.string ⟨#[]⟩, .int .i64 0, .string ⟨#[]⟩, .slice none 0 0, .slice none 0 0, .slice none 0 0, .int .i64 0], .bool false]) (by simp [results, Tryz.results13, go_sem]) rfl ?_
    refine ⟨[.string ⟨#[]⟩, .int .i64 0, .string ⟨#[]⟩, .slice none 0 0, .slice none 0 0, .slice none 0 0, .int .i64 0], by rw [HD.out], ?_, ?_⟩
    · rw [HD.out]
      exact zeroE_R _ _
    · repeat (refine Below.setCell ?_ (Nat.le_refl _) _)
      exact (Below.refl _ _).alloc (Nat.le_refl _) _
  | some i =>
    have hin := findIdx?_some_lt hi
    obtain ⟨x, hx⟩ : ∃ x, l[i]? = some x := ⟨_, List.getElem?_eq_getElem hin⟩
    have hfd : findD l key = (x, true) := by simp [findD, hi, hx]
    rw [hi] at hP
    have HD := Lib.hid hfd
    obtain ⟨b, off, A1, c1, A2, c2, A3, c3, rfl, f0, f1, f2, f3, f4, f5, f6, fR⟩ := h.old.entry hx
    have hbl : b < w.heap.size := World.block_lt_of_cell? w _ f0
    have HR := Lib.hid fR
    clear hfd h hi fR hx
    go_enter Tryz.func13, Tryz.ntmps13
    go_wp2_with (go_at_call 34; refine (hP _ ((Below.refl _ _).alloc (Nat.le_refl _) _)).mono ?_; rintro e w1 ⟨rfl, rfl⟩)
    refine bodyPost_ret (v := .tuple #[.agg #[.string x.key, .int .i64 x.v.kind, .string x.v.s, .slice A1 x.v.l.length c1, .slice A2 x.v.z.length c2, .slice A3 x.v.h.length c3, .int .i64 x.at_], .bool true]) (by simp [results, Tryz.results13, go_sem]) rfl ?_
    refine ⟨[.string x.key, .int .i64 x.v.kind, .string x.v.s, .slice A1 x.v.l.length c1, .slice A2 x.v.z.length c2, .slice A3 x.v.h.length c3, .int .i64 x.at_], by rw [HD.out], ?_, ?_⟩
    · rw [HD.out]
      refine kEntry.move (fun k hk hlt => ⟨?_, hk⟩) HR.out
      have hkb : k ≠ w.heap.size := by have := hk.2; omega
      repeat rw [Below.heap_setCell _ _ _ _ hkb]
      exact Below.heap_alloc w _ k hk.2
    · repeat (refine Below.setCell ?_ (Nat.le_refl _) _)
      exact (Below.refl _ _).alloc (Nat.le_refl _) _
end Go.Proofs.YtkgghnjpegpnlaaGreatDoor
