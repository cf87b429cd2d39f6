/- Comparisons: cmp.Compare, cmp.Or, strings.Compare and the orders that are made of them. Conditions: none but what reading gives. -/
import Derived.Test.YtkgghnjpegpnlaaGreatDoorData
import Derived.WalkSpells
import Derived.WalkLawsBesides
import Derived.StillTailTactics
import Derived.Shelf.Abstract
import Derived.Sort.Walk0
import Derived.Lib.Bytealg
namespace Go.Proofs.YtkgghnjpegpnlaaGreatDoor
open Go.RowKit Go.Proofs
set_option linter.unusedSimpArgs false
set_option linter.unusedVariables false
set_option maxRecDepth 100000

/-- Of two texts: -1, 0, 1. -/
def cmpS (a b : ByteArray) : Int := if Op.bytesLess a.toList b.toList then -1 else if a.toList == b.toList then 0 else 1
theorem toList_data (a : ByteArray) : a.toList = a.data.toList := ByteArray.toList_eq a
theorem bytesLess_irrefl (x : List UInt8) : Op.bytesLess x x = false := by
  rw [Proofs.bytesLess_eq]
  simp
theorem compareBytes_lists : ∀ (x y : List UInt8), Lib.compareBytes x y = if Op.bytesLess x y then -1 else if x == y then 0 else 1
  | [], [] => by simp [Lib.compareBytes, Op.bytesLess]
  | [], _ :: _ => by simp [Lib.compareBytes, Op.bytesLess]
  | _ :: _, [] => by simp [Lib.compareBytes, Op.bytesLess]
  | a :: x, b :: y => by
    have ih := compareBytes_lists x y
    unfold Lib.compareBytes Op.bytesLess
    rw [ih]
    by_cases h1 : a < b
    · simp [h1]
    · by_cases h2 : b < a
      · have h3 : ¬ a = b := fun h => by subst h; exact h1 h2
        simp [h1, h2, h3]
      · have h3 : a = b := UInt8.le_antisymm (UInt8.not_lt.1 h2) (UInt8.not_lt.1 h1)
        subst h3
        simp
theorem compareBytes_eq (a b : ByteArray) : Lib.compareBytes a.data.toList b.data.toList = cmpS a b := by
  rw [compareBytes_lists, ← toList_data, ← toList_data]
  rfl
def cmpI (a b : Int) : Int := if a < b then -1 else if b < a then 1 else 0

set_option maxHeartbeats 400000 in
theorem isNaNs (s : ByteArray) (w : World) : Calls Tryz.prog 86 #[.string s] w fun e w' => e = .returned (.bool false) ∧ w = w' := by
  go_enter Tryz.func86, Tryz.ntmps86
  go_wp2
  go_ret
  exact ⟨by simp, rfl⟩

set_option maxHeartbeats 400000 in
theorem Compares (s t : ByteArray) (w : World) : Calls Tryz.prog 55 #[.string s, .string t] w fun e w' => e = .returned (.int .i64 (cmpS s t)) ∧ w = w' := by
  go_enter Tryz.func55, Tryz.ntmps55
  go_wp2_with (go_at_call 86; refine (isNaNs _ _).mono ?_; rintro e w' ⟨rfl, rfl⟩)
  all_goals
    go_ret
    refine ⟨?_, rfl⟩
    simp_all [cmpS]

set_option maxHeartbeats 400000 in
theorem isNaNi (s : Int) (w : World) : Calls Tryz.prog 122 #[.int .i64 s] w fun e w' => e = .returned (.bool false) ∧ w = w' := by
  go_enter Tryz.func122, Tryz.ntmps122
  go_wp2
  go_ret
  exact ⟨by simp, rfl⟩

set_option maxHeartbeats 400000 in
theorem Comparei (s t : Int) (w : World) : Calls Tryz.prog 73 #[.int .i64 s, .int .i64 t] w fun e w' => e = .returned (.int .i64 (cmpI s t)) ∧ w = w' := by
  go_enter Tryz.func73, Tryz.ntmps73
  go_wp2_with (go_at_call 122; refine (isNaNi _ _).mono ?_; rintro e w' ⟨rfl, rfl⟩)
  all_goals
    go_ret
    refine ⟨?_, rfl⟩
    first | simp_all [cmpI]; done | (simp_all [cmpI]; omega)

set_option maxHeartbeats 400000 in
theorem strCompare (s t : ByteArray) (w : World) : Calls Tryz.prog 78 #[.string s, .string t] w fun e w' => e = .returned (.int .i64 (cmpS s t)) ∧ w = w' := by
  go_enter Tryz.func78, Tryz.ntmps78
  go_wp2
  rw [run_callFunc_extern Tryz.func166 (by kernel_rfl) (by kernel_rfl) (by kernel_rfl) (e := Extern.BytealgCompare.compare) (by kernel_rfl), Lib.run_compareString]
  simp only [Result.andThen]
  rw [Oper.upon_value]
  rw [compareBytes_eq]
  go_wp2
  go_ret
  exact ⟨rfl, rfl⟩

set_option maxHeartbeats 400000 in
theorem Or2 (a b : Int) (bl : Nat) (w : World) (h0 : w.cell? ⟨bl, 0, none⟩ = some (.int .i64 a)) (h1 : w.cell? ⟨bl, 1, none⟩ = some (.int .i64 b)) :
    Calls Tryz.prog 72 #[.slice (some ⟨bl, 0, none⟩) 2 2] w fun e w' => e = .returned (.int .i64 (if a = 0 then b else a)) ∧ w = w' := by
  by_cases ha : a = 0
  · by_cases hb : b = 0
    · subst ha
      subst hb
      go_enter Tryz.func72, Tryz.ntmps72
      go_wp2
      refine wp_loop_rounds 3 ?_
      rw [rounds_succ]
      go_wp2
      rw [rounds_succ]
      go_wp2
      rw [rounds_succ]
      go_wp2
      go_ret
      exact ⟨rfl, rfl⟩
    · subst ha
      have hb1 : (b == 0) = false := by simpa using hb
      have hb2 : (b != 0) = true := by simpa using hb
      go_enter Tryz.func72, Tryz.ntmps72
      go_wp2
      refine wp_loop_rounds 2 ?_
      rw [rounds_succ]
      go_wp2
      rw [rounds_succ]
      go_wp2
      go_ret
      exact ⟨rfl, rfl⟩
  · have ha1 : (a == 0) = false := by simpa using ha
    have ha2 : (a != 0) = true := by simpa using ha
    go_enter Tryz.func72, Tryz.ntmps72
    go_wp2
    refine wp_loop_rounds 1 ?_
    rw [rounds_succ]
    go_wp2
    go_ret
    exact ⟨by simp [ha], rfl⟩

def cmpScored (a b : DScored) : Int := if cmpI a.n b.n = 0 then cmpS a.m b.m else cmpI a.n b.n

set_option maxHeartbeats 400000 in
theorem order (x y : DScored) (w : World) : Calls Tryz.prog 41 #[.agg #[.string x.m, .int .i64 x.n], .agg #[.string y.m, .int .i64 y.n]] w fun e w' => e = .returned (.int .i64 (cmpScored x y)) ∧ Below w.heap.size w w' := by
  have hc := Compares x.m y.m
  have hi := Comparei x.n y.n
  have ho : ∀ (bl : Nat) (w : World), w.cell? ⟨bl, 0, none⟩ = some (.int .i64 (cmpI x.n y.n)) → w.cell? ⟨bl, 1, none⟩ = some (.int .i64 (cmpS x.m y.m)) →
    Calls Tryz.prog 72 #[.slice (some ⟨bl, 0, none⟩) 2 2] w fun e w' => e = .returned (.int .i64 (cmpScored x y)) ∧ w = w' := fun bl w h0 h1 => Or2 _ _ bl w h0 h1
  generalize cmpScored x y = r at ho ⊢
  generalize cmpS x.m y.m = cs at hc ho
  generalize cmpI x.n y.n = ci at hi ho
  go_enter Tryz.func41, Tryz.ntmps41
  go_wp2_with fail
  refine wp_region_tail 10 (by kernel_rfl) (by kernel_rfl) ?_
  simp only [List.take_succ_cons, List.take_zero, List.drop_succ_cons, List.drop_zero]
  repeat still_step
  still_call ((hi _).mono fun _ _ h => ⟨h.1, h.2.symm⟩)
  repeat still_step
  still_call ((hc _).mono fun _ _ h => ⟨h.1, h.2.symm⟩)
  repeat still_step
  refine wpStill_nil ?_
  go_wp2_with (go_at_call 72; refine (ho _ _ (by go_simp) (by go_simp)).mono ?_; rintro e w' ⟨rfl, rfl⟩)
  go_ret
  exact ⟨rfl, (((Below.refl _ _).alloc (Nat.le_refl _) _).alloc (by simp) _).drew.alloc (by simp; omega) _⟩

set_option maxHeartbeats 400000 in
theorem byField (x y : DField) (w : World) : Calls Tryz.prog 43 #[.agg #[.string x.f, .string x.v], .agg #[.string y.f, .string y.v]] w fun e w' => e = .returned (.int .i64 (cmpS x.f y.f)) ∧ Below w.heap.size w w' := by
  have hc := Compares x.f y.f
  generalize cmpS x.f y.f = r at hc ⊢
  go_enter Tryz.func43, Tryz.ntmps43
  go_wp2_with (go_at_call 55; refine (hc _).mono ?_; rintro e w' ⟨rfl, rfl⟩)
  go_ret
  exact ⟨rfl, ((Below.refl _ _).alloc (Nat.le_refl _) _).alloc (by simp) _⟩

set_option maxHeartbeats 400000 in
theorem byKey {S : Nat → Prop} (x y : DEntry) (cs ds : List Value) (w : World) (hx : kEntry.R S w x cs) (hy : kEntry.R S w y ds) : Calls Tryz.prog 26 #[.agg cs.toArray, .agg ds.toArray] w fun e w' => e = .returned (.int .i64 (cmpS x.key y.key)) ∧ Below w.heap.size w w' := by
  obtain ⟨A1, c1, A2, c2, A3, c3, rfl, _⟩ := hx
  obtain ⟨B1, d1, B2, d2, B3, d3, rfl, _⟩ := hy
  have hc := Compares x.key y.key
  generalize cmpS x.key y.key = r at hc ⊢
  go_enter Tryz.func26, Tryz.ntmps26
  go_wp2_with (go_at_call 55; refine (hc _).mono ?_; rintro e w' ⟨rfl, rfl⟩)
  go_ret
  exact ⟨rfl, ((Below.refl _ _).alloc (Nat.le_refl _) _).alloc (by simp) _⟩

theorem enters_order : EntersF Tryz.prog 41 := enters_of Tryz.func41 (by kernel_rfl) rfl
theorem enters_byField : EntersF Tryz.prog 43 := enters_of Tryz.func43 (by kernel_rfl) rfl
theorem enters_byKey : EntersF Tryz.prog 26 := enters_of Tryz.func26 (by kernel_rfl) rfl
theorem enters_strCompare : EntersF Tryz.prog 78 := enters_of Tryz.func78 (by kernel_rfl) rfl
theorem cmpK_order (S : Nat → Prop) (w : World) : CmpK Tryz.prog kScored aggOf 41 #[] cmpScored S w := by
  rintro W x y _ _ ⟨rfl, _⟩ ⟨rfl, _⟩ _
  exact order x y W
theorem cmpK_byField (S : Nat → Prop) (w : World) : CmpK Tryz.prog kField aggOf 43 #[] (fun x y => cmpS x.f y.f) S w := by
  rintro W x y _ _ ⟨rfl, _⟩ ⟨rfl, _⟩ _
  exact byField x y W
theorem cmpK_byKey (S : Nat → Prop) (w : World) : CmpK Tryz.prog kEntry aggOf 26 #[] (fun x y => cmpS x.key y.key) S w :=
  fun W x y cs ds hx hy _ => byKey x y cs ds W hx hy
theorem cmpK_str (S : Nat → Prop) (w : World) : CmpK Tryz.prog kStr oneOf 78 #[] cmpS S w := by
  rintro W x y _ _ ⟨rfl, _⟩ ⟨rfl, _⟩ _
  refine (strCompare x y W).mono ?_
  rintro e w' ⟨rfl, rfl⟩
  exact ⟨rfl, Below.refl _ _⟩
end Go.Proofs.YtkgghnjpegpnlaaGreatDoor
