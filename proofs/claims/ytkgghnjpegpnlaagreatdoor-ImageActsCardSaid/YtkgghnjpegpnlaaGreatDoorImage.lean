/- image: which values may be, which rows of entries are images. Conditions: what is read reads as the data. -/
import Derived.Test.YtkgghnjpegpnlaaGreatDoorRead
import Derived.Test.YtkgghnjpegpnlaaGreatDoorCmp
import Derived.Maps.OwnSet
import Derived.BigGuardPart
namespace Go.Proofs.YtkgghnjpegpnlaaGreatDoor
open Go.RowKit Go.Proofs Go.Maps
set_option linter.unusedSimpArgs false
set_option linter.unusedVariables false
set_option maxRecDepth 100000

def shortB (s : ByteArray) : Bool := decide (s.size ≤ 65536)
def sizedB (n : Nat) : Bool := decide (1 ≤ n) && decide (n ≤ 65536)

set_option maxHeartbeats 400000 in
theorem short (s : ByteArray) (w : World) : Calls Tryz.prog 49 #[.string s] w fun e w' => e = .returned (.bool (shortB s)) ∧ w = w' := by
  have hs : decide ((s.size : Int) ≤ 65536) = shortB s := by unfold shortB; congr 1; rw [eq_iff_iff]; omega
  have H := Lib.hid hs
  clear hs
  go_enter Tryz.func49, Tryz.ntmps49
  go_wp2
  go_ret
  exact ⟨by rw [← H.out]; simp, rfl⟩

set_option maxHeartbeats 400000 in
theorem sized (n : Nat) (w : World) (hn : n ≤ 140737488355328) : Calls Tryz.prog 79 #[.int .i64 n] w fun e w' => e = .returned (.bool (sizedB n)) ∧ w = w' := by
  by_cases h1 : (1 : Int) ≤ n
  · have h3 : sizedB n = decide ((n : Int) ≤ 65536) := by
      unfold sizedB
      rw [decide_eq_true (by omega : 1 ≤ n), Bool.true_and]
      congr 1
      rw [eq_iff_iff]
      omega
    rw [h3]
    clear h3
    go_enter Tryz.func79, Tryz.ntmps79
    go_wp2
    go_ret
    exact ⟨by simp, rfl⟩
  · have h3 : sizedB n = false := by
      unfold sizedB
      rw [decide_eq_false (by omega), Bool.false_and]
    rw [h3]
    have h4 : (n : Int) < 1 := by omega
    clear h3 h1
    go_enter Tryz.func79, Tryz.ntmps79
    go_wp2
    go_ret
    exact ⟨rfl, rfl⟩

set_option maxHeartbeats 400000 in
theorem right1 (S : Nat → Prop) (w : World) : PredK Tryz.prog kStr oneOf 81 #[] (fun s => !shortB s) S w := by
  rintro W x _ ⟨rfl, _⟩ _
  show Calls Tryz.prog 81 #[.string x] W fun e W' => e = .returned (.bool (!shortB x)) ∧ Below W.heap.size W W'
  have hs := short x
  generalize shortB x = r at hs ⊢
  go_enter Tryz.func81, Tryz.ntmps81
  go_wp2_with (go_at_call 49; refine (hs _).mono ?_; rintro e w' ⟨rfl, rfl⟩)
  go_ret
  exact ⟨rfl, Below.refl _ _⟩

set_option maxHeartbeats 400000 in
theorem right2 (S : Nat → Prop) (w : World) : PredK Tryz.prog kField aggOf 85 #[] (fun s => !shortB s.f || !shortB s.v) S w := by
  rintro W x _ ⟨rfl, _⟩ _
  show Calls Tryz.prog 85 #[.agg #[.string x.f, .string x.v]] W fun e W' => e = .returned (.bool (!shortB x.f || !shortB x.v)) ∧ Below W.heap.size W W'
  have hs := short x.f
  have ht := short x.v
  cases h1 : shortB x.f
  · rw [h1] at hs
    simp only [h1, Bool.not_false, Bool.true_or]
    clear ht h1
    go_enter Tryz.func85, Tryz.ntmps85
    go_wp2_with (go_at_call 49; refine (hs _).mono ?_; rintro e w' ⟨rfl, rfl⟩)
    go_ret
    exact ⟨rfl, (Below.refl _ _).alloc (Nat.le_refl _) _⟩
  · rw [h1] at hs
    simp only [h1, Bool.not_true, Bool.false_or]
    clear h1
    generalize shortB x.v = r at ht ⊢
    go_enter Tryz.func85, Tryz.ntmps85
    go_wp2_with fail
    refine (hs _).mono ?_
    rintro e w' ⟨rfl, rfl⟩
    go_wp2_with fail
    refine (ht _).mono ?_
    rintro e w' ⟨rfl, rfl⟩
    go_wp2
    go_ret
    exact ⟨rfl, (Below.refl _ _).alloc (Nat.le_refl _) _⟩

theorem enters_right1 : EntersF Tryz.prog 81 := enters_of Tryz.func81 (by kernel_rfl) rfl
theorem enters_right2 : EntersF Tryz.prog 85 := enters_of Tryz.func85 (by kernel_rfl) rfl

/-! ### zset: a map of the members that were seen -/
theorem keyedS : Keyed Tryz.prog 9 := string_keyed Tryz.underlying9
def Nod (l : List DScored) : Prop := (l.map (·.m)).Nodup
theorem nod_snoc (l : List DScored) (x : DScored) : Nod (l ++ [x]) ↔ Nod l ∧ ∀ y ∈ l, y.m ≠ x.m := by
  unfold Nod
  rw [List.map_append, List.nodup_append]
  simp

/-- What the map holds when k members have been seen. -/
def Seen (l : List DScored) (D : DataW Unit) : Prop :=
  Tidy D ∧ (∀ s : ByteArray, has D (.string s.data.toList) = l.any (fun x => decide (x.m = s))) ∧ size D ≤ l.length ∧ (size D = l.length ↔ Nod l)
theorem seen_nil : Seen [] (.map []) := ⟨tidy_empty, fun s => rfl, Nat.le_refl _, by simp [size_eq, Nod]⟩
theorem keyLit (s : ByteArray) : WideAt.IsKeyLit (.string s.data.toList) := trivial
theorem seen_snoc {l : List DScored} {D : DataW Unit} (h : Seen l D) (x : DScored) (d : DataW Unit) : Seen (l ++ [x]) (D.put (.string x.m.data.toList) d) := by
  obtain ⟨h1, h2, h3, h4⟩ := h
  have hsz := size_put (k := .string x.m.data.toList) h1 d
  refine ⟨h1.put (keyLit _) d, fun s => ?_, ?_, ?_⟩
  · by_cases e : s = x.m
    · subst e
      rw [has_put_same h1.isMap (keyLit _)]
      simp
    · rw [has_put_other (fun h => e (by injection h with h; exact WideShapes.bytes_inj h)), h2]
      simp [List.any_append, Ne.symm e]
  · rw [hsz, List.length_append]
    split <;> simp <;> omega
  · rw [nod_snoc, hsz, h2 x.m, List.length_append]
    cases e : l.any (fun y => decide (y.m = x.m))
    · simp only [Bool.false_eq_true, if_false]
      rw [List.any_eq_false] at e
      simp at e ⊢
      rw [h4]
      exact ⟨fun h => ⟨h, e⟩, fun h => h.1⟩
    · simp only [if_true]
      rw [List.any_eq_true] at e
      obtain ⟨y, hy, hyx⟩ := e
      constructor
      · intro h
        simp at h
        omega
      · intro h
        exact absurd (by simpa using hyx) (h.2 y hy)
end Go.Proofs.YtkgghnjpegpnlaaGreatDoor
