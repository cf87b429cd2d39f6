/- millpondref07.Same, millpondref09.SameValue, Same: are two the same? Conditions: what is read reads as the data. -/
import Derived.Test.YtkgghnjpegpnlaaGreatDoorOrder
import Derived.Test.YtkgghnjpegpnlaaGreatDoorRead
import Derived.Laws.StructEq
namespace Go.Proofs.YtkgghnjpegpnlaaGreatDoor
open Go.RowKit Go.Proofs
set_option linter.unusedSimpArgs false
set_option linter.unusedVariables false
set_option maxRecDepth 100000

def eqScored (x y : DScored) : Bool := x.m.toList == y.m.toList && x.n == y.n
def eqField (x y : DField) : Bool := x.f.toList == y.f.toList && x.v.toList == y.v.toList
def eqRows {α : Type} (p : α → α → Bool) : List α → List α → Bool
  | [], [] => true
  | x :: a, y :: b => p x y && eqRows p a b
  | _, _ => false

theorem eqRows_len {α : Type} (p : α → α → Bool) : ∀ (a b : List α), a.length ≠ b.length → eqRows p a b = false
  | [], [], h => absurd rfl h
  | [], _ :: _, _ => rfl
  | _ :: _, [], _ => rfl
  | x :: a, y :: b, h => by
    have : eqRows p a b = false := eqRows_len p a b fun e => h (by simp [e])
    simp [eqRows, this]

theorem eqRows_no {α : Type} (p : α → α → Bool) : ∀ (a b : List α) (k : Nat) (x y : α), a[k]? = some x → b[k]? = some y → p x y = false → eqRows p a b = false
  | [], _, k, x, y, h, _, _ => by simp at h
  | _ :: _, [], k, x, y, _, h, _ => by simp at h
  | u :: a, v :: b, 0, x, y, h1, h2, h3 => by
    simp at h1 h2
    subst h1
    subst h2
    simp [eqRows, h3]
  | u :: a, v :: b, k + 1, x, y, h1, h2, h3 => by
    have : eqRows p a b = false := eqRows_no p a b k x y (by simpa using h1) (by simpa using h2) h3
    simp [eqRows, this]

theorem eqRows_yes {α : Type} (p : α → α → Bool) : ∀ (a b : List α), a.length = b.length → (∀ (k : Nat) (x y : α), a[k]? = some x → b[k]? = some y → p x y = true) → eqRows p a b = true
  | [], [], _, _ => rfl
  | [], _ :: _, h, _ => by simp at h
  | _ :: _, [], h, _ => by simp at h
  | x :: a, y :: b, h, k => by
    have h1 := k 0 x y rfl rfl
    have h2 : eqRows p a b = true := eqRows_yes p a b (by simpa using h) fun j u v hu hv => k (j + 1) u v (by simpa using hu) (by simpa using hv)
    simp [eqRows, h1, h2]

theorem neq_scored (x y : DScored) (W : World) : (Go.binOp .neq 70 (.agg #[.string x.m, .int .i64 x.n]) (.agg #[.string y.m, .int .i64 y.n])).run Tryz.prog W = .ok (.bool (!eqScored x y)) W := by
  have hS : Tryz.prog.underlying 70 = some (.struct (Tryz.prog.fieldsOf 70)) := by kernel_rfl
  have hp : Tryz.prog.stoodInHeld 70 = false := by kernel_rfl
  rw [run_neq_struct, show (10000 : Nat) = 9999 + 1 from rfl, run_equalIn_agg W 9999 70 _ _ hS hp]
  simp only [Program.fieldsOf, Tryz.underlying70]
  go_simp
  by_cases h1 : x.m.toList = y.m.toList <;> by_cases h2 : x.n = y.n <;> simp [h1, h2, eqScored]
theorem guard_scored : Tryz.prog.eqGuardType Tryz.prog.depth 70 = false := by kernel_rfl

theorem neq_field (x y : DField) (W : World) : (Go.binOp .neq 74 (.agg #[.string x.f, .string x.v]) (.agg #[.string y.f, .string y.v])).run Tryz.prog W = .ok (.bool (!eqField x y)) W := by
  have hS : Tryz.prog.underlying 74 = some (.struct (Tryz.prog.fieldsOf 74)) := by kernel_rfl
  have hp : Tryz.prog.stoodInHeld 74 = false := by kernel_rfl
  rw [run_neq_struct, show (10000 : Nat) = 9999 + 1 from rfl, run_equalIn_agg W 9999 74 _ _ hS hp]
  simp only [Program.fieldsOf, Tryz.underlying74]
  go_simp
  by_cases h1 : x.f.toList = y.f.toList <;> by_cases h2 : x.v.toList = y.v.toList <;> simp [h1, h2, eqField]
theorem guard_field : Tryz.prog.eqGuardType Tryz.prog.depth 74 = false := by kernel_rfl

set_option maxHeartbeats 1000000 in
theorem Same7 {S : Nat → Prop} {A B : Option Addr} {xs ys : List DScored} {c d : Nat} {w : World} (hx : Row kScored S w A xs) (hy : Row kScored S w B ys) :
    Calls Tryz.prog 67 #[.slice A xs.length c, .slice B ys.length d] w fun e w' => e = .returned (.bool (eqRows eqScored xs ys)) ∧ Below w.heap.size w w' := by
  have hl := hx.1
  have hm := hy.1
  by_cases hn : xs.length = ys.length
  · have hnz : ((xs.length : Int) == (ys.length : Int)) = true := by simp; omega
    have hln := Nat.le_of_eq hn
    have HN := Lib.hid hn
    clear hn
    go_enter Tryz.func67, Tryz.ntmps67
    go_wp2
    clear hnz
    go_loopg [5] xs.length (fun gg s5 wr => ∃ k : Nat, k ≤ xs.length ∧ xs.length - k ≤ gg ∧ s5 = .int .i64 k ∧ Hid (Below w.heap.size w wr) ∧ Hid (∀ (j : Nat) (x y : DScored), j < k → xs[j]? = some x → ys[j]? = some y → eqScored x y = true))
    case atStart => exact ⟨0, Nat.zero_le _, by omega, rfl, Below.refl _ _, fun j x y hj => absurd hj (Nat.not_lt_zero _)⟩
    case round =>
      obtain ⟨k, hk, hg, rfl, HB, HE⟩ := hrel
      by_cases hlt : k < xs.length
      · have hltz : (k : Int) < (xs.length : Int) := by omega
        have hltz2 : (k : Int) < (ys.length : Int) := by omega
        obtain ⟨x, hx'⟩ : ∃ x, xs[k]? = some x := ⟨_, List.getElem?_eq_getElem hlt⟩
        obtain ⟨y, hy'⟩ : ∃ y, ys[k]? = some y := ⟨_, List.getElem?_eq_getElem (by omega)⟩
        obtain ⟨fb, foff, rfl, f0, f1, fR⟩ := (hx.move (below_moves HB.out)).scored hx'
        obtain ⟨gb, goff, rfl, g0, g1, gR⟩ := (hy.move (below_moves HB.out)).scored hy'
        have HX := Lib.hid hx'
        have HY := Lib.hid hy'
        clear fR gR hx hy hx' hy'
        replace f0 := Later.cell f0
        replace f1 := Later.cell f1
        replace g0 := Later.cell g0
        replace g1 := Later.cell g1
        have hq := neq_scored x y
        have hgd := guard_scored
        cases he : eqScored x y with
        | true =>
          rw [he] at hq
          have HQ := Lib.hid he
          clear he
          go_wp2_with fail
          refine wp_region_later (by kernel_rfl) (by kernel_rfl) ?_
          repeat (go_big_quiet_step (fail))
          refine wpQuiet_nil ?_
          rintro _ ⟨q, rfl⟩
          go_wp2
          go_roundg (xs.length - (k + 1))
          case rel =>
            refine ⟨k + 1, by omega, by omega, by go_num, below_trans' HB.out q.below, fun j a b hj ha hb => ?_⟩
            rcases Nat.lt_or_ge j k with h | h
            · exact HE.out j a b h ha hb
            · obtain rfl : j = k := by omega
              rw [HX.out] at ha
              rw [HY.out] at hb
              cases ha
              cases hb
              exact HQ.out
          case measure => omega
        | false =>
          rw [he] at hq
          have HQ := Lib.hid he
          clear he
          go_wp2_with fail
          refine wp_region_later (by kernel_rfl) (by kernel_rfl) ?_
          repeat (go_big_quiet_step (fail))
          refine wpQuiet_nil ?_
          rintro _ ⟨q, rfl⟩
          go_wp2
          go_ret
          exact ⟨by rw [eqRows_no eqScored xs ys k x y HX.out HY.out HQ.out]; rfl, below_trans' HB.out q.below⟩
      · obtain rfl : k = xs.length := by omega
        go_wp2
        go_ret
        refine ⟨?_, HB.out⟩
        rw [eqRows_yes eqScored xs ys HN.out (fun j a b ha hb => HE.out j a b (List.getElem?_eq_some_iff.1 ha).1 ha hb)]
        rfl
  · have hnz : ((xs.length : Int) == (ys.length : Int)) = false := by simp; omega
    have he := eqRows_len eqScored xs ys hn
    go_enter Tryz.func67, Tryz.ntmps67
    go_wp2
    go_ret
    exact ⟨by rw [he]; rfl, Below.refl _ _⟩
end Go.Proofs.YtkgghnjpegpnlaaGreatDoor
