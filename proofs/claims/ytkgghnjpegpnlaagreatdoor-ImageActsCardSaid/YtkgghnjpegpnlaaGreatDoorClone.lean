/- slices.Clone at each kind: new memory that reads alike. Conditions: the row reads as the list, and its bytes stay below the bound of an append. -/
import Derived.Test.YtkgghnjpegpnlaaGreatDoorOwn
import Derived.WalkLawsBesides
import Derived.Laws.AppendOwnNone
namespace Go.Proofs.YtkgghnjpegpnlaaGreatDoor
open Go.RowKit Go.Proofs
set_option linter.unusedSimpArgs false
set_option linter.unusedVariables false
set_option maxRecDepth 100000

theorem infoE : (Tryz.prog.info? 30).map (fun i => (i.zero, i.size, i.bytes)) = some (some (.agg #[.string ⟨#[]⟩, .int .i64 0, .string ⟨#[]⟩, .slice none 0 0, .slice none 0 0, .slice none 0 0, .int .i64 0]), 7, 120) := by kernel_rfl

set_option maxHeartbeats 400000 in
theorem CloneE {S : Nat → Prop} {A : Option Addr} {xs : List DEntry} {c : Nat} {w : World} (hx : Row kEntry S w A xs) (hb : xs.length * 120 ≤ 140737488355328) :
    Calls Tryz.prog 51 #[.slice A xs.length c] w fun e w' => ∃ v, e = .returned v ∧ Own kEntry 30 (fun k => S k ∧ k < w.heap.size) w' w.heap.size v xs ∧ Below w.heap.size w w' := by
  have he := fun (W : World) (n c n' c' : Nat) => Lib.run_eql_slice_nil (P := Tryz.prog) W 22 30 A n c n' c' Tryz.underlying22
  cases A with
  | none =>
    have h0 : xs = [] := by
      cases xs with
      | nil => rfl
      | cons a r =>
        obtain ⟨b, off, h, _⟩ := hx.2 (by simp)
        cases h
    subst h0
    simp only [Option.isNone_none] at he
    go_enter Tryz.func51, Tryz.ntmps51
    go_wp2
    go_ret
    exact ⟨_, rfl, Own.nil _ _ _ _ _, Below.refl _ _⟩
  | some ad =>
    simp only [Option.isNone_some] at he
    obtain ⟨i0, hi, hz0, hz1, hz2⟩ := info_parts infoE
    obtain ⟨news, hp, hcells⟩ : ∃ news, Parts kEntry (fun k => S k ∧ k < w.heap.size) w xs news ∧ ∀ j u, news[j]? = some u → w.cell? (ad.add j) = some u := by
      by_cases h0 : 0 < xs.length
      · obtain ⟨b, off, cs, h1, hS, hbb, h2, h3⟩ := hx.old.flat h0
        cases h1
        exact ⟨cs, h2, fun j u hj => by rw [Addr.add_lit]; exact h3 j u hj⟩
      · have : xs = [] := List.length_eq_zero_iff.1 (by omega)
        subst this
        exact ⟨[], Parts.nil _ _ _, fun j u hj => by simp at hj⟩
    have hl := hx.1
    have Hp := Lib.hid hp
    have Hc := Lib.hid hcells
    clear hx hp hcells
    go_enter Tryz.func51, Tryz.ntmps51
    go_wp2_with (at_builtin; refine wpList_append_own _ rfl _ _ 22 rfl w.heap.size 30 i0 _ 7 120 Tryz.underlying22 hi hz0 hz1 hz2 rfl (by decide) _ 0 [] rfl (World.ownsRow_made w #[] 0 (Nat.le_refl _) (by decide) rfl) ad xs.length c news rfl Hp.out.1 (fun j u hj => cell_alloc (Hc.out j u hj) _) Hp.out.ones (by unfold maxLen; omega) (by omega) (by simp) ?_; intro v' w1 hown hgrow hnil)
    simp only [Nat.zero_add, List.nil_append] at hown
    have hbel : Below w.heap.size w w1 := ((Below.refl _ _).alloc (Nat.le_refl _) _).grown hgrow (by simp) (fun k hk => by cases hk; exact Nat.le_refl _)
    have HO := Lib.hid hown
    clear hown hnil
    go_wp2
    go_ret
    refine ⟨_, rfl, ⟨news, HO.out, fun k hk hS => ?_, Hp.out.move (fun k hS _ => ⟨hbel.block k hS.2, hS⟩)⟩, hbel⟩
    have h1 := (ownsRow_base HO.out k hk).1
    have h2 := hS.2
    omega

theorem infoS : (Tryz.prog.info? 70).map (fun i => (i.zero, i.size, i.bytes)) = some (some (.agg #[.string ⟨#[]⟩, .int .i64 0]), 2, 24) := by kernel_rfl

set_option maxHeartbeats 400000 in
theorem CloneS {S : Nat → Prop} {A : Option Addr} {xs : List DScored} {c : Nat} {w : World} (hx : Row kScored S w A xs) (hb : xs.length * 24 ≤ 140737488355328) :
    Calls Tryz.prog 53 #[.slice A xs.length c] w fun e w' => ∃ v, e = .returned v ∧ Own kScored 70 (fun k => S k ∧ k < w.heap.size) w' w.heap.size v xs ∧ Below w.heap.size w w' := by
  have he := fun (W : World) (n c n' c' : Nat) => Lib.run_eql_slice_nil (P := Tryz.prog) W 25 70 A n c n' c' Tryz.underlying25
  cases A with
  | none =>
    have h0 : xs = [] := by
      cases xs with
      | nil => rfl
      | cons a r =>
        obtain ⟨b, off, h, _⟩ := hx.2 (by simp)
        cases h
    subst h0
    simp only [Option.isNone_none] at he
    go_enter Tryz.func53, Tryz.ntmps53
    go_wp2
    go_ret
    exact ⟨_, rfl, Own.nil _ _ _ _ _, Below.refl _ _⟩
  | some ad =>
    simp only [Option.isNone_some] at he
    obtain ⟨i0, hi, hz0, hz1, hz2⟩ := info_parts infoS
    obtain ⟨news, hp, hcells⟩ : ∃ news, Parts kScored (fun k => S k ∧ k < w.heap.size) w xs news ∧ ∀ j u, news[j]? = some u → w.cell? (ad.add j) = some u := by
      by_cases h0 : 0 < xs.length
      · obtain ⟨b, off, cs, h1, hS, hbb, h2, h3⟩ := hx.old.flat h0
        cases h1
        exact ⟨cs, h2, fun j u hj => by rw [Addr.add_lit]; exact h3 j u hj⟩
      · have : xs = [] := List.length_eq_zero_iff.1 (by omega)
        subst this
        exact ⟨[], Parts.nil _ _ _, fun j u hj => by simp at hj⟩
    have hl := hx.1
    have Hp := Lib.hid hp
    have Hc := Lib.hid hcells
    clear hx hp hcells
    go_enter Tryz.func53, Tryz.ntmps53
    go_wp2_with (at_builtin; refine wpList_append_own _ rfl _ _ 25 rfl w.heap.size 70 i0 _ 2 24 Tryz.underlying25 hi hz0 hz1 hz2 rfl (by decide) _ 0 [] rfl (World.ownsRow_made w #[] 0 (Nat.le_refl _) (by decide) rfl) ad xs.length c news rfl Hp.out.1 (fun j u hj => cell_alloc (Hc.out j u hj) _) Hp.out.ones (by unfold maxLen; omega) (by omega) (by simp) ?_; intro v' w1 hown hgrow hnil)
    simp only [Nat.zero_add, List.nil_append] at hown
    have hbel : Below w.heap.size w w1 := ((Below.refl _ _).alloc (Nat.le_refl _) _).grown hgrow (by simp) (fun k hk => by cases hk; exact Nat.le_refl _)
    have HO := Lib.hid hown
    clear hown hnil
    go_wp2
    go_ret
    refine ⟨_, rfl, ⟨news, HO.out, fun k hk hS => ?_, Hp.out.move (fun k hS _ => ⟨hbel.block k hS.2, hS⟩)⟩, hbel⟩
    have h1 := (ownsRow_base HO.out k hk).1
    have h2 := hS.2
    omega

theorem infoF : (Tryz.prog.info? 74).map (fun i => (i.zero, i.size, i.bytes)) = some (some (.agg #[.string ⟨#[]⟩, .string ⟨#[]⟩]), 2, 32) := by kernel_rfl

set_option maxHeartbeats 400000 in
theorem CloneF {S : Nat → Prop} {A : Option Addr} {xs : List DField} {c : Nat} {w : World} (hx : Row kField S w A xs) (hb : xs.length * 32 ≤ 140737488355328) :
    Calls Tryz.prog 54 #[.slice A xs.length c] w fun e w' => ∃ v, e = .returned v ∧ Own kField 74 (fun k => S k ∧ k < w.heap.size) w' w.heap.size v xs ∧ Below w.heap.size w w' := by
  have he := fun (W : World) (n c n' c' : Nat) => Lib.run_eql_slice_nil (P := Tryz.prog) W 26 74 A n c n' c' Tryz.underlying26
  cases A with
  | none =>
    have h0 : xs = [] := by
      cases xs with
      | nil => rfl
      | cons a r =>
        obtain ⟨b, off, h, _⟩ := hx.2 (by simp)
        cases h
    subst h0
    simp only [Option.isNone_none] at he
    go_enter Tryz.func54, Tryz.ntmps54
    go_wp2
    go_ret
    exact ⟨_, rfl, Own.nil _ _ _ _ _, Below.refl _ _⟩
  | some ad =>
    simp only [Option.isNone_some] at he
    obtain ⟨i0, hi, hz0, hz1, hz2⟩ := info_parts infoF
    obtain ⟨news, hp, hcells⟩ : ∃ news, Parts kField (fun k => S k ∧ k < w.heap.size) w xs news ∧ ∀ j u, news[j]? = some u → w.cell? (ad.add j) = some u := by
      by_cases h0 : 0 < xs.length
      · obtain ⟨b, off, cs, h1, hS, hbb, h2, h3⟩ := hx.old.flat h0
        cases h1
        exact ⟨cs, h2, fun j u hj => by rw [Addr.add_lit]; exact h3 j u hj⟩
      · have : xs = [] := List.length_eq_zero_iff.1 (by omega)
        subst this
        exact ⟨[], Parts.nil _ _ _, fun j u hj => by simp at hj⟩
    have hl := hx.1
    have Hp := Lib.hid hp
    have Hc := Lib.hid hcells
    clear hx hp hcells
    go_enter Tryz.func54, Tryz.ntmps54
    go_wp2_with (at_builtin; refine wpList_append_own _ rfl _ _ 26 rfl w.heap.size 74 i0 _ 2 32 Tryz.underlying26 hi hz0 hz1 hz2 rfl (by decide) _ 0 [] rfl (World.ownsRow_made w #[] 0 (Nat.le_refl _) (by decide) rfl) ad xs.length c news rfl Hp.out.1 (fun j u hj => cell_alloc (Hc.out j u hj) _) Hp.out.ones (by unfold maxLen; omega) (by omega) (by simp) ?_; intro v' w1 hown hgrow hnil)
    simp only [Nat.zero_add, List.nil_append] at hown
    have hbel : Below w.heap.size w w1 := ((Below.refl _ _).alloc (Nat.le_refl _) _).grown hgrow (by simp) (fun k hk => by cases hk; exact Nat.le_refl _)
    have HO := Lib.hid hown
    clear hown hnil
    go_wp2
    go_ret
    refine ⟨_, rfl, ⟨news, HO.out, fun k hk hS => ?_, Hp.out.move (fun k hS _ => ⟨hbel.block k hS.2, hS⟩)⟩, hbel⟩
    have h1 := (ownsRow_base HO.out k hk).1
    have h2 := hS.2
    omega

theorem infos : (Tryz.prog.info? 9).map (fun i => (i.zero, i.size, i.bytes)) = some (some (.string ⟨#[]⟩), 1, 16) := by kernel_rfl

set_option maxHeartbeats 400000 in
theorem Clones {S : Nat → Prop} {A : Option Addr} {xs : List ByteArray} {c : Nat} {w : World} (hx : Row kStr S w A xs) (hb : xs.length * 16 ≤ 140737488355328) :
    Calls Tryz.prog 52 #[.slice A xs.length c] w fun e w' => ∃ v, e = .returned v ∧ Own kStr 9 (fun k => S k ∧ k < w.heap.size) w' w.heap.size v xs ∧ Below w.heap.size w w' := by
  have he := fun (W : World) (n c n' c' : Nat) => Lib.run_eql_slice_nil (P := Tryz.prog) W 24 9 A n c n' c' Tryz.underlying24
  cases A with
  | none =>
    have h0 : xs = [] := by
      cases xs with
      | nil => rfl
      | cons a r =>
        obtain ⟨b, off, h, _⟩ := hx.2 (by simp)
        cases h
    subst h0
    simp only [Option.isNone_none] at he
    go_enter Tryz.func52, Tryz.ntmps52
    go_wp2
    go_ret
    exact ⟨_, rfl, Own.nil _ _ _ _ _, Below.refl _ _⟩
  | some ad =>
    simp only [Option.isNone_some] at he
    obtain ⟨i0, hi, hz0, hz1, hz2⟩ := info_parts infos
    obtain ⟨news, hp, hcells⟩ : ∃ news, Parts kStr (fun k => S k ∧ k < w.heap.size) w xs news ∧ ∀ j u, news[j]? = some u → w.cell? (ad.add j) = some u := by
      by_cases h0 : 0 < xs.length
      · obtain ⟨b, off, cs, h1, hS, hbb, h2, h3⟩ := hx.old.flat h0
        cases h1
        exact ⟨cs, h2, fun j u hj => by rw [Addr.add_lit]; exact h3 j u hj⟩
      · have : xs = [] := List.length_eq_zero_iff.1 (by omega)
        subst this
        exact ⟨[], Parts.nil _ _ _, fun j u hj => by simp at hj⟩
    have hl := hx.1
    have Hp := Lib.hid hp
    have Hc := Lib.hid hcells
    clear hx hp hcells
    go_enter Tryz.func52, Tryz.ntmps52
    go_wp2_with (at_builtin; refine wpList_append_own _ rfl _ _ 24 rfl w.heap.size 9 i0 _ 1 16 Tryz.underlying24 hi hz0 hz1 hz2 rfl (by decide) _ 0 [] rfl (World.ownsRow_made w #[] 0 (Nat.le_refl _) (by decide) rfl) ad xs.length c news rfl Hp.out.1 (fun j u hj => cell_alloc (Hc.out j u hj) _) Hp.out.ones (by unfold maxLen; omega) (by omega) (by simp) ?_; intro v' w1 hown hgrow hnil)
    simp only [Nat.zero_add, List.nil_append] at hown
    have hbel : Below w.heap.size w w1 := ((Below.refl _ _).alloc (Nat.le_refl _) _).grown hgrow (by simp) (fun k hk => by cases hk; exact Nat.le_refl _)
    have HO := Lib.hid hown
    clear hown hnil
    go_wp2
    go_ret
    refine ⟨_, rfl, ⟨news, HO.out, fun k hk hS => ?_, Hp.out.move (fun k hS _ => ⟨hbel.block k hS.2, hS⟩)⟩, hbel⟩
    have h1 := (ownsRow_base HO.out k hk).1
    have h2 := hS.2
    omega
end Go.Proofs.YtkgghnjpegpnlaaGreatDoor
