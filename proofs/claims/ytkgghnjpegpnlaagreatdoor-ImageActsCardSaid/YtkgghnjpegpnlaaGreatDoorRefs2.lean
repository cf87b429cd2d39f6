/- millpondref09.twice, members, fields: what they answer. Conditions: what is read reads as the data. -/
import Derived.Test.YtkgghnjpegpnlaaGreatDoorInto
import Derived.Test.YtkgghnjpegpnlaaGreatDoorZset
namespace Go.Proofs.YtkgghnjpegpnlaaGreatDoor
open Go.RowKit Go.Proofs
set_option linter.unusedSimpArgs false
set_option linter.unusedVariables false
set_option maxRecDepth 100000

section
variable {α : Type}
/-- What a rising row of distinct members says of the members met. -/
def Dist (lt : α → α → Prop) (ls m : List α) : Prop := m.Pairwise lt ∧ (∀ x, x ∈ m ↔ x ∈ ls) ∧ m.length ≤ ls.length ∧ (m.length = ls.length ↔ ls.Nodup)

theorem dist_nil (lt : α → α → Prop) : Dist lt ([] : List α) [] := ⟨List.Pairwise.nil, fun _ => Iff.rfl, Nat.le_refl _, by simp⟩

theorem dist_old {lt : α → α → Prop} {ls m : List α} {s : α} (h : Dist lt ls m) (hs : s ∈ m) : Dist lt (ls ++ [s]) m := by
  obtain ⟨h1, h2, h3, h4⟩ := h
  have hs' := (h2 s).1 hs
  refine ⟨h1, fun x => ?_, by simp; omega, ?_⟩
  · rw [h2]
    simp only [List.mem_append, List.mem_singleton]
    exact ⟨Or.inl, fun h => h.elim id fun e => e ▸ hs'⟩
  · rw [List.length_append, List.nodup_append]
    constructor
    · intro h
      simp at h
      omega
    · intro h
      exact absurd rfl (h.2.2 s hs' s (by simp))

theorem dist_new {lt : α → α → Prop} (htr : ∀ x y z, lt x y → lt y z → lt x z) {ls m : List α} {s : α} {k : Nat} (h : Dist lt ls m) (hs : s ∉ m) (ha : ∀ x ∈ m.take k, lt x s) (hb : ∀ x ∈ m.drop k, lt s x) :
    Dist lt (ls ++ [s]) (m.take k ++ s :: m.drop k) := by
  obtain ⟨h1, h2, h3, h4⟩ := h
  have hs' : s ∉ ls := fun h => hs ((h2 s).2 h)
  have hl : (m.take k ++ s :: m.drop k).length = m.length + 1 := by
    rw [List.length_append, List.length_cons]
    have := congrArg List.length (List.take_append_drop k m)
    rw [List.length_append] at this
    omega
  refine ⟨?_, fun x => ?_, by rw [hl]; simp; omega, ?_⟩
  · rw [List.pairwise_append]
    refine ⟨h1.sublist (List.take_sublist _ _), ?_, fun x hx y hy => ?_⟩
    · rw [List.pairwise_cons]
      exact ⟨hb, h1.sublist (List.drop_sublist _ _)⟩
    · rcases List.mem_cons.1 hy with rfl | hy
      · exact ha x hx
      · exact htr _ _ _ (ha x hx) (hb y hy)
  · have : x ∈ m ↔ x ∈ m.take k ∨ x ∈ m.drop k := by
      rw [← List.mem_append, List.take_append_drop]
    simp only [List.mem_append, List.mem_cons, List.not_mem_nil, or_false]
    rw [← h2 x, this]
    constructor
    · rintro (h | h | h)
      · exact .inl (.inl h)
      · exact .inr h
      · exact .inl (.inr h)
    · rintro ((h | h) | h)
      · exact .inl h
      · exact .inr (.inr h)
      · exact .inr (.inl h)
  · rw [hl, List.length_append, List.nodup_append]
    constructor
    · intro h
      simp at h
      refine ⟨h4.1 h, by simp, fun x hx y hy e => ?_⟩
      simp at hy
      subst hy
      subst e
      exact hs' hx
    · intro h
      have := h4.2 h.1
      simp
      exact this
end

def DistS (ls m : List ByteArray) : Prop := Dist (fun x y => cmpS x y < 0) ls m
theorem DistS.rising {ls m : List ByteArray} (h : DistS ls m) : risingB cmpS m = true := by
  refine risingB_yes cmpS m fun k x y hx hy => ?_
  obtain ⟨hk, rfl⟩ := List.getElem?_eq_some_iff.1 hx
  obtain ⟨hk', rfl⟩ := List.getElem?_eq_some_iff.1 hy
  exact List.pairwise_iff_getElem.1 h.1 k (k + 1) hk hk' (by omega)
theorem DistS.into {ls m zs : List ByteArray} {s : ByteArray} (h : DistS ls m) (hi : IntoRel m s zs) : DistS (ls ++ [s]) zs := by
  rcases hi with ⟨hs, rfl⟩ | ⟨hs, k, h1, h2, rfl⟩
  · exact dist_old h hs
  · exact dist_new (lt := fun x y => cmpS x y < 0) (fun x y z => cmpS_trans) h hs h1 h2

set_option maxHeartbeats 1000000 in
theorem twice {S : Nat → Prop} {A : Option Addr} {xs : List DScored} {c : Nat} {w : World} (hx : Row kScored S w A xs) (hsmall : xs.length ≤ 1000000) :
    Calls Tryz.prog 151 #[.slice A xs.length c] w fun e w' => e = .returned (.bool (!decide (Nod xs))) ∧ Below w.heap.size w w' := by
  have hl := hx.1
  go_enter Tryz.func151, Tryz.ntmps151
  go_wp2
  go_loopg [3, 4] xs.length (fun gg s3 s4 wr => ∃ (k : Nat) (B : Option Addr) (n d : Nat), k ≤ xs.length ∧ xs.length - k ≤ gg ∧ s4 = .int .i64 k ∧ s3 = .slice B n d ∧ n ≤ xs.length ∧ Hid (∃ m, n = m.length ∧ SlForm B d ∧ m.length ≤ d ∧ d ≤ 9223372036854775807 ∧ Row kStr (fun q => w.heap.size ≤ q) wr B m ∧ DistS ((xs.take k).map (·.m)) m) ∧ Hid (Below w.heap.size w wr))
  case atStart => exact ⟨0, none, 0, 0, Nat.zero_le _, by omega, rfl, rfl, Nat.zero_le _, ⟨[], rfl, .inl ⟨rfl, rfl⟩, Nat.le_refl _, by omega, Row.nil _ _ _ _, dist_nil (fun x y => cmpS x y < 0)⟩, Below.refl _ _⟩
  case round =>
    obtain ⟨k, B, n, d, hk, hg, rfl, rfl, hn, HM, HB⟩ := hrel
    by_cases hlt : k < xs.length
    · have hltz : (k : Int) < (xs.length : Int) := by omega
      obtain ⟨x, hx'⟩ : ∃ x, xs[k]? = some x := ⟨_, List.getElem?_eq_getElem hlt⟩
      obtain ⟨fb, foff, rfl, f0, f1, fR⟩ := (hx.move (below_moves HB.out)).scored hx'
      have HX := Lib.hid hx'
      have hcall : Calls Tryz.prog 178 #[.slice B n d, .string x.m] wr (fun e w' => ∃ (C : Option Addr) (cc nn : Nat), e = .returned (.slice C nn cc) ∧ nn ≤ k + 1 ∧ Hid (∃ zs, nn = zs.length ∧ SlForm C cc ∧ zs.length ≤ cc ∧ cc ≤ 9223372036854775807 ∧ Row kStr (fun q => w.heap.size ≤ q) w' C zs ∧ DistS ((xs.take (k + 1)).map (·.m)) zs) ∧ Below wr.heap.size wr w') := by
        obtain ⟨m, rfl, h1, h2, h3, h4, h5⟩ := HM.out
        have hml : m.length ≤ k := by
          have := h5.2.2.1
          rw [List.length_map, List.length_take] at this
          omega
        refine (Into x.m fR.2.1 h4 h2 h3 h5.rising (fun q hq => Nat.le_trans HB.out.size hq) (by omega) h1).mono ?_
        rintro e w' ⟨C, cc, zs, rfl, g1, g2, g3, g4, g5, g6⟩
        have hd : DistS ((xs.take (k + 1)).map (·.m)) zs := by
          rw [List.take_add_one, HX.out, List.map_append]
          exact h5.into g5
        have hzl := hd.2.2.1
        rw [List.length_map, List.length_take] at hzl
        exact ⟨C, cc, zs.length, rfl, by omega, ⟨zs, rfl, g1, g2, g3, g4, hd⟩, g6⟩
      clear fR hx hx' HM
      go_wp2_with (go_at_call 178; refine hcall.mono ?_; rintro e w1 ⟨C, cc, nn, rfl, hnn, HZ, b1⟩)
      go_roundg (xs.length - (k + 1))
      case rel => exact ⟨k + 1, C, nn, cc, by omega, by omega, by go_num, rfl, by omega, HZ, below_trans' HB.out b1⟩
      case measure => omega
    · obtain rfl : k = xs.length := by omega
      have hn' : decide (Nod xs) = (n == xs.length) := by
        obtain ⟨m, rfl, _, _, _, _, h5⟩ := HM.out
        have h6 := h5.2.2.2
        rw [List.length_map, List.take_length] at h6
        rw [Bool.eq_iff_iff]
        simp only [decide_eq_true_eq, beq_iff_eq]
        exact h6.symm
      by_cases he : n = xs.length
      · have t1 : ((n : Int) == (xs.length : Int)) = true := by simp [he]
        have t2 : ((n : Int) != (xs.length : Int)) = false := by simp [he]
        have HN : Hid (decide (Nod xs) = true) := by unfold Hid; rw [hn']; simp [he]
        clear hn' he
        go_wp2
        go_ret
        exact ⟨by rw [HN.out]; rfl, HB.out⟩
      · have t1 : ((n : Int) == (xs.length : Int)) = false := by simp; omega
        have t2 : ((n : Int) != (xs.length : Int)) = true := by simp; omega
        have HN : Hid (decide (Nod xs) = false) := by unfold Hid; rw [hn']; simp [he]
        clear hn' he
        go_wp2
        go_ret
        exact ⟨by rw [HN.out]; rfl, HB.out⟩

def okF (y : DField) : Bool := shortB y.f && shortB y.v
def cmpF (x y : DField) : Int := cmpS x.f y.f
def fieldsB (l : List DField) : Bool := l.all okF && risingB cmpF l
theorem fieldsB_short {l : List DField} {k : Nat} {x : DField} (hx : l[k]? = some x) (h : okF x = false) : fieldsB l = false := by
  unfold fieldsB
  rw [all_no hx h, Bool.false_and]
theorem fieldsB_rise {l : List DField} {k : Nat} {x y : DField} (hx : l[k]? = some x) (hy : l[k + 1]? = some y) (h : 0 ≤ cmpF x y) : fieldsB l = false := by
  unfold fieldsB
  rw [risingB_no cmpF l k x y hx hy h, Bool.and_false]

set_option maxHeartbeats 1000000 in
theorem fields {S : Nat → Prop} {A : Option Addr} {xs : List DField} {c : Nat} {w : World} (hx : Row kField S w A xs) :
    Calls Tryz.prog 102 #[.slice A xs.length c] w fun e w' => e = .returned (.bool (fieldsB xs)) ∧ Below w.heap.size w w' := by
  have hl := hx.1
  go_enter Tryz.func102, Tryz.ntmps102
  go_wp2
  go_loopg [3] xs.length (fun gg s5 wr => ∃ k : Nat, k ≤ xs.length ∧ xs.length - k ≤ gg ∧ s5 = .int .i64 k ∧ Hid (Below w.heap.size w wr) ∧ Hid (∀ j y, j < k → xs[j]? = some y → okF y = true) ∧ Hid (∀ j x y, j + 1 < k → xs[j]? = some x → xs[j + 1]? = some y → cmpF x y < 0))
  case atStart => exact ⟨0, Nat.zero_le _, by omega, rfl, Below.refl _ w, fun j _ hj => absurd hj (Nat.not_lt_zero _), fun j _ _ hj => absurd hj (Nat.not_lt_zero _)⟩
  case round =>
    obtain ⟨k, hk, hg, rfl, HB, HA, HR⟩ := hrel
    by_cases hlt : k < xs.length
    · have hltz : (k : Int) < (xs.length : Int) := by omega
      obtain ⟨y, hy⟩ : ∃ y, xs[k]? = some y := ⟨_, List.getElem?_eq_getElem hlt⟩
      have hrow := hx.move (below_moves HB.out)
      obtain ⟨gb, goff, rfl, g0, g1, gR⟩ := hrow.field hy
      have HY := Lib.hid hy
      clear gR hy
      replace g0 := Later.cell g0
      replace g1 := Later.cell g1
      have d0 := short_dec y.f
      cases hs0 : shortB y.f with
      | false =>
        rw [hs0] at d0
        have HS : Hid (okF y = false) := by unfold Hid okF; simp [hs0]
        clear hs0 hrow hx
        go_wp2_with fail
        refine wp_region_later (by kernel_rfl) (by kernel_rfl) ?_
        repeat (go_big_quiet_step (fail))
        refine wpQuiet_nil ?_
        rintro _ ⟨q, rfl⟩
        go_wp2
        go_ret
        refine ⟨?_, below_trans' HB.out q.below⟩
        rw [fieldsB_short HY.out HS.out]
        rfl
      | true =>
        rw [hs0] at d0
        have d1 := short_dec y.v
        cases hs1 : shortB y.v with
        | false =>
          rw [hs1] at d1
          have HS : Hid (okF y = false) := by unfold Hid okF; simp [hs0, hs1]
          clear hs0 hs1 hrow hx
          go_wp2_with fail
          refine wp_region_later (by kernel_rfl) (by kernel_rfl) ?_
          repeat (go_big_quiet_step (fail))
          refine wpQuiet_nil ?_
          rintro _ ⟨q, rfl⟩
          go_wp2
          go_ret
          refine ⟨?_, below_trans' HB.out q.below⟩
          rw [fieldsB_short HY.out HS.out]
          rfl
        | true =>
          rw [hs1] at d1
          have HS : Hid (okF y = true) := by unfold Hid okF; simp [hs0, hs1]
          clear hs0 hs1
          rcases Nat.eq_zero_or_pos k with h0 | h0
          · have e2 : decide (0 < k) = false := by simp; omega
            have e3 : ¬ 0 < k := by omega
            have H0 := Lib.hid h0
            clear hrow hx h0
            go_wp2_with fail
            refine wp_region_later (by kernel_rfl) (by kernel_rfl) ?_
            repeat (go_big_quiet_step (fail))
            refine wpQuiet_nil ?_
            rintro _ ⟨q, rfl⟩
            go_wp2
            go_roundg (xs.length - (k + 1))
            case rel =>
              refine ⟨k + 1, by omega, by omega, by go_num, below_trans' HB.out q.below, fun j z hj hz => ?_, fun j a b hj ha hb => absurd hj (by have := H0.out; omega)⟩
              · rcases Nat.lt_or_ge j k with h | h
                · exact HA.out j z h hz
                · obtain rfl : j = k := by omega
                  rw [HY.out] at hz
                  cases hz
                  exact HS.out
            case measure => omega
          · have e2 : decide (0 < k) = true := by simpa using h0
            have e3 : decide ((0 : Int) < (k : Int)) = true := by simp; omega
            obtain ⟨x, hx'⟩ : ∃ x, xs[k-1]? = some x := ⟨_, List.getElem?_eq_getElem (by omega)⟩
            obtain ⟨fb, foff, e', f0, f1, fR⟩ := hrow.field hx'
            cases e'
            have HX := Lib.hid hx'
            have e4 : Op.bytesLess x.f.toList y.f.toList = decide (cmpF x y < 0) := cmpS_less x.f y.f
            clear fR hx' hrow hx
            replace f0 := Later.cell f0
            replace f1 := Later.cell f1
            by_cases hq : cmpF x y < 0
            · rw [decide_eq_true hq] at e4
              have HQ := Lib.hid hq
              clear hq
              go_wp2_with fail
              refine wp_region_later (by kernel_rfl) (by kernel_rfl) ?_
              repeat (go_big_quiet_step (fail))
              refine wpQuiet_nil ?_
              rintro _ ⟨q, rfl⟩
              go_wp2
              go_roundg (xs.length - (k + 1))
              case rel =>
                refine ⟨k + 1, by omega, by omega, by go_num, below_trans' HB.out q.below, fun j z hj hz => ?_, fun j a b hj ha hb => ?_⟩
                · rcases Nat.lt_or_ge j k with h | h
                  · exact HA.out j z h hz
                  · obtain rfl : j = k := by omega
                    rw [HY.out] at hz
                    cases hz
                    exact HS.out
                · rcases Nat.lt_or_ge (j + 1) k with h | h
                  · exact HR.out j a b h ha hb
                  · obtain rfl : j = k - 1 := by omega
                    rw [HX.out] at ha
                    rw [show k - 1 + 1 = k from by omega, HY.out] at hb
                    cases ha
                    cases hb
                    exact HQ.out
              case measure => omega
            · rw [decide_eq_false hq] at e4
              have HQ := Lib.hid hq
              clear hq
              go_wp2_with fail
              refine wp_region_later (by kernel_rfl) (by kernel_rfl) ?_
              repeat (go_big_quiet_step (fail))
              refine wpQuiet_nil ?_
              rintro _ ⟨q, rfl⟩
              go_wp2
              go_ret
              refine ⟨?_, below_trans' HB.out q.below⟩
              rw [fieldsB_rise HX.out (by rw [show k - 1 + 1 = k from by have := h0; omega]; exact HY.out) (by have := HQ.out; omega)]
              rfl
    · obtain rfl : k = xs.length := by omega
      have h1 : xs.all okF = true := all_yes HA.out
      have h2 : risingB cmpF xs = true := risingB_yes cmpF xs fun j a b ha hb => HR.out j a b (by have := (List.getElem?_eq_some_iff.1 hb).1; omega) ha hb
      clear hx
      have H1 := Lib.hid h1
      have H2 := Lib.hid h2
      clear h1 h2
      go_wp2
      go_ret
      refine ⟨?_, HB.out⟩
      unfold fieldsB
      rw [H1.out, H2.out]
      rfl

def okS (y : DScored) : Bool := shortB y.m
def membersB (l : List DScored) : Bool := l.all okS && (risingB cmpScored l && decide (Nod l))
theorem membersB_short {l : List DScored} {k : Nat} {x : DScored} (hx : l[k]? = some x) (h : okS x = false) : membersB l = false := by
  unfold membersB
  rw [all_no hx h, Bool.false_and]
theorem membersB_rise {l : List DScored} {k : Nat} {x y : DScored} (hx : l[k]? = some x) (hy : l[k + 1]? = some y) (h : 0 ≤ cmpScored x y) : membersB l = false := by
  unfold membersB
  rw [risingB_no cmpScored l k x y hx hy h, Bool.false_and, Bool.and_false]

set_option maxHeartbeats 1000000 in
theorem members {S : Nat → Prop} {A : Option Addr} {xs : List DScored} {c : Nat} {w : World} (hx : Row kScored S w A xs) (hsmall : xs.length ≤ 1000000) :
    Calls Tryz.prog 101 #[.slice A xs.length c] w fun e w' => e = .returned (.bool (membersB xs)) ∧ Below w.heap.size w w' := by
  have hl := hx.1
  have hT := fun (W : World) (hb : Below w.heap.size w W) => twice (c := c) (hx.move (below_moves hb)) hsmall
  go_enter Tryz.func101, Tryz.ntmps101
  go_wp2
  go_loopg [3] xs.length (fun gg s5 wr => ∃ k : Nat, k ≤ xs.length ∧ xs.length - k ≤ gg ∧ s5 = .int .i64 k ∧ Hid (Below w.heap.size w wr) ∧ Hid (∀ j y, j < k → xs[j]? = some y → okS y = true) ∧ Hid (∀ j x y, j + 1 < k → xs[j]? = some x → xs[j + 1]? = some y → cmpScored x y < 0))
  case atStart => exact ⟨0, Nat.zero_le _, by omega, rfl, Below.refl _ w, fun j _ hj => absurd hj (Nat.not_lt_zero _), fun j _ _ hj => absurd hj (Nat.not_lt_zero _)⟩
  case round =>
    obtain ⟨k, hk, hg, rfl, HB, HA, HR⟩ := hrel
    by_cases hlt : k < xs.length
    · have hltz : (k : Int) < (xs.length : Int) := by omega
      obtain ⟨y, hy⟩ : ∃ y, xs[k]? = some y := ⟨_, List.getElem?_eq_getElem hlt⟩
      have hrow := hx.move (below_moves HB.out)
      obtain ⟨gb, goff, rfl, g0, g1, gR⟩ := hrow.scored hy
      have HY := Lib.hid hy
      clear gR hy
      replace g0 := Later.cell g0
      replace g1 := Later.cell g1
      have d0 := short_dec y.m
      cases hs0 : shortB y.m with
      | false =>
        rw [hs0] at d0
        have HS : Hid (okS y = false) := by unfold Hid okS; simp [hs0]
        clear hs0 hrow hx
        go_wp2_with fail
        refine wp_region_later (by kernel_rfl) (by kernel_rfl) ?_
        repeat (go_big_quiet_step (fail))
        refine wpQuiet_nil ?_
        rintro _ ⟨q, rfl⟩
        go_wp2
        go_ret
        refine ⟨?_, below_trans' HB.out q.below⟩
        rw [membersB_short HY.out HS.out]
        rfl
      | true =>
        rw [hs0] at d0
        have HS : Hid (okS y = true) := by unfold Hid okS; simp [hs0]
        clear hs0
        rcases Nat.eq_zero_or_pos k with h0 | h0
        · have e2 : decide (0 < k) = false := by simp; omega
          have e3 : ¬ 0 < k := by omega
          have H0 := Lib.hid h0
          clear hrow hx h0
          go_wp2_with fail
          refine wp_region_later (by kernel_rfl) (by kernel_rfl) ?_
          repeat (go_big_quiet_step (fail))
          refine wpQuiet_nil ?_
          rintro _ ⟨q, rfl⟩
          go_wp2
          go_roundg (xs.length - (k + 1))
          case rel =>
            refine ⟨k + 1, by omega, by omega, by go_num, below_trans' HB.out q.below, fun j z hj hz => ?_, fun j a b hj ha hb => absurd hj (by have := H0.out; omega)⟩
            · rcases Nat.lt_or_ge j k with h | h
              · exact HA.out j z h hz
              · obtain rfl : j = k := by omega
                rw [HY.out] at hz
                cases hz
                exact HS.out
          case measure => omega
        · have e2 : decide (0 < k) = true := by simpa using h0
          have e3 : decide ((0 : Int) < (k : Int)) = true := by simp; omega
          obtain ⟨x, hx'⟩ : ∃ x, xs[k-1]? = some x := ⟨_, List.getElem?_eq_getElem (by omega)⟩
          obtain ⟨fb, foff, e', f0, f1, fR⟩ := hrow.scored hx'
          cases e'
          have HX := Lib.hid hx'
          have hA : ∀ q : Later wr, Calls Tryz.prog 76 #[.agg #[.string x.m, .int .i64 x.n], .agg #[.string y.m, .int .i64 y.n]] q.W fun e w' => e = .returned (.bool (aheadB x y)) ∧ Below q.W.heap.size q.W w' := fun q => Ahead x y q.W
          have e4 : aheadB x y = decide (cmpScored x y < 0) := rfl
          clear fR hx' hrow hx
          replace f0 := Later.cell f0
          replace f1 := Later.cell f1
          by_cases hq : cmpScored x y < 0
          · rw [decide_eq_true hq] at e4
            rw [e4] at hA
            have HQ := Lib.hid hq
            clear hq
            go_wp2_with fail
            refine wp_region_later (by kernel_rfl) (by kernel_rfl) ?_
            repeat (go_big_quiet_step ((go_at_call 76; exact Calls.later (hA _))))
            refine wpQuiet_nil ?_
            rintro _ ⟨q, rfl⟩
            go_wp2
            go_roundg (xs.length - (k + 1))
            case rel =>
              refine ⟨k + 1, by omega, by omega, by go_num, below_trans' HB.out q.below, fun j z hj hz => ?_, fun j a b hj ha hb => ?_⟩
              · rcases Nat.lt_or_ge j k with h | h
                · exact HA.out j z h hz
                · obtain rfl : j = k := by omega
                  rw [HY.out] at hz
                  cases hz
                  exact HS.out
              · rcases Nat.lt_or_ge (j + 1) k with h | h
                · exact HR.out j a b h ha hb
                · obtain rfl : j = k - 1 := by omega
                  rw [HX.out] at ha
                  rw [show k - 1 + 1 = k from by omega, HY.out] at hb
                  cases ha
                  cases hb
                  exact HQ.out
            case measure => omega
          · rw [decide_eq_false hq] at e4
            rw [e4] at hA
            have HQ := Lib.hid hq
            clear hq
            go_wp2_with fail
            refine wp_region_later (by kernel_rfl) (by kernel_rfl) ?_
            repeat (go_big_quiet_step ((go_at_call 76; exact Calls.later (hA _))))
            refine wpQuiet_nil ?_
            rintro _ ⟨q, rfl⟩
            go_wp2
            go_ret
            refine ⟨?_, below_trans' HB.out q.below⟩
            rw [membersB_rise HX.out (by rw [show k - 1 + 1 = k from by have := h0; omega]; exact HY.out) (by have := HQ.out; omega)]
            rfl
    · obtain rfl : k = xs.length := by omega
      have h1 : xs.all okS = true := all_yes HA.out
      have h2 : risingB cmpScored xs = true := risingB_yes cmpScored xs fun j a b ha hb => HR.out j a b (by have := (List.getElem?_eq_some_iff.1 hb).1; omega) ha hb
      clear hx
      have hN : membersB xs = decide (Nod xs) := by unfold membersB; rw [h1, h2]; simp
      have H1 := Lib.hid hN
      have hT' := hT wr HB.out
      clear hT h1 h2 hN
      generalize decide (Nod xs) = r at hT' H1
      go_wp2_with (go_at_call 151; refine hT'.mono ?_; rintro e w1 ⟨rfl, b1⟩)
      go_ret
      refine ⟨?_, below_trans' HB.out b1⟩
      rw [H1.out]
      simp
end Go.Proofs.YtkgghnjpegpnlaaGreatDoor
