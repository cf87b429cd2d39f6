/- millpondref09.Into: a text into a rising row, once. Conditions: the row reads as the list and rises. -/
import Derived.Test.YtkgghnjpegpnlaaGreatDoorRefs
import Derived.Test.YtkgghnjpegpnlaaGreatDoorChain
namespace Go.Proofs.YtkgghnjpegpnlaaGreatDoor
open Go.RowKit Go.Proofs
set_option linter.unusedSimpArgs false
set_option linter.unusedVariables false
set_option maxRecDepth 100000

/-- What Into makes of a row. -/
def IntoRel (l : List ByteArray) (s : ByteArray) (zs : List ByteArray) : Prop :=
  (s ∈ l ∧ zs = l) ∨ (s ∉ l ∧ ∃ k, (∀ x ∈ l.take k, cmpS x s < 0) ∧ (∀ x ∈ l.drop k, cmpS s x < 0) ∧ zs = l.take k ++ s :: l.drop k)
def IntoPost (S : Nat → Prop) (l : List ByteArray) (s : ByteArray) (w : World) (e : Ending) (w' : World) : Prop :=
  ∃ A c zs, e = .returned (.slice A zs.length c) ∧ SlForm A c ∧ zs.length ≤ c ∧ c ≤ 9223372036854775807 ∧ Row kStr S w' A zs ∧ IntoRel l s zs ∧ Below w.heap.size w w'

theorem into_rel {l : List ByteArray} {s : ByteArray} {p : Nat} (hr : risingB cmpS l = true) (h1 : ∀ j x, j < p → l[j]? = some x → cmpS x s < 0) (h2 : ∀ j x, p ≤ j → l[j]? = some x → 0 ≤ cmpS x s) (hne : ∀ x, l[p]? = some x → x ≠ s) :
    IntoRel l s (l.take p ++ s :: l.drop p) := by
  have hss : cmpS s s = 0 := cmpS_zero.2 rfl
  have hnot : s ∉ l := by
    intro hm
    obtain ⟨j, hj, e⟩ := List.mem_iff_getElem.1 hm
    have hx : l[j]? = some s := by rw [List.getElem?_eq_getElem hj, e]
    rcases Nat.lt_trichotomy j p with h | h | h
    · have := h1 j s h hx
      omega
    · subst h
      exact hne s hx rfl
    · obtain ⟨y, hy⟩ : ∃ y, l[p]? = some y := ⟨_, List.getElem?_eq_getElem (by omega)⟩
      have a := risingB_lt (p := cmpS) (fun x y z => cmpS_trans) hr h hy hx
      have b := h2 p y (Nat.le_refl _) hy
      omega
  refine .inr ⟨hnot, p, fun x hx => ?_, fun x hx => ?_, rfl⟩
  · obtain ⟨j, hj, e⟩ := List.mem_iff_getElem.1 hx
    rw [List.getElem_take] at e
    rw [List.length_take] at hj
    exact h1 j x (by omega) (by rw [List.getElem?_eq_getElem (by omega), e])
  · obtain ⟨j, hj, e⟩ := List.mem_iff_getElem.1 hx
    rw [List.getElem_drop] at e
    rw [List.length_drop] at hj
    have hx' : l[p + j]? = some x := by rw [List.getElem?_eq_getElem (by omega), e]
    have a := h2 (p + j) x (by omega) hx'
    have b : cmpS x s ≠ 0 := fun h => hnot (by rw [← cmpS_zero.1 h]; exact List.mem_of_getElem? hx')
    exact cmpS_neg.2 (cmpS_pos.1 (by omega))

set_option maxHeartbeats 2000000 in
theorem Into {S : Nat → Prop} {A : Option Addr} {l : List ByteArray} {c : Nat} {w : World} (s : ByteArray) (hs : s.size ≤ 140737488355328) (h : Row kStr S w A l) (hc : l.length ≤ c) (hc2 : c ≤ 9223372036854775807) (hr : risingB cmpS l = true) (hS : ∀ k, w.heap.size ≤ k → S k) (hsmall : l.length ≤ 1000000) (hform : SlForm A c) :
    Calls Tryz.prog 178 #[.slice A l.length c, .string s] w (IntoPost S l s w) := by
  obtain ⟨i0, hi, hz0, hz1, hz2⟩ := info_parts infos
  go_enter Tryz.func178, Tryz.ntmps178
  go_wp2
  go_loopg [5, 6, 7] l.length (fun gg s5 s6 s7 wr => ∃ p q : Nat, p ≤ q ∧ q ≤ l.length ∧ q - p ≤ gg ∧ s5 = .int .i64 p ∧ s6 = .int .i64 q ∧ Hid (w = wr) ∧ Hid (∀ j x, j < p → l[j]? = some x → cmpS x s < 0) ∧ Hid (∀ j x, q ≤ j → l[j]? = some x → 0 ≤ cmpS x s))
  case atStart => exact ⟨0, l.length, Nat.zero_le _, Nat.le_refl _, by omega, rfl, rfl, rfl, fun j _ hj => absurd hj (Nat.not_lt_zero _), fun j x hj hx => by rw [List.getElem?_eq_none hj] at hx; cases hx⟩
  case round =>
    obtain ⟨p, q, hpq, hq, hg, rfl, rfl, HW, H1, H2⟩ := hrel
    by_cases hlt : p < q
    · have hltz : (p : Int) < (q : Int) := by omega
      obtain ⟨m, hm⟩ : ∃ m, m = (p + q) / 2 := ⟨_, rfl⟩
      have m1 : p ≤ m := by omega
      have m2 : m < q := by omega
      have hmid : ((p : Int) + (q : Int)) / 2 = ((m : Nat) : Int) := by omega
      clear hm
      obtain ⟨x, hx⟩ : ∃ x, l[m]? = some x := ⟨_, List.getElem?_eq_getElem (by omega)⟩
      obtain ⟨b, off, rfl, f0, _⟩ := h.str hx
      have f0' : wr.cell? ⟨b, off + m, none⟩ = some (.string x) := by rw [← HW.out]; exact f0
      have m3 : (m : Int) < (l.length : Int) := by omega
      have d4 := cmpS_less x s
      have HX := Lib.hid hx
      have HH := Lib.hid h
      have HR := Lib.hid hr
      clear hx f0 h hr hc hs hi hz0 hz1 hz2
      by_cases hq' : cmpS x s < 0
      · rw [decide_eq_true hq'] at d4
        have HQ := Lib.hid hq'
        clear hq'
        go_wp2
        go_roundg (q - (m + 1))
        case rel =>
          refine ⟨m + 1, q, by omega, hq, by omega, by go_num, rfl, HW.out, fun j y hj hy => ?_, H2.out⟩
          rcases Nat.lt_or_ge j m with hjm | hjm
          · exact keys_mono (f := fun x => x) HR.out s j m y x (by omega) hy HX.out HQ.out
          · obtain rfl : j = m := by omega
            have hxx := HX.out
            rw [hy] at hxx
            cases hxx
            exact HQ.out
        case measure => omega
      · rw [decide_eq_false hq'] at d4
        have HQ := Lib.hid hq'
        clear hq'
        go_wp2
        go_roundg (m - p)
        case rel =>
          refine ⟨p, m, by omega, by omega, by omega, rfl, rfl, HW.out, H1.out, fun j y hj hy => ?_⟩
          rcases Int.lt_or_le (cmpS y s) 0 with hlt | hge
          · have h1 := keys_mono (f := fun x => x) HR.out s m j x y hj HX.out hy hlt
            have h2 := HQ.out
            omega
          · exact hge
        case measure => omega
    · obtain rfl : p = q := by omega
      obtain rfl := HW.out
      by_cases hin : ∃ x, l[p]? = some x ∧ x = s
      · obtain ⟨x, hx, rfl⟩ := hin
        have hpl : p < l.length := (List.getElem?_eq_some_iff.1 hx).1
        have hplz : (p : Int) < (l.length : Int) := by omega
        obtain ⟨b, off, rfl, f0, _⟩ := h.str hx
        have t1 : (x.toList == x.toList) = true := by simp
        have HX := Lib.hid hx
        have HH := Lib.hid h
        clear hx h hr hi hz0 hz1 hz2
        go_wp2
        go_ret
        exact ⟨_, c, l, rfl, hform, hc, hc2, HH.out, .inl ⟨List.mem_of_getElem? HX.out, rfl⟩, Below.refl _ _⟩
      · have hdec : (p < l.length ∧ ∃ x, l[p]? = some x ∧ (x.toList == s.toList) = false) ∨ p = l.length := by
          rcases Nat.lt_or_ge p l.length with hpl | hpl
          · refine .inl ⟨hpl, l[p], List.getElem?_eq_getElem hpl, ?_⟩
            rw [Bool.eq_false_iff]
            intro he
            exact hin ⟨_, List.getElem?_eq_getElem hpl, toList_inj (by simpa using he)⟩
          · exact .inr (by omega)
        have hrel := into_rel hr H1.out H2.out (fun x hx he => hin ⟨x, hx, he⟩)
        have HREL := Lib.hid hrel
        obtain ⟨cs, hparts, hsrc0⟩ := row_src h.old
        have hsrc : Src w 1 A l.length cs := hsrc0
        clear hsrc0
        have HP := Lib.hid hparts
        have HONE : Hid (∀ u ∈ [Value.string s], u.oneCell' = true) := fun u hu => by rw [List.mem_singleton.1 hu]; rfl
        have hstr : kStr.R (fun k => S k ∧ k < w.heap.size) w s [.string s] := ⟨rfl, hs⟩
        have HSTR := Lib.hid hstr
        have hsrc1 := hsrc.take p hq
        have g1 : (p : Int) ≤ (l.length : Int) := by omega
        have g2 : (p : Int) ≤ (c : Int) := by omega
        have g3 : (l.length : Int) ≤ (c : Int) := by omega
        clear hrel hin H1 H2 hparts hstr hr
        have hend : ∀ v3 w3, World.ownsRow w3 w.heap.size 9 1 v3 (0 + p + 1 + (l.length - p)) (([] ++ cs.take (p * 1)) ++ [.string s] ++ cs.drop p) → Below w.heap.size w w3 → IntoPost S l s w (.returned v3) w3 := by
          intro v3 w3 o3 B3
          rw [show cs.drop p = cs.drop (p * 1) from by rw [Nat.mul_one]] at o3
          have hown := chain_own (d := kStr) (m := 0 + p + 1 + (l.length - p)) HP.out HSTR.out hq (by omega) o3 B3
          have hll : (l.take p ++ s :: l.drop p).length ≤ 140737488355328 := by simp; omega
          obtain ⟨A', c', rfl, h1, h2, h3⟩ := hown.slice hll
          refine ⟨A', c', _, rfl, ownsRow_form o3, h1, h2, h3.move fun k hk hlt => ⟨rfl, ?_⟩, HREL.out, B3⟩
          rcases hk with hk | hk
          · exact hk.1.1
          · exact hS k (ownsRow_base o3 k hk).1
        have HEND := Lib.hid hend
        clear hend hS
        rcases hform with ⟨rfl, rfl⟩ | ⟨b, off, rfl⟩
        · have hl0 : l = [] := List.eq_nil_of_length_eq_zero (by omega)
          subst hl0
          have hp0 : p = 0 := by simpa using hq
          subst hp0
          have S1 : Hid (Src w 1 none 0 []) := ⟨rfl, by simp, fun hm => by simp at hm⟩
          have S2 := S1
          have hcs : cs = [] := List.eq_nil_of_length_eq_zero (by simpa using hsrc.1)
          subst hcs
          clear h hsrc hdec hsrc1
          go_wp2_with fail
          go_region_law (first
              | (refine step_append_src ?_ (.tmp 39) (.tmp 42) 24 ?_ w.heap.size 9 i0 (.string ⟨#[]⟩) 1 16 Tryz.underlying24 hi hz0 hz1 hz2 ?_ (Nat.zero_lt_succ _) (.slice (some ⟨w.heap.size, 0, none⟩) 0 0) 0 [] ?_ ?_ none 0 0 [] ?_ ?_ ?_ ?_ ?_ ?_; (· rfl); (· rfl); (· rfl); (· rfl); (· exact (own_a (w := w) (e := 9) (k := 1))); (· rfl); (· exact (S1.out.below bel_a)); (· unfold maxLen; omega); (· omega); (· exact bel_a.size); intro v1 w1 o1 gr1 at1; have B1 := bel_own bel_a (own_a (w := w) (e := 9) (k := 1)) gr1; skip)
              | (refine step_append_src ?_ (.tmp 39) (.tmp 42) 24 ?_ w.heap.size 9 i0 (.string ⟨#[]⟩) 1 16 Tryz.underlying24 hi hz0 hz1 hz2 ?_ (Nat.zero_lt_succ _) (.slice (some ⟨w.heap.size, 0, none⟩) 0 0) 0 [] ?_ ?_ none 0 0 [] ?_ ?_ ?_ ?_ ?_ ?_; (· rfl); (· rfl); (· rfl); (· rfl); (· exact (own_b (w := w) (e := 9) (k := 1) (o := .cells #[.string s] 9))); (· rfl); (· exact (S1.out.below bel_b)); (· unfold maxLen; omega); (· omega); (· exact bel_b.size); intro v1 w1 o1 gr1 at1; have B1 := bel_own bel_b (own_b (w := w) (e := 9) (k := 1) (o := .cells #[.string s] 9)) gr1; have N1 := blk_kept (b := w.heap.size + 1) (o := .cells #[.string s] 9 (0, 0)) (heap_b2 w (.cells #[] 9) (.cells #[.string s] 9)) gr1 (by simp [Value.ownBlock]))
              | (refine step_append_src ?_ (.tmp 39) (.tmp 42) 24 ?_ w.heap.size 9 i0 (.string ⟨#[]⟩) 1 16 Tryz.underlying24 hi hz0 hz1 hz2 ?_ (Nat.zero_lt_succ _) (.slice (some ⟨w.heap.size + 1, 0, none⟩) 0 0) 0 [] ?_ ?_ none 0 0 [] ?_ ?_ ?_ ?_ ?_ ?_; (· rfl); (· rfl); (· rfl); (· rfl); (· exact (own_c (w := w) (e := 9) (k := 1) (o := .cells #[.string s] 9))); (· rfl); (· exact (S1.out.below bel_b)); (· unfold maxLen; omega); (· omega); (· exact bel_b.size); intro v1 w1 o1 gr1 at1; have B1 := bel_own bel_b (own_c (w := w) (e := 9) (k := 1) (o := .cells #[.string s] 9)) gr1; have N1 := blk_kept (b := w.heap.size) (o := .cells #[.string s] 9 (0, 0)) (heap_c2 w (.cells #[.string s] 9) (.cells #[] 9)) gr1 (by simp [Value.ownBlock]))
              | (refine step_append_src ?_ (.tmp 43) (.tmp 45) 24 ?_ w.heap.size 9 i0 (.string ⟨#[]⟩) 1 16 Tryz.underlying24 hi hz0 hz1 hz2 ?_ (Nat.zero_lt_succ _) v1 (0 + 0) ([] ++ []) ?_ ?_ (some ⟨w.heap.size + 1, 0, none⟩) 1 1 [.string s] ?_ ?_ ?_ ?_ ?_ ?_; (· rfl); (· rfl); (· rfl); (· rfl); (· exact o1); (· rfl); (· exact (Src.block (cs := [.string s]) N1 rfl HONE.out)); (· unfold maxLen; omega); (· omega); (· exact B1.size); intro v2 w2 o2 gr2 at2; have B2 := bel_own B1 o1 gr2)
              | (refine step_append_src ?_ (.tmp 43) (.tmp 45) 24 ?_ w.heap.size 9 i0 (.string ⟨#[]⟩) 1 16 Tryz.underlying24 hi hz0 hz1 hz2 ?_ (Nat.zero_lt_succ _) v1 (0 + 0) ([] ++ []) ?_ ?_ (some ⟨w.heap.size, 0, none⟩) 1 1 [.string s] ?_ ?_ ?_ ?_ ?_ ?_; (· rfl); (· rfl); (· rfl); (· rfl); (· exact o1); (· rfl); (· exact (Src.block (cs := [.string s]) N1 rfl HONE.out)); (· unfold maxLen; omega); (· omega); (· exact B1.size); intro v2 w2 o2 gr2 at2; have B2 := bel_own B1 o1 gr2)
              | (refine step_append_src ?_ (.tmp 43) (.tmp 45) 24 ?_ w.heap.size 9 i0 (.string ⟨#[]⟩) 1 16 Tryz.underlying24 hi hz0 hz1 hz2 ?_ (Nat.zero_lt_succ _) v1 (0 + 0) ([] ++ []) ?_ ?_ (some ⟨w1.heap.size, 0, none⟩) 1 1 [.string s] ?_ ?_ ?_ ?_ ?_ ?_; (· rfl); (· rfl); (· rfl); (· rfl); (· exact (World.ownsRow.alloc o1 _)); (· rfl); (· exact (Src.block (cs := [.string s]) (heap_alloc_new w1 _) rfl HONE.out)); (· unfold maxLen; omega); (· omega); (· exact (B1.alloc B1.size _).size); intro v2 w2 o2 gr2 at2; have B2 := bel_own (B1.alloc B1.size _) (World.ownsRow.alloc o1 _) gr2)
              | (refine step_append_src ?_ (.tmp 46) (.tmp 49) 24 ?_ w.heap.size 9 i0 (.string ⟨#[]⟩) 1 16 Tryz.underlying24 hi hz0 hz1 hz2 ?_ (Nat.zero_lt_succ _) v2 (0 + 0 + 1) ([] ++ [] ++ [.string s]) ?_ ?_ none 0 0 [] ?_ ?_ ?_ ?_ ?_ ?_; (· rfl); (· rfl); (· rfl); (· rfl); (· exact o2); (· rfl); (· exact (S2.out.below B2)); (· unfold maxLen; omega); (· omega); (· exact B2.size); intro v3 w3 o3 gr3 at3; have B3 := bel_own B2 o2 gr3))
          all_goals (go_wp2 <;> go_ret)
          all_goals exact HEND.out _ _ o3 B3
        · have hsrc2 := hsrc.drop p c hq hc
          simp only [Nat.mul_one] at hsrc2
          have S2 := Lib.hid hsrc2
          have S1 := Lib.hid hsrc1
          clear hsrc hsrc2 hsrc1
          rcases hdec with ⟨hpl, x, hx, t1⟩ | hpe
          · have hplz : (p : Int) < (l.length : Int) := by omega
            obtain ⟨b', off', he, f0, _⟩ := h.str hx
            cases he
            clear hx h
            go_wp2_with fail
            go_region_law (first
                | (refine step_append_src ?_ (.tmp 39) (.tmp 42) 24 ?_ w.heap.size 9 i0 (.string ⟨#[]⟩) 1 16 Tryz.underlying24 hi hz0 hz1 hz2 ?_ (Nat.zero_lt_succ _) (.slice (some ⟨w.heap.size, 0, none⟩) 0 0) 0 [] ?_ ?_ (some ⟨b, off, none⟩) p c (cs.take (p * 1)) ?_ ?_ ?_ ?_ ?_ ?_; (· rfl); (· rfl); (· rfl); (· rfl); (· exact (own_a (w := w) (e := 9) (k := 1))); (· rfl); (· exact (S1.out.below bel_a)); (· unfold maxLen; omega); (· omega); (· exact bel_a.size); intro v1 w1 o1 gr1 at1; have B1 := bel_own bel_a (own_a (w := w) (e := 9) (k := 1)) gr1; skip)
                | (refine step_append_src ?_ (.tmp 39) (.tmp 42) 24 ?_ w.heap.size 9 i0 (.string ⟨#[]⟩) 1 16 Tryz.underlying24 hi hz0 hz1 hz2 ?_ (Nat.zero_lt_succ _) (.slice (some ⟨w.heap.size, 0, none⟩) 0 0) 0 [] ?_ ?_ (some ⟨b, off, none⟩) p c (cs.take (p * 1)) ?_ ?_ ?_ ?_ ?_ ?_; (· rfl); (· rfl); (· rfl); (· rfl); (· exact (own_b (w := w) (e := 9) (k := 1) (o := .cells #[.string s] 9))); (· rfl); (· exact (S1.out.below bel_b)); (· unfold maxLen; omega); (· omega); (· exact bel_b.size); intro v1 w1 o1 gr1 at1; have B1 := bel_own bel_b (own_b (w := w) (e := 9) (k := 1) (o := .cells #[.string s] 9)) gr1; have N1 := blk_kept (b := w.heap.size + 1) (o := .cells #[.string s] 9 (0, 0)) (heap_b2 w (.cells #[] 9) (.cells #[.string s] 9)) gr1 (by simp [Value.ownBlock]))
                | (refine step_append_src ?_ (.tmp 39) (.tmp 42) 24 ?_ w.heap.size 9 i0 (.string ⟨#[]⟩) 1 16 Tryz.underlying24 hi hz0 hz1 hz2 ?_ (Nat.zero_lt_succ _) (.slice (some ⟨w.heap.size + 1, 0, none⟩) 0 0) 0 [] ?_ ?_ (some ⟨b, off, none⟩) p c (cs.take (p * 1)) ?_ ?_ ?_ ?_ ?_ ?_; (· rfl); (· rfl); (· rfl); (· rfl); (· exact (own_c (w := w) (e := 9) (k := 1) (o := .cells #[.string s] 9))); (· rfl); (· exact (S1.out.below bel_b)); (· unfold maxLen; omega); (· omega); (· exact bel_b.size); intro v1 w1 o1 gr1 at1; have B1 := bel_own bel_b (own_c (w := w) (e := 9) (k := 1) (o := .cells #[.string s] 9)) gr1; have N1 := blk_kept (b := w.heap.size) (o := .cells #[.string s] 9 (0, 0)) (heap_c2 w (.cells #[.string s] 9) (.cells #[] 9)) gr1 (by simp [Value.ownBlock]))
                | (refine step_append_src ?_ (.tmp 43) (.tmp 45) 24 ?_ w.heap.size 9 i0 (.string ⟨#[]⟩) 1 16 Tryz.underlying24 hi hz0 hz1 hz2 ?_ (Nat.zero_lt_succ _) v1 (0 + p) ([] ++ (cs.take (p * 1))) ?_ ?_ (some ⟨w.heap.size + 1, 0, none⟩) 1 1 [.string s] ?_ ?_ ?_ ?_ ?_ ?_; (· rfl); (· rfl); (· rfl); (· rfl); (· exact o1); (· rfl); (· exact (Src.block (cs := [.string s]) N1 rfl HONE.out)); (· unfold maxLen; omega); (· omega); (· exact B1.size); intro v2 w2 o2 gr2 at2; have B2 := bel_own B1 o1 gr2)
                | (refine step_append_src ?_ (.tmp 43) (.tmp 45) 24 ?_ w.heap.size 9 i0 (.string ⟨#[]⟩) 1 16 Tryz.underlying24 hi hz0 hz1 hz2 ?_ (Nat.zero_lt_succ _) v1 (0 + p) ([] ++ (cs.take (p * 1))) ?_ ?_ (some ⟨w.heap.size, 0, none⟩) 1 1 [.string s] ?_ ?_ ?_ ?_ ?_ ?_; (· rfl); (· rfl); (· rfl); (· rfl); (· exact o1); (· rfl); (· exact (Src.block (cs := [.string s]) N1 rfl HONE.out)); (· unfold maxLen; omega); (· omega); (· exact B1.size); intro v2 w2 o2 gr2 at2; have B2 := bel_own B1 o1 gr2)
                | (refine step_append_src ?_ (.tmp 43) (.tmp 45) 24 ?_ w.heap.size 9 i0 (.string ⟨#[]⟩) 1 16 Tryz.underlying24 hi hz0 hz1 hz2 ?_ (Nat.zero_lt_succ _) v1 (0 + p) ([] ++ (cs.take (p * 1))) ?_ ?_ (some ⟨w1.heap.size, 0, none⟩) 1 1 [.string s] ?_ ?_ ?_ ?_ ?_ ?_; (· rfl); (· rfl); (· rfl); (· rfl); (· exact (World.ownsRow.alloc o1 _)); (· rfl); (· exact (Src.block (cs := [.string s]) (heap_alloc_new w1 _) rfl HONE.out)); (· unfold maxLen; omega); (· omega); (· exact (B1.alloc B1.size _).size); intro v2 w2 o2 gr2 at2; have B2 := bel_own (B1.alloc B1.size _) (World.ownsRow.alloc o1 _) gr2)
                | (refine step_append_src ?_ (.tmp 46) (.tmp 49) 24 ?_ w.heap.size 9 i0 (.string ⟨#[]⟩) 1 16 Tryz.underlying24 hi hz0 hz1 hz2 ?_ (Nat.zero_lt_succ _) v2 (0 + p + 1) ([] ++ (cs.take (p * 1)) ++ [.string s]) ?_ ?_ (if c = p then some ⟨b, off, none⟩ else some ⟨b, off + p, none⟩) (l.length - p) (c - p) (cs.drop p) ?_ ?_ ?_ ?_ ?_ ?_; (· rfl); (· rfl); (· rfl); (· rfl); (· exact o2); (· rfl); (· exact (S2.out.below B2)); (· unfold maxLen; omega); (· omega); (· exact B2.size); intro v3 w3 o3 gr3 at3; have B3 := bel_own B2 o2 gr3))
            all_goals (go_wp2 <;> go_ret)
            all_goals exact HEND.out _ _ o3 B3
          · have hplz : (l.length : Int) ≤ (p : Int) := by omega
            clear h hpe
            go_wp2_with fail
            go_region_law (first
                | (refine step_append_src ?_ (.tmp 39) (.tmp 42) 24 ?_ w.heap.size 9 i0 (.string ⟨#[]⟩) 1 16 Tryz.underlying24 hi hz0 hz1 hz2 ?_ (Nat.zero_lt_succ _) (.slice (some ⟨w.heap.size, 0, none⟩) 0 0) 0 [] ?_ ?_ (some ⟨b, off, none⟩) p c (cs.take (p * 1)) ?_ ?_ ?_ ?_ ?_ ?_; (· rfl); (· rfl); (· rfl); (· rfl); (· exact (own_a (w := w) (e := 9) (k := 1))); (· rfl); (· exact (S1.out.below bel_a)); (· unfold maxLen; omega); (· omega); (· exact bel_a.size); intro v1 w1 o1 gr1 at1; have B1 := bel_own bel_a (own_a (w := w) (e := 9) (k := 1)) gr1; skip)
                | (refine step_append_src ?_ (.tmp 39) (.tmp 42) 24 ?_ w.heap.size 9 i0 (.string ⟨#[]⟩) 1 16 Tryz.underlying24 hi hz0 hz1 hz2 ?_ (Nat.zero_lt_succ _) (.slice (some ⟨w.heap.size, 0, none⟩) 0 0) 0 [] ?_ ?_ (some ⟨b, off, none⟩) p c (cs.take (p * 1)) ?_ ?_ ?_ ?_ ?_ ?_; (· rfl); (· rfl); (· rfl); (· rfl); (· exact (own_b (w := w) (e := 9) (k := 1) (o := .cells #[.string s] 9))); (· rfl); (· exact (S1.out.below bel_b)); (· unfold maxLen; omega); (· omega); (· exact bel_b.size); intro v1 w1 o1 gr1 at1; have B1 := bel_own bel_b (own_b (w := w) (e := 9) (k := 1) (o := .cells #[.string s] 9)) gr1; have N1 := blk_kept (b := w.heap.size + 1) (o := .cells #[.string s] 9 (0, 0)) (heap_b2 w (.cells #[] 9) (.cells #[.string s] 9)) gr1 (by simp [Value.ownBlock]))
                | (refine step_append_src ?_ (.tmp 39) (.tmp 42) 24 ?_ w.heap.size 9 i0 (.string ⟨#[]⟩) 1 16 Tryz.underlying24 hi hz0 hz1 hz2 ?_ (Nat.zero_lt_succ _) (.slice (some ⟨w.heap.size + 1, 0, none⟩) 0 0) 0 [] ?_ ?_ (some ⟨b, off, none⟩) p c (cs.take (p * 1)) ?_ ?_ ?_ ?_ ?_ ?_; (· rfl); (· rfl); (· rfl); (· rfl); (· exact (own_c (w := w) (e := 9) (k := 1) (o := .cells #[.string s] 9))); (· rfl); (· exact (S1.out.below bel_b)); (· unfold maxLen; omega); (· omega); (· exact bel_b.size); intro v1 w1 o1 gr1 at1; have B1 := bel_own bel_b (own_c (w := w) (e := 9) (k := 1) (o := .cells #[.string s] 9)) gr1; have N1 := blk_kept (b := w.heap.size) (o := .cells #[.string s] 9 (0, 0)) (heap_c2 w (.cells #[.string s] 9) (.cells #[] 9)) gr1 (by simp [Value.ownBlock]))
                | (refine step_append_src ?_ (.tmp 43) (.tmp 45) 24 ?_ w.heap.size 9 i0 (.string ⟨#[]⟩) 1 16 Tryz.underlying24 hi hz0 hz1 hz2 ?_ (Nat.zero_lt_succ _) v1 (0 + p) ([] ++ (cs.take (p * 1))) ?_ ?_ (some ⟨w.heap.size + 1, 0, none⟩) 1 1 [.string s] ?_ ?_ ?_ ?_ ?_ ?_; (· rfl); (· rfl); (· rfl); (· rfl); (· exact o1); (· rfl); (· exact (Src.block (cs := [.string s]) N1 rfl HONE.out)); (· unfold maxLen; omega); (· omega); (· exact B1.size); intro v2 w2 o2 gr2 at2; have B2 := bel_own B1 o1 gr2)
                | (refine step_append_src ?_ (.tmp 43) (.tmp 45) 24 ?_ w.heap.size 9 i0 (.string ⟨#[]⟩) 1 16 Tryz.underlying24 hi hz0 hz1 hz2 ?_ (Nat.zero_lt_succ _) v1 (0 + p) ([] ++ (cs.take (p * 1))) ?_ ?_ (some ⟨w.heap.size, 0, none⟩) 1 1 [.string s] ?_ ?_ ?_ ?_ ?_ ?_; (· rfl); (· rfl); (· rfl); (· rfl); (· exact o1); (· rfl); (· exact (Src.block (cs := [.string s]) N1 rfl HONE.out)); (· unfold maxLen; omega); (· omega); (· exact B1.size); intro v2 w2 o2 gr2 at2; have B2 := bel_own B1 o1 gr2)
                | (refine step_append_src ?_ (.tmp 43) (.tmp 45) 24 ?_ w.heap.size 9 i0 (.string ⟨#[]⟩) 1 16 Tryz.underlying24 hi hz0 hz1 hz2 ?_ (Nat.zero_lt_succ _) v1 (0 + p) ([] ++ (cs.take (p * 1))) ?_ ?_ (some ⟨w1.heap.size, 0, none⟩) 1 1 [.string s] ?_ ?_ ?_ ?_ ?_ ?_; (· rfl); (· rfl); (· rfl); (· rfl); (· exact (World.ownsRow.alloc o1 _)); (· rfl); (· exact (Src.block (cs := [.string s]) (heap_alloc_new w1 _) rfl HONE.out)); (· unfold maxLen; omega); (· omega); (· exact (B1.alloc B1.size _).size); intro v2 w2 o2 gr2 at2; have B2 := bel_own (B1.alloc B1.size _) (World.ownsRow.alloc o1 _) gr2)
                | (refine step_append_src ?_ (.tmp 46) (.tmp 49) 24 ?_ w.heap.size 9 i0 (.string ⟨#[]⟩) 1 16 Tryz.underlying24 hi hz0 hz1 hz2 ?_ (Nat.zero_lt_succ _) v2 (0 + p + 1) ([] ++ (cs.take (p * 1)) ++ [.string s]) ?_ ?_ (if c = p then some ⟨b, off, none⟩ else some ⟨b, off + p, none⟩) (l.length - p) (c - p) (cs.drop p) ?_ ?_ ?_ ?_ ?_ ?_; (· rfl); (· rfl); (· rfl); (· rfl); (· exact o2); (· rfl); (· exact (S2.out.below B2)); (· unfold maxLen; omega); (· omega); (· exact B2.size); intro v3 w3 o3 gr3 at3; have B3 := bel_own B2 o2 gr3))
            all_goals (go_wp2 <;> go_ret)
            all_goals exact HEND.out _ _ o3 B3
end Go.Proofs.YtkgghnjpegpnlaaGreatDoor
