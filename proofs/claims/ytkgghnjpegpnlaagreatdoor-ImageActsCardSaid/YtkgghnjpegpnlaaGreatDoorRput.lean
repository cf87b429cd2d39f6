/- millpondref09.Put, Del: an image with an entry, a row without one, by the reference. Conditions: what is read reads as the data; few enough entries. -/
import Derived.Test.YtkgghnjpegpnlaaGreatDoorRset
import Derived.Test.YtkgghnjpegpnlaaGreatDoorRcheck
namespace Go.Proofs.YtkgghnjpegpnlaaGreatDoor
open Go.RowKit Go.Proofs
set_option linter.unusedSimpArgs false
set_option linter.unusedVariables false
set_option maxRecDepth 100000

def RPutRel (l : List DEntry) (e : DEntry) (zs : List DEntry) (f : Int) : Prop :=
  (checkN l ≠ 0 → zs = [] ∧ f = checkN l) ∧ (checkN l = 0 → entryB e = false → zs = [] ∧ f = 90) ∧ (checkN l = 0 → entryB e = true → f = 0 ∧ SetRel l e zs)
def RPutPost (S : Nat → Prop) (l : List DEntry) (x : DEntry) (w : World) (e : Ending) (w' : World) : Prop :=
  ∃ v zs f, e = .returned (.tuple #[v, .int .i64 f]) ∧ Own kEntry 30 (fun k => S k ∧ k < w.heap.size) w' w.heap.size v zs ∧ RPutRel l x zs f ∧ Below w.heap.size w w'

set_option maxHeartbeats 2000000 in
theorem rPut {S : Nat → Prop} {A : Option Addr} {l : List DEntry} {c : Nat} {x : DEntry} {xA1 xA2 xA3 : Option Addr} {xc1 xc2 xc3 : Nat} {w : World} (h : Row kEntry S w A l) (hx : kEntry.R S w x [.string x.key, .int .i64 x.v.kind, .string x.v.s, .slice xA1 x.v.l.length xc1, .slice xA2 x.v.z.length xc2, .slice xA3 x.v.h.length xc3, .int .i64 x.at_]) (hform : SlForm A c) (hc : l.length ≤ c) (hc2 : c ≤ 9223372036854775807) (hl : l.length ≤ 1000) :
    Calls Tryz.prog 15 #[.slice A l.length c, .agg #[.string x.key, .int .i64 x.v.kind, .string x.v.s, .slice xA1 x.v.l.length xc1, .slice xA2 x.v.z.length xc2, .slice xA3 x.v.h.length xc3, .int .i64 x.at_]] w (RPutPost S l x w) := by
  have hlen := h.1
  have HO := Lib.hid h.old
  have HXO := Lib.hid (Kd.old hx)
  have hCk := fun (W : World) (hb : Below w.heap.size w W) => rCheck (c := c) (HO.out.move (below_moves hb))
  have hEn := fun (W : World) (hb : Below w.heap.size w W) => rentry (kEntry.move (below_moves hb) HXO.out)
  clear h hx
  by_cases hk : checkN l = 0
  · rw [hk] at hCk
    cases hen : entryB x with
    | false =>
      rw [hen] at hEn
      have HK := Lib.hid hk
      have HN := Lib.hid hen
      clear hk hen hform
      go_enter Tryz.func15, Tryz.ntmps15
      go_upto_region 1 with fail
      refine wp_name fun W1 hW1 => ?_
      have bx : Box W1 (w.heap.size) [.string x.key, .int .i64 x.v.kind, .string x.v.s, .slice xA1 x.v.l.length xc1, .slice xA2 x.v.z.length xc2, .slice xA3 x.v.h.length xc3, .int .i64 x.at_] := by
        rw [hW1]
        exact box7 (by go_simp) (by go_simp) (by go_simp) (by go_simp) (by go_simp) (by go_simp) (by go_simp) (by go_simp) (by go_simp) (by go_simp) (by go_simp) (by go_simp) (by go_simp) (by go_simp)
      have B1 : Below w.heap.size w W1 := by
        rw [hW1]
        exact (Below.refl _ _).alloc (Nat.le_refl _) _
      clear hW1
      have HB1 := Lib.hid B1
      have HX1 := Lib.hid bx
      clear bx B1
      have hC := hCk W1 HB1.out
      clear hCk
      go_wp2_with fail
      refine hC.mono ?_
      rintro e w2 ⟨rfl, b2⟩
      have B2 := below_trans' HB1.out b2
      have HX2 := Lib.hid (HX1.out.below b2)
      obtain ⟨y0, y1, y2, y3, y4, y5, y6⟩ := HX2.out.seven
      have hE := hEn w2 B2
      have HB2 := Lib.hid B2
      clear hC hEn B2 b2
      go_wp2_with fail
      refine hE.mono ?_
      rintro e w3 ⟨rfl, b3⟩
      clear hE y0 y1 y2 y3 y4 y5 y6
      go_wp2
      go_ret2
      exact ⟨_, [], _, rfl, Own.nil _ _ _ _ _, ⟨fun h => absurd HK.out h, fun _ _ => ⟨rfl, rfl⟩, fun _ h => absurd (HN.out.symm.trans h) (by decide)⟩, below_trans' HB2.out b3⟩
    | true =>
      rw [hen] at hEn
      have HK := Lib.hid hk
      have HN := Lib.hid hen
      have hz : ((l.length : Int) == 65536) = false := by simp; omega
      clear hk hen
      go_enter Tryz.func15, Tryz.ntmps15
      go_upto_region 1 with fail
      refine wp_name fun W1 hW1 => ?_
      have bx : Box W1 (w.heap.size) [.string x.key, .int .i64 x.v.kind, .string x.v.s, .slice xA1 x.v.l.length xc1, .slice xA2 x.v.z.length xc2, .slice xA3 x.v.h.length xc3, .int .i64 x.at_] := by
        rw [hW1]
        exact box7 (by go_simp) (by go_simp) (by go_simp) (by go_simp) (by go_simp) (by go_simp) (by go_simp) (by go_simp) (by go_simp) (by go_simp) (by go_simp) (by go_simp) (by go_simp) (by go_simp)
      have B1 : Below w.heap.size w W1 := by
        rw [hW1]
        exact (Below.refl _ _).alloc (Nat.le_refl _) _
      clear hW1
      have HB1 := Lib.hid B1
      have HX1 := Lib.hid bx
      clear bx B1
      have hC := hCk W1 HB1.out
      clear hCk
      go_wp2_with fail
      refine hC.mono ?_
      rintro e w2 ⟨rfl, b2⟩
      have B2 := below_trans' HB1.out b2
      have HX2 := Lib.hid (HX1.out.below b2)
      obtain ⟨y0, y1, y2, y3, y4, y5, y6⟩ := HX2.out.seven
      have hE := hEn w2 B2
      have HB2 := Lib.hid B2
      clear hC hEn B2 b2
      go_wp2_with fail
      refine hE.mono ?_
      rintro e w3 ⟨rfl, b3⟩
      clear hE y0 y1 y2 y3 y4 y5 y6
      have B3 := below_trans' HB2.out b3
      have HX3 := Lib.hid (HX2.out.below b3)
      obtain ⟨y0, y1, y2, y3, y4, y5, y6⟩ := HX3.out.seven
      have hS := rSet (c := c) (HO.out.move (below_moves B3)) (kEntry.move (below_moves B3) HXO.out) hform hc hc2 (by omega)
      have HB3 := Lib.hid B3
      clear B3 b3
      go_wp2_with fail
      refine hS.mono ?_
      rintro e w4 ⟨v4, zs, rfl, o4, hrel, b4⟩
      clear hS y0 y1 y2 y3 y4 y5 y6
      have o4' := o4.rebase HB3.out.size
      have HO4 := Lib.hid o4'
      have HREL := Lib.hid hrel
      clear o4 o4' hrel
      go_wp2
      go_ret2
      exact ⟨_, zs, _, rfl, HO4.out, ⟨fun h => absurd HK.out h, fun _ h => absurd (HN.out.symm.trans h) (by decide), fun _ _ => ⟨rfl, HREL.out⟩⟩, below_trans' HB3.out b4⟩
  · have hkz : (checkN l == 0) = false := by simpa using hk
    have HK := Lib.hid hk
    clear hEn hk hform
    go_enter Tryz.func15, Tryz.ntmps15
    go_upto_region 1 with fail
    refine wp_name fun W1 hW1 => ?_
    have bx : Box W1 (w.heap.size) [.string x.key, .int .i64 x.v.kind, .string x.v.s, .slice xA1 x.v.l.length xc1, .slice xA2 x.v.z.length xc2, .slice xA3 x.v.h.length xc3, .int .i64 x.at_] := by
      rw [hW1]
      exact box7 (by go_simp) (by go_simp) (by go_simp) (by go_simp) (by go_simp) (by go_simp) (by go_simp) (by go_simp) (by go_simp) (by go_simp) (by go_simp) (by go_simp) (by go_simp) (by go_simp)
    have B1 : Below w.heap.size w W1 := by
      rw [hW1]
      exact (Below.refl _ _).alloc (Nat.le_refl _) _
    clear hW1
    have HB1 := Lib.hid B1
    clear bx B1
    have hC := hCk W1 HB1.out
    clear hCk
    go_wp2_with fail
    refine hC.mono ?_
    rintro e w2 ⟨rfl, b2⟩
    clear hC
    go_wp2
    go_ret2
    exact ⟨_, [], _, rfl, Own.nil _ _ _ _ _, ⟨fun _ => ⟨rfl, rfl⟩, fun h => absurd h HK.out, fun h => absurd h HK.out⟩, below_trans' HB1.out b2⟩

def RDelPost (S : Nat → Prop) (l : List DEntry) (key : ByteArray) (w : World) (e : Ending) (w' : World) : Prop :=
  ∃ v, e = .returned (.tuple #[v, .bool (delD l key).2]) ∧ Own kEntry 30 (fun k => S k ∧ k < w.heap.size) w' w.heap.size v (delD l key).1 ∧ Below w.heap.size w w'

set_option maxHeartbeats 2000000 in
theorem rDel {S : Nat → Prop} {A : Option Addr} {l : List DEntry} {c : Nat} {w : World} (key : ByteArray) (h : Row kEntry S w A l) (hc : l.length ≤ c) (hc2 : c ≤ 9223372036854775807) (hl : l.length ≤ 1000) :
    Calls Tryz.prog 16 #[.slice A l.length c, .string key] w (RDelPost S l key w) := by
  obtain ⟨i0, hi, hz0, hz1, hz2⟩ := info_parts infoE
  have hP := rplace (c := c) key h
  unfold placeN idxW at hP
  have hl1 := h.1
  obtain ⟨cs, hparts, hsrc⟩ := row_src h
  have HP := Lib.hid hparts
  cases hi2 : l.findIdx? (keyB key) with
  | none =>
    have hfd : delD l key = (l, false) := by simp [delD, hi2]
    rw [hi2] at hP
    have S1 := Lib.hid hsrc
    have hend : ∀ v1 w1, World.ownsRow w1 w.heap.size 30 7 v1 (0 + l.length) ([] ++ cs) → Below w.heap.size w w1 → RDelPost S l key w (.returned (.tuple #[v1, .bool false])) w1 := by
      intro v1 w1 o1 B1
      have e0 : cs.take (l.length * 7) = cs := List.take_of_length_le (by rw [hsrc.1]; exact Nat.le_refl _)
      have e1 : cs.drop (l.length * 7) = [] := List.drop_eq_nil_of_le (by rw [hsrc.1]; exact Nat.le_refl _)
      have hown := chain2_own (d := kEntry) (p := l.length) (q := l.length) (m := 0 + l.length) (v := v1) HP.out (Nat.le_refl _) (Nat.le_refl _) (by omega) (by
        show World.ownsRow w1 w.heap.size _ 7 v1 (0 + l.length) (([] ++ cs.take (l.length * 7)) ++ cs.drop (l.length * 7))
        rw [e0, e1, List.append_nil]
        exact o1) B1
      rw [List.take_length, List.drop_length, List.append_nil] at hown
      unfold RDelPost
      rw [hfd]
      exact ⟨v1, rfl, hown, B1⟩
    have HE := Lib.hid hend
    have OA : Hid ((w.alloc (.cells #[] 30)).ownsRow w.heap.size 30 7 (.slice (some ⟨w.heap.size, 0, none⟩) 0 0) 0 []) := own_new rfl (Nat.le_refl _)
    have BA : Hid (Below w.heap.size w (w.alloc (.cells #[] 30))) := (Below.refl _ _).alloc (Nat.le_refl _) _
    clear hend hfd hi2 h hparts hsrc
    go_enter Tryz.func16, Tryz.ntmps16
    go_wp2_with fail
    refine hP.mono ?_
    rintro e w1 ⟨rfl, rfl⟩
    go_wp2_with (at_builtin; go_loud (refine wpList_append_src _ (by rfl) (.tmp 12) (.tmp 13) 22 (by rfl) w.heap.size 30 i0 _ 7 120 Tryz.underlying22 hi hz0 hz1 hz2 (by rfl) (Nat.zero_lt_succ _) (.slice (some ⟨w.heap.size, 0, none⟩) 0 0) 0 [] (by rfl) OA.out A l.length c cs (by rfl) (S1.out.below BA.out) (by unfold maxLen; omega) (by omega) BA.out.size ?_; intro v1 w1 o1 g1 _; have B1 := bel_own BA.out OA.out g1))
    go_ret2
    exact HE.out _ _ o1 B1
  | some i =>
    have hin := findIdx?_some_lt hi2
    have hfd : delD l key = (l.take i ++ l.drop (i + 1), true) := by simp [delD, hi2]
    rw [hi2] at hP
    obtain ⟨b, off, rfl⟩ := h.form (by omega)
    have S1 := Lib.hid (hsrc.take i (by omega))
    have S2 := Lib.hid (hsrc.drop (i + 1) c (by omega) hc)
    have hend : ∀ v3 w3, World.ownsRow w3 w.heap.size 30 7 v3 (0 + i + (l.length - (i + 1))) (([] ++ cs.take (i * 7)) ++ cs.drop ((i + 1) * 7)) → Below w.heap.size w w3 → RDelPost S l key w (.returned (.tuple #[v3, .bool true])) w3 := by
      intro v3 w3 o3 B3
      have hown := chain2_own (d := kEntry) (p := i) (q := i + 1) (m := 0 + i + (l.length - (i + 1))) (v := v3) HP.out (by omega) (by omega) (by omega) o3 B3
      unfold RDelPost
      rw [hfd]
      exact ⟨v3, rfl, hown, B3⟩
    have HE := Lib.hid hend
    have g1 : (i : Int) ≤ (c : Int) := by omega
    have g2 : (l.length : Int) ≤ (c : Int) := by omega
    have g3 : (i : Int) + 1 ≤ (l.length : Int) := by omega
    have g4 : ((i : Int) + 1).toNat = i + 1 := by omega
    have g5 : (0 : Int) ≤ (i : Int) + 1 := by omega
    have g6 : IntKind.i64.wrap ((i : Int) + 1) = (i : Int) + 1 := IntWalk.i64_in _ (by omega)
    clear hend hfd hi2 h hparts hsrc
    go_enter Tryz.func16, Tryz.ntmps16
    go_wp2_with (go_at_call 34; refine hP.mono ?_; rintro e w1 ⟨rfl, rfl⟩)
    go_region_law (first
    | (refine step_append_src ?_ (.tmp 15) (.tmp 18) 22 ?_ w.heap.size 30 i0 _ 7 120 Tryz.underlying22 hi hz0 hz1 hz2 ?_ (Nat.zero_lt_succ _) (.slice (some ⟨w.heap.size, 0, none⟩) 0 0) 0 [] ?_ ?_ (some ⟨b, off, none⟩) i c (cs.take (i * 7)) ?_ ?_ ?_ ?_ ?_ ?_; (· rfl); (· rfl); (· rfl); (· rfl); (· exact (own_a (w := w) (e := 30) (k := 7))); (· rfl); (· exact (S1.out.below bel_a)); (· unfold maxLen; omega); (· omega); (· exact bel_a.size); intro v1 w1 o1 gr1 at1; have B1 := bel_own bel_a (own_a (w := w) (e := 30) (k := 7)) gr1)
    | (refine step_append_src ?_ (.tmp 19) (.tmp 23) 22 ?_ w.heap.size 30 i0 _ 7 120 Tryz.underlying22 hi hz0 hz1 hz2 ?_ (Nat.zero_lt_succ _) v1 (0 + i) ([] ++ (cs.take (i * 7))) ?_ ?_ (if c = i + 1 then some ⟨b, off, none⟩ else some ⟨b, off + (i + 1) * 7, none⟩) (l.length - (i + 1)) (c - (i + 1)) (cs.drop ((i + 1) * 7)) ?_ ?_ ?_ ?_ ?_ ?_; (· rfl); (· rfl); (· rfl); (· rfl); (· exact o1); (· rfl); (· exact (S2.out.below B1)); (· unfold maxLen; omega); (· omega); (· exact B1.size); intro v3 w3 o3 gr3 at3; have B3 := bel_own B1 o1 gr3))
    all_goals (go_wp2 <;> go_ret2)
    all_goals exact HE.out _ _ o3 B3
end Go.Proofs.YtkgghnjpegpnlaaGreatDoor
