/- millpondref09.Set: an entry into a row that is in order. Conditions: what is read reads as the data; few enough entries. -/
import Derived.Test.YtkgghnjpegpnlaaGreatDoorRlive
import Derived.Test.YtkgghnjpegpnlaaGreatDoorBox
import Derived.Test.YtkgghnjpegpnlaaGreatDoorRefs
namespace Go.Proofs.YtkgghnjpegpnlaaGreatDoor
open Go.RowKit Go.Proofs
set_option linter.unusedSimpArgs false
set_option linter.unusedVariables false
set_option maxRecDepth 100000

theorem Box.seven {W : World} {b : Nat} {u0 u1 u2 u3 u4 u5 u6 : Value} (h : Box W b [u0, u1, u2, u3, u4, u5, u6]) : W.cell? ⟨b, 0, none⟩ = some u0 ∧ W.cell? ⟨b, 1, none⟩ = some u1 ∧ W.cell? ⟨b, 2, none⟩ = some u2 ∧ W.cell? ⟨b, 3, none⟩ = some u3 ∧ W.cell? ⟨b, 4, none⟩ = some u4 ∧ W.cell? ⟨b, 5, none⟩ = some u5 ∧ W.cell? ⟨b, 6, none⟩ = some u6 :=
  ⟨(h 0 _ rfl).1, (h 1 _ rfl).1, (h 2 _ rfl).1, (h 3 _ rfl).1, (h 4 _ rfl).1, (h 5 _ rfl).1, (h 6 _ rfl).1⟩

/-- What Set makes of a row. -/
def SetRel (l : List DEntry) (e : DEntry) (zs : List DEntry) : Prop :=
  ∃ p q, p ≤ l.length ∧ q ≤ l.length ∧ (∀ j x, j < p → l[j]? = some x → cmpS x.key e.key < 0) ∧ (∀ x, l[p]? = some x → 0 ≤ cmpS x.key e.key) ∧
    ((q = p ∧ ∀ x, l[p]? = some x → x.key ≠ e.key) ∨ (q = p + 1 ∧ ∃ x, l[p]? = some x ∧ x.key = e.key)) ∧ zs = l.take p ++ e :: l.drop q
def SetPost (S : Nat → Prop) (l : List DEntry) (x : DEntry) (w : World) (e : Ending) (w' : World) : Prop :=
  ∃ v zs, e = .returned v ∧ Own kEntry 30 (fun k => S k ∧ k < w.heap.size) w' w.heap.size v zs ∧ SetRel l x zs ∧ Below w.heap.size w w'

theorem chain3_own {α : Type} {d : Kd α} {e : TypeId} {S : Nat → Prop} {w w3 : World} {l : List α} {x : α} {cs ds : List Value} {v : Value} {p q m : Nat} (hp : Parts d S w l cs) (hx : d.R S w x ds) (hpl : p ≤ l.length) (hql : q ≤ l.length) (hm : m = p + 1 + (l.length - q))
    (o : w3.ownsRow w.heap.size e d.sz v m (([] ++ cs.take (p * d.sz)) ++ ds ++ cs.drop (q * d.sz))) (B : Below w.heap.size w w3) : Own d e (fun k => S k ∧ k < w.heap.size) w3 w.heap.size v (l.take p ++ x :: l.drop q) := by
  have hlen : (l.take p ++ x :: l.drop q).length = m := by
    rw [List.length_append, List.length_cons, List.length_take, List.length_drop]
    omega
  refine ⟨_, by rw [hlen]; exact o, fun k hk hS => ?_, ?_⟩
  · have := (ownsRow_base o k hk).1
    have := hS.2
    omega
  · have h1 : Parts d S w (l.take p ++ ([x] ++ l.drop q)) (([] ++ cs.take (p * d.sz)) ++ (ds ++ cs.drop (q * d.sz))) := by
      rw [List.nil_append]
      exact (hp.take p).append ((Parts.one hx).append (hp.drop q))
    rw [List.append_assoc]
    exact h1.move fun k hS hk => ⟨B.block k hk, hS, hk⟩
theorem Own.rebase {α : Type} {d : Kd α} {e : TypeId} {T : Nat → Prop} {w : World} {b0 b1 : Nat} {v : Value} {xs : List α} (h : Own d e (fun k => (T k ∧ k < b0) ∧ k < b1) w b1 v xs) (hb : b0 ≤ b1) : Own d e (fun k => T k ∧ k < b0) w b0 v xs :=
  h.move (fun k hk _ => ⟨rfl, hk.1⟩) (fun k _ h1 _ => ⟨by omega, rfl, fun hS => by omega⟩)
theorem Src.drop2 {w : World} {k n b off : Nat} {cs : List Value} (h : Src w k (some ⟨b, off, none⟩) n cs) (p c : Nat) (hp : p < n) (hc : n ≤ c) : Src w k (if c - p = 1 then some ⟨b, off + p * k, none⟩ else some ⟨b, off + p * k + k, none⟩) (n - p - 1) (cs.drop ((p + 1) * k)) := by
  have h1 := h.drop (p + 1) c (by omega) hc
  rw [show n - (p + 1) = n - p - 1 from by omega] at h1
  refine ⟨h1.1, h1.2.1, fun hm => ?_⟩
  obtain ⟨ad, e, hcell⟩ := h1.2.2 hm
  rw [if_neg (by omega)] at e ⊢
  cases e
  exact ⟨_, by rw [Nat.succ_mul, Nat.add_assoc], hcell⟩

set_option maxHeartbeats 4000000 in
theorem rSet {S : Nat → Prop} {A : Option Addr} {l : List DEntry} {c : Nat} {x : DEntry} {xA1 xA2 xA3 : Option Addr} {xc1 xc2 xc3 : Nat} {w : World} (h : Row kEntry S w A l) (hx : kEntry.R S w x [.string x.key, .int .i64 x.v.kind, .string x.v.s, .slice xA1 x.v.l.length xc1, .slice xA2 x.v.z.length xc2, .slice xA3 x.v.h.length xc3, .int .i64 x.at_]) (hform : SlForm A c) (hc : l.length ≤ c) (hc2 : c ≤ 9223372036854775807) (hl : l.length ≤ 1000000) :
    Calls Tryz.prog 36 #[.slice A l.length c, .agg #[.string x.key, .int .i64 x.v.kind, .string x.v.s, .slice xA1 x.v.l.length xc1, .slice xA2 x.v.z.length xc2, .slice xA3 x.v.h.length xc3, .int .i64 x.at_]] w (SetPost S l x w) := by
  obtain ⟨i0, hi, hz0, hz1, hz2⟩ := info_parts infoE
  have hl1 := h.1
  have HO := Lib.hid h.old
  have HXO := Lib.hid (Kd.old hx)
  clear h hx
  go_enter Tryz.func36, Tryz.ntmps36
  go_upto_region 1 with fail
  refine wp_name fun W1 hW1 => ?_
  have bx1 : Box W1 (w.heap.size) [.string x.key, .int .i64 x.v.kind, .string x.v.s, .slice xA1 x.v.l.length xc1, .slice xA2 x.v.z.length xc2, .slice xA3 x.v.h.length xc3, .int .i64 x.at_] := by
    rw [hW1]
    exact box7 (by go_simp) (by go_simp) (by go_simp) (by go_simp) (by go_simp) (by go_simp) (by go_simp) (by go_simp) (by go_simp) (by go_simp) (by go_simp) (by go_simp) (by go_simp) (by go_simp)
  have B1 : Below w.heap.size w W1 := by
    rw [hW1]
    exact (Below.refl _ _).alloc (Nat.le_refl _) _
  clear hW1
  have HX1 := Lib.hid bx1
  have HB1 := Lib.hid B1
  clear bx1 B1
  go_wp2
  go_loopg [5] l.length (fun gg s5 wr => ∃ k : Nat, k ≤ l.length ∧ l.length - k ≤ gg ∧ s5 = .int .i64 k ∧ Hid (Below W1.heap.size W1 wr) ∧ Hid (∀ j y, j < k → l[j]? = some y → cmpS y.key x.key < 0))
  case atStart => exact ⟨0, Nat.zero_le _, by omega, rfl, (Below.refl _ _), fun j _ hj => absurd hj (Nat.not_lt_zero _)⟩
  case round =>
    obtain ⟨p, hp, hg, rfl, HB, HA⟩ := hrel
    have hbw := below_trans' HB1.out HB.out
    have HBW := Lib.hid hbw
    have HXR := Lib.hid (HX1.out.below HB.out)
    have t0 := (HXR.out 0 _ rfl).1
    clear hbw
    have hend : ∀ (W : World) q cs v3 w3, Below wr.heap.size wr W → Parts kEntry (fun k => S k ∧ k < w.heap.size) W l cs → q ≤ l.length → (∀ x', l[p]? = some x' → 0 ≤ cmpS x'.key x.key) → ((q = p ∧ ∀ x', l[p]? = some x' → x'.key ≠ x.key) ∨ (q = p + 1 ∧ ∃ x', l[p]? = some x' ∧ x'.key = x.key)) → World.ownsRow w3 W.heap.size 30 7 v3 (0 + p + 1 + (l.length - q)) (([] ++ cs.take (p * 7)) ++ [.string x.key, .int .i64 x.v.kind, .string x.v.s, .slice xA1 x.v.l.length xc1, .slice xA2 x.v.z.length xc2, .slice xA3 x.v.h.length xc3, .int .i64 x.at_] ++ cs.drop (q * 7)) → Below W.heap.size W w3 → SetPost S l x w (.returned v3) w3 := by
      intro W q cs v3 w3 hb hps hq hge hrel o3 B3
      have BW := below_trans' HBW.out hb
      have hown := chain3_own (d := kEntry) (S := fun k => S k ∧ k < w.heap.size) (m := 0 + p + 1 + (l.length - q)) (ds := [.string x.key, .int .i64 x.v.kind, .string x.v.s, .slice xA1 x.v.l.length xc1, .slice xA2 x.v.z.length xc2, .slice xA3 x.v.h.length xc3, .int .i64 x.at_]) hps (kEntry.move (below_moves BW) HXO.out) hp hq (by omega) o3 B3
      exact ⟨v3, _, rfl, hown.rebase BW.size, ⟨p, q, hp, hq, HA.out, hge, hrel, rfl⟩, below_trans' BW B3⟩
    have HEND := Lib.hid hend
    clear hend
    by_cases hlt : p < l.length
    · have hltz : (p : Int) < (l.length : Int) := by omega
      obtain ⟨y, hy⟩ : ∃ y, l[p]? = some y := ⟨_, List.getElem?_eq_getElem hlt⟩
      obtain ⟨b, off, A1, c1, A2, c2, A3, c3, rfl, f0, _, _, _, _, _, _, _⟩ := (HO.out.move (below_moves HBW.out)).entry hy
      have f0L := Later.cell f0
      have t0L := Later.cell t0
      have d4 := cmpS_less y.key x.key
      have HY := Lib.hid hy
      clear hy
      by_cases hq' : cmpS y.key x.key < 0
      · rw [decide_eq_true hq'] at d4
        have HQ := Lib.hid hq'
        clear hq'
        go_wp2_with fail
        refine wp_region_later (by kernel_rfl) (by kernel_rfl) ?_
        repeat (go_big_quiet_step (fail))
        refine wpQuiet_nil ?_
        rintro _ ⟨q, rfl⟩
        go_wp2
        go_roundg (l.length - (p + 1))
        case rel =>
          refine ⟨p + 1, by omega, by omega, by go_num, below_trans' HB.out q.below, fun j z hj hz => ?_⟩
          rcases Nat.lt_or_ge j p with h | h
          · exact HA.out j z h hz
          · obtain rfl : j = p := by omega
            rw [HY.out] at hz
            cases hz
            exact HQ.out
        case measure => omega
      · rw [decide_eq_false hq'] at d4
        have HQ := Lib.hid hq'
        clear hq'
        have n1 : 0 < l.length - p := by omega
        have n2 : (0 : Int) < ((l.length - p : Nat) : Int) := by omega
        have n3 : ¬ c = p := by omega
        have n4 : (p : Int) ≤ (c : Int) := by omega
        have n5 : (l.length : Int) ≤ (c : Int) := by omega
        have n6 : decide (0 < l.length - p) = true := by simp; omega
        have n7 : (p : Int) ≤ (l.length : Int) := by omega
        go_wp2_with fail
        refine wp_region_later (by kernel_rfl) (by kernel_rfl) ?_
        repeat (go_big_quiet_step (fail))
        refine wpQuiet_nil ?_
        rintro _ ⟨q, rfl⟩
        go_upto_region 5 with fail
        have u0 := f0L q
        have v0 := t0L q
        have u0L := Later.cell u0
        have v0L := Later.cell v0
        by_cases hke : y.key = x.key
        · have t1 : (y.key.toList == x.key.toList) = true := by rw [hke]; simp
          have HKE := Lib.hid hke
          clear hke
          go_wp2_with fail
          refine wp_region_later (by kernel_rfl) (by kernel_rfl) ?_
          repeat (go_big_quiet_step (fail))
          refine wpQuiet_nil ?_
          rintro _ ⟨r, rfl⟩
          go_upto_region 7 with fail
          refine wp_name fun W hW => ?_
          have BW : Below wr.heap.size wr W := by
            rw [hW]
            exact below_trans' q.below r.below
          clear hW
          have HBX := Lib.hid (HXR.out.below BW)
          have ONE := Lib.hid (kEntry.one HXO.out)
          have HONE := ONE
          obtain ⟨cs, hparts, hsrc⟩ := row_src (HO.out.move (below_moves (below_trans' HBW.out BW)))
          have S1 := Lib.hid (hsrc.take p hp)
          have S2 := Lib.hid (hsrc.drop2 p c hlt hc)
          have hend : ∀ v3 w3, World.ownsRow w3 W.heap.size 30 7 v3 (0 + p + 1 + (l.length - p - 1)) (([] ++ (cs.take (p * 7))) ++ [.string x.key, .int .i64 x.v.kind, .string x.v.s, .slice xA1 x.v.l.length xc1, .slice xA2 x.v.z.length xc2, .slice xA3 x.v.h.length xc3, .int .i64 x.at_] ++ (cs.drop ((p + 1) * 7))) → Below W.heap.size W w3 → SetPost S l x w (.returned v3) w3 := by
            intro v3 w3 o3 B3
            rw [show l.length - p - 1 = l.length - (p + 1) from by omega] at o3
            exact HEND.out W _ _ v3 w3 BW hparts hlt (fun x' hx' => by rw [HY.out] at hx'; cases hx'; have := HQ.out; omega) (.inr ⟨rfl, _, HY.out, HKE.out⟩) o3 B3
          have HE := Lib.hid hend
          have HBW2 := Lib.hid BW
          obtain ⟨y0, y1, y2, y3, y4, y5, y6⟩ := HBX.out.seven
          obtain ⟨z0, z1, z2, z3, z4, z5, z6⟩ := (HBX.out.below ((Below.refl W.heap.size W).alloc (Nat.le_refl _) (.cells #[] 30))).seven
          clear hend BW hparts hsrc
          go_region_law (first
                | (refine step_append_src ?_ (.tmp 40) (.tmp 43) 22 ?_ W.heap.size 30 i0 _ 7 120 Tryz.underlying22 hi hz0 hz1 hz2 ?_ (Nat.zero_lt_succ _) (.slice (some ⟨W.heap.size, 0, none⟩) 0 0) 0 [] ?_ ?_ (some ⟨b, off, none⟩) p c (cs.take (p * 7)) ?_ ?_ ?_ ?_ ?_ ?_; (· rfl); (· rfl); (· rfl); (· rfl); (· exact (own_a (w := W) (e := 30) (k := 7))); (· rfl); (· exact (S1.out.below bel_a)); (· unfold maxLen; omega); (· omega); (· exact bel_a.size); intro v1 w1 o1 gr1 at1; have B1 := bel_own bel_a (own_a (w := W) (e := 30) (k := 7)) gr1; skip; obtain ⟨y0, y1, y2, y3, y4, y5, y6⟩ := (HBX.out.below B1).seven)
                | (refine step_append_src ?_ (.tmp 40) (.tmp 43) 22 ?_ W.heap.size 30 i0 _ 7 120 Tryz.underlying22 hi hz0 hz1 hz2 ?_ (Nat.zero_lt_succ _) (.slice (some ⟨W.heap.size, 0, none⟩) 0 0) 0 [] ?_ ?_ (some ⟨b, off, none⟩) p c (cs.take (p * 7)) ?_ ?_ ?_ ?_ ?_ ?_; (· rfl); (· rfl); (· rfl); (· rfl); (· exact (own_b (w := W) (e := 30) (k := 7) (o := .cells #[.string x.key, .int .i64 x.v.kind, .string x.v.s, .slice xA1 x.v.l.length xc1, .slice xA2 x.v.z.length xc2, .slice xA3 x.v.h.length xc3, .int .i64 x.at_] 30))); (· rfl); (· exact (S1.out.below bel_b)); (· unfold maxLen; omega); (· omega); (· exact bel_b.size); intro v1 w1 o1 gr1 at1; have B1 := bel_own bel_b (own_b (w := W) (e := 30) (k := 7) (o := .cells #[.string x.key, .int .i64 x.v.kind, .string x.v.s, .slice xA1 x.v.l.length xc1, .slice xA2 x.v.z.length xc2, .slice xA3 x.v.h.length xc3, .int .i64 x.at_] 30)) gr1; have N1 := blk_kept (b := W.heap.size + 1) (o := .cells #[.string x.key, .int .i64 x.v.kind, .string x.v.s, .slice xA1 x.v.l.length xc1, .slice xA2 x.v.z.length xc2, .slice xA3 x.v.h.length xc3, .int .i64 x.at_] 30 (0, 0)) (heap_b2 W (.cells #[] 30) (.cells #[.string x.key, .int .i64 x.v.kind, .string x.v.s, .slice xA1 x.v.l.length xc1, .slice xA2 x.v.z.length xc2, .slice xA3 x.v.h.length xc3, .int .i64 x.at_] 30)) gr1 (by simp [Value.ownBlock]); obtain ⟨y0, y1, y2, y3, y4, y5, y6⟩ := (HBX.out.below B1).seven)
                | (refine step_append_src ?_ (.tmp 40) (.tmp 43) 22 ?_ W.heap.size 30 i0 _ 7 120 Tryz.underlying22 hi hz0 hz1 hz2 ?_ (Nat.zero_lt_succ _) (.slice (some ⟨W.heap.size + 1, 0, none⟩) 0 0) 0 [] ?_ ?_ (some ⟨b, off, none⟩) p c (cs.take (p * 7)) ?_ ?_ ?_ ?_ ?_ ?_; (· rfl); (· rfl); (· rfl); (· rfl); (· exact (own_c (w := W) (e := 30) (k := 7) (o := .cells #[.string x.key, .int .i64 x.v.kind, .string x.v.s, .slice xA1 x.v.l.length xc1, .slice xA2 x.v.z.length xc2, .slice xA3 x.v.h.length xc3, .int .i64 x.at_] 30))); (· rfl); (· exact (S1.out.below bel_b)); (· unfold maxLen; omega); (· omega); (· exact bel_b.size); intro v1 w1 o1 gr1 at1; have B1 := bel_own bel_b (own_c (w := W) (e := 30) (k := 7) (o := .cells #[.string x.key, .int .i64 x.v.kind, .string x.v.s, .slice xA1 x.v.l.length xc1, .slice xA2 x.v.z.length xc2, .slice xA3 x.v.h.length xc3, .int .i64 x.at_] 30)) gr1; have N1 := blk_kept (b := W.heap.size) (o := .cells #[.string x.key, .int .i64 x.v.kind, .string x.v.s, .slice xA1 x.v.l.length xc1, .slice xA2 x.v.z.length xc2, .slice xA3 x.v.h.length xc3, .int .i64 x.at_] 30 (0, 0)) (heap_c2 W (.cells #[.string x.key, .int .i64 x.v.kind, .string x.v.s, .slice xA1 x.v.l.length xc1, .slice xA2 x.v.z.length xc2, .slice xA3 x.v.h.length xc3, .int .i64 x.at_] 30) (.cells #[] 30)) gr1 (by simp [Value.ownBlock]); obtain ⟨y0, y1, y2, y3, y4, y5, y6⟩ := (HBX.out.below B1).seven)
                | (refine step_append_src ?_ (.tmp 44) (.tmp 46) 22 ?_ W.heap.size 30 i0 _ 7 120 Tryz.underlying22 hi hz0 hz1 hz2 ?_ (Nat.zero_lt_succ _) v1 (0 + p) ([] ++ (cs.take (p * 7))) ?_ ?_ (some ⟨W.heap.size + 1, 0, none⟩) 1 1 [.string x.key, .int .i64 x.v.kind, .string x.v.s, .slice xA1 x.v.l.length xc1, .slice xA2 x.v.z.length xc2, .slice xA3 x.v.h.length xc3, .int .i64 x.at_] ?_ ?_ ?_ ?_ ?_ ?_; (· rfl); (· rfl); (· rfl); (· rfl); (· exact o1); (· rfl); (· exact (Src.block (cs := [.string x.key, .int .i64 x.v.kind, .string x.v.s, .slice xA1 x.v.l.length xc1, .slice xA2 x.v.z.length xc2, .slice xA3 x.v.h.length xc3, .int .i64 x.at_]) N1 rfl HONE.out)); (· unfold maxLen; omega); (· omega); (· exact B1.size); intro v2 w2 o2 gr2 at2; have B2 := bel_own B1 o1 gr2)
                | (refine step_append_src ?_ (.tmp 44) (.tmp 46) 22 ?_ W.heap.size 30 i0 _ 7 120 Tryz.underlying22 hi hz0 hz1 hz2 ?_ (Nat.zero_lt_succ _) v1 (0 + p) ([] ++ (cs.take (p * 7))) ?_ ?_ (some ⟨W.heap.size, 0, none⟩) 1 1 [.string x.key, .int .i64 x.v.kind, .string x.v.s, .slice xA1 x.v.l.length xc1, .slice xA2 x.v.z.length xc2, .slice xA3 x.v.h.length xc3, .int .i64 x.at_] ?_ ?_ ?_ ?_ ?_ ?_; (· rfl); (· rfl); (· rfl); (· rfl); (· exact o1); (· rfl); (· exact (Src.block (cs := [.string x.key, .int .i64 x.v.kind, .string x.v.s, .slice xA1 x.v.l.length xc1, .slice xA2 x.v.z.length xc2, .slice xA3 x.v.h.length xc3, .int .i64 x.at_]) N1 rfl HONE.out)); (· unfold maxLen; omega); (· omega); (· exact B1.size); intro v2 w2 o2 gr2 at2; have B2 := bel_own B1 o1 gr2)
                | (refine step_append_src ?_ (.tmp 44) (.tmp 46) 22 ?_ W.heap.size 30 i0 _ 7 120 Tryz.underlying22 hi hz0 hz1 hz2 ?_ (Nat.zero_lt_succ _) v1 (0 + p) ([] ++ (cs.take (p * 7))) ?_ ?_ (some ⟨w1.heap.size, 0, none⟩) 1 1 [.string x.key, .int .i64 x.v.kind, .string x.v.s, .slice xA1 x.v.l.length xc1, .slice xA2 x.v.z.length xc2, .slice xA3 x.v.h.length xc3, .int .i64 x.at_] ?_ ?_ ?_ ?_ ?_ ?_; (· rfl); (· rfl); (· rfl); (· rfl); (· exact (World.ownsRow.alloc o1 _)); (· rfl); (· exact (Src.block (cs := [.string x.key, .int .i64 x.v.kind, .string x.v.s, .slice xA1 x.v.l.length xc1, .slice xA2 x.v.z.length xc2, .slice xA3 x.v.h.length xc3, .int .i64 x.at_]) (heap_alloc_new w1 _) rfl HONE.out)); (· unfold maxLen; omega); (· omega); (· exact (B1.alloc B1.size _).size); intro v2 w2 o2 gr2 at2; have B2 := bel_own (B1.alloc B1.size _) (World.ownsRow.alloc o1 _) gr2)
                | (refine step_append_src ?_ (.tmp 47) (.tmp 48) 22 ?_ W.heap.size 30 i0 _ 7 120 Tryz.underlying22 hi hz0 hz1 hz2 ?_ (Nat.zero_lt_succ _) v2 (0 + p + 1) ([] ++ (cs.take (p * 7)) ++ [.string x.key, .int .i64 x.v.kind, .string x.v.s, .slice xA1 x.v.l.length xc1, .slice xA2 x.v.z.length xc2, .slice xA3 x.v.h.length xc3, .int .i64 x.at_]) ?_ ?_ (if c - p = 1 then some ⟨b, off + p * 7, none⟩ else some ⟨b, off + p * 7 + 7, none⟩) (l.length - p - 1) (c - p - 1) (cs.drop ((p + 1) * 7)) ?_ ?_ ?_ ?_ ?_ ?_; (· rfl); (· rfl); (· rfl); (· rfl); (· exact o2); (· rfl); (· exact (S2.out.below B2)); (· unfold maxLen; omega); (· omega); (· exact B2.size); intro v3 w3 o3 gr3 at3; have B3 := bel_own B2 o2 gr3))
          all_goals (go_wp2 <;> go_ret)
          all_goals exact HE.out _ _ o3 B3
        · have t1 : (y.key.toList == x.key.toList) = false := by
            rw [Bool.eq_false_iff]
            intro he
            exact hke (toList_inj (by simpa using he))
          have HKE := Lib.hid hke
          clear hke
          go_wp2_with fail
          refine wp_region_later (by kernel_rfl) (by kernel_rfl) ?_
          repeat (go_big_quiet_step (fail))
          refine wpQuiet_nil ?_
          rintro _ ⟨r, rfl⟩
          go_upto_region 7 with fail
          refine wp_name fun W hW => ?_
          have BW : Below wr.heap.size wr W := by
            rw [hW]
            exact below_trans' q.below r.below
          clear hW
          have HBX := Lib.hid (HXR.out.below BW)
          have ONE := Lib.hid (kEntry.one HXO.out)
          have HONE := ONE
          obtain ⟨cs, hparts, hsrc⟩ := row_src (HO.out.move (below_moves (below_trans' HBW.out BW)))
          have S1 := Lib.hid (hsrc.take p hp)
          have S2 := Lib.hid ((by have h2 := hsrc.drop p c hp hc; rw [if_neg n3] at h2; exact h2))
          have hend : ∀ v3 w3, World.ownsRow w3 W.heap.size 30 7 v3 (0 + p + 1 + (l.length - p)) (([] ++ (cs.take (p * 7))) ++ [.string x.key, .int .i64 x.v.kind, .string x.v.s, .slice xA1 x.v.l.length xc1, .slice xA2 x.v.z.length xc2, .slice xA3 x.v.h.length xc3, .int .i64 x.at_] ++ (cs.drop (p * 7))) → Below W.heap.size W w3 → SetPost S l x w (.returned v3) w3 := by
            intro v3 w3 o3 B3
            exact HEND.out W _ _ v3 w3 BW hparts hp (fun x' hx' => by rw [HY.out] at hx'; cases hx'; have := HQ.out; omega) (.inl ⟨rfl, fun x' hx' => by rw [HY.out] at hx'; cases hx'; exact HKE.out⟩) o3 B3
          have HE := Lib.hid hend
          have HBW2 := Lib.hid BW
          obtain ⟨y0, y1, y2, y3, y4, y5, y6⟩ := HBX.out.seven
          obtain ⟨z0, z1, z2, z3, z4, z5, z6⟩ := (HBX.out.below ((Below.refl W.heap.size W).alloc (Nat.le_refl _) (.cells #[] 30))).seven
          clear hend BW hparts hsrc
          go_region_law (first
                | (refine step_append_src ?_ (.tmp 40) (.tmp 43) 22 ?_ W.heap.size 30 i0 _ 7 120 Tryz.underlying22 hi hz0 hz1 hz2 ?_ (Nat.zero_lt_succ _) (.slice (some ⟨W.heap.size, 0, none⟩) 0 0) 0 [] ?_ ?_ (some ⟨b, off, none⟩) p c (cs.take (p * 7)) ?_ ?_ ?_ ?_ ?_ ?_; (· rfl); (· rfl); (· rfl); (· rfl); (· exact (own_a (w := W) (e := 30) (k := 7))); (· rfl); (· exact (S1.out.below bel_a)); (· unfold maxLen; omega); (· omega); (· exact bel_a.size); intro v1 w1 o1 gr1 at1; have B1 := bel_own bel_a (own_a (w := W) (e := 30) (k := 7)) gr1; skip; obtain ⟨y0, y1, y2, y3, y4, y5, y6⟩ := (HBX.out.below B1).seven)
                | (refine step_append_src ?_ (.tmp 40) (.tmp 43) 22 ?_ W.heap.size 30 i0 _ 7 120 Tryz.underlying22 hi hz0 hz1 hz2 ?_ (Nat.zero_lt_succ _) (.slice (some ⟨W.heap.size, 0, none⟩) 0 0) 0 [] ?_ ?_ (some ⟨b, off, none⟩) p c (cs.take (p * 7)) ?_ ?_ ?_ ?_ ?_ ?_; (· rfl); (· rfl); (· rfl); (· rfl); (· exact (own_b (w := W) (e := 30) (k := 7) (o := .cells #[.string x.key, .int .i64 x.v.kind, .string x.v.s, .slice xA1 x.v.l.length xc1, .slice xA2 x.v.z.length xc2, .slice xA3 x.v.h.length xc3, .int .i64 x.at_] 30))); (· rfl); (· exact (S1.out.below bel_b)); (· unfold maxLen; omega); (· omega); (· exact bel_b.size); intro v1 w1 o1 gr1 at1; have B1 := bel_own bel_b (own_b (w := W) (e := 30) (k := 7) (o := .cells #[.string x.key, .int .i64 x.v.kind, .string x.v.s, .slice xA1 x.v.l.length xc1, .slice xA2 x.v.z.length xc2, .slice xA3 x.v.h.length xc3, .int .i64 x.at_] 30)) gr1; have N1 := blk_kept (b := W.heap.size + 1) (o := .cells #[.string x.key, .int .i64 x.v.kind, .string x.v.s, .slice xA1 x.v.l.length xc1, .slice xA2 x.v.z.length xc2, .slice xA3 x.v.h.length xc3, .int .i64 x.at_] 30 (0, 0)) (heap_b2 W (.cells #[] 30) (.cells #[.string x.key, .int .i64 x.v.kind, .string x.v.s, .slice xA1 x.v.l.length xc1, .slice xA2 x.v.z.length xc2, .slice xA3 x.v.h.length xc3, .int .i64 x.at_] 30)) gr1 (by simp [Value.ownBlock]); obtain ⟨y0, y1, y2, y3, y4, y5, y6⟩ := (HBX.out.below B1).seven)
                | (refine step_append_src ?_ (.tmp 40) (.tmp 43) 22 ?_ W.heap.size 30 i0 _ 7 120 Tryz.underlying22 hi hz0 hz1 hz2 ?_ (Nat.zero_lt_succ _) (.slice (some ⟨W.heap.size + 1, 0, none⟩) 0 0) 0 [] ?_ ?_ (some ⟨b, off, none⟩) p c (cs.take (p * 7)) ?_ ?_ ?_ ?_ ?_ ?_; (· rfl); (· rfl); (· rfl); (· rfl); (· exact (own_c (w := W) (e := 30) (k := 7) (o := .cells #[.string x.key, .int .i64 x.v.kind, .string x.v.s, .slice xA1 x.v.l.length xc1, .slice xA2 x.v.z.length xc2, .slice xA3 x.v.h.length xc3, .int .i64 x.at_] 30))); (· rfl); (· exact (S1.out.below bel_b)); (· unfold maxLen; omega); (· omega); (· exact bel_b.size); intro v1 w1 o1 gr1 at1; have B1 := bel_own bel_b (own_c (w := W) (e := 30) (k := 7) (o := .cells #[.string x.key, .int .i64 x.v.kind, .string x.v.s, .slice xA1 x.v.l.length xc1, .slice xA2 x.v.z.length xc2, .slice xA3 x.v.h.length xc3, .int .i64 x.at_] 30)) gr1; have N1 := blk_kept (b := W.heap.size) (o := .cells #[.string x.key, .int .i64 x.v.kind, .string x.v.s, .slice xA1 x.v.l.length xc1, .slice xA2 x.v.z.length xc2, .slice xA3 x.v.h.length xc3, .int .i64 x.at_] 30 (0, 0)) (heap_c2 W (.cells #[.string x.key, .int .i64 x.v.kind, .string x.v.s, .slice xA1 x.v.l.length xc1, .slice xA2 x.v.z.length xc2, .slice xA3 x.v.h.length xc3, .int .i64 x.at_] 30) (.cells #[] 30)) gr1 (by simp [Value.ownBlock]); obtain ⟨y0, y1, y2, y3, y4, y5, y6⟩ := (HBX.out.below B1).seven)
                | (refine step_append_src ?_ (.tmp 44) (.tmp 46) 22 ?_ W.heap.size 30 i0 _ 7 120 Tryz.underlying22 hi hz0 hz1 hz2 ?_ (Nat.zero_lt_succ _) v1 (0 + p) ([] ++ (cs.take (p * 7))) ?_ ?_ (some ⟨W.heap.size + 1, 0, none⟩) 1 1 [.string x.key, .int .i64 x.v.kind, .string x.v.s, .slice xA1 x.v.l.length xc1, .slice xA2 x.v.z.length xc2, .slice xA3 x.v.h.length xc3, .int .i64 x.at_] ?_ ?_ ?_ ?_ ?_ ?_; (· rfl); (· rfl); (· rfl); (· rfl); (· exact o1); (· rfl); (· exact (Src.block (cs := [.string x.key, .int .i64 x.v.kind, .string x.v.s, .slice xA1 x.v.l.length xc1, .slice xA2 x.v.z.length xc2, .slice xA3 x.v.h.length xc3, .int .i64 x.at_]) N1 rfl HONE.out)); (· unfold maxLen; omega); (· omega); (· exact B1.size); intro v2 w2 o2 gr2 at2; have B2 := bel_own B1 o1 gr2)
                | (refine step_append_src ?_ (.tmp 44) (.tmp 46) 22 ?_ W.heap.size 30 i0 _ 7 120 Tryz.underlying22 hi hz0 hz1 hz2 ?_ (Nat.zero_lt_succ _) v1 (0 + p) ([] ++ (cs.take (p * 7))) ?_ ?_ (some ⟨W.heap.size, 0, none⟩) 1 1 [.string x.key, .int .i64 x.v.kind, .string x.v.s, .slice xA1 x.v.l.length xc1, .slice xA2 x.v.z.length xc2, .slice xA3 x.v.h.length xc3, .int .i64 x.at_] ?_ ?_ ?_ ?_ ?_ ?_; (· rfl); (· rfl); (· rfl); (· rfl); (· exact o1); (· rfl); (· exact (Src.block (cs := [.string x.key, .int .i64 x.v.kind, .string x.v.s, .slice xA1 x.v.l.length xc1, .slice xA2 x.v.z.length xc2, .slice xA3 x.v.h.length xc3, .int .i64 x.at_]) N1 rfl HONE.out)); (· unfold maxLen; omega); (· omega); (· exact B1.size); intro v2 w2 o2 gr2 at2; have B2 := bel_own B1 o1 gr2)
                | (refine step_append_src ?_ (.tmp 44) (.tmp 46) 22 ?_ W.heap.size 30 i0 _ 7 120 Tryz.underlying22 hi hz0 hz1 hz2 ?_ (Nat.zero_lt_succ _) v1 (0 + p) ([] ++ (cs.take (p * 7))) ?_ ?_ (some ⟨w1.heap.size, 0, none⟩) 1 1 [.string x.key, .int .i64 x.v.kind, .string x.v.s, .slice xA1 x.v.l.length xc1, .slice xA2 x.v.z.length xc2, .slice xA3 x.v.h.length xc3, .int .i64 x.at_] ?_ ?_ ?_ ?_ ?_ ?_; (· rfl); (· rfl); (· rfl); (· rfl); (· exact (World.ownsRow.alloc o1 _)); (· rfl); (· exact (Src.block (cs := [.string x.key, .int .i64 x.v.kind, .string x.v.s, .slice xA1 x.v.l.length xc1, .slice xA2 x.v.z.length xc2, .slice xA3 x.v.h.length xc3, .int .i64 x.at_]) (heap_alloc_new w1 _) rfl HONE.out)); (· unfold maxLen; omega); (· omega); (· exact (B1.alloc B1.size _).size); intro v2 w2 o2 gr2 at2; have B2 := bel_own (B1.alloc B1.size _) (World.ownsRow.alloc o1 _) gr2)
                | (refine step_append_src ?_ (.tmp 47) (.tmp 48) 22 ?_ W.heap.size 30 i0 _ 7 120 Tryz.underlying22 hi hz0 hz1 hz2 ?_ (Nat.zero_lt_succ _) v2 (0 + p + 1) ([] ++ (cs.take (p * 7)) ++ [.string x.key, .int .i64 x.v.kind, .string x.v.s, .slice xA1 x.v.l.length xc1, .slice xA2 x.v.z.length xc2, .slice xA3 x.v.h.length xc3, .int .i64 x.at_]) ?_ ?_ (some ⟨b, off + p * 7, none⟩) (l.length - p) (c - p) (cs.drop (p * 7)) ?_ ?_ ?_ ?_ ?_ ?_; (· rfl); (· rfl); (· rfl); (· rfl); (· exact o2); (· rfl); (· exact (S2.out.below B2)); (· unfold maxLen; omega); (· omega); (· exact B2.size); intro v3 w3 o3 gr3 at3; have B3 := bel_own B2 o2 gr3))
          all_goals (go_wp2 <;> go_ret)
          all_goals exact HE.out _ _ o3 B3
    · have hpl : p = l.length := by omega
      have t0L := Later.cell t0
      have hltz : (l.length : Int) ≤ (p : Int) := by omega
      have hltb : decide ((p : Int) < (l.length : Int)) = false := by simp; omega
      rcases hform with ⟨rfl, rfl⟩ | ⟨b, off, rfl⟩
      · have hl0 : l = [] := List.eq_nil_of_length_eq_zero (by omega)
        subst hl0
        have hp0 : p = 0 := by simpa using hpl
        subst hp0
        clear hltz hltb hpl
        go_wp2_with fail
        refine wp_region_later (by kernel_rfl) (by kernel_rfl) ?_
        repeat (go_big_quiet_step (fail))
        refine wpQuiet_nil ?_
        rintro _ ⟨q, rfl⟩
        go_upto_region 5 with fail
        have v0 := t0L q
        have v0L := Later.cell v0
        go_wp2_with fail
        refine wp_region_later (by kernel_rfl) (by kernel_rfl) ?_
        repeat (go_big_quiet_step (fail))
        refine wpQuiet_nil ?_
        rintro _ ⟨r, rfl⟩
        go_upto_region 7 with fail
        refine wp_name fun W hW => ?_
        have BW : Below wr.heap.size wr W := by
          rw [hW]
          exact below_trans' q.below r.below
        clear hW
        have HBX := Lib.hid (HXR.out.below BW)
        have ONE := Lib.hid (kEntry.one HXO.out)
        have HONE := ONE
        obtain ⟨cs, hparts, hsrc⟩ := row_src (HO.out.move (below_moves (below_trans' HBW.out BW)))
        have S1 : Hid (Src W 7 none 0 []) := ⟨rfl, by simp, fun hm => by simp at hm⟩
        have S2 := S1
        have hcs : cs = [] := List.eq_nil_of_length_eq_zero (by simpa using hsrc.1)
        subst hcs
        have hend : ∀ v3 w3, World.ownsRow w3 W.heap.size 30 7 v3 (0 + 0 + 1 + 0) (([] ++ []) ++ [.string x.key, .int .i64 x.v.kind, .string x.v.s, .slice xA1 x.v.l.length xc1, .slice xA2 x.v.z.length xc2, .slice xA3 x.v.h.length xc3, .int .i64 x.at_] ++ []) → Below W.heap.size W w3 → SetPost S ([] : List DEntry) x w (.returned v3) w3 := by
          intro v3 w3 o3 B3
          exact HEND.out W _ _ v3 w3 BW hparts (Nat.zero_le _) (fun x' hx' => by simp at hx') (.inl ⟨rfl, fun x' hx' => by simp at hx'⟩) o3 B3
        have HE := Lib.hid hend
        have HBW2 := Lib.hid BW
        obtain ⟨y0, y1, y2, y3, y4, y5, y6⟩ := HBX.out.seven
        obtain ⟨z0, z1, z2, z3, z4, z5, z6⟩ := (HBX.out.below ((Below.refl W.heap.size W).alloc (Nat.le_refl _) (.cells #[] 30))).seven
        clear hend BW hparts hsrc
        go_region_law (first
              | (refine step_append_src ?_ (.tmp 40) (.tmp 43) 22 ?_ W.heap.size 30 i0 _ 7 120 Tryz.underlying22 hi hz0 hz1 hz2 ?_ (Nat.zero_lt_succ _) (.slice (some ⟨W.heap.size, 0, none⟩) 0 0) 0 [] ?_ ?_ none 0 0 [] ?_ ?_ ?_ ?_ ?_ ?_; (· rfl); (· rfl); (· rfl); (· rfl); (· exact (own_a (w := W) (e := 30) (k := 7))); (· rfl); (· exact (S1.out.below bel_a)); (· unfold maxLen; omega); (· omega); (· exact bel_a.size); intro v1 w1 o1 gr1 at1; have B1 := bel_own bel_a (own_a (w := W) (e := 30) (k := 7)) gr1; skip; obtain ⟨y0, y1, y2, y3, y4, y5, y6⟩ := (HBX.out.below B1).seven)
              | (refine step_append_src ?_ (.tmp 40) (.tmp 43) 22 ?_ W.heap.size 30 i0 _ 7 120 Tryz.underlying22 hi hz0 hz1 hz2 ?_ (Nat.zero_lt_succ _) (.slice (some ⟨W.heap.size, 0, none⟩) 0 0) 0 [] ?_ ?_ none 0 0 [] ?_ ?_ ?_ ?_ ?_ ?_; (· rfl); (· rfl); (· rfl); (· rfl); (· exact (own_b (w := W) (e := 30) (k := 7) (o := .cells #[.string x.key, .int .i64 x.v.kind, .string x.v.s, .slice xA1 x.v.l.length xc1, .slice xA2 x.v.z.length xc2, .slice xA3 x.v.h.length xc3, .int .i64 x.at_] 30))); (· rfl); (· exact (S1.out.below bel_b)); (· unfold maxLen; omega); (· omega); (· exact bel_b.size); intro v1 w1 o1 gr1 at1; have B1 := bel_own bel_b (own_b (w := W) (e := 30) (k := 7) (o := .cells #[.string x.key, .int .i64 x.v.kind, .string x.v.s, .slice xA1 x.v.l.length xc1, .slice xA2 x.v.z.length xc2, .slice xA3 x.v.h.length xc3, .int .i64 x.at_] 30)) gr1; have N1 := blk_kept (b := W.heap.size + 1) (o := .cells #[.string x.key, .int .i64 x.v.kind, .string x.v.s, .slice xA1 x.v.l.length xc1, .slice xA2 x.v.z.length xc2, .slice xA3 x.v.h.length xc3, .int .i64 x.at_] 30 (0, 0)) (heap_b2 W (.cells #[] 30) (.cells #[.string x.key, .int .i64 x.v.kind, .string x.v.s, .slice xA1 x.v.l.length xc1, .slice xA2 x.v.z.length xc2, .slice xA3 x.v.h.length xc3, .int .i64 x.at_] 30)) gr1 (by simp [Value.ownBlock]); obtain ⟨y0, y1, y2, y3, y4, y5, y6⟩ := (HBX.out.below B1).seven)
              | (refine step_append_src ?_ (.tmp 40) (.tmp 43) 22 ?_ W.heap.size 30 i0 _ 7 120 Tryz.underlying22 hi hz0 hz1 hz2 ?_ (Nat.zero_lt_succ _) (.slice (some ⟨W.heap.size + 1, 0, none⟩) 0 0) 0 [] ?_ ?_ none 0 0 [] ?_ ?_ ?_ ?_ ?_ ?_; (· rfl); (· rfl); (· rfl); (· rfl); (· exact (own_c (w := W) (e := 30) (k := 7) (o := .cells #[.string x.key, .int .i64 x.v.kind, .string x.v.s, .slice xA1 x.v.l.length xc1, .slice xA2 x.v.z.length xc2, .slice xA3 x.v.h.length xc3, .int .i64 x.at_] 30))); (· rfl); (· exact (S1.out.below bel_b)); (· unfold maxLen; omega); (· omega); (· exact bel_b.size); intro v1 w1 o1 gr1 at1; have B1 := bel_own bel_b (own_c (w := W) (e := 30) (k := 7) (o := .cells #[.string x.key, .int .i64 x.v.kind, .string x.v.s, .slice xA1 x.v.l.length xc1, .slice xA2 x.v.z.length xc2, .slice xA3 x.v.h.length xc3, .int .i64 x.at_] 30)) gr1; have N1 := blk_kept (b := W.heap.size) (o := .cells #[.string x.key, .int .i64 x.v.kind, .string x.v.s, .slice xA1 x.v.l.length xc1, .slice xA2 x.v.z.length xc2, .slice xA3 x.v.h.length xc3, .int .i64 x.at_] 30 (0, 0)) (heap_c2 W (.cells #[.string x.key, .int .i64 x.v.kind, .string x.v.s, .slice xA1 x.v.l.length xc1, .slice xA2 x.v.z.length xc2, .slice xA3 x.v.h.length xc3, .int .i64 x.at_] 30) (.cells #[] 30)) gr1 (by simp [Value.ownBlock]); obtain ⟨y0, y1, y2, y3, y4, y5, y6⟩ := (HBX.out.below B1).seven)
              | (refine step_append_src ?_ (.tmp 44) (.tmp 46) 22 ?_ W.heap.size 30 i0 _ 7 120 Tryz.underlying22 hi hz0 hz1 hz2 ?_ (Nat.zero_lt_succ _) v1 (0 + 0) ([] ++ []) ?_ ?_ (some ⟨W.heap.size + 1, 0, none⟩) 1 1 [.string x.key, .int .i64 x.v.kind, .string x.v.s, .slice xA1 x.v.l.length xc1, .slice xA2 x.v.z.length xc2, .slice xA3 x.v.h.length xc3, .int .i64 x.at_] ?_ ?_ ?_ ?_ ?_ ?_; (· rfl); (· rfl); (· rfl); (· rfl); (· exact o1); (· rfl); (· exact (Src.block (cs := [.string x.key, .int .i64 x.v.kind, .string x.v.s, .slice xA1 x.v.l.length xc1, .slice xA2 x.v.z.length xc2, .slice xA3 x.v.h.length xc3, .int .i64 x.at_]) N1 rfl HONE.out)); (· unfold maxLen; omega); (· omega); (· exact B1.size); intro v2 w2 o2 gr2 at2; have B2 := bel_own B1 o1 gr2)
              | (refine step_append_src ?_ (.tmp 44) (.tmp 46) 22 ?_ W.heap.size 30 i0 _ 7 120 Tryz.underlying22 hi hz0 hz1 hz2 ?_ (Nat.zero_lt_succ _) v1 (0 + 0) ([] ++ []) ?_ ?_ (some ⟨W.heap.size, 0, none⟩) 1 1 [.string x.key, .int .i64 x.v.kind, .string x.v.s, .slice xA1 x.v.l.length xc1, .slice xA2 x.v.z.length xc2, .slice xA3 x.v.h.length xc3, .int .i64 x.at_] ?_ ?_ ?_ ?_ ?_ ?_; (· rfl); (· rfl); (· rfl); (· rfl); (· exact o1); (· rfl); (· exact (Src.block (cs := [.string x.key, .int .i64 x.v.kind, .string x.v.s, .slice xA1 x.v.l.length xc1, .slice xA2 x.v.z.length xc2, .slice xA3 x.v.h.length xc3, .int .i64 x.at_]) N1 rfl HONE.out)); (· unfold maxLen; omega); (· omega); (· exact B1.size); intro v2 w2 o2 gr2 at2; have B2 := bel_own B1 o1 gr2)
              | (refine step_append_src ?_ (.tmp 44) (.tmp 46) 22 ?_ W.heap.size 30 i0 _ 7 120 Tryz.underlying22 hi hz0 hz1 hz2 ?_ (Nat.zero_lt_succ _) v1 (0 + 0) ([] ++ []) ?_ ?_ (some ⟨w1.heap.size, 0, none⟩) 1 1 [.string x.key, .int .i64 x.v.kind, .string x.v.s, .slice xA1 x.v.l.length xc1, .slice xA2 x.v.z.length xc2, .slice xA3 x.v.h.length xc3, .int .i64 x.at_] ?_ ?_ ?_ ?_ ?_ ?_; (· rfl); (· rfl); (· rfl); (· rfl); (· exact (World.ownsRow.alloc o1 _)); (· rfl); (· exact (Src.block (cs := [.string x.key, .int .i64 x.v.kind, .string x.v.s, .slice xA1 x.v.l.length xc1, .slice xA2 x.v.z.length xc2, .slice xA3 x.v.h.length xc3, .int .i64 x.at_]) (heap_alloc_new w1 _) rfl HONE.out)); (· unfold maxLen; omega); (· omega); (· exact (B1.alloc B1.size _).size); intro v2 w2 o2 gr2 at2; have B2 := bel_own (B1.alloc B1.size _) (World.ownsRow.alloc o1 _) gr2)
              | (refine step_append_src ?_ (.tmp 47) (.tmp 48) 22 ?_ W.heap.size 30 i0 _ 7 120 Tryz.underlying22 hi hz0 hz1 hz2 ?_ (Nat.zero_lt_succ _) v2 (0 + 0 + 1) ([] ++ [] ++ [.string x.key, .int .i64 x.v.kind, .string x.v.s, .slice xA1 x.v.l.length xc1, .slice xA2 x.v.z.length xc2, .slice xA3 x.v.h.length xc3, .int .i64 x.at_]) ?_ ?_ none 0 0 [] ?_ ?_ ?_ ?_ ?_ ?_; (· rfl); (· rfl); (· rfl); (· rfl); (· exact o2); (· rfl); (· exact (S2.out.below B2)); (· unfold maxLen; omega); (· omega); (· exact B2.size); intro v3 w3 o3 gr3 at3; have B3 := bel_own B2 o2 gr3))
        all_goals (go_wp2 <;> go_ret)
        all_goals exact HE.out _ _ o3 B3
      · subst hpl
        by_cases hcp : c = l.length
        · subst hcp
          go_wp2_with fail
          refine wp_region_later (by kernel_rfl) (by kernel_rfl) ?_
          repeat (go_big_quiet_step (fail))
          refine wpQuiet_nil ?_
          rintro _ ⟨q, rfl⟩
          go_upto_region 5 with fail
          have v0 := t0L q
          have v0L := Later.cell v0
          go_wp2_with fail
          refine wp_region_later (by kernel_rfl) (by kernel_rfl) ?_
          repeat (go_big_quiet_step (fail))
          refine wpQuiet_nil ?_
          rintro _ ⟨r, rfl⟩
          go_upto_region 7 with fail
          refine wp_name fun W hW => ?_
          have BW : Below wr.heap.size wr W := by
            rw [hW]
            exact below_trans' q.below r.below
          clear hW
          have HBX := Lib.hid (HXR.out.below BW)
          have HONE := Lib.hid (kEntry.one HXO.out)
          obtain ⟨cs, hparts, hsrc⟩ := row_src (HO.out.move (below_moves (below_trans' HBW.out BW)))
          have S1 := Lib.hid (hsrc.take l.length (Nat.le_refl _))
          have hcs : cs.drop (l.length * 7) = [] := List.drop_eq_nil_of_le (by rw [hsrc.1]; exact Nat.le_refl _)
          have S2 : Hid (Src W 7 (some ⟨b, off, none⟩) 0 []) := ⟨by simp, by simp, fun hm => absurd hm (Nat.lt_irrefl _)⟩
          have hend : ∀ v3 w3, World.ownsRow w3 W.heap.size 30 7 v3 (0 + l.length + 1 + 0) (([] ++ (cs.take (l.length * 7))) ++ [.string x.key, .int .i64 x.v.kind, .string x.v.s, .slice xA1 x.v.l.length xc1, .slice xA2 x.v.z.length xc2, .slice xA3 x.v.h.length xc3, .int .i64 x.at_] ++ []) → Below W.heap.size W w3 → SetPost S l x w (.returned v3) w3 := by
            intro v3 w3 o3 B3
            refine HEND.out W l.length cs v3 w3 BW hparts (Nat.le_refl _) (fun x' hx' => by have := (List.getElem?_eq_some_iff.1 hx').1; omega) (.inl ⟨rfl, fun x' hx' => by have := (List.getElem?_eq_some_iff.1 hx').1; omega⟩) ?_ B3
            rw [hcs, Nat.sub_self]
            exact o3
          have HE := Lib.hid hend
          obtain ⟨y0, y1, y2, y3, y4, y5, y6⟩ := HBX.out.seven
          obtain ⟨z0, z1, z2, z3, z4, z5, z6⟩ := (HBX.out.below ((Below.refl W.heap.size W).alloc (Nat.le_refl _) (.cells #[] 30))).seven
          clear hend BW hparts hsrc hcs
          go_region_law (first
                | (refine step_append_src ?_ (.tmp 40) (.tmp 43) 22 ?_ W.heap.size 30 i0 _ 7 120 Tryz.underlying22 hi hz0 hz1 hz2 ?_ (Nat.zero_lt_succ _) (.slice (some ⟨W.heap.size, 0, none⟩) 0 0) 0 [] ?_ ?_ (some ⟨b, off, none⟩) l.length l.length (cs.take (l.length * 7)) ?_ ?_ ?_ ?_ ?_ ?_; (· rfl); (· rfl); (· rfl); (· rfl); (· exact (own_a (w := W) (e := 30) (k := 7))); (· rfl); (· exact (S1.out.below bel_a)); (· unfold maxLen; omega); (· omega); (· exact bel_a.size); intro v1 w1 o1 gr1 at1; have B1 := bel_own bel_a (own_a (w := W) (e := 30) (k := 7)) gr1; skip; obtain ⟨y0, y1, y2, y3, y4, y5, y6⟩ := (HBX.out.below B1).seven)
                | (refine step_append_src ?_ (.tmp 40) (.tmp 43) 22 ?_ W.heap.size 30 i0 _ 7 120 Tryz.underlying22 hi hz0 hz1 hz2 ?_ (Nat.zero_lt_succ _) (.slice (some ⟨W.heap.size, 0, none⟩) 0 0) 0 [] ?_ ?_ (some ⟨b, off, none⟩) l.length l.length (cs.take (l.length * 7)) ?_ ?_ ?_ ?_ ?_ ?_; (· rfl); (· rfl); (· rfl); (· rfl); (· exact (own_b (w := W) (e := 30) (k := 7) (o := .cells #[.string x.key, .int .i64 x.v.kind, .string x.v.s, .slice xA1 x.v.l.length xc1, .slice xA2 x.v.z.length xc2, .slice xA3 x.v.h.length xc3, .int .i64 x.at_] 30))); (· rfl); (· exact (S1.out.below bel_b)); (· unfold maxLen; omega); (· omega); (· exact bel_b.size); intro v1 w1 o1 gr1 at1; have B1 := bel_own bel_b (own_b (w := W) (e := 30) (k := 7) (o := .cells #[.string x.key, .int .i64 x.v.kind, .string x.v.s, .slice xA1 x.v.l.length xc1, .slice xA2 x.v.z.length xc2, .slice xA3 x.v.h.length xc3, .int .i64 x.at_] 30)) gr1; have N1 := blk_kept (b := W.heap.size + 1) (o := .cells #[.string x.key, .int .i64 x.v.kind, .string x.v.s, .slice xA1 x.v.l.length xc1, .slice xA2 x.v.z.length xc2, .slice xA3 x.v.h.length xc3, .int .i64 x.at_] 30 (0, 0)) (heap_b2 W (.cells #[] 30) (.cells #[.string x.key, .int .i64 x.v.kind, .string x.v.s, .slice xA1 x.v.l.length xc1, .slice xA2 x.v.z.length xc2, .slice xA3 x.v.h.length xc3, .int .i64 x.at_] 30)) gr1 (by simp [Value.ownBlock]); obtain ⟨y0, y1, y2, y3, y4, y5, y6⟩ := (HBX.out.below B1).seven)
                | (refine step_append_src ?_ (.tmp 40) (.tmp 43) 22 ?_ W.heap.size 30 i0 _ 7 120 Tryz.underlying22 hi hz0 hz1 hz2 ?_ (Nat.zero_lt_succ _) (.slice (some ⟨W.heap.size + 1, 0, none⟩) 0 0) 0 [] ?_ ?_ (some ⟨b, off, none⟩) l.length l.length (cs.take (l.length * 7)) ?_ ?_ ?_ ?_ ?_ ?_; (· rfl); (· rfl); (· rfl); (· rfl); (· exact (own_c (w := W) (e := 30) (k := 7) (o := .cells #[.string x.key, .int .i64 x.v.kind, .string x.v.s, .slice xA1 x.v.l.length xc1, .slice xA2 x.v.z.length xc2, .slice xA3 x.v.h.length xc3, .int .i64 x.at_] 30))); (· rfl); (· exact (S1.out.below bel_b)); (· unfold maxLen; omega); (· omega); (· exact bel_b.size); intro v1 w1 o1 gr1 at1; have B1 := bel_own bel_b (own_c (w := W) (e := 30) (k := 7) (o := .cells #[.string x.key, .int .i64 x.v.kind, .string x.v.s, .slice xA1 x.v.l.length xc1, .slice xA2 x.v.z.length xc2, .slice xA3 x.v.h.length xc3, .int .i64 x.at_] 30)) gr1; have N1 := blk_kept (b := W.heap.size) (o := .cells #[.string x.key, .int .i64 x.v.kind, .string x.v.s, .slice xA1 x.v.l.length xc1, .slice xA2 x.v.z.length xc2, .slice xA3 x.v.h.length xc3, .int .i64 x.at_] 30 (0, 0)) (heap_c2 W (.cells #[.string x.key, .int .i64 x.v.kind, .string x.v.s, .slice xA1 x.v.l.length xc1, .slice xA2 x.v.z.length xc2, .slice xA3 x.v.h.length xc3, .int .i64 x.at_] 30) (.cells #[] 30)) gr1 (by simp [Value.ownBlock]); obtain ⟨y0, y1, y2, y3, y4, y5, y6⟩ := (HBX.out.below B1).seven)
                | (refine step_append_src ?_ (.tmp 44) (.tmp 46) 22 ?_ W.heap.size 30 i0 _ 7 120 Tryz.underlying22 hi hz0 hz1 hz2 ?_ (Nat.zero_lt_succ _) v1 (0 + l.length) ([] ++ (cs.take (l.length * 7))) ?_ ?_ (some ⟨W.heap.size + 1, 0, none⟩) 1 1 [.string x.key, .int .i64 x.v.kind, .string x.v.s, .slice xA1 x.v.l.length xc1, .slice xA2 x.v.z.length xc2, .slice xA3 x.v.h.length xc3, .int .i64 x.at_] ?_ ?_ ?_ ?_ ?_ ?_; (· rfl); (· rfl); (· rfl); (· rfl); (· exact o1); (· rfl); (· exact (Src.block (cs := [.string x.key, .int .i64 x.v.kind, .string x.v.s, .slice xA1 x.v.l.length xc1, .slice xA2 x.v.z.length xc2, .slice xA3 x.v.h.length xc3, .int .i64 x.at_]) N1 rfl HONE.out)); (· unfold maxLen; omega); (· omega); (· exact B1.size); intro v2 w2 o2 gr2 at2; have B2 := bel_own B1 o1 gr2)
                | (refine step_append_src ?_ (.tmp 44) (.tmp 46) 22 ?_ W.heap.size 30 i0 _ 7 120 Tryz.underlying22 hi hz0 hz1 hz2 ?_ (Nat.zero_lt_succ _) v1 (0 + l.length) ([] ++ (cs.take (l.length * 7))) ?_ ?_ (some ⟨W.heap.size, 0, none⟩) 1 1 [.string x.key, .int .i64 x.v.kind, .string x.v.s, .slice xA1 x.v.l.length xc1, .slice xA2 x.v.z.length xc2, .slice xA3 x.v.h.length xc3, .int .i64 x.at_] ?_ ?_ ?_ ?_ ?_ ?_; (· rfl); (· rfl); (· rfl); (· rfl); (· exact o1); (· rfl); (· exact (Src.block (cs := [.string x.key, .int .i64 x.v.kind, .string x.v.s, .slice xA1 x.v.l.length xc1, .slice xA2 x.v.z.length xc2, .slice xA3 x.v.h.length xc3, .int .i64 x.at_]) N1 rfl HONE.out)); (· unfold maxLen; omega); (· omega); (· exact B1.size); intro v2 w2 o2 gr2 at2; have B2 := bel_own B1 o1 gr2)
                | (refine step_append_src ?_ (.tmp 44) (.tmp 46) 22 ?_ W.heap.size 30 i0 _ 7 120 Tryz.underlying22 hi hz0 hz1 hz2 ?_ (Nat.zero_lt_succ _) v1 (0 + l.length) ([] ++ (cs.take (l.length * 7))) ?_ ?_ (some ⟨w1.heap.size, 0, none⟩) 1 1 [.string x.key, .int .i64 x.v.kind, .string x.v.s, .slice xA1 x.v.l.length xc1, .slice xA2 x.v.z.length xc2, .slice xA3 x.v.h.length xc3, .int .i64 x.at_] ?_ ?_ ?_ ?_ ?_ ?_; (· rfl); (· rfl); (· rfl); (· rfl); (· exact (World.ownsRow.alloc o1 _)); (· rfl); (· exact (Src.block (cs := [.string x.key, .int .i64 x.v.kind, .string x.v.s, .slice xA1 x.v.l.length xc1, .slice xA2 x.v.z.length xc2, .slice xA3 x.v.h.length xc3, .int .i64 x.at_]) (heap_alloc_new w1 _) rfl HONE.out)); (· unfold maxLen; omega); (· omega); (· exact (B1.alloc B1.size _).size); intro v2 w2 o2 gr2 at2; have B2 := bel_own (B1.alloc B1.size _) (World.ownsRow.alloc o1 _) gr2)
                | (refine step_append_src ?_ (.tmp 47) (.tmp 48) 22 ?_ W.heap.size 30 i0 _ 7 120 Tryz.underlying22 hi hz0 hz1 hz2 ?_ (Nat.zero_lt_succ _) v2 (0 + l.length + 1) ([] ++ (cs.take (l.length * 7)) ++ [.string x.key, .int .i64 x.v.kind, .string x.v.s, .slice xA1 x.v.l.length xc1, .slice xA2 x.v.z.length xc2, .slice xA3 x.v.h.length xc3, .int .i64 x.at_]) ?_ ?_ (some ⟨b, off, none⟩) 0 0 [] ?_ ?_ ?_ ?_ ?_ ?_; (· rfl); (· rfl); (· rfl); (· rfl); (· exact o2); (· rfl); (· exact (S2.out.below B2)); (· unfold maxLen; omega); (· omega); (· exact B2.size); intro v3 w3 o3 gr3 at3; have B3 := bel_own B2 o2 gr3))
          all_goals (go_wp2 <;> go_ret)
          all_goals exact HE.out _ _ o3 B3
        · have n5 : (l.length : Int) ≤ (c : Int) := by omega
          go_wp2_with fail
          refine wp_region_later (by kernel_rfl) (by kernel_rfl) ?_
          repeat (go_big_quiet_step (fail))
          refine wpQuiet_nil ?_
          rintro _ ⟨q, rfl⟩
          go_upto_region 5 with fail
          have v0 := t0L q
          have v0L := Later.cell v0
          go_wp2_with fail
          refine wp_region_later (by kernel_rfl) (by kernel_rfl) ?_
          repeat (go_big_quiet_step (fail))
          refine wpQuiet_nil ?_
          rintro _ ⟨r, rfl⟩
          go_upto_region 7 with fail
          refine wp_name fun W hW => ?_
          have BW : Below wr.heap.size wr W := by
            rw [hW]
            exact below_trans' q.below r.below
          clear hW
          have HBX := Lib.hid (HXR.out.below BW)
          have HONE := Lib.hid (kEntry.one HXO.out)
          obtain ⟨cs, hparts, hsrc⟩ := row_src (HO.out.move (below_moves (below_trans' HBW.out BW)))
          have S1 := Lib.hid (hsrc.take l.length (Nat.le_refl _))
          have hcs : cs.drop (l.length * 7) = [] := List.drop_eq_nil_of_le (by rw [hsrc.1]; exact Nat.le_refl _)
          have S2 : Hid (Src W 7 (some ⟨b, off + l.length * 7, none⟩) 0 []) := ⟨by simp, by simp, fun hm => absurd hm (Nat.lt_irrefl _)⟩
          have hend : ∀ v3 w3, World.ownsRow w3 W.heap.size 30 7 v3 (0 + l.length + 1 + 0) (([] ++ (cs.take (l.length * 7))) ++ [.string x.key, .int .i64 x.v.kind, .string x.v.s, .slice xA1 x.v.l.length xc1, .slice xA2 x.v.z.length xc2, .slice xA3 x.v.h.length xc3, .int .i64 x.at_] ++ []) → Below W.heap.size W w3 → SetPost S l x w (.returned v3) w3 := by
            intro v3 w3 o3 B3
            refine HEND.out W l.length cs v3 w3 BW hparts (Nat.le_refl _) (fun x' hx' => by have := (List.getElem?_eq_some_iff.1 hx').1; omega) (.inl ⟨rfl, fun x' hx' => by have := (List.getElem?_eq_some_iff.1 hx').1; omega⟩) ?_ B3
            rw [hcs, Nat.sub_self]
            exact o3
          have HE := Lib.hid hend
          obtain ⟨y0, y1, y2, y3, y4, y5, y6⟩ := HBX.out.seven
          obtain ⟨z0, z1, z2, z3, z4, z5, z6⟩ := (HBX.out.below ((Below.refl W.heap.size W).alloc (Nat.le_refl _) (.cells #[] 30))).seven
          clear hend BW hparts hsrc hcs
          go_region_law (first
                | (refine step_append_src ?_ (.tmp 40) (.tmp 43) 22 ?_ W.heap.size 30 i0 _ 7 120 Tryz.underlying22 hi hz0 hz1 hz2 ?_ (Nat.zero_lt_succ _) (.slice (some ⟨W.heap.size, 0, none⟩) 0 0) 0 [] ?_ ?_ (some ⟨b, off, none⟩) l.length c (cs.take (l.length * 7)) ?_ ?_ ?_ ?_ ?_ ?_; (· rfl); (· rfl); (· rfl); (· rfl); (· exact (own_a (w := W) (e := 30) (k := 7))); (· rfl); (· exact (S1.out.below bel_a)); (· unfold maxLen; omega); (· omega); (· exact bel_a.size); intro v1 w1 o1 gr1 at1; have B1 := bel_own bel_a (own_a (w := W) (e := 30) (k := 7)) gr1; skip; obtain ⟨y0, y1, y2, y3, y4, y5, y6⟩ := (HBX.out.below B1).seven)
                | (refine step_append_src ?_ (.tmp 40) (.tmp 43) 22 ?_ W.heap.size 30 i0 _ 7 120 Tryz.underlying22 hi hz0 hz1 hz2 ?_ (Nat.zero_lt_succ _) (.slice (some ⟨W.heap.size, 0, none⟩) 0 0) 0 [] ?_ ?_ (some ⟨b, off, none⟩) l.length c (cs.take (l.length * 7)) ?_ ?_ ?_ ?_ ?_ ?_; (· rfl); (· rfl); (· rfl); (· rfl); (· exact (own_b (w := W) (e := 30) (k := 7) (o := .cells #[.string x.key, .int .i64 x.v.kind, .string x.v.s, .slice xA1 x.v.l.length xc1, .slice xA2 x.v.z.length xc2, .slice xA3 x.v.h.length xc3, .int .i64 x.at_] 30))); (· rfl); (· exact (S1.out.below bel_b)); (· unfold maxLen; omega); (· omega); (· exact bel_b.size); intro v1 w1 o1 gr1 at1; have B1 := bel_own bel_b (own_b (w := W) (e := 30) (k := 7) (o := .cells #[.string x.key, .int .i64 x.v.kind, .string x.v.s, .slice xA1 x.v.l.length xc1, .slice xA2 x.v.z.length xc2, .slice xA3 x.v.h.length xc3, .int .i64 x.at_] 30)) gr1; have N1 := blk_kept (b := W.heap.size + 1) (o := .cells #[.string x.key, .int .i64 x.v.kind, .string x.v.s, .slice xA1 x.v.l.length xc1, .slice xA2 x.v.z.length xc2, .slice xA3 x.v.h.length xc3, .int .i64 x.at_] 30 (0, 0)) (heap_b2 W (.cells #[] 30) (.cells #[.string x.key, .int .i64 x.v.kind, .string x.v.s, .slice xA1 x.v.l.length xc1, .slice xA2 x.v.z.length xc2, .slice xA3 x.v.h.length xc3, .int .i64 x.at_] 30)) gr1 (by simp [Value.ownBlock]); obtain ⟨y0, y1, y2, y3, y4, y5, y6⟩ := (HBX.out.below B1).seven)
                | (refine step_append_src ?_ (.tmp 40) (.tmp 43) 22 ?_ W.heap.size 30 i0 _ 7 120 Tryz.underlying22 hi hz0 hz1 hz2 ?_ (Nat.zero_lt_succ _) (.slice (some ⟨W.heap.size + 1, 0, none⟩) 0 0) 0 [] ?_ ?_ (some ⟨b, off, none⟩) l.length c (cs.take (l.length * 7)) ?_ ?_ ?_ ?_ ?_ ?_; (· rfl); (· rfl); (· rfl); (· rfl); (· exact (own_c (w := W) (e := 30) (k := 7) (o := .cells #[.string x.key, .int .i64 x.v.kind, .string x.v.s, .slice xA1 x.v.l.length xc1, .slice xA2 x.v.z.length xc2, .slice xA3 x.v.h.length xc3, .int .i64 x.at_] 30))); (· rfl); (· exact (S1.out.below bel_b)); (· unfold maxLen; omega); (· omega); (· exact bel_b.size); intro v1 w1 o1 gr1 at1; have B1 := bel_own bel_b (own_c (w := W) (e := 30) (k := 7) (o := .cells #[.string x.key, .int .i64 x.v.kind, .string x.v.s, .slice xA1 x.v.l.length xc1, .slice xA2 x.v.z.length xc2, .slice xA3 x.v.h.length xc3, .int .i64 x.at_] 30)) gr1; have N1 := blk_kept (b := W.heap.size) (o := .cells #[.string x.key, .int .i64 x.v.kind, .string x.v.s, .slice xA1 x.v.l.length xc1, .slice xA2 x.v.z.length xc2, .slice xA3 x.v.h.length xc3, .int .i64 x.at_] 30 (0, 0)) (heap_c2 W (.cells #[.string x.key, .int .i64 x.v.kind, .string x.v.s, .slice xA1 x.v.l.length xc1, .slice xA2 x.v.z.length xc2, .slice xA3 x.v.h.length xc3, .int .i64 x.at_] 30) (.cells #[] 30)) gr1 (by simp [Value.ownBlock]); obtain ⟨y0, y1, y2, y3, y4, y5, y6⟩ := (HBX.out.below B1).seven)
                | (refine step_append_src ?_ (.tmp 44) (.tmp 46) 22 ?_ W.heap.size 30 i0 _ 7 120 Tryz.underlying22 hi hz0 hz1 hz2 ?_ (Nat.zero_lt_succ _) v1 (0 + l.length) ([] ++ (cs.take (l.length * 7))) ?_ ?_ (some ⟨W.heap.size + 1, 0, none⟩) 1 1 [.string x.key, .int .i64 x.v.kind, .string x.v.s, .slice xA1 x.v.l.length xc1, .slice xA2 x.v.z.length xc2, .slice xA3 x.v.h.length xc3, .int .i64 x.at_] ?_ ?_ ?_ ?_ ?_ ?_; (· rfl); (· rfl); (· rfl); (· rfl); (· exact o1); (· rfl); (· exact (Src.block (cs := [.string x.key, .int .i64 x.v.kind, .string x.v.s, .slice xA1 x.v.l.length xc1, .slice xA2 x.v.z.length xc2, .slice xA3 x.v.h.length xc3, .int .i64 x.at_]) N1 rfl HONE.out)); (· unfold maxLen; omega); (· omega); (· exact B1.size); intro v2 w2 o2 gr2 at2; have B2 := bel_own B1 o1 gr2)
                | (refine step_append_src ?_ (.tmp 44) (.tmp 46) 22 ?_ W.heap.size 30 i0 _ 7 120 Tryz.underlying22 hi hz0 hz1 hz2 ?_ (Nat.zero_lt_succ _) v1 (0 + l.length) ([] ++ (cs.take (l.length * 7))) ?_ ?_ (some ⟨W.heap.size, 0, none⟩) 1 1 [.string x.key, .int .i64 x.v.kind, .string x.v.s, .slice xA1 x.v.l.length xc1, .slice xA2 x.v.z.length xc2, .slice xA3 x.v.h.length xc3, .int .i64 x.at_] ?_ ?_ ?_ ?_ ?_ ?_; (· rfl); (· rfl); (· rfl); (· rfl); (· exact o1); (· rfl); (· exact (Src.block (cs := [.string x.key, .int .i64 x.v.kind, .string x.v.s, .slice xA1 x.v.l.length xc1, .slice xA2 x.v.z.length xc2, .slice xA3 x.v.h.length xc3, .int .i64 x.at_]) N1 rfl HONE.out)); (· unfold maxLen; omega); (· omega); (· exact B1.size); intro v2 w2 o2 gr2 at2; have B2 := bel_own B1 o1 gr2)
                | (refine step_append_src ?_ (.tmp 44) (.tmp 46) 22 ?_ W.heap.size 30 i0 _ 7 120 Tryz.underlying22 hi hz0 hz1 hz2 ?_ (Nat.zero_lt_succ _) v1 (0 + l.length) ([] ++ (cs.take (l.length * 7))) ?_ ?_ (some ⟨w1.heap.size, 0, none⟩) 1 1 [.string x.key, .int .i64 x.v.kind, .string x.v.s, .slice xA1 x.v.l.length xc1, .slice xA2 x.v.z.length xc2, .slice xA3 x.v.h.length xc3, .int .i64 x.at_] ?_ ?_ ?_ ?_ ?_ ?_; (· rfl); (· rfl); (· rfl); (· rfl); (· exact (World.ownsRow.alloc o1 _)); (· rfl); (· exact (Src.block (cs := [.string x.key, .int .i64 x.v.kind, .string x.v.s, .slice xA1 x.v.l.length xc1, .slice xA2 x.v.z.length xc2, .slice xA3 x.v.h.length xc3, .int .i64 x.at_]) (heap_alloc_new w1 _) rfl HONE.out)); (· unfold maxLen; omega); (· omega); (· exact (B1.alloc B1.size _).size); intro v2 w2 o2 gr2 at2; have B2 := bel_own (B1.alloc B1.size _) (World.ownsRow.alloc o1 _) gr2)
                | (refine step_append_src ?_ (.tmp 47) (.tmp 48) 22 ?_ W.heap.size 30 i0 _ 7 120 Tryz.underlying22 hi hz0 hz1 hz2 ?_ (Nat.zero_lt_succ _) v2 (0 + l.length + 1) ([] ++ (cs.take (l.length * 7)) ++ [.string x.key, .int .i64 x.v.kind, .string x.v.s, .slice xA1 x.v.l.length xc1, .slice xA2 x.v.z.length xc2, .slice xA3 x.v.h.length xc3, .int .i64 x.at_]) ?_ ?_ (some ⟨b, off + l.length * 7, none⟩) 0 (c - l.length) [] ?_ ?_ ?_ ?_ ?_ ?_; (· rfl); (· rfl); (· rfl); (· rfl); (· exact o2); (· rfl); (· exact (S2.out.below B2)); (· unfold maxLen; omega); (· omega); (· exact B2.size); intro v3 w3 o3 gr3 at3; have B3 := bel_own B2 o2 gr3))
          all_goals (go_wp2 <;> go_ret)
          all_goals exact HE.out _ _ o3 B3
end Go.Proofs.YtkgghnjpegpnlaaGreatDoor
