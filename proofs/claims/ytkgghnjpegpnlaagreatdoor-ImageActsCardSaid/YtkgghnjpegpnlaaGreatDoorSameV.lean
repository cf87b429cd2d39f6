/- millpondref09.SameValue: are two values the same? Conditions: what is read reads as the data. -/
import Derived.Test.YtkgghnjpegpnlaaGreatDoorSameR
namespace Go.Proofs.YtkgghnjpegpnlaaGreatDoor
open Go.RowKit Go.Proofs
set_option linter.unusedSimpArgs false
set_option linter.unusedVariables false
set_option maxRecDepth 100000

def eqStr (x y : ByteArray) : Bool := x.toList == y.toList
def eqVal (x y : DVal) : Bool := x.kind == y.kind && (eqStr x.s y.s && (eqRows eqScored x.z y.z && (eqRows eqStr x.l y.l && eqRows eqField x.h y.h)))

def SameVPost (r : Bool) (w : World) (e : Ending) (w' : World) : Prop := e = .returned (.bool r) ∧ Below w.heap.size w w'

set_option maxHeartbeats 4000000 in
theorem SameValue {S : Nat → Prop} {x y : DVal} {cs ds : List Value} {w : World} (hx : kVal.R S w x cs) (hy : kVal.R S w y ds) :
    Calls Tryz.prog 32 #[.agg cs.toArray, .agg ds.toArray] w (SameVPost (eqVal x y) w) := by
  obtain ⟨A1, c1, A2, c2, A3, c3, rfl, _, _, _, hl1, hl2, hl3, r1, r2, r3⟩ := hx
  obtain ⟨B1, d1, B2, d2, B3, d3, rfl, _, _, _, kl1, kl2, kl3, q1, q2, q3⟩ := hy
  have hS := fun (W : World) (hb : Below w.heap.size w W) => Same7 (c := c2) (d := d2) (r2.move (below_moves hb)) (q2.move (below_moves hb))
  have m1 := r1.1
  have m3 := r3.1
  have HV : Hid (eqVal x y = (x.kind == y.kind && (eqStr x.s y.s && (eqRows eqScored x.z y.z && (eqRows eqStr x.l y.l && eqRows eqField x.h y.h))))) := rfl
  have HB0 : Below w.heap.size w ((w.alloc (.cells #[.int .i64 x.kind, .string x.s, .slice A1 x.l.length c1, .slice A2 x.z.length c2, .slice A3 x.h.length c3] 28)).alloc (.cells #[.int .i64 y.kind, .string y.s, .slice B1 y.l.length d1, .slice B2 y.z.length d2, .slice B3 y.h.length d3] 28)) := ((Below.refl _ _).alloc (Nat.le_refl _) _).alloc (by simp) _
  have H0 := Lib.hid HB0
  have HS := Lib.hid hS
  clear r2 q2 hl1 hl2 hl3 kl1 kl2 kl3 hS HB0
  by_cases h1 : x.kind = y.kind
  · have t1 : (x.kind == y.kind) = true := by simp [h1]
    have t1' : (x.kind != y.kind) = false := by simp [h1]
    rw [t1, Bool.true_and] at HV
    clear h1
    cases h2 : eqStr x.s y.s with
    | false =>
      rw [h2, Bool.false_and] at HV
      have h2' : (x.s.toList == y.s.toList) = false := h2
      clear h2 r1 r3 q1 q3
      go_enter Tryz.func32, Tryz.ntmps32
      go_wp2
      go_ret
      exact ⟨by rw [HV.out]; rfl, H0.out⟩
    | true =>
      rw [h2, Bool.true_and] at HV
      have h2' : (x.s.toList == y.s.toList) = true := h2
      clear h2
      by_cases h3 : x.l.length = y.l.length
      · have t3 : ((x.l.length : Int) == (y.l.length : Int)) = true := by simp [h3]
        have t3' : ((x.l.length : Int) != (y.l.length : Int)) = false := by simp [h3]
        cases h4 : eqRows eqScored x.z y.z with
        | false =>
          rw [h4, Bool.false_and] at HV
          rw [h4] at HS
          clear h3 h4 r1 r3 q1 q3
          go_enter Tryz.func32, Tryz.ntmps32
          go_wp2_with (go_at_call 67; refine (HS.out _ H0.out).mono ?_; rintro e w1 ⟨rfl, b1⟩)
          go_ret
          exact ⟨by rw [HV.out]; rfl, below_trans' H0.out b1⟩
        | true =>
          rw [h4, Bool.true_and] at HV
          rw [h4] at HS
          clear h4
          by_cases h5 : x.h.length = y.h.length
          · have t5 : ((x.h.length : Int) == (y.h.length : Int)) = true := by simp [h5]
            have t5' : ((x.h.length : Int) != (y.h.length : Int)) = false := by simp [h5]
            have g3 := Nat.le_of_eq h3
            have g5 := Nat.le_of_eq h5
            have H3 := Lib.hid h3
            have H5 := Lib.hid h5
            clear h3 h5
            go_enter Tryz.func32, Tryz.ntmps32
            go_wp2_with (go_at_call 67; refine (HS.out _ H0.out).mono ?_; rintro e w1 ⟨rfl, b1⟩; obtain ⟨bc, bf⟩ := bcell b1; have z1 : w.heap.size + 1 < w1.heap.size := by (have hh := b1.size; simp at hh; omega))
            have fa2 : w1.cell? ⟨w.heap.size, 2, none⟩ = some (.slice A1 x.l.length c1) := (bc _ _ (by simp; try omega)).trans (by go_simp)
            have fb2 : w1.cell? ⟨w.heap.size + 1, 2, none⟩ = some (.slice B1 y.l.length d1) := (bc _ _ (by simp; try omega)).trans (by go_simp)
            have fa4 : w1.cell? ⟨w.heap.size, 4, none⟩ = some (.slice A3 x.h.length c3) := (bc _ _ (by simp; try omega)).trans (by go_simp)
            have fb4 : w1.cell? ⟨w.heap.size + 1, 4, none⟩ = some (.slice B3 y.h.length d3) := (bc _ _ (by simp; try omega)).trans (by go_simp)
            have FA2 := Lib.hid fa2
            have FB2 := Lib.hid fb2
            have FA4 := Lib.hid fa4
            have FB4 := Lib.hid fb4
            have hw := below_trans' H0.out b1
            have HW := Lib.hid hw
            have zz := z1
            clear fa2 fb2 fa4 fb4 bc bf z1 b1 hw HS H0 t1 t1' h2' t3 t5 t3' t5'
            go_loopg [5] x.l.length (fun gg s5 wr => ∃ k : Nat, k ≤ x.l.length ∧ x.l.length - k ≤ gg ∧ s5 = .int .i64 k ∧ Hid (Below w1.heap.size w1 wr) ∧ Hid (∀ (j : Nat) u v, j < k → x.l[j]? = some u → y.l[j]? = some v → eqStr u v = true))
            case atStart => exact ⟨0, Nat.zero_le _, by omega, rfl, Below.refl _ _, fun j x y hj => absurd hj (Nat.not_lt_zero _)⟩
            case round =>
              obtain ⟨k, hk, hg, rfl, HB, HE⟩ := hrel
              have az : wr.cell? ⟨w.heap.size, 2, none⟩ = some (.slice A1 x.l.length c1) := (HB.out.cell (p := ⟨w.heap.size, 2, none⟩) (Nat.lt_trans (Nat.lt_succ_self _) zz)).trans FA2.out
              have bz : wr.cell? ⟨w.heap.size + 1, 2, none⟩ = some (.slice B1 y.l.length d1) := (HB.out.cell (p := ⟨w.heap.size + 1, 2, none⟩) zz).trans FB2.out
              by_cases hlt : k < x.l.length
              · have hltz : (k : Int) < (x.l.length : Int) := by omega
                have hltz2 : (k : Int) < (y.l.length : Int) := by omega
                obtain ⟨u, hx'⟩ : ∃ u, x.l[k]? = some u := ⟨_, List.getElem?_eq_getElem hlt⟩
                obtain ⟨v, hy'⟩ : ∃ v, y.l[k]? = some v := ⟨_, List.getElem?_eq_getElem (by omega)⟩
                obtain ⟨fb, foff, rfl, f0, fR⟩ := (r1.move (below_moves (below_trans' HW.out HB.out))).str hx'
                obtain ⟨gb, goff, rfl, g0, gR⟩ := (q1.move (below_moves (below_trans' HW.out HB.out))).str hy'
                have HX := Lib.hid hx'
                have HY := Lib.hid hy'
                clear fR gR hx' hy'
                have azL := Later.cell az
                have bzL := Later.cell bz
                replace f0 := Later.cell f0
                replace g0 := Later.cell g0
                cases he : eqStr u v with
                | true =>
                  have hq : (u.toList == v.toList) = true := he
                  have hq' : (!(u.toList == v.toList)) = !true := by rw [hq]
                  have HQ := Lib.hid he
                  clear he
                  go_wp2_with fail
                  refine wp_region_later (by kernel_rfl) (by kernel_rfl) ?_
                  repeat (go_big_quiet_step (fail))
                  refine wpQuiet_nil ?_
                  rintro _ ⟨q, rfl⟩
                  go_wp2
                  go_roundg (x.l.length - (k + 1))
                  case rel =>
                    refine ⟨k + 1, by omega, by omega, by go_num, below_trans' HB.out q.below, fun j a b hj ha hb => ?_⟩
                    rcases Nat.lt_or_ge j k with h | h
                    · exact HE.out j a b h ha hb
                    · obtain rfl : j = k := by omega
                      rw [HX.out] at ha
                      rw [HY.out] at hb
                      cases ha
                      cases hb
                      exact HQ.out
                  case measure => omega
                | false =>
                  have hq : (u.toList == v.toList) = false := he
                  have hq' : (!(u.toList == v.toList)) = !false := by rw [hq]
                  have HQ := Lib.hid he
                  clear he
                  go_wp2_with fail
                  refine wp_region_later (by kernel_rfl) (by kernel_rfl) ?_
                  repeat (go_big_quiet_step (fail))
                  refine wpQuiet_nil ?_
                  rintro _ ⟨q, rfl⟩
                  go_wp2
                  go_ret
                  refine ⟨?_, below_trans' HW.out (below_trans' HB.out q.below)⟩
                  rw [HV.out, eqRows_no eqStr x.l y.l k u v HX.out HY.out HQ.out]
                  first | rfl | (rw [Bool.and_false]; rfl)
              · obtain rfl : k = x.l.length := by omega
                have HF := Lib.hid (eqRows_yes eqStr x.l y.l H3.out (fun j a b ha hb => HE.out j a b (List.getElem?_eq_some_iff.1 ha).1 ha hb))
                clear HE
                go_wp2
                rw [HF.out, Bool.true_and] at HV
                have hB2 := below_trans' HW.out HB.out
                have zz2 : w.heap.size + 1 < wr.heap.size := Nat.lt_of_lt_of_le zz HB.out.size
                have fa : wr.cell? ⟨w.heap.size, 4, none⟩ = some (.slice A3 x.h.length c3) := (HB.out.cell (p := ⟨w.heap.size, 4, none⟩) (Nat.lt_trans (Nat.lt_succ_self _) zz)).trans FA4.out
                have fb : wr.cell? ⟨w.heap.size + 1, 4, none⟩ = some (.slice B3 y.h.length d3) := (HB.out.cell (p := ⟨w.heap.size + 1, 4, none⟩) zz).trans FB4.out
                have HW2 := Lib.hid hB2
                clear hB2 HF HB HW az bz zz hlt hk hg FA4 FB4 FA2 FB2
                have FA4 := Lib.hid fa
                have FB4 := Lib.hid fb
                have HW := HW2
                have zz := zz2
                obtain ⟨w2, hw2⟩ : ∃ w2, w2 = wr := ⟨_, rfl⟩
                subst hw2
                clear fa fb HW2 zz2
                go_loopg [6] x.h.length (fun gg s5 wr => ∃ k : Nat, k ≤ x.h.length ∧ x.h.length - k ≤ gg ∧ s5 = .int .i64 k ∧ Hid (Below w2.heap.size w2 wr) ∧ Hid (∀ (j : Nat) u v, j < k → x.h[j]? = some u → y.h[j]? = some v → eqField u v = true))
                case atStart => exact ⟨0, Nat.zero_le _, by omega, rfl, Below.refl _ _, fun j x y hj => absurd hj (Nat.not_lt_zero _)⟩
                case round =>
                  obtain ⟨k, hk, hg, rfl, HB, HE⟩ := hrel
                  have az : wr.cell? ⟨w.heap.size, 4, none⟩ = some (.slice A3 x.h.length c3) := (HB.out.cell (p := ⟨w.heap.size, 4, none⟩) (Nat.lt_trans (Nat.lt_succ_self _) zz)).trans FA4.out
                  have bz : wr.cell? ⟨w.heap.size + 1, 4, none⟩ = some (.slice B3 y.h.length d3) := (HB.out.cell (p := ⟨w.heap.size + 1, 4, none⟩) zz).trans FB4.out
                  by_cases hlt : k < x.h.length
                  · have hltz : (k : Int) < (x.h.length : Int) := by omega
                    have hltz2 : (k : Int) < (y.h.length : Int) := by omega
                    obtain ⟨u, hx'⟩ : ∃ u, x.h[k]? = some u := ⟨_, List.getElem?_eq_getElem hlt⟩
                    obtain ⟨v, hy'⟩ : ∃ v, y.h[k]? = some v := ⟨_, List.getElem?_eq_getElem (by omega)⟩
                    obtain ⟨fb, foff, rfl, f0, f1, fR⟩ := (r3.move (below_moves (below_trans' HW.out HB.out))).field hx'
                    obtain ⟨gb, goff, rfl, g0, g1, gR⟩ := (q3.move (below_moves (below_trans' HW.out HB.out))).field hy'
                    have HX := Lib.hid hx'
                    have HY := Lib.hid hy'
                    clear fR gR hx' hy'
                    have azL := Later.cell az
                    have bzL := Later.cell bz
                    replace f0 := Later.cell f0
                    replace f1 := Later.cell f1
                    replace g0 := Later.cell g0
                    replace g1 := Later.cell g1
                    have hq := neq_field u v
                    have hgd := guard_field
                    cases he : eqField u v with
                    | true =>
                      rw [he] at hq
                      have HQ := Lib.hid he
                      clear he
                      go_wp2_with fail
                      refine wp_region_later (by kernel_rfl) (by kernel_rfl) ?_
                      repeat (go_big_quiet_step (fail))
                      refine wpQuiet_nil ?_
                      rintro _ ⟨q, rfl⟩
                      go_wp2
                      go_roundg (x.h.length - (k + 1))
                      case rel =>
                        refine ⟨k + 1, by omega, by omega, by go_num, below_trans' HB.out q.below, fun j a b hj ha hb => ?_⟩
                        rcases Nat.lt_or_ge j k with h | h
                        · exact HE.out j a b h ha hb
                        · obtain rfl : j = k := by omega
                          rw [HX.out] at ha
                          rw [HY.out] at hb
                          cases ha
                          cases hb
                          exact HQ.out
                      case measure => omega
                    | false =>
                      rw [he] at hq
                      have HQ := Lib.hid he
                      clear he
                      go_wp2_with fail
                      refine wp_region_later (by kernel_rfl) (by kernel_rfl) ?_
                      repeat (go_big_quiet_step (fail))
                      refine wpQuiet_nil ?_
                      rintro _ ⟨q, rfl⟩
                      go_wp2
                      go_ret
                      refine ⟨?_, below_trans' HW.out (below_trans' HB.out q.below)⟩
                      rw [HV.out, eqRows_no eqField x.h y.h k u v HX.out HY.out HQ.out]
                      first | rfl | (rw [Bool.and_false]; rfl)
                  · obtain rfl : k = x.h.length := by omega
                    have HF := Lib.hid (eqRows_yes eqField x.h y.h H5.out (fun j a b ha hb => HE.out j a b (List.getElem?_eq_some_iff.1 ha).1 ha hb))
                    clear HE
                    go_wp2
                    go_ret
                    refine ⟨?_, below_trans' HW.out HB.out⟩
                    rw [HV.out, HF.out]
                    rfl
          · have t5 : ((x.h.length : Int) == (y.h.length : Int)) = false := by simp; omega
            have t5' : ((x.h.length : Int) != (y.h.length : Int)) = true := by simp; omega
            rw [eqRows_len _ _ _ h5, Bool.and_false] at HV
            clear h3 h5 r1 r3 q1 q3
            go_enter Tryz.func32, Tryz.ntmps32
            go_wp2_with (go_at_call 67; refine (HS.out _ H0.out).mono ?_; rintro e w1 ⟨rfl, b1⟩; obtain ⟨bc, bf⟩ := bcell b1; have z1 : w.heap.size + 1 < w1.heap.size := by (have hh := b1.size; simp at hh; omega))
            go_ret
            exact ⟨by rw [HV.out]; rfl, below_trans' H0.out b1⟩
      · have t3 : ((x.l.length : Int) == (y.l.length : Int)) = false := by simp; omega
        have t3' : ((x.l.length : Int) != (y.l.length : Int)) = true := by simp; omega
        rw [eqRows_len _ x.l _ h3, Bool.false_and, Bool.and_false] at HV
        clear h3 r1 r3 q1 q3
        go_enter Tryz.func32, Tryz.ntmps32
        go_wp2
        go_ret
        exact ⟨by rw [HV.out]; rfl, H0.out⟩
  · have t1 : (x.kind == y.kind) = false := by simp [h1]
    have t1' : (x.kind != y.kind) = true := by simp [h1]
    rw [t1, Bool.false_and] at HV
    clear h1 r1 r3 q1 q3
    go_enter Tryz.func32, Tryz.ntmps32
    go_wp2
    go_ret
    exact ⟨by rw [HV.out]; rfl, H0.out⟩
end Go.Proofs.YtkgghnjpegpnlaaGreatDoor
