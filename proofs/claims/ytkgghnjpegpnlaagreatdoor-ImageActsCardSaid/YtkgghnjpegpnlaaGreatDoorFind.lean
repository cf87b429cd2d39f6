/- image.place, image.Find: the first entry with a key. Conditions: what is read reads as the data; the bytes stay below an append's bound. -/
import Derived.Test.YtkgghnjpegpnlaaGreatDoorOwneds
import Derived.Test.YtkgghnjpegpnlaaGreatDoorRead
import Derived.Test.YtkgghnjpegpnlaaGreatDoorOrder
namespace Go.Proofs.YtkgghnjpegpnlaaGreatDoor
open Go.RowKit Go.Proofs
set_option linter.unusedSimpArgs false
set_option linter.unusedVariables false
set_option maxRecDepth 100000

def keyB (key : ByteArray) (e : DEntry) : Bool := e.key.toList == key.toList

theorem place1 (S : Nat → Prop) (w : World) (b : Nat) (key : ByteArray) (hb : w.cell? ⟨b, 0, none⟩ = some (.string key)) : PredK Tryz.prog kEntry aggOf 66 #[.pointer (some ⟨b, 0, none⟩)] (keyB key) S w := by
  intro W x cs hx hB
  have hb' : W.cell? ⟨b, 0, none⟩ = some (.string key) := (hB.cell (World.block_lt_of_cell? w _ hb)).trans hb
  have hbl : b < W.heap.size := World.block_lt_of_cell? W _ hb'
  obtain ⟨A1, c1, A2, c2, A3, c3, rfl, _⟩ := hx
  show Calls Tryz.prog 66 #[.agg #[.string x.key, .int .i64 x.v.kind, .string x.v.s, .slice A1 x.v.l.length c1, .slice A2 x.v.z.length c2, .slice A3 x.v.h.length c3, .int .i64 x.at_], .pointer (some ⟨b, 0, none⟩)] W fun e W' => e = .returned (.bool (keyB key x)) ∧ Below W.heap.size W W'
  clear hb hB
  go_enter Tryz.func66, Tryz.ntmps66
  go_wp2
  go_ret
  refine ⟨?_, (Below.refl _ _).alloc (Nat.le_refl _) _⟩
  simp [keyB]
theorem enters_place1 : EntersF Tryz.prog 66 := enters_of Tryz.func66 (by kernel_rfl) rfl

def placeN (l : List DEntry) (key : ByteArray) : Int := idxW (keyB key) l

theorem place {S : Nat → Prop} {A : Option Addr} {l : List DEntry} {c : Nat} {w : World} (key : ByteArray) (h : Row kEntry S w A l) :
    Calls Tryz.prog 31 #[.slice A l.length c, .string key] w fun e w' => e = .returned (.int .i64 (placeN l key)) ∧ Below w.heap.size w w' := by
  have hI : ∀ W, Below w.heap.size w W → W.cell? ⟨w.heap.size, 0, none⟩ = some (.string key) → _ := fun W hb hk => IndexFuncE 66 #[.pointer (some ⟨w.heap.size, 0, none⟩)] (keyB key) S A l c W (h.move (below_moves hb)) (place1 S W w.heap.size key hk) enters_place1
  have hl := h.1
  clear h
  go_enter Tryz.func31, Tryz.ntmps31
  go_wp2_with (go_at_call 65; refine (hI _ ((Below.refl _ _).alloc (Nat.le_refl _) _) (by go_simp)).mono ?_; rintro e w' ⟨rfl, hA⟩)
  go_ret
  exact ⟨rfl, ((Below.refl _ _).alloc (Nat.le_refl _) _).trans (hA.mono (by simp))⟩

theorem Row.sub {α : Type} {d : Kd α} {S : Nat → Prop} {w : World} {A : Option Addr} {xs : List α} (h : Row d S w A xs) (i n : Nat) (hin : i + n ≤ xs.length) (hn : 0 < n) :
    ∃ b off, A = some ⟨b, off, none⟩ ∧ Row d S w (some ⟨b, off + i * d.sz, none⟩) ((xs.drop i).take n) := by
  obtain ⟨b, off, hA, hS, hb, hc⟩ := h.2 (by omega)
  have hl := h.1
  refine ⟨b, off, hA, ?_, fun _ => ⟨b, _, rfl, hS, hb, fun j x hx => ?_⟩⟩
  · rw [List.length_take, List.length_drop]
    omega
  · rw [List.getElem?_take] at hx
    split at hx
    · rw [List.getElem?_drop] at hx
      obtain ⟨cs, hr, hcell⟩ := hc _ x hx
      refine ⟨cs, hr, fun k u hu => ?_⟩
      have := hcell k u hu
      rw [Nat.add_mul] at this
      rw [Nat.add_assoc off, ]
      exact this
    · cases hx

theorem find_cells {T : Nat → Prop} {w : World} {base g cap : Nat} {x : DEntry} (h : OwnS kEntry 30 T w base (.slice (some ⟨g, 0, none⟩) [x].length cap) [x]) :
    ∃ D1 d1 D2 d2 D3 d3, (∀ (j : Nat) (u : Value), [.string x.key, .int .i64 x.v.kind, .string x.v.s, .slice D1 x.v.l.length d1, .slice D2 x.v.z.length d2, .slice D3 x.v.h.length d3, .int .i64 x.at_][j]? = some u → w.cell? ⟨g, j, none⟩ = some u) ∧ kEntry.R (fun k => T k ∧ g ≠ k) w x [.string x.key, .int .i64 x.v.kind, .string x.v.s, .slice D1 x.v.l.length d1, .slice D2 x.v.z.length d2, .slice D3 x.v.h.length d3, .int .i64 x.at_] ∧ [x].length ≤ cap := by
  obtain ⟨cs, hrow, _, hparts⟩ := h
  obtain ⟨P, el, Q, rfl, hP, hel⟩ := hparts.split (j := 0) (x := x) rfl
  have hP0 : P = [] := List.length_eq_zero_iff.1 (by simpa using hP)
  subst hP0
  obtain ⟨D1, d1, D2, d2, D3, d3, rfl, r⟩ := hel
  have hrow7 : w.ownsRow base 30 7 (.slice (some ⟨g, 0, none⟩) 1 cap) 1 ([.string x.key, .int .i64 x.v.kind, .string x.v.s, .slice D1 x.v.l.length d1, .slice D2 x.v.z.length d2, .slice D3 x.v.h.length d3, .int .i64 x.at_] ++ Q) := hrow
  have hcap : 1 ≤ cap := by
    rcases hrow7.2 with ⟨h0, _⟩ | ⟨g', cap', cur, he, _, _, hn, _⟩
    · cases h0
    · injection he with _ _ e3
      omega
  refine ⟨D1, d1, D2, d2, D3, d3, fun j u hj => ?_, kEntry.move (fun k hk _ => ⟨rfl, hk.1, fun e => hk.2 (by rw [e]; rfl)⟩) ⟨D1, d1, D2, d2, D3, d3, rfl, r⟩, hcap⟩
  have hj7 : j < 7 := (List.getElem?_eq_some_iff.1 hj).1
  rw [hrow7.cellAt j (by omega), List.getElem?_append_left (by simpa using hj7)]
  exact hj

def zeroE : DEntry := ⟨⟨#[]⟩, ⟨0, ⟨#[]⟩, [], [], []⟩, 0⟩
def findD (l : List DEntry) (key : ByteArray) : DEntry × Bool := match l.findIdx? (keyB key) with | some i => (l[i]?.getD zeroE, true) | none => (zeroE, false)
def FindPost (l : List DEntry) (key : ByteArray) (w : World) (e : Ending) (w' : World) : Prop :=
  ∃ ds, e = .returned (.tuple #[.agg ds.toArray, .bool (findD l key).2]) ∧ kEntry.R (fun _ => True) w' (findD l key).1 ds ∧ Below w.heap.size w w'

theorem findIdx?_some_lt {α : Type} {p : α → Bool} {l : List α} {i : Nat} (h : l.findIdx? p = some i) : i < l.length := by
  have := List.findIdx?_eq_some_iff_getElem.1 h
  exact this.1

set_option maxHeartbeats 1000000 in
theorem Find {S : Nat → Prop} {A : Option Addr} {l : List DEntry} {c : Nat} {w : World} (key : ByteArray) (h : Row kEntry S w A l) (hlc : l.length ≤ c) (hc63 : c ≤ 9223372036854775807) (hf : rowFits l) :
    Calls Tryz.prog 10 #[.slice A l.length c, .string key] w (FindPost l key w) := by
  have hP := fun (W : World) (hb : Below w.heap.size w W) => place (c := c) key (h.move (below_moves hb))
  unfold placeN idxW at hP
  have hl := h.1
  cases hi : l.findIdx? (keyB key) with
  | none =>
    have hfd : findD l key = (zeroE, false) := by simp [findD, hi]
    rw [hi] at hP
    have HD := Lib.hid hfd
    clear hfd h hi
    go_enter Tryz.func10, Tryz.ntmps10
    go_upto_region 1 with fail
    obtain ⟨W, hW⟩ : ∃ W, W = w.alloc (.cells #[.string ⟨#[]⟩, .int .i64 0, .string ⟨#[]⟩, .slice none 0 0, .slice none 0 0, .slice none 0 0, .int .i64 0] 30) := ⟨_, rfl⟩
    rw [← hW]
    have hB : Below w.heap.size w W := by rw [hW]; exact (Below.refl _ _).alloc (Nat.le_refl _) _
    have hz0 : w.heap.size < W.heap.size := by rw [hW]; simp
    have t0 : W.cell? ⟨w.heap.size, 0, none⟩ = some (.string ⟨#[]⟩) := by rw [hW]; go_simp
    have u0 : W.frozen? ⟨w.heap.size, 0, none⟩ = false := by rw [hW]; go_simp
    have t1 : W.cell? ⟨w.heap.size, 1, none⟩ = some (.int .i64 0) := by rw [hW]; go_simp
    have u1 : W.frozen? ⟨w.heap.size, 1, none⟩ = false := by rw [hW]; go_simp
    have t2 : W.cell? ⟨w.heap.size, 2, none⟩ = some (.string ⟨#[]⟩) := by rw [hW]; go_simp
    have u2 : W.frozen? ⟨w.heap.size, 2, none⟩ = false := by rw [hW]; go_simp
    have t3 : W.cell? ⟨w.heap.size, 3, none⟩ = some (.slice none 0 0) := by rw [hW]; go_simp
    have u3 : W.frozen? ⟨w.heap.size, 3, none⟩ = false := by rw [hW]; go_simp
    have t4 : W.cell? ⟨w.heap.size, 4, none⟩ = some (.slice none 0 0) := by rw [hW]; go_simp
    have u4 : W.frozen? ⟨w.heap.size, 4, none⟩ = false := by rw [hW]; go_simp
    have t5 : W.cell? ⟨w.heap.size, 5, none⟩ = some (.slice none 0 0) := by rw [hW]; go_simp
    have u5 : W.frozen? ⟨w.heap.size, 5, none⟩ = false := by rw [hW]; go_simp
    have t6 : W.cell? ⟨w.heap.size, 6, none⟩ = some (.int .i64 0) := by rw [hW]; go_simp
    have u6 : W.frozen? ⟨w.heap.size, 6, none⟩ = false := by rw [hW]; go_simp
    clear hW
    go_wp2_with (go_at_call 31; refine (hP _ hB).mono ?_; rintro e w1 ⟨rfl, b1⟩; have B1 := below_trans' hB b1; have s1 : w.heap.size < w1.heap.size := Nat.lt_of_lt_of_le hz0 b1.size; replace t0 := (b1.cell (p := ⟨w.heap.size, 0, none⟩) hz0).trans t0; replace u0 := (b1.frozen (p := ⟨w.heap.size, 0, none⟩) hz0).trans u0; replace t1 := (b1.cell (p := ⟨w.heap.size, 1, none⟩) hz0).trans t1; replace u1 := (b1.frozen (p := ⟨w.heap.size, 1, none⟩) hz0).trans u1; replace t2 := (b1.cell (p := ⟨w.heap.size, 2, none⟩) hz0).trans t2; replace u2 := (b1.frozen (p := ⟨w.heap.size, 2, none⟩) hz0).trans u2; replace t3 := (b1.cell (p := ⟨w.heap.size, 3, none⟩) hz0).trans t3; replace u3 := (b1.frozen (p := ⟨w.heap.size, 3, none⟩) hz0).trans u3; replace t4 := (b1.cell (p := ⟨w.heap.size, 4, none⟩) hz0).trans t4; replace u4 := (b1.frozen (p := ⟨w.heap.size, 4, none⟩) hz0).trans u4; replace t5 := (b1.cell (p := ⟨w.heap.size, 5, none⟩) hz0).trans t5; replace u5 := (b1.frozen (p := ⟨w.heap.size, 5, none⟩) hz0).trans u5; replace t6 := (b1.cell (p := ⟨w.heap.size, 6, none⟩) hz0).trans t6; replace u6 := (b1.frozen (p := ⟨w.heap.size, 6, none⟩) hz0).trans u6)
    refine bodyPost_ret (v := .tuple #[.agg #[.string ⟨#[]⟩, .int .i64 0, .string ⟨#[]⟩, .slice none 0 0, .slice none 0 0, .slice none 0 0, .int .i64 0], .bool false]) (by simp [results, Tryz.results10, go_sem, t0, t1, t2, t3, t4, t5, t6]) rfl ?_
    refine ⟨[.string ⟨#[]⟩, .int .i64 0, .string ⟨#[]⟩, .slice none 0 0, .slice none 0 0, .slice none 0 0, .int .i64 0], by rw [HD.out], ?_, ?_⟩
    · rw [HD.out]
      exact ⟨none, 0, none, 0, none, 0, rfl, ⟨Nat.zero_le _, by simp [zeroE], by simp [zeroE]⟩, none, 0, none, 0, none, 0, rfl, by decide, by decide, by decide, by simp [zeroE], by simp [zeroE], by simp [zeroE], Row.nil _ _ _ _, Row.nil _ _ _ _, Row.nil _ _ _ _⟩
    · exact ((((((B1.setCell (Nat.le_refl _) _).setCell (Nat.le_refl _) _).setCell (Nat.le_refl _) _).setCell (Nat.le_refl _) _).setCell (Nat.le_refl _) _).setCell (Nat.le_refl _) _).setCell (Nat.le_refl _) _
  | some i =>
    have hin := findIdx?_some_lt hi
    obtain ⟨x, hx⟩ : ∃ x, l[i]? = some x := ⟨_, List.getElem?_eq_getElem hin⟩
    have hfd : findD l key = (x, true) := by simp [findD, hi, hx]
    rw [hi] at hP
    have HD := Lib.hid hfd
    obtain ⟨b, off, rfl, hsub⟩ := h.old.sub i 1 (by omega) (by decide)
    have h1x : (l.drop i).take 1 = [x] := by
      rw [List.drop_eq_getElem_cons hin, List.take_succ_cons, List.take_zero]
      obtain ⟨_, e⟩ := List.getElem?_eq_some_iff.1 hx
      rw [e]
    rw [h1x] at hsub
    have hf1 : rowFits [x] := ⟨by simp, fun e he => by rw [List.mem_singleton.1 he]; exact hf.2 x (List.mem_of_getElem? hx)⟩
    have hO := fun (W : World) (hb : Below w.heap.size w W) => ownedS (c := c - i) (hsub.move (below_moves hb)) hf1
    have HX := Lib.hid hx
    clear hfd h hi hsub h1x hf1 hx
    have q1 : (i : Int) + 1 ≤ (l.length : Int) := by omega
    have q2 : i + 1 - i = 1 := by omega
    have q3 : ((i : Int) + 1).toNat = i + 1 := by omega
    have q4 : ¬ c = i := by omega
    have q5 : (i : Int) + 1 ≤ (c : Int) := by omega
    go_enter Tryz.func10, Tryz.ntmps10
    go_upto_region 1 with fail
    obtain ⟨W, hW⟩ : ∃ W, W = w.alloc (.cells #[.string ⟨#[]⟩, .int .i64 0, .string ⟨#[]⟩, .slice none 0 0, .slice none 0 0, .slice none 0 0, .int .i64 0] 30) := ⟨_, rfl⟩
    rw [← hW]
    have hB : Below w.heap.size w W := by rw [hW]; exact (Below.refl _ _).alloc (Nat.le_refl _) _
    have hz0 : w.heap.size < W.heap.size := by rw [hW]; simp
    have t0 : W.cell? ⟨w.heap.size, 0, none⟩ = some (.string ⟨#[]⟩) := by rw [hW]; go_simp
    have u0 : W.frozen? ⟨w.heap.size, 0, none⟩ = false := by rw [hW]; go_simp
    have t1 : W.cell? ⟨w.heap.size, 1, none⟩ = some (.int .i64 0) := by rw [hW]; go_simp
    have u1 : W.frozen? ⟨w.heap.size, 1, none⟩ = false := by rw [hW]; go_simp
    have t2 : W.cell? ⟨w.heap.size, 2, none⟩ = some (.string ⟨#[]⟩) := by rw [hW]; go_simp
    have u2 : W.frozen? ⟨w.heap.size, 2, none⟩ = false := by rw [hW]; go_simp
    have t3 : W.cell? ⟨w.heap.size, 3, none⟩ = some (.slice none 0 0) := by rw [hW]; go_simp
    have u3 : W.frozen? ⟨w.heap.size, 3, none⟩ = false := by rw [hW]; go_simp
    have t4 : W.cell? ⟨w.heap.size, 4, none⟩ = some (.slice none 0 0) := by rw [hW]; go_simp
    have u4 : W.frozen? ⟨w.heap.size, 4, none⟩ = false := by rw [hW]; go_simp
    have t5 : W.cell? ⟨w.heap.size, 5, none⟩ = some (.slice none 0 0) := by rw [hW]; go_simp
    have u5 : W.frozen? ⟨w.heap.size, 5, none⟩ = false := by rw [hW]; go_simp
    have t6 : W.cell? ⟨w.heap.size, 6, none⟩ = some (.int .i64 0) := by rw [hW]; go_simp
    have u6 : W.frozen? ⟨w.heap.size, 6, none⟩ = false := by rw [hW]; go_simp
    clear hW
    go_wp2_with (first
      | (go_at_call 31; refine (hP _ hB).mono ?_; rintro e w1 ⟨rfl, b1⟩; have B1 := below_trans' hB b1; have s1 : w.heap.size < w1.heap.size := Nat.lt_of_lt_of_le hz0 b1.size; replace t0 := (b1.cell (p := ⟨w.heap.size, 0, none⟩) hz0).trans t0; replace u0 := (b1.frozen (p := ⟨w.heap.size, 0, none⟩) hz0).trans u0; replace t1 := (b1.cell (p := ⟨w.heap.size, 1, none⟩) hz0).trans t1; replace u1 := (b1.frozen (p := ⟨w.heap.size, 1, none⟩) hz0).trans u1; replace t2 := (b1.cell (p := ⟨w.heap.size, 2, none⟩) hz0).trans t2; replace u2 := (b1.frozen (p := ⟨w.heap.size, 2, none⟩) hz0).trans u2; replace t3 := (b1.cell (p := ⟨w.heap.size, 3, none⟩) hz0).trans t3; replace u3 := (b1.frozen (p := ⟨w.heap.size, 3, none⟩) hz0).trans u3; replace t4 := (b1.cell (p := ⟨w.heap.size, 4, none⟩) hz0).trans t4; replace u4 := (b1.frozen (p := ⟨w.heap.size, 4, none⟩) hz0).trans u4; replace t5 := (b1.cell (p := ⟨w.heap.size, 5, none⟩) hz0).trans t5; replace u5 := (b1.frozen (p := ⟨w.heap.size, 5, none⟩) hz0).trans u5; replace t6 := (b1.cell (p := ⟨w.heap.size, 6, none⟩) hz0).trans t6; replace u6 := (b1.frozen (p := ⟨w.heap.size, 6, none⟩) hz0).trans u6)
      | (go_at_call 23; go_loud (refine (hO _ B1).mono ?_; rintro e w2 ⟨v2, rfl, o2, b2⟩; obtain ⟨g, cap, rfl, hgb, hgl⟩ := o2.weak.form Nat.zero_lt_one; obtain ⟨D1, d1, D2, d2, D3, d3, hcell, hR, hkR⟩ := find_cells o2; have f0 : w2.cell? ⟨g, 0, none⟩ = some (.string x.key) := hcell 0 _ rfl; have f1 : w2.cell? ⟨g, 1, none⟩ = some (.int .i64 x.v.kind) := hcell 1 _ rfl; have f2 : w2.cell? ⟨g, 2, none⟩ = some (.string x.v.s) := hcell 2 _ rfl; have f3 : w2.cell? ⟨g, 3, none⟩ = some (.slice D1 x.v.l.length d1) := hcell 3 _ rfl; have f4 : w2.cell? ⟨g, 4, none⟩ = some (.slice D2 x.v.z.length d2) := hcell 4 _ rfl; have f5 : w2.cell? ⟨g, 5, none⟩ = some (.slice D3 x.v.h.length d3) := hcell 5 _ rfl; have f6 : w2.cell? ⟨g, 6, none⟩ = some (.int .i64 x.at_) := hcell 6 _ rfl; clear hcell; have HR := Lib.hid hR; clear hR o2; have B2 := below_trans' B1 b2; have s2 : w.heap.size < w2.heap.size := Nat.lt_of_lt_of_le s1 b2.size; replace t0 := (b2.cell (p := ⟨w.heap.size, 0, none⟩) s1).trans t0; replace u0 := (b2.frozen (p := ⟨w.heap.size, 0, none⟩) s1).trans u0; replace t1 := (b2.cell (p := ⟨w.heap.size, 1, none⟩) s1).trans t1; replace u1 := (b2.frozen (p := ⟨w.heap.size, 1, none⟩) s1).trans u1; replace t2 := (b2.cell (p := ⟨w.heap.size, 2, none⟩) s1).trans t2; replace u2 := (b2.frozen (p := ⟨w.heap.size, 2, none⟩) s1).trans u2; replace t3 := (b2.cell (p := ⟨w.heap.size, 3, none⟩) s1).trans t3; replace u3 := (b2.frozen (p := ⟨w.heap.size, 3, none⟩) s1).trans u3; replace t4 := (b2.cell (p := ⟨w.heap.size, 4, none⟩) s1).trans t4; replace u4 := (b2.frozen (p := ⟨w.heap.size, 4, none⟩) s1).trans u4; replace t5 := (b2.cell (p := ⟨w.heap.size, 5, none⟩) s1).trans t5; replace u5 := (b2.frozen (p := ⟨w.heap.size, 5, none⟩) s1).trans u5; replace t6 := (b2.cell (p := ⟨w.heap.size, 6, none⟩) s1).trans t6; replace u6 := (b2.frozen (p := ⟨w.heap.size, 6, none⟩) s1).trans u6)))
    refine bodyPost_ret (v := .tuple #[.agg #[.string x.key, .int .i64 x.v.kind, .string x.v.s, .slice D1 x.v.l.length d1, .slice D2 x.v.z.length d2, .slice D3 x.v.h.length d3, .int .i64 x.at_], .bool true]) (by simp [results, Tryz.results10, go_sem, t0, t1, t2, t3, t4, t5, t6]) rfl ?_
    refine ⟨[.string x.key, .int .i64 x.v.kind, .string x.v.s, .slice D1 x.v.l.length d1, .slice D2 x.v.z.length d2, .slice D3 x.v.h.length d3, .int .i64 x.at_], by rw [HD.out], ?_, ?_⟩
    · rw [HD.out]
      refine kEntry.move (fun k hk hlt => ⟨?_, trivial⟩) HR.out
      have hkb : k ≠ w.heap.size := by
        rcases hk.1 with h | h
        · omega
        · omega
      rw [Below.heap_setCell _ _ _ _ hkb, Below.heap_setCell _ _ _ _ hkb, Below.heap_setCell _ _ _ _ hkb, Below.heap_setCell _ _ _ _ hkb, Below.heap_setCell _ _ _ _ hkb, Below.heap_setCell _ _ _ _ hkb, Below.heap_setCell _ _ _ _ hkb]
    · exact ((((((B2.setCell (Nat.le_refl _) _).setCell (Nat.le_refl _) _).setCell (Nat.le_refl _) _).setCell (Nat.le_refl _) _).setCell (Nat.le_refl _) _).setCell (Nat.le_refl _) _).setCell (Nat.le_refl _) _
end Go.Proofs.YtkgghnjpegpnlaaGreatDoor
