/- What an argument's data say of the memory: strings, rows, values, entries. Conditions: the argument reads as data within the reach. -/
import Derived.Test.YtkgghnjpegpnlaaGreatDoorOwn
import Derived.DataReads
import Derived.ChangeArms
import Derived.Deep.Slices
import Derived.OpenShut
namespace Go.Proofs.YtkgghnjpegpnlaaGreatDoor
open Go.RowKit Go.Proofs Go.Deep
set_option linter.unusedSimpArgs false
set_option linter.unusedVariables false
set_option maxRecDepth 100000

section
variable {H : Type} {enc : TypeId × Value → H} {W : World} {base : Nat} {sp : Nat → Bool} {held : Bool} {fuel : Nat} {cs : List Value} {x : DataW H × List MemPlace}

/-- All that is weighed lies within the reach. -/
def Fit (t : TypeId) (d : DataW H) : Prop := ∀ q ∈ d.weights Tryz.prog t, q ≤ reachBytes

theorem weightsAll_mem {e : TypeId} {l : List (DataW H)} {d : DataW H} (hd : d ∈ l) {q : Nat} (hq : q ∈ d.weights Tryz.prog e) : q ∈ DataW.weightsAll Tryz.prog e l := by
  induction l with
  | nil => cases hd
  | cons y l ih =>
    simp only [DataW.weightsAll, List.mem_append]
    rcases List.mem_cons.1 hd with rfl | hd
    · exact .inl hq
    · exact .inr (ih hd)

theorem readStr {t : TypeId} (ht : Tryz.prog.underlying t = some .string) (h : DataW.trod enc Tryz.prog W base sp held fuel t cs = some x) (hw : Fit t x.1) : ∃ s, cs = [.string s] ∧ s.size ≤ 140737488355328 := by
  obtain ⟨s, rfl, rfl, _⟩ := DataW.trod_string ht h
  refine ⟨s, rfl, ?_⟩
  have := hw s.data.toList.length (by simp only [DataW.weights, List.mem_singleton])
  unfold reachBytes at this
  have e : s.data.toList.length = s.size := Array.length_toList
  omega

theorem readInt {t : TypeId} (ht : Tryz.prog.underlying t = some (.int .i64)) (h : DataW.trod enc Tryz.prog W base sp held fuel t cs = some x) : ∃ n, cs = [.int .i64 n] ∧ -9223372036854775808 ≤ n ∧ n ≤ 9223372036854775807 := by
  obtain ⟨n, rfl, rfl, hwf⟩ := DataW.trod_int ht h
  refine ⟨n, rfl, ?_⟩
  simp [Lit.wf, IntKind.min, IntKind.max, IntKind.signed, IntKind.bits] at hwf
  omega

theorem addr_add_zero (a : Addr) : a.add 0 = a := by unfold Addr.add; simp
theorem cell_spot {w : World} {a : Addr} {v : Value} (h : w.cell? a = some v) : a.spot = none := by
  unfold World.cell? at h
  split at h
  · split at h
    · cases h
    · rename_i hs
      simpa using hs
  · cases h

/-- A slice, its elements read by a kind. -/
theorem readSlice {α : Type} {d : Kd α} {t e : TypeId} (ht : Tryz.prog.underlying t = some (.slice e)) (hsz : Tryz.prog.cellsOf e = d.sz) (hby : 1 ≤ Tryz.prog.bytesOf e)
    (hel : ∀ (fuel : Nat) (cs : List Value) (y : DataW H × List MemPlace), DataW.trod enc Tryz.prog W base sp held fuel e cs = some y → Fit e y.1 → ∃ z, d.R (fun _ => True) W z cs)
    (h : DataW.trod enc Tryz.prog W base sp held fuel t cs = some x) (hw : Fit t x.1) :
    ∃ A xs c, cs = [.slice A xs.length c] ∧ xs.length ≤ c ∧ c ≤ 9223372036854775807 ∧ Row d (fun _ => True) W A xs := by
  rcases open_slice ht h with ⟨rfl, rfl⟩ | ⟨a, len, cap, m, n, D, Pl, rfl, hb, hl, hm, hmm, rfl, hi⟩
  · exact ⟨none, [], 0, rfl, Nat.le_refl _, by omega, Row.nil _ _ _ _⟩
  · have hlm : len ≤ m := by rw [hmm]; split <;> omega
    have hlen : len ≤ reachBytes := by
      have h1 := hw ((len + (m - len)) * Tryz.prog.bytesOf e) (by simp only [DataW.weights, ht, List.length_map, List.length_range]; exact List.mem_cons_self)
      have h2 : len * 1 ≤ (len + (m - len)) * Tryz.prog.bytesOf e := Nat.mul_le_mul (by omega) hby
      omega
    have hz : ∀ i, i < len → ∃ z, ∃ cs', W.cells? base (a.add (i * d.sz)) d.sz = some cs' ∧ d.R (fun _ => True) W z cs' := by
      intro i hil
      obtain ⟨cs', hc, ht'⟩ := hi i (by omega)
      rw [hsz] at hc
      obtain ⟨z, hz⟩ := hel n cs' (D i, Pl i) ht' (fun q hq => hw q (by
        simp only [DataW.weights, ht, List.mem_cons, List.mem_append]
        exact .inr (.inl (weightsAll_mem (List.mem_map.2 ⟨i, List.mem_range.2 hil, rfl⟩) hq))))
      exact ⟨z, cs', hc, hz⟩
    refine ⟨some a, List.ofFn (n := len) fun i => (hz i.1 i.2).choose, cap, by rw [List.length_ofFn], by rw [List.length_ofFn]; exact hl, by simpa [maxLen] using hm, ?_, fun hp => ?_⟩
    · rw [List.length_ofFn]
      unfold reachBytes at hlen
      omega
    · rw [List.length_ofFn] at hp
      obtain ⟨cs0, hc0, hr0⟩ := (hz 0 hp).choose_spec
      obtain ⟨_, hl0, hat0⟩ := World.cells?_some hc0
      have hcell0 := hat0 0 d.pos
      have hu : ∃ u, cs0[0]? = some u := ⟨_, List.getElem?_eq_getElem (by rw [hl0]; exact d.pos)⟩
      obtain ⟨u, hu⟩ := hu
      rw [hu] at hcell0
      have hspot : a.spot = none := by
        have := cell_spot hcell0
        rwa [Nat.zero_mul, addr_add_zero, addr_add_zero] at this
      obtain ⟨b, off, spot⟩ := a
      cases hspot
      have hblk : b < W.heap.size := by
        have := World.block_lt_of_cell? W _ hcell0
        rwa [Addr.add_lit, Addr.add_lit] at this
      refine ⟨b, off, rfl, trivial, hblk, fun j y hy => ?_⟩
      rw [List.getElem?_ofFn] at hy
      split at hy
      · rename_i hj
        cases hy
        obtain ⟨cs', hc, hr⟩ := (hz j hj).choose_spec
        obtain ⟨_, hl', hat⟩ := World.cells?_some hc
        refine ⟨cs', hr, fun i u hu => ?_⟩
        have hil : i < d.sz := by rw [← hl']; exact (List.getElem?_eq_some_iff.1 hu).1
        have := hat i hil
        rw [Addr.add_lit, Addr.add_lit] at this
        rw [this]
        exact hu
      · cases hy

theorem readScored (h : DataW.trod enc Tryz.prog W base sp held fuel 70 cs = some x) (hw : Fit 70 x.1) : ∃ z, kScored.R (fun _ => True) W z cs := by
  obtain ⟨xs, n, _, rfl, hlen, hxl, hf⟩ := DataW.trod_struct Tryz.underlying70 h
  have hcl : cs.length = 2 := hlen.trans (by kernel_rfl)
  match xs, hxl with
  | [y0, y1], _ =>
    have h0 := hf 0 _ rfl
    have h1 := hf 1 _ rfl
    match cs, hcl with
    | [c0, c1], _ =>
      have hw0 : Fit 9 y0.1 := fun q hq => hw q (by simp [DataW.weights, Tryz.underlying70, DataW.weightsEach, hq])
      obtain ⟨s, hs, hsz⟩ := readStr Tryz.underlying9 (show DataW.trod enc Tryz.prog W base sp held n 9 [c0] = some y0 from h0) hw0
      obtain ⟨k, hk, hk1, hk2⟩ := readInt Tryz.underlying2 (show DataW.trod enc Tryz.prog W base sp held n 2 [c1] = some y1 from h1)
      cases hs
      cases hk
      exact ⟨⟨s, k⟩, rfl, hsz, hk1, hk2⟩

theorem readField (h : DataW.trod enc Tryz.prog W base sp held fuel 74 cs = some x) (hw : Fit 74 x.1) : ∃ z, kField.R (fun _ => True) W z cs := by
  obtain ⟨xs, n, _, rfl, hlen, hxl, hf⟩ := DataW.trod_struct Tryz.underlying74 h
  have hcl : cs.length = 2 := hlen.trans (by kernel_rfl)
  match xs, hxl with
  | [y0, y1], _ =>
    have h0 := hf 0 _ rfl
    have h1 := hf 1 _ rfl
    match cs, hcl with
    | [c0, c1], _ =>
      have hw0 : Fit 9 y0.1 := fun q hq => hw q (by simp [DataW.weights, Tryz.underlying74, DataW.weightsEach, hq])
      have hw1 : Fit 9 y1.1 := fun q hq => hw q (by simp [DataW.weights, Tryz.underlying74, DataW.weightsEach, hq])
      obtain ⟨s, hs, hsz⟩ := readStr Tryz.underlying9 (show DataW.trod enc Tryz.prog W base sp held n 9 [c0] = some y0 from h0) hw0
      obtain ⟨s', hs', hsz'⟩ := readStr Tryz.underlying9 (show DataW.trod enc Tryz.prog W base sp held n 9 [c1] = some y1 from h1) hw1
      cases hs
      cases hs'
      exact ⟨⟨s, s'⟩, rfl, hsz, hsz'⟩

theorem readStrK (h : DataW.trod enc Tryz.prog W base sp held fuel 9 cs = some x) (hw : Fit 9 x.1) : ∃ z, kStr.R (fun _ => True) W z cs := by
  obtain ⟨s, rfl, hs⟩ := readStr Tryz.underlying9 h hw
  exact ⟨s, rfl, hs⟩

theorem readVal (h : DataW.trod enc Tryz.prog W base sp held fuel 28 cs = some x) (hw : Fit 28 x.1) : ∃ z, kVal.R (fun _ => True) W z cs := by
  obtain ⟨xs, n, _, rfl, hlen, hxl, hf⟩ := DataW.trod_struct Tryz.underlying28 h
  have hcl : cs.length = 5 := hlen.trans (by kernel_rfl)
  match xs, hxl with
  | [y0, y1, y2, y3, y4], _ =>
    have h0 := hf 0 _ rfl
    have h1 := hf 1 _ rfl
    have h2 := hf 2 _ rfl
    have h3 := hf 3 _ rfl
    have h4 := hf 4 _ rfl
    match cs, hcl with
    | [c0, c1, c2, c3, c4], _ =>
      have hw1 : Fit 9 y1.1 := fun q hq => hw q (by simp [DataW.weights, Tryz.underlying28, DataW.weightsEach, hq])
      have hw2 : Fit 24 y2.1 := fun q hq => hw q (by simp [DataW.weights, Tryz.underlying28, DataW.weightsEach, hq])
      have hw3 : Fit 25 y3.1 := fun q hq => hw q (by simp [DataW.weights, Tryz.underlying28, DataW.weightsEach, hq])
      have hw4 : Fit 26 y4.1 := fun q hq => hw q (by simp [DataW.weights, Tryz.underlying28, DataW.weightsEach, hq])
      obtain ⟨k, hk, hk1, hk2⟩ := readInt Tryz.underlying23 (show DataW.trod enc Tryz.prog W base sp held n 23 [c0] = some y0 from h0)
      obtain ⟨s, hs, hsz⟩ := readStr Tryz.underlying9 (show DataW.trod enc Tryz.prog W base sp held n 9 [c1] = some y1 from h1) hw1
      obtain ⟨A1, l1, d1, hl1, g1, g1', r1⟩ := readSlice (d := kStr) Tryz.underlying24 (by kernel_rfl) (by decide +kernel) (fun _ _ _ h hw => readStrK h hw) (show DataW.trod enc Tryz.prog W base sp held n 24 [c2] = some y2 from h2) hw2
      obtain ⟨A2, l2, d2, hl2, g2, g2', r2⟩ := readSlice (d := kScored) Tryz.underlying25 (by kernel_rfl) (by decide +kernel) (fun _ _ _ h hw => readScored h hw) (show DataW.trod enc Tryz.prog W base sp held n 25 [c3] = some y3 from h3) hw3
      obtain ⟨A3, l3, d3, hl3, g3, g3', r3⟩ := readSlice (d := kField) Tryz.underlying26 (by kernel_rfl) (by decide +kernel) (fun _ _ _ h hw => readField h hw) (show DataW.trod enc Tryz.prog W base sp held n 26 [c4] = some y4 from h4) hw4
      cases hk
      cases hs
      cases hl1
      cases hl2
      cases hl3
      exact ⟨⟨k, s, l1, l2, l3⟩, A1, d1, A2, d2, A3, d3, rfl, hk1, hk2, hsz, ⟨g1, g1'⟩, ⟨g2, g2'⟩, ⟨g3, g3'⟩, r1, r2, r3⟩

theorem readEntry (h : DataW.trod enc Tryz.prog W base sp held fuel 30 cs = some x) (hw : Fit 30 x.1) : ∃ z, kEntry.R (fun _ => True) W z cs := by
  obtain ⟨xs, n, _, rfl, hlen, hxl, hf⟩ := DataW.trod_struct Tryz.underlying30 h
  have hcl : cs.length = 7 := hlen.trans (by kernel_rfl)
  have hc5 : Tryz.prog.cellsOf 28 = 5 := by kernel_rfl
  match xs, hxl with
  | [y0, y1, y2], _ =>
    have h0 := hf 0 _ rfl
    have h1 := hf 1 _ rfl
    have h2 := hf 2 _ rfl
    match cs, hcl with
    | [c0, c1, c2, c3, c4, c5, c6], _ =>
      have hw0 : Fit 9 y0.1 := fun q hq => hw q (by simp [DataW.weights, Tryz.underlying30, DataW.weightsEach, hq])
      have hw1 : Fit 28 y1.1 := fun q hq => hw q (by simp [DataW.weights, Tryz.underlying30, DataW.weightsEach, hq])
      obtain ⟨s, hs, hsz⟩ := readStr Tryz.underlying9 (show DataW.trod enc Tryz.prog W base sp held n 9 [c0] = some y0 from h0) hw0
      obtain ⟨k, hk, hk1, hk2⟩ := readInt Tryz.underlying3 (show DataW.trod enc Tryz.prog W base sp held n 3 [c6] = some y2 from h2)
      have h1 : DataW.trod enc Tryz.prog W base sp held n 28 (([c0, c1, c2, c3, c4, c5, c6].drop 1).take (Tryz.prog.cellsOf 28)) = some y1 := h1
      rw [hc5] at h1
      obtain ⟨v, A1, d1, A2, d2, A3, d3, hv, hr⟩ := readVal (show DataW.trod enc Tryz.prog W base sp held n 28 [c1, c2, c3, c4, c5] = some y1 from h1) hw1
      cases hs
      cases hk
      cases hv
      exact ⟨⟨s, v, k⟩, A1, d1, A2, d2, A3, d3, rfl, ⟨hsz, hk1, hk2⟩, A1, d1, A2, d2, A3, d3, rfl, hr⟩
theorem readEntries (h : DataW.trod enc Tryz.prog W base sp held fuel 22 cs = some x) (hw : Fit 22 x.1) : ∃ A xs c, cs = [.slice A xs.length c] ∧ xs.length ≤ c ∧ c ≤ 9223372036854775807 ∧ Row kEntry (fun _ => True) W A xs :=
  readSlice (d := kEntry) Tryz.underlying22 (by kernel_rfl) (by decide +kernel) (fun _ _ _ h hw => readEntry h hw) h hw
end
end Go.Proofs.YtkgghnjpegpnlaaGreatDoor
