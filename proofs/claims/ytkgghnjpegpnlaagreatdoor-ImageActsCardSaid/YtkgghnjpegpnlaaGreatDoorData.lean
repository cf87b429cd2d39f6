/- How data lie in memory: kinds of values that are read ('Kd'), rows of them ('Row'), and what moves them from world to world. -/
import Derived.Test.YtkgghnjpegpnlaaGreatDoorProg
import Derived.WalkKit
import Derived.Below
import Derived.Lib.Hide
import Derived.Deep.QuietTactic
import Derived.BigQuiet
import Derived.StillTailTactics
namespace Go.Proofs.YtkgghnjpegpnlaaGreatDoor
open Go.RowKit

/-- Kinds: how many cells, what they say; S: the blocks that are met on the way. -/
structure Kd (α : Type) where
  sz : Nat
  R : (Nat → Prop) → World → α → List Value → Prop
  pos : 0 < sz
  len : ∀ {S w x cs}, R S w x cs → cs.length = sz
  one : ∀ {S w x cs}, R S w x cs → ∀ u ∈ cs, u.oneCell' = true
  move : ∀ {S S' : Nat → Prop} {w w' : World} {x cs}, (∀ k, S k → k < w.heap.size → w'.heap[k]? = w.heap[k]? ∧ S' k) → R S w x cs → R S' w' x cs

def Row {α : Type} (d : Kd α) (S : Nat → Prop) (w : World) (A : Option Addr) (xs : List α) : Prop :=
  xs.length ≤ 140737488355328 ∧ (0 < xs.length → ∃ b off, A = some ⟨b, off, none⟩ ∧ S b ∧ b < w.heap.size ∧
    ∀ j x, xs[j]? = some x → ∃ cs, d.R S w x cs ∧ ∀ i u, cs[i]? = some u → w.cell? ⟨b, off + j * d.sz + i, none⟩ = some u)

theorem cell_moved {w w' : World} {b : Nat} (h : w'.heap[b]? = w.heap[b]?) (o : Nat) : w'.cell? ⟨b, o, none⟩ = w.cell? ⟨b, o, none⟩ :=
  World.cell?_of_block (w := w) (w' := w') (a := ⟨b, o, none⟩) h

theorem Row.move {α : Type} {d : Kd α} {S S' : Nat → Prop} {w w' : World} {A : Option Addr} {xs : List α}
    (hm : ∀ k, S k → k < w.heap.size → w'.heap[k]? = w.heap[k]? ∧ S' k) (h : Row d S w A xs) : Row d S' w' A xs := by
  obtain ⟨h1, h2⟩ := h
  refine ⟨h1, fun hp => ?_⟩
  obtain ⟨b, off, rfl, hS, hb, hc⟩ := h2 hp
  have hb' := hm b hS hb
  refine ⟨b, off, rfl, hb'.2, ?_, fun j x hx => ?_⟩
  · have := hb'.1
    rw [Array.getElem?_eq_getElem hb] at this
    exact (Array.getElem?_eq_some_iff.1 this).1
  · obtain ⟨cs, hr, hcell⟩ := hc j x hx
    exact ⟨cs, d.move hm hr, fun i u hu => by rw [cell_moved hb'.1]; exact hcell i u hu⟩

theorem Row.nil {α : Type} (d : Kd α) (S : Nat → Prop) (w : World) (A : Option Addr) : Row d S w A [] := ⟨by simp, fun h => by simp at h⟩

theorem Row.at_ {α : Type} {d : Kd α} {S : Nat → Prop} {w : World} {A : Option Addr} {xs : List α} (h : Row d S w A xs) {j : Nat} {x : α} (hx : xs[j]? = some x) :
    ∃ b off cs, A = some ⟨b, off, none⟩ ∧ S b ∧ b < w.heap.size ∧ d.R S w x cs ∧ ∀ i u, cs[i]? = some u → w.cell? ⟨b, off + j * d.sz + i, none⟩ = some u := by
  have hl : j < xs.length := (List.getElem?_eq_some_iff.1 hx).1
  obtain ⟨b, off, hA, hS, hb, hc⟩ := h.2 (by omega)
  obtain ⟨cs, hr, hcell⟩ := hc j x hx
  exact ⟨b, off, cs, hA, hS, hb, hr, hcell⟩

/-- Pure steps: new blocks alone. -/
theorem below_moves {S : Nat → Prop} {w w' : World} (hb : Below w.heap.size w w') : ∀ k, S k → k < w.heap.size → w'.heap[k]? = w.heap[k]? ∧ S k := fun k hS hk => ⟨hb.block k hk, hS⟩

/-- A later world: new blocks, draws; all that was there is as it was. -/
structure Later (w : World) where
  W : World
  below : Below w.heap.size w W

def Later.refl (w : World) : Later w := ⟨w, Below.refl _ _⟩
instance (w : World) : Nonempty (Later w) := ⟨Later.refl w⟩
def Later.next {w : World} (p : Later w) {W : World} (h : Below p.W.heap.size p.W W) : Later w := ⟨W, p.below.trans (h.mono p.below.size)⟩

theorem Later.cell {w : World} {a : Addr} {v : Value} (h : w.cell? a = some v) (p : Later w) : p.W.cell? a = some v :=
  (p.below.cell (World.block_lt_of_cell? w a h)).trans h

/-- A region that draws its order, whose operations only read and whose callees may lay new blocks. -/
theorem wp_region_later {P : Program} {id : Nat} {Q : Exit → Act → World → Prop} {a : Act} {w : World} {l : List Oper} (hm : P.follows .mixedOrders = true) (hB : Region.lexB .any l.toArray = true)
    (h : wpQuiet P l.toArray (fun w' => ∃ p : Later w, w' = p.W) (fun a' => ∀ w', (∃ p : Later w, w' = p.W) → Q .normal a' w') l a) : (Code.region id l.toArray true).wp P Q a w :=
  wp_region_quiet (C := fun w' => ∃ p : Later w, w' = p.W) hm hB ⟨⟨_, (Below.refl w.heap.size w).drew⟩, rfl⟩ (by simpa using h)

theorem Calls.later {P : Program} {f : FuncId} {args : Array Value} {w : World} {p : Later w} {v : Value}
    (h : Calls P f args p.W fun e w' => e = .returned v ∧ Below p.W.heap.size p.W w') : Calls P f args p.W fun e w'' => e = .returned v ∧ ∃ q : Later w, w'' = q.W :=
  h.mono fun _ _ ⟨he, hb⟩ => ⟨he, p.next hb, rfl⟩

/-- A region that draws its order: reads and calls that leave the world alone, then a tail in one order. -/
theorem wp_region_tail {P : Program} {id : Nat} {Q : Exit → Act → World → Prop} {a : Act} {w : World} {l : List Oper} (n : Nat) (hm : P.follows .mixedOrders = true) (hB : Region.lexTailB .any l.toArray n = true)
    (h : wpStill P l.toArray w.drew (fun a' => wpList P l.toArray Q (l.drop n) a' w.drew) (l.take n) a) : (Code.region id l.toArray true).wp P Q a w :=
  wp_region_still_tail n hm hB h

/-! ### the plain kinds -/
def kInt (k : IntKind) : Kd Int where
  sz := 1
  R := fun _ _ x cs => cs = [.int k x] ∧ (Lit.int k x).wf = true
  pos := by decide
  len := by
    rintro S w x cs ⟨rfl, _⟩
    rfl
  one := by
    rintro S w x cs ⟨rfl, _⟩ u hu
    rw [List.mem_singleton.1 hu]
    rfl
  move := fun _ h => h

def kStr : Kd ByteArray where
  sz := 1
  R := fun _ _ x cs => cs = [.string x] ∧ x.size ≤ 140737488355328
  pos := by decide
  len := by
    rintro S w x cs ⟨rfl, _⟩
    rfl
  one := by
    rintro S w x cs ⟨rfl, _⟩ u hu
    rw [List.mem_singleton.1 hu]
    rfl
  move := fun _ h => h

def SliceR {α : Type} (d : Kd α) (S : Nat → Prop) (w : World) (v : Value) (xs : List α) : Prop :=
  ∃ A c, v = .slice A xs.length c ∧ xs.length ≤ c ∧ c ≤ 9223372036854775807 ∧ Row d S w A xs

theorem SliceR.move {α : Type} {d : Kd α} {S S' : Nat → Prop} {w w' : World} {v : Value} {xs : List α}
    (hm : ∀ k, S k → k < w.heap.size → w'.heap[k]? = w.heap[k]? ∧ S' k) (h : SliceR d S w v xs) : SliceR d S' w' v xs := by
  obtain ⟨A, c, rfl, h1, h2, h3⟩ := h
  exact ⟨A, c, rfl, h1, h2, h3.move hm⟩

theorem SliceR.one {α : Type} {d : Kd α} {S : Nat → Prop} {w : World} {v : Value} {xs : List α} (h : SliceR d S w v xs) : v.oneCell' = true := by
  obtain ⟨A, c, rfl, _⟩ := h
  rfl

def kSlice {α : Type} (d : Kd α) : Kd (List α) where
  sz := 1
  R := fun S w x cs => ∃ v, cs = [v] ∧ SliceR d S w v x
  pos := by decide
  len := by
    rintro S w x cs ⟨v, rfl, _⟩
    rfl
  one := by
    rintro S w x cs ⟨v, rfl, h⟩ u hu
    rw [List.mem_singleton.1 hu]
    exact h.one
  move := by
    rintro S S' w w' x cs hm ⟨v, rfl, h⟩
    exact ⟨v, rfl, h.move hm⟩

/-! ### the document's structs -/
structure DScored where
  m : ByteArray
  n : Int
structure DField where
  f : ByteArray
  v : ByteArray
structure DVal where
  kind : Int
  s : ByteArray
  l : List ByteArray
  z : List DScored
  h : List DField
structure DEntry where
  key : ByteArray
  v : DVal
  at_ : Int

def kScored : Kd DScored where
  sz := 2
  R := fun _ _ x cs => cs = [.string x.m, .int .i64 x.n] ∧ x.m.size ≤ 140737488355328 ∧ -9223372036854775808 ≤ x.n ∧ x.n ≤ 9223372036854775807
  pos := by decide
  len := by
    rintro S w x cs ⟨rfl, _⟩
    rfl
  one := by
    rintro S w x cs ⟨rfl, _⟩ u hu
    simp only [List.mem_cons, List.mem_nil_iff, or_false] at hu
    rcases hu with rfl | rfl <;> rfl
  move := fun _ h => h

def kField : Kd DField where
  sz := 2
  R := fun _ _ x cs => cs = [.string x.f, .string x.v] ∧ x.f.size ≤ 140737488355328 ∧ x.v.size ≤ 140737488355328
  pos := by decide
  len := by
    rintro S w x cs ⟨rfl, _⟩
    rfl
  one := by
    rintro S w x cs ⟨rfl, _⟩ u hu
    simp only [List.mem_cons, List.mem_nil_iff, or_false] at hu
    rcases hu with rfl | rfl <;> rfl
  move := fun _ h => h

def ValR (S : Nat → Prop) (w : World) (x : DVal) (cs : List Value) : Prop :=
  ∃ A1 c1 A2 c2 A3 c3, cs = [.int .i64 x.kind, .string x.s, .slice A1 x.l.length c1, .slice A2 x.z.length c2, .slice A3 x.h.length c3] ∧
    -9223372036854775808 ≤ x.kind ∧ x.kind ≤ 9223372036854775807 ∧ x.s.size ≤ 140737488355328 ∧
    (x.l.length ≤ c1 ∧ c1 ≤ 9223372036854775807) ∧ (x.z.length ≤ c2 ∧ c2 ≤ 9223372036854775807) ∧ (x.h.length ≤ c3 ∧ c3 ≤ 9223372036854775807) ∧
    Row kStr S w A1 x.l ∧ Row kScored S w A2 x.z ∧ Row kField S w A3 x.h

theorem ValR.move {S S' : Nat → Prop} {w w' : World} {x : DVal} {cs : List Value}
    (hm : ∀ k, S k → k < w.heap.size → w'.heap[k]? = w.heap[k]? ∧ S' k) (h : ValR S w x cs) : ValR S' w' x cs := by
  obtain ⟨A1, c1, A2, c2, A3, c3, rfl, h1, h2, h3, h4, h5, h6, h7, h8, h9⟩ := h
  exact ⟨A1, c1, A2, c2, A3, c3, rfl, h1, h2, h3, h4, h5, h6, h7.move hm, h8.move hm, h9.move hm⟩

def kVal : Kd DVal where
  sz := 5
  R := ValR
  pos := by decide
  len := by
    rintro S w x cs ⟨A1, c1, A2, c2, A3, c3, rfl, _⟩
    rfl
  one := by
    rintro S w x cs ⟨A1, c1, A2, c2, A3, c3, rfl, _⟩ u hu
    simp only [List.mem_cons, List.mem_nil_iff, or_false] at hu
    rcases hu with rfl | rfl | rfl | rfl | rfl <;> rfl
  move := fun hm h => h.move hm

def EntryR (S : Nat → Prop) (w : World) (x : DEntry) (cs : List Value) : Prop :=
  ∃ A1 c1 A2 c2 A3 c3, cs = [.string x.key, .int .i64 x.v.kind, .string x.v.s, .slice A1 x.v.l.length c1, .slice A2 x.v.z.length c2, .slice A3 x.v.h.length c3, .int .i64 x.at_] ∧
    (x.key.size ≤ 140737488355328 ∧ -9223372036854775808 ≤ x.at_ ∧ x.at_ ≤ 9223372036854775807) ∧
    ValR S w x.v [.int .i64 x.v.kind, .string x.v.s, .slice A1 x.v.l.length c1, .slice A2 x.v.z.length c2, .slice A3 x.v.h.length c3]

theorem EntryR.move {S S' : Nat → Prop} {w w' : World} {x : DEntry} {cs : List Value}
    (hm : ∀ k, S k → k < w.heap.size → w'.heap[k]? = w.heap[k]? ∧ S' k) (h : EntryR S w x cs) : EntryR S' w' x cs := by
  obtain ⟨A1, c1, A2, c2, A3, c3, rfl, h1, h2⟩ := h
  exact ⟨A1, c1, A2, c2, A3, c3, rfl, h1, h2.move hm⟩

def kEntry : Kd DEntry where
  sz := 7
  R := EntryR
  pos := by decide
  len := by
    rintro S w x cs ⟨A1, c1, A2, c2, A3, c3, rfl, _⟩
    rfl
  one := by
    rintro S w x cs ⟨A1, c1, A2, c2, A3, c3, rfl, _⟩ u hu
    simp only [List.mem_cons, List.mem_nil_iff, or_false] at hu
    rcases hu with rfl | rfl | rfl | rfl | rfl | rfl | rfl <;> rfl
  move := fun hm h => h.move hm

/-- What a row's element gives, cell by cell, as the walk spells it. -/
theorem Row.str {S : Nat → Prop} {w : World} {A : Option Addr} {xs : List ByteArray} (h : Row kStr S w A xs) {j : Nat} {x : ByteArray} (hx : xs[j]? = some x) :
    ∃ b off, A = some ⟨b, off, none⟩ ∧ w.cell? ⟨b, off + j, none⟩ = some (.string x) ∧ kStr.R S w x [.string x] := by
  obtain ⟨b, off, cs, hA, _, _, ⟨rfl, hs⟩, hc⟩ := h.at_ hx
  have h0 := hc 0 _ rfl
  exact ⟨b, off, hA, by simpa [kStr] using h0, rfl, hs⟩

theorem Row.scored {S : Nat → Prop} {w : World} {A : Option Addr} {xs : List DScored} (h : Row kScored S w A xs) {j : Nat} {x : DScored} (hx : xs[j]? = some x) :
    ∃ b off, A = some ⟨b, off, none⟩ ∧ w.cell? ⟨b, off + j * 2, none⟩ = some (.string x.m) ∧ w.cell? ⟨b, off + j * 2 + 1, none⟩ = some (.int .i64 x.n) ∧ kScored.R S w x [.string x.m, .int .i64 x.n] := by
  obtain ⟨b, off, cs, hA, _, _, ⟨rfl, hs⟩, hc⟩ := h.at_ hx
  have h0 := hc 0 _ rfl
  have h1 := hc 1 _ rfl
  exact ⟨b, off, hA, by simpa [kScored] using h0, by simpa [kScored] using h1, rfl, hs⟩

theorem Row.field {S : Nat → Prop} {w : World} {A : Option Addr} {xs : List DField} (h : Row kField S w A xs) {j : Nat} {x : DField} (hx : xs[j]? = some x) :
    ∃ b off, A = some ⟨b, off, none⟩ ∧ w.cell? ⟨b, off + j * 2, none⟩ = some (.string x.f) ∧ w.cell? ⟨b, off + j * 2 + 1, none⟩ = some (.string x.v) ∧ kField.R S w x [.string x.f, .string x.v] := by
  obtain ⟨b, off, cs, hA, _, _, ⟨rfl, hs⟩, hc⟩ := h.at_ hx
  have h0 := hc 0 _ rfl
  have h1 := hc 1 _ rfl
  exact ⟨b, off, hA, by simpa [kField] using h0, by simpa [kField] using h1, rfl, hs⟩

theorem Row.entry {S : Nat → Prop} {w : World} {A : Option Addr} {xs : List DEntry} (h : Row kEntry S w A xs) {j : Nat} {x : DEntry} (hx : xs[j]? = some x) :
    ∃ b off A1 c1 A2 c2 A3 c3, A = some ⟨b, off, none⟩ ∧ w.cell? ⟨b, off + j * 7, none⟩ = some (.string x.key) ∧ w.cell? ⟨b, off + j * 7 + 1, none⟩ = some (.int .i64 x.v.kind) ∧
      w.cell? ⟨b, off + j * 7 + 2, none⟩ = some (.string x.v.s) ∧ w.cell? ⟨b, off + j * 7 + 3, none⟩ = some (.slice A1 x.v.l.length c1) ∧ w.cell? ⟨b, off + j * 7 + 4, none⟩ = some (.slice A2 x.v.z.length c2) ∧
      w.cell? ⟨b, off + j * 7 + 5, none⟩ = some (.slice A3 x.v.h.length c3) ∧ w.cell? ⟨b, off + j * 7 + 6, none⟩ = some (.int .i64 x.at_) ∧
      kEntry.R S w x [.string x.key, .int .i64 x.v.kind, .string x.v.s, .slice A1 x.v.l.length c1, .slice A2 x.v.z.length c2, .slice A3 x.v.h.length c3, .int .i64 x.at_] := by
  obtain ⟨b, off, cs, hA, _, _, hr, hc⟩ := h.at_ hx
  obtain ⟨A1, c1, A2, c2, A3, c3, rfl, h1⟩ := hr
  refine ⟨b, off, A1, c1, A2, c2, A3, c3, hA, ?_, hc 1 _ rfl, hc 2 _ rfl, hc 3 _ rfl, hc 4 _ rfl, hc 5 _ rfl, hc 6 _ rfl, A1, c1, A2, c2, A3, c3, rfl, h1⟩
  exact hc 0 _ rfl

/-! ### function values -/
def aggOf (cs : List Value) : Value := .agg cs.toArray
def oneOf (cs : List Value) : Value := cs.headD undef

/-- A predicate's call: whatever reads as x. -/
def PredK {α : Type} (P : Program) (d : Kd α) (mk : List Value → Value) (g : Nat) (lb : Array Value) (p : α → Bool) (S : Nat → Prop) (w : World) : Prop :=
  ∀ (W : World) (x : α) (cs : List Value), d.R S W x cs → Below w.heap.size w W → Calls P g (#[mk cs] ++ lb) W fun e W' => e = .returned (.bool (p x)) ∧ Below W.heap.size W W'

/-- A comparison's call. -/
def CmpK {α : Type} (P : Program) (d : Kd α) (mk : List Value → Value) (g : Nat) (lb : Array Value) (p : α → α → Int) (S : Nat → Prop) (w : World) : Prop :=
  ∀ (W : World) (x y : α) (cs ds : List Value), d.R S W x cs → d.R S W y ds → Below w.heap.size w W → Calls P g (#[mk cs, mk ds] ++ lb) W fun e W' => e = .returned (.int .i64 (p x y)) ∧ Below W.heap.size W W'

def EntersF (P : Program) (g : Nat) : Prop := ∀ (args : Array Value) (w : World), (callFunc g args).run P w = .ok (.enter g args) w

theorem below_trans' {w w1 w2 : World} (h : Below w.heap.size w w1) (k : Below w1.heap.size w1 w2) : Below w.heap.size w w2 := h.trans (k.mono h.size)

/-- What a call that makes blocks alone leaves: two rules for the walk. -/
theorem bcell {W w1 : World} (hb : Below W.heap.size W w1) : (∀ b o, b < W.heap.size → w1.cell? ⟨b, o, none⟩ = W.cell? ⟨b, o, none⟩) ∧ (∀ b o, b < W.heap.size → w1.frozen? ⟨b, o, none⟩ = W.frozen? ⟨b, o, none⟩) :=
  ⟨fun b o h => hb.cell (p := ⟨b, o, none⟩) h, fun b o h => hb.frozen (p := ⟨b, o, none⟩) h⟩

/-! ### plain lists -/
def idxW {α : Type} (p : α → Bool) (xs : List α) : Int := match xs.findIdx? p with | some i => (i : Int) | none => -1
theorem idxW_hit {α : Type} (p : α → Bool) (xs : List α) (k : Nat) (x : α) (hx : xs[k]? = some x) (hp : p x = true) (hb : ∀ j y, j < k → xs[j]? = some y → p y = false) : idxW p xs = k := by
  have : xs.findIdx? p = some k := by
    rw [List.findIdx?_eq_some_iff_getElem]
    obtain ⟨hk, rfl⟩ := List.getElem?_eq_some_iff.1 hx
    refine ⟨hk, hp, fun j hj => ?_⟩
    rw [hb j _ hj (List.getElem?_eq_getElem (by omega))]
    simp
  simp [idxW, this]
theorem idxW_none {α : Type} (p : α → Bool) (xs : List α) (hb : ∀ j y, j < xs.length → xs[j]? = some y → p y = false) : idxW p xs = -1 := by
  have : xs.findIdx? p = none := by
    rw [List.findIdx?_eq_none_iff]
    intro x hx
    obtain ⟨j, hj, rfl⟩ := List.mem_iff_getElem.1 hx
    exact hb j _ hj (List.getElem?_eq_getElem hj)
  simp [idxW, this]
theorem idxW_any {α : Type} (p : α → Bool) (xs : List α) : decide (0 ≤ idxW p xs) = xs.any p := by
  unfold idxW
  cases h : xs.findIdx? p with
  | none =>
    rw [List.findIdx?_eq_none_iff] at h
    have : xs.any p = false := by
      rw [List.any_eq_false]
      intro x hx
      simp [h x hx]
    rw [this]
    rfl
  | some i =>
    obtain ⟨hi, hp, _⟩ := List.findIdx?_eq_some_iff_getElem.1 h
    have : xs.any p = true := List.any_eq_true.2 ⟨_, List.getElem_mem hi, hp⟩
    rw [this]
    simp

/-- Does a row rise? -/
def risingB {α : Type} (p : α → α → Int) (xs : List α) : Bool := (List.range (xs.length - 1)).all fun j => match xs[j]?, xs[j + 1]? with | some x, some y => decide (p x y < 0) | _, _ => true
theorem risingB_no {α : Type} (p : α → α → Int) (xs : List α) (k : Nat) (x y : α) (hx : xs[k]? = some x) (hy : xs[k + 1]? = some y) (h : 0 ≤ p x y) : risingB p xs = false := by
  unfold risingB
  rw [List.all_eq_false]
  have := (List.getElem?_eq_some_iff.1 hy).1
  refine ⟨k, List.mem_range.2 (by omega), ?_⟩
  simp only [hx, hy]
  simp
  exact h
theorem risingB_yes {α : Type} (p : α → α → Int) (xs : List α) (h : ∀ k x y, xs[k]? = some x → xs[k + 1]? = some y → p x y < 0) : risingB p xs = true := by
  unfold risingB
  rw [List.all_eq_true]
  intro j _
  cases hx : xs[j]? with
  | none => rfl
  | some x =>
    cases hy : xs[j + 1]? with
    | none => rfl
    | some y => simp only [decide_eq_true (h j x y hx hy)]

end Go.Proofs.YtkgghnjpegpnlaaGreatDoor
