/- Rows that the call itself has made ('Own'): what they hold, how they are read, kept, written. Conditions stand in each statement. -/
import Derived.Test.YtkgghnjpegpnlaaGreatDoorData
import Derived.WalkSpells
namespace Go.Proofs.YtkgghnjpegpnlaaGreatDoor
open Go.RowKit Go.Proofs
set_option linter.unusedSimpArgs false
set_option linter.unusedVariables false

theorem cell_alloc {w : World} {a : Addr} {v : Value} (h : w.cell? a = some v) (o : Obj) : (w.alloc o).cell? a = some v :=
  (((Below.refl w.heap.size w).alloc (Nat.le_refl _) o).cell (World.block_lt_of_cell? w _ h)).trans h

def Parts {α : Type} (d : Kd α) (S : Nat → Prop) (w : World) (xs : List α) (cs : List Value) : Prop :=
  cs.length = xs.length * d.sz ∧ ∀ j x, xs[j]? = some x → d.R S w x ((cs.drop (j * d.sz)).take d.sz)

theorem Parts.nil {α : Type} (d : Kd α) (S : Nat → Prop) (w : World) : Parts d S w [] [] := ⟨by simp, fun j x h => by simp at h⟩

theorem Parts.move {α : Type} {d : Kd α} {S S' : Nat → Prop} {w w' : World} {xs : List α} {cs : List Value}
    (hm : ∀ k, S k → k < w.heap.size → w'.heap[k]? = w.heap[k]? ∧ S' k) (h : Parts d S w xs cs) : Parts d S' w' xs cs :=
  ⟨h.1, fun j x hj => d.move hm (h.2 j x hj)⟩

theorem Parts.append {α : Type} {d : Kd α} {S : Nat → Prop} {w : World} {xs ys : List α} {cs ds : List Value} (h : Parts d S w xs cs) (k : Parts d S w ys ds) : Parts d S w (xs ++ ys) (cs ++ ds) := by
  refine ⟨by rw [List.length_append, h.1, k.1, List.length_append, Nat.add_mul], fun j x hx => ?_⟩
  rcases Nat.lt_or_ge j xs.length with hj | hj
  · rw [List.getElem?_append_left hj] at hx
    have h1 : j * d.sz + d.sz ≤ cs.length := by rw [h.1, ← Nat.succ_mul]; exact Nat.mul_le_mul_right _ hj
    rw [List.drop_append_of_le_length (by omega), List.take_append_of_le_length (by rw [List.length_drop]; omega)]
    exact h.2 j x hx
  · rw [List.getElem?_append_right hj] at hx
    have h1 : j * d.sz = cs.length + (j - xs.length) * d.sz := by rw [h.1, ← Nat.add_mul]; congr 1; omega
    rw [h1, List.drop_length_add_append]
    exact k.2 _ x hx

theorem Parts.one {α : Type} {d : Kd α} {S : Nat → Prop} {w : World} {x : α} {cs : List Value} (h : d.R S w x cs) : Parts d S w [x] cs := by
  refine ⟨by rw [d.len h]; simp, fun j y hy => ?_⟩
  have : j = 0 := by
    have := (List.getElem?_eq_some_iff.1 hy).1
    simpa using this
  subst this
  cases hy
  rw [Nat.zero_mul, List.drop_zero, ← d.len h, List.take_length]
  exact h

theorem Parts.take {α : Type} {d : Kd α} {S : Nat → Prop} {w : World} {xs : List α} {cs : List Value} (h : Parts d S w xs cs) (n : Nat) : Parts d S w (xs.take n) (cs.take (n * d.sz)) := by
  refine ⟨?_, fun j x hx => ?_⟩
  · rw [List.length_take, List.length_take, h.1, Nat.min_def, Nat.min_def]
    split <;> split <;> rename_i h1 h2
    · rfl
    · exact absurd (Nat.le_of_mul_le_mul_right h1 d.pos) h2
    · have := Nat.mul_le_mul_right d.sz h2
      omega
    · rfl
  · rw [List.getElem?_take] at hx
    split at hx
    · rename_i hj
      have h1 : j * d.sz + d.sz ≤ n * d.sz := by rw [← Nat.succ_mul]; exact Nat.mul_le_mul_right _ hj
      rw [List.drop_take, List.take_take, Nat.min_eq_left (by omega)]
      exact h.2 j x hx
    · cases hx

theorem Parts.drop {α : Type} {d : Kd α} {S : Nat → Prop} {w : World} {xs : List α} {cs : List Value} (h : Parts d S w xs cs) (n : Nat) : Parts d S w (xs.drop n) (cs.drop (n * d.sz)) := by
  refine ⟨by rw [List.length_drop, List.length_drop, h.1, Nat.sub_mul], fun j x hx => ?_⟩
  rw [List.getElem?_drop] at hx
  rw [List.drop_drop, ← Nat.add_mul]
  exact h.2 _ x hx

theorem Parts.ones {α : Type} {d : Kd α} {S : Nat → Prop} {w : World} {xs : List α} {cs : List Value} (h : Parts d S w xs cs) : ∀ u ∈ cs, u.oneCell' = true := by
  intro u hu
  obtain ⟨i, hi, rfl⟩ := List.mem_iff_getElem.1 hu
  have hlt : i / d.sz < xs.length := by rw [Nat.div_lt_iff_lt_mul d.pos, ← h.1]; exact hi
  have hr := h.2 (i / d.sz) _ (List.getElem?_eq_getElem hlt)
  refine d.one hr _ (List.mem_iff_getElem?.2 ⟨i % d.sz, ?_⟩)
  rw [List.getElem?_take, if_pos (Nat.mod_lt _ d.pos), List.getElem?_drop, Nat.mul_comm, Nat.div_add_mod, List.getElem?_eq_getElem hi]

/-- A row that is read, all its cells in line. -/
theorem Row.flat {α : Type} {d : Kd α} {S : Nat → Prop} {w : World} {A : Option Addr} {xs : List α} (h : Row d S w A xs) (hp : 0 < xs.length) :
    ∃ b off cs, A = some ⟨b, off, none⟩ ∧ S b ∧ b < w.heap.size ∧ Parts d S w xs cs ∧ ∀ j u, cs[j]? = some u → w.cell? ⟨b, off + j, none⟩ = some u := by
  obtain ⟨b, off, rfl, hS, hb, hc⟩ := h.2 hp
  suffices key : ∀ n, n ≤ xs.length → ∃ cs, Parts d S w (xs.take n) cs ∧ ∀ j u, cs[j]? = some u → w.cell? ⟨b, off + j, none⟩ = some u by
    obtain ⟨cs, h1, h2⟩ := key xs.length (Nat.le_refl _)
    rw [List.take_length] at h1
    exact ⟨b, off, cs, rfl, hS, hb, h1, h2⟩
  intro n
  induction n with
  | zero => exact fun _ => ⟨[], by simpa using Parts.nil d S w, fun j u hj => by simp at hj⟩
  | succ n ih =>
    intro hn
    obtain ⟨cs, h1, h2⟩ := ih (by omega)
    have hx : xs[n]? = some xs[n] := List.getElem?_eq_getElem (by omega)
    obtain ⟨ds, hr, hd⟩ := hc n _ hx
    have ht : xs.take (n + 1) = xs.take n ++ [xs[n]] := by rw [List.take_add_one, hx]; rfl
    refine ⟨cs ++ ds, by rw [ht]; exact h1.append (Parts.one hr), fun j u hj => ?_⟩
    have hl : cs.length = n * d.sz := by rw [h1.1, List.length_take]; congr 1; omega
    rcases Nat.lt_or_ge j cs.length with hj' | hj'
    · rw [List.getElem?_append_left hj'] at hj
      exact h2 j u hj
    · rw [List.getElem?_append_right hj'] at hj
      have := hd _ u hj
      rw [hl] at this hj'
      rwa [show off + n * d.sz + (j - n * d.sz) = off + j from by omega] at this

/-- A row out of its cells in line. -/
theorem Row.ofFlat {α : Type} {d : Kd α} {S : Nat → Prop} {w : World} {b off : Nat} {xs : List α} {cs : List Value} (hl : xs.length ≤ 140737488355328) (hS : S b) (hb : b < w.heap.size) (hp : Parts d S w xs cs)
    (hc : ∀ j u, cs[j]? = some u → w.cell? ⟨b, off + j, none⟩ = some u) : Row d S w (some ⟨b, off, none⟩) xs := by
  refine ⟨hl, fun _ => ⟨b, off, rfl, hS, hb, fun j x hx => ⟨_, hp.2 j x hx, fun i u hu => ?_⟩⟩⟩
  rw [List.getElem?_take] at hu
  split at hu
  · rw [List.getElem?_drop] at hu
    rw [Nat.add_assoc]
    exact hc _ u hu
  · cases hu

def Own {α : Type} (d : Kd α) (e : TypeId) (S : Nat → Prop) (w : World) (base : Nat) (v : Value) (xs : List α) : Prop :=
  ∃ cs, w.ownsRow base e d.sz v xs.length cs ∧ (∀ k, v.ownBlock = some k → ¬ S k) ∧ Parts d S w xs cs

theorem Own.nil {α : Type} (d : Kd α) (e : TypeId) (S : Nat → Prop) (w : World) (base : Nat) : Own d e S w base (.slice none 0 0) [] :=
  ⟨[], World.ownsRow_nil _ _ _ _, fun k h => by simp [Value.ownBlock] at h, Parts.nil _ _ _⟩

theorem ownsRow_move {w w1 : World} {base base' : Nat} {e : TypeId} {size n : Nat} {v : Value} {xs : List Value} (h : w.ownsRow base e size v n xs) (hb : ∀ k, v.ownBlock = some k → base' ≤ k) (hm : ∀ k, v.ownBlock = some k → w1.heap[k]? = w.heap[k]?) : w1.ownsRow base' e size v n xs := by
  obtain ⟨h1, h2⟩ := h
  refine ⟨h1, ?_⟩
  rcases h2 with h2 | ⟨g, cap, cur, rfl, hg, hh, r⟩
  · exact .inl h2
  · exact .inr ⟨g, cap, cur, rfl, hb g (by simp [Value.ownBlock]), (hm g (by simp [Value.ownBlock])).trans hh, r⟩

theorem ownsRow_base {w : World} {base : Nat} {e : TypeId} {size n : Nat} {v : Value} {xs : List Value} (h : w.ownsRow base e size v n xs) : ∀ k, v.ownBlock = some k → base ≤ k ∧ k < w.heap.size := by
  intro k hk
  rcases h.2 with ⟨rfl, _⟩ | ⟨g, cap, cur, rfl, hg, hh, r⟩
  · simp [Value.ownBlock] at hk
  · have : g = k := by simpa [Value.ownBlock] using hk
    subst this
    exact ⟨hg, (Array.getElem?_eq_some_iff.1 hh).1⟩

theorem Own.move {α : Type} {d : Kd α} {e : TypeId} {S S' : Nat → Prop} {w w' : World} {base base' : Nat} {v : Value} {xs : List α} (h : Own d e S w base v xs)
    (hm : ∀ k, S k → k < w.heap.size → w'.heap[k]? = w.heap[k]? ∧ S' k) (hb : ∀ k, v.ownBlock = some k → base ≤ k → k < w.heap.size → base' ≤ k ∧ w'.heap[k]? = w.heap[k]? ∧ ¬ S' k) : Own d e S' w' base' v xs := by
  obtain ⟨cs, h1, h2, h3⟩ := h
  have hbs := ownsRow_base h1
  exact ⟨cs, ownsRow_move h1 (fun k hk => (hb k hk (hbs k hk).1 (hbs k hk).2).1) (fun k hk => (hb k hk (hbs k hk).1 (hbs k hk).2).2.1), fun k hk => (hb k hk (hbs k hk).1 (hbs k hk).2).2.2, h3.move hm⟩

/-- How an own row reads. -/
theorem Own.slice {α : Type} {d : Kd α} {e : TypeId} {S : Nat → Prop} {w : World} {base : Nat} {v : Value} {xs : List α} (h : Own d e S w base v xs) (hl : xs.length ≤ 140737488355328) :
    ∃ A c, v = .slice A xs.length c ∧ xs.length ≤ c ∧ c ≤ 9223372036854775807 ∧ Row d (fun k => S k ∨ v.ownBlock = some k) w A xs := by
  obtain ⟨cs, h1, h2, h3⟩ := h
  obtain ⟨hlen, h1 | ⟨g, cap, cur, rfl, hg, hh, hn, hcap, hsz, htk⟩⟩ := h1
  · obtain ⟨rfl, h0⟩ := h1
    have : xs = [] := List.length_eq_zero_iff.1 h0
    subst this
    exact ⟨none, 0, rfl, Nat.le_refl _, by omega, Row.nil _ _ _ _⟩
  · refine ⟨some ⟨g, 0, none⟩, cap, rfl, hn, by simpa [maxLen] using hcap, ?_⟩
    refine Row.ofFlat hl (.inr rfl) (Array.getElem?_eq_some_iff.1 hh).1 (h3.move fun k hk hlt => ⟨rfl, .inl hk⟩) (fun j u hj => ?_)
    rw [Nat.zero_add]
    simp only [World.cell?, hh]
    rw [← htk, List.getElem?_take] at hj
    split at hj
    · simpa using hj
    · cases hj

theorem Own.sliceR {α : Type} {d : Kd α} {e : TypeId} {S : Nat → Prop} {w : World} {base : Nat} {v : Value} {xs : List α} (h : Own d e S w base v xs) (hl : xs.length ≤ 140737488355328) :
    SliceR d (fun k => S k ∨ v.ownBlock = some k) w v xs := h.slice hl

/-- What is read is read through blocks that are there. -/
theorem Row.old {α : Type} {d : Kd α} {S : Nat → Prop} {w : World} {A : Option Addr} {xs : List α} (h : Row d S w A xs) : Row d (fun k => S k ∧ k < w.heap.size) w A xs :=
  h.move fun k hS hk => ⟨rfl, hS, hk⟩
theorem Kd.old {α : Type} {d : Kd α} {S : Nat → Prop} {w : World} {x : α} {cs : List Value} (h : d.R S w x cs) : d.R (fun k => S k ∧ k < w.heap.size) w x cs :=
  d.move (fun k hS hk => ⟨rfl, hS, hk⟩) h
/-- Own, whatever else the elements may lead to. -/
def OwnX {α : Type} (d : Kd α) (e : TypeId) (w : World) (base : Nat) (v : Value) (xs : List α) : Prop := Own d e (fun k => v.ownBlock ≠ some k) w base v xs

theorem Own.weak {α : Type} {d : Kd α} {e : TypeId} {S : Nat → Prop} {w : World} {base : Nat} {v : Value} {xs : List α} (h : Own d e S w base v xs) : OwnX d e w base v xs := by
  obtain ⟨cs, h1, h2, h3⟩ := h
  exact ⟨cs, h1, fun k hk hn => hn hk, h3.move fun k hS _ => ⟨rfl, fun hk => h2 k hk hS⟩⟩

theorem OwnX.row {α : Type} {d : Kd α} {e : TypeId} {w : World} {base : Nat} {v : Value} {xs : List α} (h : OwnX d e w base v xs) (hl : xs.length ≤ 140737488355328) :
    ∃ A c, v = .slice A xs.length c ∧ xs.length ≤ c ∧ c ≤ 9223372036854775807 ∧ Row d (fun _ => True) w A xs := by
  obtain ⟨A, c, h1, h2, h3, h4⟩ := h.slice hl
  exact ⟨A, c, h1, h2, h3, h4.move fun k _ _ => ⟨rfl, trivial⟩⟩

/-- New blocks, draws: it stays. -/
theorem OwnX.below {α : Type} {d : Kd α} {e : TypeId} {w w' : World} {base base' : Nat} {v : Value} {xs : List α} (h : OwnX d e w base v xs) (hb : Below w.heap.size w w') (hB : base' ≤ base) : OwnX d e w' base' v xs :=
  Own.move h (fun k hS hk => ⟨hb.block k hk, hS⟩) (fun k hk h1 h2 => ⟨by omega, hb.block k h2, fun h => h hk⟩)

/-- Kinds whose elements lead nowhere. -/
def FlatK {α : Type} (d : Kd α) : Prop := ∀ (S S' : Nat → Prop) (w w' : World) (x : α) (cs : List Value), d.R S w x cs → d.R S' w' x cs
theorem flat_str : FlatK kStr := fun _ _ _ _ _ _ h => h
theorem flat_scored : FlatK kScored := fun _ _ _ _ _ _ h => h
theorem flat_field : FlatK kField := fun _ _ _ _ _ _ h => h
theorem flat_int (k : IntKind) : FlatK (kInt k) := fun _ _ _ _ _ _ h => h
theorem Own.flat {α : Type} {d : Kd α} (hd : FlatK d) {e : TypeId} {S : Nat → Prop} {w : World} {base : Nat} {v : Value} {xs : List α} (h : Own d e S w base v xs) : Own d e (fun _ => False) w base v xs := by
  obtain ⟨cs, h1, h2, h3⟩ := h
  exact ⟨cs, h1, fun _ _ h => h, h3.1, fun j x hx => hd _ _ _ _ _ _ (h3.2 j x hx)⟩
/-- How a flat row of the call's own reads in a later world in which its block stands. -/
theorem Own.later {α : Type} {d : Kd α} (hd : FlatK d) {e : TypeId} {S S' : Nat → Prop} {w w' : World} {base : Nat} {A : Option Addr} {c : Nat} {xs : List α} (h : Own d e S w base (.slice A xs.length c) xs) (hl : xs.length ≤ 140737488355328)
    (hm : ∀ k, base ≤ k → k < w.heap.size → w'.heap[k]? = w.heap[k]?) (hS : ∀ k, base ≤ k → S' k) : xs.length ≤ c ∧ c ≤ 9223372036854775807 ∧ Row d S' w' A xs := by
  have hb := ownsRow_base h.choose_spec.1
  obtain ⟨A', c', he, h1, h2, h3⟩ := (h.flat hd).slice hl
  injection he with e1 _ e3
  cases e1
  cases e3
  refine ⟨h1, h2, h3.move fun k hk hlt => ?_⟩
  rcases hk with hk | hk
  · exact hk.elim
  · exact ⟨hm k (hb k hk).1 hlt, hS k (hb k hk).1⟩

theorem Row.any {α : Type} {d : Kd α} {S : Nat → Prop} {w : World} {A : Option Addr} {xs : List α} (h : Row d S w A xs) : Row d (fun _ => True) w A xs := h.move fun k _ _ => ⟨rfl, trivial⟩
theorem Kd.any {α : Type} {d : Kd α} {S : Nat → Prop} {w : World} {x : α} {cs : List Value} (h : d.R S w x cs) : d.R (fun _ => True) w x cs := d.move (fun k _ _ => ⟨rfl, trivial⟩) h
end Go.Proofs.YtkgghnjpegpnlaaGreatDoor
