/- append of a slice that is read (nil, empty or not), and chains of appends onto a new row. Conditions stand in each statement. -/
import Derived.Test.YtkgghnjpegpnlaaGreatDoorClone
import Derived.Test.YtkgghnjpegpnlaaGreatDoorCopy
import Derived.Deep.AppendLies
import Derived.Maps.AppendAt
import Derived.Laws.OwnMore
import Derived.Deep.RegionLaw
namespace Go.Proofs.YtkgghnjpegpnlaaGreatDoor
open Go.RowKit Go.Proofs
set_option linter.unusedSimpArgs false
set_option linter.unusedVariables false
set_option maxRecDepth 100000

/-- What is appended: so many elements, read at an address where there are any. -/
def Src (w : World) (size : Nat) (A : Option Addr) (m : Nat) (news : List Value) : Prop :=
  news.length = m * size ∧ (∀ u ∈ news, u.oneCell' = true) ∧ (0 < m → ∃ ad, A = some ad ∧ ∀ j u, news[j]? = some u → w.cell? (ad.add j) = some u)

theorem Src.grown {w w' : World} {size m : Nat} {A : Option Addr} {news : List Value} (h : Src w size A m news) (hg : ∀ (p : Addr) (u : Value), w.cell? p = some u → w'.cell? p = some u) : Src w' size A m news :=
  ⟨h.1, h.2.1, fun hm => by
    obtain ⟨ad, e, hc⟩ := h.2.2 hm
    exact ⟨ad, e, fun j u hu => hg _ _ (hc j u hu)⟩⟩

theorem run_append_src {P : Program} (w : World) (t ty : TypeId) (base : Nat) (e : TypeId) (i : TypeInfo) (z : Value) (size bytes : Nat) (ht : P.underlying t = some (.slice e)) (hi : P.info? e = some i) (hz : i.zero = some z)
    (hsize : i.size = size) (hby : i.bytes = bytes) (hzs : z.cells.size = size) (hsz : 0 < size)
    (v : Value) (n : Nat) (xs : List Value) (hown : w.ownsRow base e size v n xs) (A : Option Addr) (m c : Nat) (news : List Value) (hsrc : Src w size A m news)
    (h63 : n + m ≤ maxLen) (hbytes : (n + m) * bytes ≤ 140737488355328) (hbase : base ≤ w.heap.size) :
    ∃ v' w', (Builtin.append_ #[t, t] ty #[v, .slice A m c]).run P w = .ok v' w' ∧ w'.ownsRow base e size v' (n + m) (xs ++ news) ∧ w.grownBy w' v.ownBlock ∧ (v'.ownBlock = v.ownBlock ∨ v'.ownBlock = some w.heap.size) := by
  cases A with
  | none =>
    have hm : m = 0 := by
      rcases Nat.eq_zero_or_pos m with h | h
      · exact h
      · obtain ⟨ad, h', _⟩ := hsrc.2.2 h
        cases h'
    subst hm
    have hn : news = [] := List.eq_nil_of_length_eq_zero (by simpa using hsrc.1)
    subst hn
    refine ⟨v, w, ?_, by simpa using hown, World.grownBy.refl w _, .inl rfl⟩
    rcases hown.2 with ⟨rfl, rfl⟩ | ⟨g, cap, cur, rfl, _, _, hnc, _⟩
    · simp [Builtin.append_, run_underlying ht, sizeOf, typeInfo, hi, Builtin.lenOf, Builtin.firstCells]
    · simp [Builtin.append_, run_underlying ht, sizeOf, typeInfo, hi, Builtin.lenOf, Builtin.firstCells, hnc, storeCells]
  | some ad =>
    have hc : ∀ j u, news[j]? = some u → w.cell? (ad.add j) = some u := by
      rcases Nat.eq_zero_or_pos m with h | h
      · subst h
        have hn : news = [] := List.eq_nil_of_length_eq_zero (by simpa using hsrc.1)
        subst hn
        intro j u hu
        simp at hu
      · obtain ⟨ad', h', hc⟩ := hsrc.2.2 h
        cases h'
        exact hc
    obtain ⟨v', w', h1, h2, h3, _, h5⟩ := run_append_own_at (P := P) w base t ty e i z size bytes ht hi hz hsize hby hzs hsz v n xs hown ad m c news hsrc.1 hc hsrc.2.1 h63 hbytes hbase
    exact ⟨v', w', h1, h2, h3, h5⟩

theorem step_append_src {P : Program} {ops : Array Oper} {o : Oper} {a : Act} {w : World} {K : Act → World → Prop} {Q : Exit → Act → World → Prop} {E : Prop} (hgd : o.guard = none) (s x : Operand) (t : TypeId)
    (ho : o.op = .call { callee := .builtin .append, args := #[s, x], argTypes := #[t, t] })
    (base : Nat) (e : TypeId) (i : TypeInfo) (z : Value) (size bytes : Nat) (ht : P.underlying t = some (.slice e)) (hi : P.info? e = some i) (hz : i.zero = some z)
    (hsize : i.size = size) (hby : i.bytes = bytes) (hzs : z.cells.size = size) (hsz : 0 < size)
    (v : Value) (n : Nat) (xs : List Value) (hs : a.eval s = v) (hown : w.ownsRow base e size v n xs)
    (A : Option Addr) (m c : Nat) (news : List Value) (hx : a.eval x = .slice A m c) (hsrc : Src w size A m news)
    (h63 : n + m ≤ maxLen) (hbytes : (n + m) * bytes ≤ 140737488355328) (hbase : base ≤ w.heap.size)
    (h : ∀ v' w', w'.ownsRow base e size v' (n + m) (xs ++ news) → w.grownBy w' v.ownBlock → (v'.ownBlock = v.ownBlock ∨ v'.ownBlock = some w.heap.size) → K (a.put o.dst v') w') :
    if Region.wanted o (yielded ops a.tmps) = true then Oper.wp P o a w K Q else E := by
  have hw : Region.wanted o (yielded ops a.tmps) = true := by simp [Region.wanted, hgd]
  rw [if_pos hw]
  obtain ⟨v', w', hrun, h2, h3, h4⟩ := run_append_src (P := P) w t o.type base e i z size bytes ht hi hz hsize hby hzs hsz v n xs hown A m c news hsrc h63 hbytes hbase
  unfold Oper.wp execOp
  simp only [ho, resolve, invoke, builtin, Sem.run_bind, Sem.run_pure, Result.andThen_ok, List.map_toArray, List.map_cons, List.map_nil, hs, hx, hrun]
  exact h v' w' h2 h3 h4

theorem wpList_append_src {P : Program} (w : World) {ops : Array Oper} {rest : List Oper} {o : Oper} {a : Act} {Q : Exit → Act → World → Prop} (hgd : o.guard = none) (s x : Operand) (t : TypeId)
    (ho : o.op = .call { callee := .builtin .append, args := #[s, x], argTypes := #[t, t] })
    (base : Nat) (e : TypeId) (i : TypeInfo) (z : Value) (size bytes : Nat) (ht : P.underlying t = some (.slice e)) (hi : P.info? e = some i) (hz : i.zero = some z)
    (hsize : i.size = size) (hby : i.bytes = bytes) (hzs : z.cells.size = size) (hsz : 0 < size)
    (v : Value) (n : Nat) (xs : List Value) (hs : a.eval s = v) (hown : w.ownsRow base e size v n xs)
    (A : Option Addr) (m c : Nat) (news : List Value) (hx : a.eval x = .slice A m c) (hsrc : Src w size A m news)
    (h63 : n + m ≤ maxLen) (hbytes : (n + m) * bytes ≤ 140737488355328) (hbase : base ≤ w.heap.size)
    (h : ∀ v' w', w'.ownsRow base e size v' (n + m) (xs ++ news) → w.grownBy w' v.ownBlock → (v'.ownBlock = v.ownBlock ∨ v'.ownBlock = some w.heap.size) → wpList P ops Q rest (a.put o.dst v') w') : wpList P ops Q (o :: rest) a w :=
  wpList_plain hgd fun _ hK => by
    obtain ⟨v', w', hrun, h2, h3, h4⟩ := run_append_src (P := P) w t o.type base e i z size bytes ht hi hz hsize hby hzs hsz v n xs hown A m c news hsrc h63 hbytes hbase
    unfold Oper.wp execOp
    simp only [ho, resolve, invoke, builtin, Sem.run_bind, Sem.run_pure, Result.andThen_ok, List.map_toArray, List.map_cons, List.map_nil, hs, hx, hrun]
    exact hK _ _ (h v' w' h2 h3 h4)

theorem Src.below {w w' : World} {size m : Nat} {A : Option Addr} {news : List Value} (h : Src w size A m news) (hb : Below w.heap.size w w') : Src w' size A m news :=
  h.grown fun p u hu => (hb.cell (World.block_lt_of_cell? w p hu)).trans hu

theorem row_src {α : Type} {d : Kd α} {S : Nat → Prop} {w : World} {A : Option Addr} {xs : List α} (h : Row d S w A xs) : ∃ cs, Parts d S w xs cs ∧ Src w d.sz A xs.length cs := by
  rcases Nat.eq_zero_or_pos xs.length with h0 | h0
  · have hn : xs = [] := List.eq_nil_of_length_eq_zero h0
    subst hn
    exact ⟨[], Parts.nil _ _ _, by simp, by simp, fun hm => by simp at hm⟩
  · obtain ⟨b, off, cs, rfl, _, _, hp, hc⟩ := h.flat h0
    refine ⟨cs, hp, hp.1, hp.ones, fun _ => ⟨_, rfl, fun j u hu => ?_⟩⟩
    rw [Addr.add_lit]
    exact hc j u hu

theorem Src.take {w : World} {k n : Nat} {A : Option Addr} {cs : List Value} (h : Src w k A n cs) (m : Nat) (hm : m ≤ n) : Src w k A m (cs.take (m * k)) := by
  have hle : m * k ≤ n * k := Nat.mul_le_mul_right _ hm
  refine ⟨by rw [List.length_take, h.1]; omega, fun u hu => h.2.1 u (List.mem_of_mem_take hu), fun hp => ?_⟩
  obtain ⟨ad, e, hc⟩ := h.2.2 (by omega)
  refine ⟨ad, e, fun j u hu => ?_⟩
  rw [List.getElem?_take] at hu
  split at hu
  · exact hc j u hu
  · cases hu

theorem Src.drop {w : World} {k n b off : Nat} {cs : List Value} (h : Src w k (some ⟨b, off, none⟩) n cs) (m c : Nat) (hm : m ≤ n) (hc : n ≤ c) : Src w k (if c = m then some ⟨b, off, none⟩ else some ⟨b, off + m * k, none⟩) (n - m) (cs.drop (m * k)) := by
  refine ⟨by rw [List.length_drop, h.1, Nat.sub_mul], fun u hu => h.2.1 u (List.mem_of_mem_drop hu), fun hp => ?_⟩
  obtain ⟨ad, e, hcell⟩ := h.2.2 (by omega)
  cases e
  rw [if_neg (by omega)]
  refine ⟨_, rfl, fun j u hu => ?_⟩
  rw [List.getElem?_drop] at hu
  have := hcell _ u hu
  rw [Addr.add_lit] at this ⊢
  rwa [Nat.add_assoc]

theorem Src.block {W : World} {k b : Nat} {cs : List Value} {t : TypeId} (hb : W.heap[b]? = some (.cells cs.toArray t (0, 0))) (hl : cs.length = k) (h1 : ∀ u ∈ cs, u.oneCell' = true) : Src W k (some ⟨b, 0, none⟩) 1 cs :=
  ⟨by rw [hl, Nat.one_mul], h1, fun _ => ⟨_, rfl, fun j u hu => World.news_of_block hb j u (by simpa using hu)⟩⟩

theorem own_new {W : World} {b base k : Nat} {e : TypeId} (hb : W.heap.size = b) (hB : base ≤ b) : (W.alloc (.cells #[] e)).ownsRow base e k (.slice (some ⟨b, 0, none⟩) 0 0) 0 [] := by
  subst hb
  refine ⟨by simp, .inr ⟨W.heap.size, 0, #[], rfl, hB, heap_alloc_new W _, Nat.le_refl _, by unfold maxLen; omega, by simp, by simp⟩⟩
theorem own_a {w : World} {e : TypeId} {k : Nat} : ((w.alloc (.cells #[] e)).drew).ownsRow w.heap.size e k (.slice (some ⟨w.heap.size, 0, none⟩) 0 0) 0 [] := own_new rfl (Nat.le_refl _)
theorem own_b {w : World} {e : TypeId} {k : Nat} {o : Obj} : (((w.alloc (.cells #[] e)).alloc o).drew).ownsRow w.heap.size e k (.slice (some ⟨w.heap.size, 0, none⟩) 0 0) 0 [] := World.ownsRow.alloc (own_new rfl (Nat.le_refl _)) o
theorem own_c {w : World} {e : TypeId} {k : Nat} {o : Obj} : (((w.alloc o).alloc (.cells #[] e)).drew).ownsRow w.heap.size e k (.slice (some ⟨w.heap.size + 1, 0, none⟩) 0 0) 0 [] := own_new (by simp) (by omega)
theorem bel_a {w : World} {o : Obj} : Below w.heap.size w (w.alloc o).drew := ((Below.refl _ _).alloc (Nat.le_refl _) _).drew
theorem bel_b {w : World} {o o' : Obj} : Below w.heap.size w ((w.alloc o).alloc o').drew := (((Below.refl _ _).alloc (Nat.le_refl _) _).alloc (by simp) _).drew
theorem bel_own {w W W' : World} {e : TypeId} {k n : Nat} {v : Value} {xs : List Value} (B : Below w.heap.size w W) (o : W.ownsRow w.heap.size e k v n xs) (g : W.grownBy W' v.ownBlock) : Below w.heap.size w W' :=
  B.grown g B.size fun q hq => (ownsRow_base o q hq).1

/-- A block that was made ahead of an append onto another one. -/
theorem blk_kept {W W' : World} {v : Value} {b : Nat} {o : Obj} (h : W.heap[b]? = some o) (g : W.grownBy W' v.ownBlock) (hne : v.ownBlock ≠ some b) : W'.heap[b]? = some o :=
  (g.block b (Array.getElem?_eq_some_iff.1 h).1 (Ne.symm hne)).trans h

/-- A slice's address as the walk spells it. -/
def SlForm (A : Option Addr) (c : Nat) : Prop := (A = none ∧ c = 0) ∨ ∃ b off, A = some ⟨b, off, none⟩
theorem ownsRow_form {w : World} {base : Nat} {e : TypeId} {k n : Nat} {A : Option Addr} {m c : Nat} {xs : List Value} (h : w.ownsRow base e k (.slice A m c) n xs) : SlForm A c := by
  rcases h.2 with ⟨h, _⟩ | ⟨g, cap, cur, h, _⟩
  · injection h with h1 _ h3
    exact .inl ⟨h1, h3⟩
  · injection h with h1 _ h3
    exact .inr ⟨g, 0, h1⟩
theorem Own.formS {α : Type} {d : Kd α} {e : TypeId} {S : Nat → Prop} {w : World} {base : Nat} {A : Option Addr} {m c : Nat} {xs : List α} (h : Own d e S w base (.slice A m c) xs) : SlForm A c := ownsRow_form h.choose_spec.1

theorem heap_b2 (w : World) (o o' : Obj) : ((w.alloc o).alloc o').drew.heap[w.heap.size + 1]? = some o' := by
  have h := heap_alloc_new (w.alloc o) o'
  rw [show (w.alloc o).heap.size = w.heap.size + 1 from by simp] at h
  exact h
theorem heap_c2 (w : World) (o o' : Obj) : ((w.alloc o).alloc o').drew.heap[w.heap.size]? = some o :=
  (Below.heap_alloc (w.alloc o) o' w.heap.size (by simp)).trans (heap_alloc_new w o)

theorem chain_own {α : Type} {d : Kd α} {e : TypeId} {S : Nat → Prop} {w w3 : World} {l : List α} {x : α} {cs ds : List Value} {v : Value} {p m : Nat} (hp : Parts d S w l cs) (hx : d.R S w x ds) (hpl : p ≤ l.length) (hm : m = p + 1 + (l.length - p))
    (o : w3.ownsRow w.heap.size e d.sz v m (([] ++ cs.take (p * d.sz)) ++ ds ++ cs.drop (p * d.sz))) (B : Below w.heap.size w w3) : Own d e (fun k => S k ∧ k < w.heap.size) w3 w.heap.size v (l.take p ++ x :: l.drop p) := by
  have hlen : (l.take p ++ x :: l.drop p).length = m := by
    rw [List.length_append, List.length_cons, List.length_take, List.length_drop]
    omega
  refine ⟨_, by rw [hlen]; exact o, fun k hk hS => ?_, ?_⟩
  · have := (ownsRow_base o k hk).1
    have := hS.2
    omega
  · have h1 : Parts d S w (l.take p ++ ([x] ++ l.drop p)) (([] ++ cs.take (p * d.sz)) ++ (ds ++ cs.drop (p * d.sz))) := by
      rw [List.nil_append]
      exact (hp.take p).append ((Parts.one hx).append (hp.drop p))
    rw [List.append_assoc]
    exact h1.move fun k hS hk => ⟨B.block k hk, hS, hk⟩

theorem chain2_own {α : Type} {d : Kd α} {e : TypeId} {S : Nat → Prop} {w w3 : World} {l : List α} {cs : List Value} {v : Value} {p q m : Nat} (hp : Parts d S w l cs) (hpl : p ≤ l.length) (hql : q ≤ l.length) (hm : m = p + (l.length - q))
    (o : w3.ownsRow w.heap.size e d.sz v m (([] ++ cs.take (p * d.sz)) ++ cs.drop (q * d.sz))) (B : Below w.heap.size w w3) : Own d e (fun k => S k ∧ k < w.heap.size) w3 w.heap.size v (l.take p ++ l.drop q) := by
  have hlen : (l.take p ++ l.drop q).length = m := by
    rw [List.length_append, List.length_take, List.length_drop]
    omega
  refine ⟨_, by rw [hlen]; exact o, fun k hk hS => ?_, ?_⟩
  · have := (ownsRow_base o k hk).1
    have := hS.2
    omega
  · have h1 : Parts d S w (l.take p ++ l.drop q) (([] ++ cs.take (p * d.sz)) ++ cs.drop (q * d.sz)) := by
      rw [List.nil_append]
      exact (hp.take p).append (hp.drop q)
    exact h1.move fun k hS hk => ⟨B.block k hk, hS, hk⟩
end Go.Proofs.YtkgghnjpegpnlaaGreatDoor
