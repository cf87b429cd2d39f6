/- image.owned: entries in new memory. Conditions: the row reads as the list; its bytes, and those of each value's rows, stay below an append's bound. -/
import Derived.Test.YtkgghnjpegpnlaaGreatDoorOwned
import Derived.Test.YtkgghnjpegpnlaaGreatDoorOwntwo
namespace Go.Proofs.YtkgghnjpegpnlaaGreatDoor
open Go.RowKit Go.Proofs
set_option linter.unusedSimpArgs false
set_option linter.unusedVariables false
set_option maxRecDepth 100000

def rowFits (l : List DEntry) : Prop := l.length * 120 ≤ 140737488355328 ∧ ∀ e ∈ l, valFits e.v

/-- Own, and it is said where else the elements may lead. -/
def OwnS {α : Type} (d : Kd α) (e : TypeId) (T : Nat → Prop) (w : World) (base : Nat) (v : Value) (xs : List α) : Prop := Own d e (fun k => T k ∧ v.ownBlock ≠ some k) w base v xs
theorem Own.fresh {α : Type} {d : Kd α} {e : TypeId} {S : Nat → Prop} {w : World} {base : Nat} {v : Value} {xs : List α} (h : Own d e S w base v xs) : ∀ k, v.ownBlock = some k → ¬ S k := h.choose_spec.2.1
theorem OwnS.weak {α : Type} {d : Kd α} {e : TypeId} {T : Nat → Prop} {w : World} {base : Nat} {v : Value} {xs : List α} (h : OwnS d e T w base v xs) : OwnX d e w base v xs := Own.weak h
theorem OwnS.put {α : Type} {d : Kd α} {e : TypeId} {T : Nat → Prop} {w w' : World} {base : Nat} {v : Value} {xs : List α} {P el ds Q : List Value} {j : Nat} {x y : α}
    (hp : Parts d (fun k => T k ∧ v.ownBlock ≠ some k) w xs (P ++ (el ++ Q))) (hx : xs[j]? = some x) (hP : P.length = j * d.sz) (he : el.length = d.sz)
    (far : ∀ k, v.ownBlock ≠ some k → w'.heap[k]? = w.heap[k]?) (hr : d.R (fun k => T k ∧ v.ownBlock ≠ some k) w' y ds) (hown : w'.ownsRow base e d.sz v xs.length (P ++ (ds ++ Q))) :
    OwnS d e T w' base v (xs.set j y) :=
  ⟨P ++ (ds ++ Q), by rw [List.length_set]; exact hown, fun k hk hn => hn.2 hk, Parts.put (hp.move fun k hk _ => ⟨far k hk.2, hk⟩) hx hP he hr⟩

set_option maxHeartbeats 1000000 in
theorem ownedS {S : Nat → Prop} {A : Option Addr} {xs : List DEntry} {c : Nat} {w : World} (hx : Row kEntry S w A xs) (hf : rowFits xs) :
    Calls Tryz.prog 23 #[.slice A xs.length c] w fun e w' => ∃ v, e = .returned v ∧ OwnS kEntry 30 (fun k => (S k ∧ k < w.heap.size) ∨ w.heap.size ≤ k) w' w.heap.size v xs ∧ Below w.heap.size w w' := by
  have hl := hx.1
  obtain ⟨T, hT⟩ : ∃ T : Nat → Prop, T = fun k => (S k ∧ k < w.heap.size) ∨ w.heap.size ≤ k := ⟨_, rfl⟩
  have hT1 : ∀ k, w.heap.size ≤ k → T k := fun k hk => by rw [hT]; exact .inr hk
  have hT0 : ∀ k, S k ∧ k < w.heap.size → T k := fun k hk => by rw [hT]; exact .inl hk
  rw [← hT]
  clear hT
  have hC := CloneE (c := c) hx hf.1
  go_enter Tryz.func23, Tryz.ntmps23
  go_wp2_with (go_at_call 51; refine hC.mono ?_; rintro e w1 ⟨v1, rfl, o1, b1⟩; have o2 : OwnS kEntry 30 T w1 w.heap.size v1 xs := Own.move o1 (fun k hk _ => ⟨rfl, hT0 k hk, fun hn => (o1.fresh k hn) hk⟩) (fun k hk hb _ => ⟨hb, rfl, fun hn => hn.2 hk⟩); obtain ⟨A1, c1, rfl, _⟩ := o2.weak.row hl; have HO := Lib.hid o2; clear o1 o2)
  clear hC hx
  go_loopg [4, 9] xs.length (fun gg _ s9 wr => ∃ k : Nat, k ≤ xs.length ∧ xs.length - k ≤ gg ∧ s9 = .int .i64 k ∧ Hid (Below w.heap.size w wr) ∧ Hid (OwnS kEntry 30 T wr w.heap.size (.slice A1 xs.length c1) xs))
  case atStart => exact ⟨0, Nat.zero_le _, by omega, rfl, b1, HO.out⟩
  case round =>
    clear HO
    obtain ⟨k, hk, hg, rfl, HB, HO⟩ := hrel
    by_cases hlt : k < xs.length
    · have hltz : (k : Int) < (xs.length : Int) := by omega
      obtain ⟨y, hy⟩ : ∃ y, xs[k]? = some y := ⟨_, List.getElem?_eq_getElem hlt⟩
      obtain ⟨g, cap, he, hgb, hgl⟩ := HO.out.weak.form (by omega)
      injection he with e1 _ e3
      subst e1
      subst e3
      obtain ⟨cs, hrow, _, hparts⟩ := HO.out
      obtain ⟨P, el, Q, rfl, hP, hel⟩ := hparts.split hy
      have hel' := hel
      obtain ⟨B1, d1, B2, d2, B3, d3, rfl, hkey, hval⟩ := hel'
      have hP' : P.length = k * 7 := hP
      have hrow7 : wr.ownsRow w.heap.size 30 7 (.slice (some ⟨g, 0, none⟩) xs.length c1) xs.length (P ++ ([Value.string y.key, .int .i64 y.v.kind, .string y.v.s, .slice B1 y.v.l.length d1, .slice B2 y.v.z.length d2, .slice B3 y.v.h.length d3, .int .i64 y.at_] ++ Q)) := hrow
      have hcell : ∀ i u, [Value.string y.key, .int .i64 y.v.kind, .string y.v.s, .slice B1 y.v.l.length d1, .slice B2 y.v.z.length d2, .slice B3 y.v.h.length d3, .int .i64 y.at_][i]? = some u → wr.cell? ⟨g, k * 7 + i, none⟩ = some u := by
        intro i u hi
        have hi7 : i < 7 := (List.getElem?_eq_some_iff.1 hi).1
        rw [hrow7.cellAt (k * 7 + i) (by omega), ← hP', List.getElem?_append_right (by omega), Nat.add_sub_cancel_left, List.getElem?_append_left (by simpa using hi7)]
        exact hi
      have f1 := hcell 1 _ rfl
      have f2 := hcell 2 _ rfl
      have f3 := hcell 3 _ rfl
      have f4 := hcell 4 _ rfl
      have f5 := hcell 5 _ rfl
      have hz := fun i => hrow7.frozenAt (k * 7 + i)
      have ho : ∀ W, Below wr.heap.size wr W → _ := fun W hb => own (kVal.move (below_moves hb) hval) (hf.2 y (List.mem_of_getElem? hy))
      have HR := Lib.hid hrow7
      have HP := Lib.hid hparts
      have HV := Lib.hid hval
      have HY := Lib.hid hy
      clear hcell hrow hrow7 hparts hval hel hy hP
      go_wp2_with (go_at_call 24; refine (ho _ (Below.refl _ _)).mono ?_; rintro e w2 ⟨ds, rfl, R2, b2⟩; have HR2 := Lib.hid R2; obtain ⟨E1, e1, E2, e2, E3, e3, rfl, _⟩ := R2; have p1 := (b2.cell (p := ⟨g, k * 7 + 1, none⟩) hgl).trans f1; have p2 := (b2.cell (p := ⟨g, k * 7 + 2, none⟩) hgl).trans f2; have p3 := (b2.cell (p := ⟨g, k * 7 + 3, none⟩) hgl).trans f3; have p4 := (b2.cell (p := ⟨g, k * 7 + 4, none⟩) hgl).trans f4; have p5 := (b2.cell (p := ⟨g, k * 7 + 5, none⟩) hgl).trans f5; have q1 := (b2.frozen (p := ⟨g, k * 7 + 1, none⟩) hgl).trans (hz 1); have q2 := (b2.frozen (p := ⟨g, k * 7 + 2, none⟩) hgl).trans (hz 2); have q3 := (b2.frozen (p := ⟨g, k * 7 + 3, none⟩) hgl).trans (hz 3); have q4 := (b2.frozen (p := ⟨g, k * 7 + 4, none⟩) hgl).trans (hz 4); have q5 := (b2.frozen (p := ⟨g, k * 7 + 5, none⟩) hgl).trans (hz 5))
      go_roundg (xs.length - (k + 1))
      case rel =>
        refine ⟨k + 1, by omega, by omega, by go_num, ?_, ?_⟩
        · exact (((((below_trans' HB.out b2).setCell hgb _).setCell hgb _).setCell hgb _).setCell hgb _).setCell hgb _
        · have hset : xs.set k y = xs := by
            obtain ⟨hk1, hk2⟩ := List.getElem?_eq_some_iff.1 HY.out
            rw [← hk2, List.set_getElem_self]
          have hrow2 := ownsRow_move HR.out (base' := w.heap.size) (w1 := w2) (fun k hk => (ownsRow_base HR.out k hk).1) (fun k hk => b2.block k (ownsRow_base HR.out k hk).2)
          have hst := (((((hrow2.stored (k * 7 + 1) (.int .i64 y.v.kind)).1.stored (k * 7 + 2) (.string y.v.s)).1.stored (k * 7 + 3) (.slice E1 y.v.l.length e1)).1.stored (k * 7 + 4) (.slice E2 y.v.z.length e2)).1.stored (k * 7 + 5) (.slice E3 y.v.h.length e3)).1
          rw [← hP'] at hst
          simp only [set_mid] at hst
          rw [hP'] at hst
          have far : ∀ (q : Nat), q ≠ g → ((((((w2.setCell ⟨g, k * 7 + 1, none⟩ (.int .i64 y.v.kind)).setCell ⟨g, k * 7 + 2, none⟩ (.string y.v.s)).setCell ⟨g, k * 7 + 3, none⟩ (.slice E1 y.v.l.length e1)).setCell ⟨g, k * 7 + 4, none⟩ (.slice E2 y.v.z.length e2)).setCell ⟨g, k * 7 + 5, none⟩ (.slice E3 y.v.h.length e3))).heap[q]? = w2.heap[q]? := fun q hq => by
            rw [Below.heap_setCell _ _ _ _ hq, Below.heap_setCell _ _ _ _ hq, Below.heap_setCell _ _ _ _ hq, Below.heap_setCell _ _ _ _ hq, Below.heap_setCell _ _ _ _ hq]
          have hput := OwnS.put (d := kEntry) (HP.out.move (below_moves b2)) HY.out hP' rfl
            (ds := [.string y.key, .int .i64 y.v.kind, .string y.v.s, .slice E1 y.v.l.length e1, .slice E2 y.v.z.length e2, .slice E3 y.v.h.length e3, .int .i64 y.at_]) (y := y)
            (fun q hq => far q (fun e => hq (by rw [e]; rfl)))
            ⟨E1, e1, E2, e2, E3, e3, rfl, hkey, kVal.move (fun q hq hlt => ⟨far q (by omega), hT1 q (Nat.le_trans HB.out.size hq), fun e => by injection e with e; simp at e; omega⟩) HR2.out⟩ hst
          rw [hset] at hput
          exact hput
      case measure => omega
    · obtain rfl : k = xs.length := by omega
      go_wp2
      go_ret
      exact ⟨_, rfl, HO.out, HB.out⟩

theorem owned {S : Nat → Prop} {A : Option Addr} {xs : List DEntry} {c : Nat} {w : World} (hx : Row kEntry S w A xs) (hf : rowFits xs) :
    Calls Tryz.prog 23 #[.slice A xs.length c] w fun e w' => ∃ v, e = .returned v ∧ OwnX kEntry 30 w' w.heap.size v xs ∧ Below w.heap.size w w' :=
  (ownedS hx hf).mono fun _ _ ⟨v, h1, h2, h3⟩ => ⟨v, h1, h2.weak, h3⟩
end Go.Proofs.YtkgghnjpegpnlaaGreatDoor
