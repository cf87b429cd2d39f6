/- The builtins copy and append (of a make) at elements of any number of cells. Conditions stand in each statement. -/
import Derived.Test.YtkgghnjpegpnlaaGreatDoorOwntwo
import Derived.Lib.AppendZeros
import Derived.Lib.Overlaps
import Derived.Laws.CopyOwn
namespace Go.Proofs.YtkgghnjpegpnlaaGreatDoor
open Go.RowKit Go.Proofs
set_option linter.unusedSimpArgs false
set_option linter.unusedVariables false

/-- An own row that has been appended to. -/
theorem OwnX.appended {α : Type} {d : Kd α} {e : TypeId} {w w1 : World} {base : Nat} {v : Value} {xs ys : List α} {cs ds : List Value} {g cap m : Nat} (hp : Parts d (fun k => v.ownBlock ≠ some k) w xs cs) (hq : Parts d (fun k => v.ownBlock ≠ some k) w ys ds)
    (hown : w1.ownsRow base e d.sz (.slice (some ⟨g, 0, none⟩) (xs.length + m) cap) (xs.length + ys.length) (cs ++ ds)) (hgrow : w.grownBy w1 v.ownBlock) (hat : v.ownBlock = some g ∨ g = w.heap.size) :
    OwnX d e w1 base (.slice (some ⟨g, 0, none⟩) (xs.length + m) cap) (xs ++ ys) := by
  refine ⟨cs ++ ds, by rw [List.length_append]; exact hown, fun k hk hn => hn hk, (hp.append hq).move fun k hk hlt => ⟨hgrow.block k hlt (Ne.symm hk), fun h => ?_⟩⟩
  have hgk : g = k := by simpa [Value.ownBlock] using h
  subst hgk
  rcases hat with hat | hat
  · exact hk hat
  · omega

theorem run_copy_own (P : Program) (w : World) (dT sT ty e : TypeId) (i : TypeInfo) (k : Nat) (g o dLen dCap sLen sCap : Nat) (sp : Option Addr) (cur cs : List Value) (t : TypeId)
    (hu : P.underlying dT = some (.slice e)) (hi : P.info? e = some i) (hk : i.size = k) (hg : w.heap[g]? = some (.cells cur.toArray t (0, 0))) (hn : cs.length = Nat.min sLen dLen * k)
    (hsrc : 0 < cs.length → ∃ a, sp = some a ∧ ∀ j u, cs[j]? = some u → w.cell? (a.add j) = some u) (hfit : o + cs.length ≤ cur.length) (h1 : ∀ u ∈ cs, u.oneCell' = true) :
    (Builtin.copy_ #[dT, sT] ty #[.slice (some ⟨g, o, none⟩) dLen dCap, .slice sp sLen sCap]).run P w = .ok (goInt (Nat.min sLen dLen)) (w.setRow g (splice cur o cs).toArray) := by
  subst hk
  have hst : (storeCells ⟨g, o, none⟩ cs 0).run P w = .ok () (w.setRow g (splice cur o cs).toArray) := by
    have h := run_storeCells_at (P := P) g o t cs 0 cur.toArray w hg (by simpa using hfit) h1
    simpa [splice] using h
  by_cases h0 : 0 < cs.length
  · obtain ⟨a, rfl, hc⟩ := hsrc h0
    have hl := run_loadCells_list (P := P) w a cs hc
    rw [hn] at hl
    simp [Builtin.copy_, run_underlying hu, Builtin.lenOf, Builtin.firstCells, sizeOf, typeInfo, hi, hl, hst]
  · have hcs : cs = [] := List.length_eq_zero_iff.1 (by omega)
    subst hcs
    have hm : Nat.min sLen dLen * i.size = 0 := by simpa using hn.symm
    cases sp with
    | none => simp [Builtin.copy_, run_underlying hu, Builtin.lenOf, Builtin.firstCells, sizeOf, typeInfo, hi, hst]
    | some a =>
      have hl := run_loadCells_list (P := P) w a [] (by simp)
      simp only [List.length_nil] at hl
      simp [Builtin.copy_, run_underlying hu, Builtin.lenOf, Builtin.firstCells, sizeOf, typeInfo, hi, hm, hl, hst]

theorem wpList_copy_own_k {P : Program} (w : World) {ops : Array Oper} {rest : List Oper} {o : Oper} {a : Act} {Q : Exit → Act → World → Prop} (hgd : o.guard = none) (d s : Operand) (t t' : TypeId)
    (ho : o.op = .call { callee := .builtin .copy, args := #[d, s], argTypes := #[t, t'] }) (v u : Value) (hd : a.eval d = v) (hs : a.eval s = u) {v' : Value} {w' : World}
    (hr : (Builtin.copy_ #[t, t'] o.type #[v, u]).run P w = .ok v' w') (h : wpList P ops Q rest (a.put o.dst v') w') : wpList P ops Q (o :: rest) a w :=
  wpList_plain hgd fun _ hK => by
    unfold Oper.wp execOp
    simp only [ho, resolve, invoke, builtin, Sem.run_bind, Sem.run_pure, Result.andThen_ok, List.map_toArray, List.map_cons, List.map_nil, hd, hs, hr]
    exact hK _ _ h

theorem step_copy_own_k {P : Program} {ops : Array Oper} {o : Oper} {a : Act} {w : World} {K : Act → World → Prop} {Q : Exit → Act → World → Prop} {E : Prop}
    (hg : o.guard = none) (d x : Operand) (dT sT : TypeId) (hop : o.op = Op.call { callee := Callee.builtin Builtin.copy, args := #[d, x], argTypes := #[dT, sT] })
    (v u : Value) (hd : a.eval d = v) (hx : a.eval x = u) {v' : Value} {w' : World} (hr : (Builtin.copy_ #[dT, sT] o.type #[v, u]).run P w = .ok v' w') (hK : K (a.put o.dst v') w') :
    if Region.wanted o (yielded ops a.tmps) = true then Oper.wp P o a w K Q else E := by
  have hw : Region.wanted o (yielded ops a.tmps) = true := by simp [Region.wanted, hg]
  rw [if_pos hw]
  unfold Oper.wp
  simp [execOp, hop, resolve, invoke, builtin, hd, hx, hr, Result.andThen]
  exact hK

/-- append(s[:n], make([]T, m)...) where there is no room: a new row. -/
theorem run_append_zeros_grow {P : Program} (w : World) (t tn ty e : TypeId) (i : TypeInfo) (z : Value) (k kn : IntKind) (ht : P.underlying t = some (.slice e)) (htn : P.underlying tn = some (.int kn)) (hi : P.info? e = some i) (hz : i.zero = some z)
    (a : Addr) (n cap : Nat) (cs : List Value) (hl : cs.length = n * i.size) (hc : ∀ j u, cs[j]? = some u → w.cell? (a.add j) = some u)
    (m : Nat) (h0 : 0 < m) (hs : 0 < i.size) (hroom : cap < n + m) (h63 : (n + m : Nat) ≤ 9223372036854775807) (hb : (n + m) * i.bytes ≤ 140737488355328) :
    (Builtin.append_ #[t, tn] ty #[.slice (some a) n cap, .int k m]).run P w =
      .ok (.slice (some ⟨w.heap.size, 0, none⟩) (n + m) (grownCap w (n + m) cap e)) (w.drew.alloc (.cells (cs.toArray ++ Builtin.zeroCells z.cells m ++ Builtin.zeroCells z.cells (grownCap w (n + m) cap e - (n + m))) e)) := by
  have hw : IntKind.i64.wrap (m : Int) = m := by rw [IntKind.wrap_i64]; omega
  have h63' : ¬ (9223372036854775807 < (n : Int) + (m : Int)) := by omega
  have hfit := growslice_fits (need := n + m) (old := cap) (bytes := i.bytes) (by omega) hb
  have h48' : ¬ (281474976710656 < Builtin.nextslicecap (n + m) cap * i.bytes) := by omega
  have hmb : m * i.bytes ≤ (n + m) * i.bytes := Nat.mul_le_mul_right _ (by omega)
  have h48i : ¬ (281474976710656 < (m : Int) * (i.bytes : Int)) := by
    rw [← Int.natCast_mul]
    omega
  have hneg : ¬ ((m : Int) < 0) := by omega
  have hns : ¬ (m * i.size = 0) := Nat.mul_ne_zero (by omega) (by omega)
  have hload := run_loadCells_list (P := P) w.drew a cs hc
  rw [hl] at hload
  have hne : ¬ (n + m ≤ cap) := by omega
  have hm0 : m ≠ 0 := by omega
  simp [Builtin.append_, run_underlying ht, run_underlying htn, sizeOf, typeInfo, zeroValue, hi, hz, asInt, asIntOf, hw, hm0, hneg, hns, h63', h48', h48i, hne, Question.forced, Builtin.firstCells, hload, newRow, grownCap]
end Go.Proofs.YtkgghnjpegpnlaaGreatDoor
