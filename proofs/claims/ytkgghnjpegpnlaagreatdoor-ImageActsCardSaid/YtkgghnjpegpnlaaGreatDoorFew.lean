/- millpondlaw09.few and cut: what is looked at. Conditions: what is read reads as the data. -/
import Derived.Test.YtkgghnjpegpnlaaGreatDoorOwneds
namespace Go.Proofs.YtkgghnjpegpnlaaGreatDoor
open Go.RowKit Go.Proofs
set_option linter.unusedSimpArgs false
set_option linter.unusedVariables false
set_option maxRecDepth 100000

theorem Row.take {α : Type} {d : Kd α} {S : Nat → Prop} {w : World} {A : Option Addr} {xs : List α} (h : Row d S w A xs) (n : Nat) : Row d S w A (xs.take n) := by
  obtain ⟨h1, h2⟩ := h
  refine ⟨by rw [List.length_take]; omega, fun hp => ?_⟩
  obtain ⟨b, off, hA, hS, hb, hc⟩ := h2 (by rw [List.length_take] at hp; omega)
  refine ⟨b, off, hA, hS, hb, fun j x hx => hc j x ?_⟩
  rw [List.getElem?_take] at hx
  split at hx
  · exact hx
  · cases hx

theorem Row.form {α : Type} {d : Kd α} {S : Nat → Prop} {w : World} {A : Option Addr} {xs : List α} (h : Row d S w A xs) (hp : 0 < xs.length) : ∃ b off, A = some ⟨b, off, none⟩ := by
  obtain ⟨b, off, hA, _⟩ := h.2 hp
  exact ⟨b, off, hA⟩

def fewD (v : DVal) : DVal := { v with l := v.l.take 40, z := v.z.take 40, h := v.h.take 40 }
def FewPost (kind : Int) (s : ByteArray) (A1 A2 A3 : Option Addr) (n1 n2 n3 c1 c2 c3 : Nat) (w : World) (e : Ending) (w' : World) : Prop :=
  e = .returned (.agg #[.int .i64 kind, .string s, .slice A1 (min 40 n1) c1, .slice A2 (min 40 n2) c2, .slice A3 (min 40 n3) c3]) ∧ Below w.heap.size w w'

set_option maxHeartbeats 1000000 in
theorem few_000 (kind : Int) (s : ByteArray) (A1 : Option Addr) (A2 : Option Addr) (A3 : Option Addr) (n1 n2 n3 c1 c2 c3 : Nat) (w : World) (h1 : ¬ 40 < n1) (h2 : ¬ 40 < n2) (h3 : ¬ 40 < n3) (hc1 : n1 ≤ c1) (hc2 : n2 ≤ c2) (hc3 : n3 ≤ c3) (hd1 : c1 ≤ 9223372036854775807) (hd2 : c2 ≤ 9223372036854775807) (hd3 : c3 ≤ 9223372036854775807) :
    Calls Tryz.prog 7 #[.agg #[.int .i64 kind, .string s, .slice A1 n1 c1, .slice A2 n2 c2, .slice A3 n3 c3]] w (FewPost kind s A1 A2 A3 n1 n2 n3 c1 c2 c3 w) := by
  have q1 : ¬ (40 : Int) < (n1 : Int) := by omega
  have q2 : ¬ (40 : Int) < (n2 : Int) := by omega
  have q3 : ¬ (40 : Int) < (n3 : Int) := by omega
  have m1 : min 40 n1 = n1 := by omega
  have m2 : min 40 n2 = n2 := by omega
  have m3 : min 40 n3 = n3 := by omega
  unfold FewPost
  rw [m1, m2, m3]
  go_enter Tryz.func7, Tryz.ntmps7
  go_wp2
  refine bodyPost_ret (v := .agg #[.int .i64 kind, .string s, .slice A1 n1 c1, .slice A2 n2 c2, .slice A3 n3 c3]) (by simp [results, Tryz.results7, go_sem]) rfl ?_
  refine ⟨rfl, ?_⟩
  repeat (refine Below.setCell ?_ ?_ _)
  all_goals (try (refine Below.alloc ?_ ?_ _))
  all_goals (try (refine Below.alloc ?_ ?_ _))
  all_goals (first | exact Below.refl _ _ | (simp; done) | (simp; omega))

set_option maxHeartbeats 1000000 in
theorem few_001 (kind : Int) (s : ByteArray) (A1 : Option Addr) (A2 : Option Addr) (b3 o3 : Nat) (n1 n2 n3 c1 c2 c3 : Nat) (w : World) (h1 : ¬ 40 < n1) (h2 : ¬ 40 < n2) (h3 : 40 < n3) (hc1 : n1 ≤ c1) (hc2 : n2 ≤ c2) (hc3 : n3 ≤ c3) (hd1 : c1 ≤ 9223372036854775807) (hd2 : c2 ≤ 9223372036854775807) (hd3 : c3 ≤ 9223372036854775807) :
    Calls Tryz.prog 7 #[.agg #[.int .i64 kind, .string s, .slice A1 n1 c1, .slice A2 n2 c2, .slice (some ⟨b3, o3, none⟩) n3 c3]] w (FewPost kind s A1 A2 (some ⟨b3, o3, none⟩) n1 n2 n3 c1 c2 c3 w) := by
  have q1 : ¬ (40 : Int) < (n1 : Int) := by omega
  have q2 : ¬ (40 : Int) < (n2 : Int) := by omega
  have q3 : (40 : Int) < (n3 : Int) := by omega
  have r3 : 40 ≤ c3 := by omega
  have s3 : (40 : Int) ≤ (c3 : Int) := by omega
  have m1 : min 40 n1 = n1 := by omega
  have m2 : min 40 n2 = n2 := by omega
  have m3 : min 40 n3 = 40 := by omega
  unfold FewPost
  rw [m1, m2, m3]
  go_enter Tryz.func7, Tryz.ntmps7
  go_wp2
  refine bodyPost_ret (v := .agg #[.int .i64 kind, .string s, .slice A1 n1 c1, .slice A2 n2 c2, .slice (some ⟨b3, o3, none⟩) 40 c3]) (by simp [results, Tryz.results7, go_sem]) rfl ?_
  refine ⟨rfl, ?_⟩
  repeat (refine Below.setCell ?_ ?_ _)
  all_goals (try (refine Below.alloc ?_ ?_ _))
  all_goals (try (refine Below.alloc ?_ ?_ _))
  all_goals (first | exact Below.refl _ _ | (simp; done) | (simp; omega))

set_option maxHeartbeats 1000000 in
theorem few_010 (kind : Int) (s : ByteArray) (A1 : Option Addr) (b2 o2 : Nat) (A3 : Option Addr) (n1 n2 n3 c1 c2 c3 : Nat) (w : World) (h1 : ¬ 40 < n1) (h2 : 40 < n2) (h3 : ¬ 40 < n3) (hc1 : n1 ≤ c1) (hc2 : n2 ≤ c2) (hc3 : n3 ≤ c3) (hd1 : c1 ≤ 9223372036854775807) (hd2 : c2 ≤ 9223372036854775807) (hd3 : c3 ≤ 9223372036854775807) :
    Calls Tryz.prog 7 #[.agg #[.int .i64 kind, .string s, .slice A1 n1 c1, .slice (some ⟨b2, o2, none⟩) n2 c2, .slice A3 n3 c3]] w (FewPost kind s A1 (some ⟨b2, o2, none⟩) A3 n1 n2 n3 c1 c2 c3 w) := by
  have q1 : ¬ (40 : Int) < (n1 : Int) := by omega
  have q2 : (40 : Int) < (n2 : Int) := by omega
  have r2 : 40 ≤ c2 := by omega
  have s2 : (40 : Int) ≤ (c2 : Int) := by omega
  have q3 : ¬ (40 : Int) < (n3 : Int) := by omega
  have m1 : min 40 n1 = n1 := by omega
  have m2 : min 40 n2 = 40 := by omega
  have m3 : min 40 n3 = n3 := by omega
  unfold FewPost
  rw [m1, m2, m3]
  go_enter Tryz.func7, Tryz.ntmps7
  go_wp2
  refine bodyPost_ret (v := .agg #[.int .i64 kind, .string s, .slice A1 n1 c1, .slice (some ⟨b2, o2, none⟩) 40 c2, .slice A3 n3 c3]) (by simp [results, Tryz.results7, go_sem]) rfl ?_
  refine ⟨rfl, ?_⟩
  repeat (refine Below.setCell ?_ ?_ _)
  all_goals (try (refine Below.alloc ?_ ?_ _))
  all_goals (try (refine Below.alloc ?_ ?_ _))
  all_goals (first | exact Below.refl _ _ | (simp; done) | (simp; omega))

set_option maxHeartbeats 1000000 in
theorem few_011 (kind : Int) (s : ByteArray) (A1 : Option Addr) (b2 o2 : Nat) (b3 o3 : Nat) (n1 n2 n3 c1 c2 c3 : Nat) (w : World) (h1 : ¬ 40 < n1) (h2 : 40 < n2) (h3 : 40 < n3) (hc1 : n1 ≤ c1) (hc2 : n2 ≤ c2) (hc3 : n3 ≤ c3) (hd1 : c1 ≤ 9223372036854775807) (hd2 : c2 ≤ 9223372036854775807) (hd3 : c3 ≤ 9223372036854775807) :
    Calls Tryz.prog 7 #[.agg #[.int .i64 kind, .string s, .slice A1 n1 c1, .slice (some ⟨b2, o2, none⟩) n2 c2, .slice (some ⟨b3, o3, none⟩) n3 c3]] w (FewPost kind s A1 (some ⟨b2, o2, none⟩) (some ⟨b3, o3, none⟩) n1 n2 n3 c1 c2 c3 w) := by
  have q1 : ¬ (40 : Int) < (n1 : Int) := by omega
  have q2 : (40 : Int) < (n2 : Int) := by omega
  have r2 : 40 ≤ c2 := by omega
  have s2 : (40 : Int) ≤ (c2 : Int) := by omega
  have q3 : (40 : Int) < (n3 : Int) := by omega
  have r3 : 40 ≤ c3 := by omega
  have s3 : (40 : Int) ≤ (c3 : Int) := by omega
  have m1 : min 40 n1 = n1 := by omega
  have m2 : min 40 n2 = 40 := by omega
  have m3 : min 40 n3 = 40 := by omega
  unfold FewPost
  rw [m1, m2, m3]
  go_enter Tryz.func7, Tryz.ntmps7
  go_wp2
  refine bodyPost_ret (v := .agg #[.int .i64 kind, .string s, .slice A1 n1 c1, .slice (some ⟨b2, o2, none⟩) 40 c2, .slice (some ⟨b3, o3, none⟩) 40 c3]) (by simp [results, Tryz.results7, go_sem]) rfl ?_
  refine ⟨rfl, ?_⟩
  repeat (refine Below.setCell ?_ ?_ _)
  all_goals (try (refine Below.alloc ?_ ?_ _))
  all_goals (try (refine Below.alloc ?_ ?_ _))
  all_goals (first | exact Below.refl _ _ | (simp; done) | (simp; omega))

set_option maxHeartbeats 1000000 in
theorem few_100 (kind : Int) (s : ByteArray) (b1 o1 : Nat) (A2 : Option Addr) (A3 : Option Addr) (n1 n2 n3 c1 c2 c3 : Nat) (w : World) (h1 : 40 < n1) (h2 : ¬ 40 < n2) (h3 : ¬ 40 < n3) (hc1 : n1 ≤ c1) (hc2 : n2 ≤ c2) (hc3 : n3 ≤ c3) (hd1 : c1 ≤ 9223372036854775807) (hd2 : c2 ≤ 9223372036854775807) (hd3 : c3 ≤ 9223372036854775807) :
    Calls Tryz.prog 7 #[.agg #[.int .i64 kind, .string s, .slice (some ⟨b1, o1, none⟩) n1 c1, .slice A2 n2 c2, .slice A3 n3 c3]] w (FewPost kind s (some ⟨b1, o1, none⟩) A2 A3 n1 n2 n3 c1 c2 c3 w) := by
  have q1 : (40 : Int) < (n1 : Int) := by omega
  have r1 : 40 ≤ c1 := by omega
  have s1 : (40 : Int) ≤ (c1 : Int) := by omega
  have q2 : ¬ (40 : Int) < (n2 : Int) := by omega
  have q3 : ¬ (40 : Int) < (n3 : Int) := by omega
  have m1 : min 40 n1 = 40 := by omega
  have m2 : min 40 n2 = n2 := by omega
  have m3 : min 40 n3 = n3 := by omega
  unfold FewPost
  rw [m1, m2, m3]
  go_enter Tryz.func7, Tryz.ntmps7
  go_wp2
  refine bodyPost_ret (v := .agg #[.int .i64 kind, .string s, .slice (some ⟨b1, o1, none⟩) 40 c1, .slice A2 n2 c2, .slice A3 n3 c3]) (by simp [results, Tryz.results7, go_sem]) rfl ?_
  refine ⟨rfl, ?_⟩
  repeat (refine Below.setCell ?_ ?_ _)
  all_goals (try (refine Below.alloc ?_ ?_ _))
  all_goals (try (refine Below.alloc ?_ ?_ _))
  all_goals (first | exact Below.refl _ _ | (simp; done) | (simp; omega))

set_option maxHeartbeats 1000000 in
theorem few_101 (kind : Int) (s : ByteArray) (b1 o1 : Nat) (A2 : Option Addr) (b3 o3 : Nat) (n1 n2 n3 c1 c2 c3 : Nat) (w : World) (h1 : 40 < n1) (h2 : ¬ 40 < n2) (h3 : 40 < n3) (hc1 : n1 ≤ c1) (hc2 : n2 ≤ c2) (hc3 : n3 ≤ c3) (hd1 : c1 ≤ 9223372036854775807) (hd2 : c2 ≤ 9223372036854775807) (hd3 : c3 ≤ 9223372036854775807) :
    Calls Tryz.prog 7 #[.agg #[.int .i64 kind, .string s, .slice (some ⟨b1, o1, none⟩) n1 c1, .slice A2 n2 c2, .slice (some ⟨b3, o3, none⟩) n3 c3]] w (FewPost kind s (some ⟨b1, o1, none⟩) A2 (some ⟨b3, o3, none⟩) n1 n2 n3 c1 c2 c3 w) := by
  have q1 : (40 : Int) < (n1 : Int) := by omega
  have r1 : 40 ≤ c1 := by omega
  have s1 : (40 : Int) ≤ (c1 : Int) := by omega
  have q2 : ¬ (40 : Int) < (n2 : Int) := by omega
  have q3 : (40 : Int) < (n3 : Int) := by omega
  have r3 : 40 ≤ c3 := by omega
  have s3 : (40 : Int) ≤ (c3 : Int) := by omega
  have m1 : min 40 n1 = 40 := by omega
  have m2 : min 40 n2 = n2 := by omega
  have m3 : min 40 n3 = 40 := by omega
  unfold FewPost
  rw [m1, m2, m3]
  go_enter Tryz.func7, Tryz.ntmps7
  go_wp2
  refine bodyPost_ret (v := .agg #[.int .i64 kind, .string s, .slice (some ⟨b1, o1, none⟩) 40 c1, .slice A2 n2 c2, .slice (some ⟨b3, o3, none⟩) 40 c3]) (by simp [results, Tryz.results7, go_sem]) rfl ?_
  refine ⟨rfl, ?_⟩
  repeat (refine Below.setCell ?_ ?_ _)
  all_goals (try (refine Below.alloc ?_ ?_ _))
  all_goals (try (refine Below.alloc ?_ ?_ _))
  all_goals (first | exact Below.refl _ _ | (simp; done) | (simp; omega))

set_option maxHeartbeats 1000000 in
theorem few_110 (kind : Int) (s : ByteArray) (b1 o1 : Nat) (b2 o2 : Nat) (A3 : Option Addr) (n1 n2 n3 c1 c2 c3 : Nat) (w : World) (h1 : 40 < n1) (h2 : 40 < n2) (h3 : ¬ 40 < n3) (hc1 : n1 ≤ c1) (hc2 : n2 ≤ c2) (hc3 : n3 ≤ c3) (hd1 : c1 ≤ 9223372036854775807) (hd2 : c2 ≤ 9223372036854775807) (hd3 : c3 ≤ 9223372036854775807) :
    Calls Tryz.prog 7 #[.agg #[.int .i64 kind, .string s, .slice (some ⟨b1, o1, none⟩) n1 c1, .slice (some ⟨b2, o2, none⟩) n2 c2, .slice A3 n3 c3]] w (FewPost kind s (some ⟨b1, o1, none⟩) (some ⟨b2, o2, none⟩) A3 n1 n2 n3 c1 c2 c3 w) := by
  have q1 : (40 : Int) < (n1 : Int) := by omega
  have r1 : 40 ≤ c1 := by omega
  have s1 : (40 : Int) ≤ (c1 : Int) := by omega
  have q2 : (40 : Int) < (n2 : Int) := by omega
  have r2 : 40 ≤ c2 := by omega
  have s2 : (40 : Int) ≤ (c2 : Int) := by omega
  have q3 : ¬ (40 : Int) < (n3 : Int) := by omega
  have m1 : min 40 n1 = 40 := by omega
  have m2 : min 40 n2 = 40 := by omega
  have m3 : min 40 n3 = n3 := by omega
  unfold FewPost
  rw [m1, m2, m3]
  go_enter Tryz.func7, Tryz.ntmps7
  go_wp2
  refine bodyPost_ret (v := .agg #[.int .i64 kind, .string s, .slice (some ⟨b1, o1, none⟩) 40 c1, .slice (some ⟨b2, o2, none⟩) 40 c2, .slice A3 n3 c3]) (by simp [results, Tryz.results7, go_sem]) rfl ?_
  refine ⟨rfl, ?_⟩
  repeat (refine Below.setCell ?_ ?_ _)
  all_goals (try (refine Below.alloc ?_ ?_ _))
  all_goals (try (refine Below.alloc ?_ ?_ _))
  all_goals (first | exact Below.refl _ _ | (simp; done) | (simp; omega))

set_option maxHeartbeats 1000000 in
theorem few_111 (kind : Int) (s : ByteArray) (b1 o1 : Nat) (b2 o2 : Nat) (b3 o3 : Nat) (n1 n2 n3 c1 c2 c3 : Nat) (w : World) (h1 : 40 < n1) (h2 : 40 < n2) (h3 : 40 < n3) (hc1 : n1 ≤ c1) (hc2 : n2 ≤ c2) (hc3 : n3 ≤ c3) (hd1 : c1 ≤ 9223372036854775807) (hd2 : c2 ≤ 9223372036854775807) (hd3 : c3 ≤ 9223372036854775807) :
    Calls Tryz.prog 7 #[.agg #[.int .i64 kind, .string s, .slice (some ⟨b1, o1, none⟩) n1 c1, .slice (some ⟨b2, o2, none⟩) n2 c2, .slice (some ⟨b3, o3, none⟩) n3 c3]] w (FewPost kind s (some ⟨b1, o1, none⟩) (some ⟨b2, o2, none⟩) (some ⟨b3, o3, none⟩) n1 n2 n3 c1 c2 c3 w) := by
  have q1 : (40 : Int) < (n1 : Int) := by omega
  have r1 : 40 ≤ c1 := by omega
  have s1 : (40 : Int) ≤ (c1 : Int) := by omega
  have q2 : (40 : Int) < (n2 : Int) := by omega
  have r2 : 40 ≤ c2 := by omega
  have s2 : (40 : Int) ≤ (c2 : Int) := by omega
  have q3 : (40 : Int) < (n3 : Int) := by omega
  have r3 : 40 ≤ c3 := by omega
  have s3 : (40 : Int) ≤ (c3 : Int) := by omega
  have m1 : min 40 n1 = 40 := by omega
  have m2 : min 40 n2 = 40 := by omega
  have m3 : min 40 n3 = 40 := by omega
  unfold FewPost
  rw [m1, m2, m3]
  go_enter Tryz.func7, Tryz.ntmps7
  go_wp2
  refine bodyPost_ret (v := .agg #[.int .i64 kind, .string s, .slice (some ⟨b1, o1, none⟩) 40 c1, .slice (some ⟨b2, o2, none⟩) 40 c2, .slice (some ⟨b3, o3, none⟩) 40 c3]) (by simp [results, Tryz.results7, go_sem]) rfl ?_
  refine ⟨rfl, ?_⟩
  repeat (refine Below.setCell ?_ ?_ _)
  all_goals (try (refine Below.alloc ?_ ?_ _))
  all_goals (try (refine Below.alloc ?_ ?_ _))
  all_goals (first | exact Below.refl _ _ | (simp; done) | (simp; omega))

theorem few {S : Nat → Prop} {v : DVal} {A1 A2 A3 : Option Addr} {c1 c2 c3 : Nat} {w : World} (h : kVal.R S w v [.int .i64 v.kind, .string v.s, .slice A1 v.l.length c1, .slice A2 v.z.length c2, .slice A3 v.h.length c3]) :
    Calls Tryz.prog 7 #[.agg #[.int .i64 v.kind, .string v.s, .slice A1 v.l.length c1, .slice A2 v.z.length c2, .slice A3 v.h.length c3]] w fun e w' => e = .returned (.agg #[.int .i64 v.kind, .string v.s, .slice A1 (fewD v).l.length c1, .slice A2 (fewD v).z.length c2, .slice A3 (fewD v).h.length c3]) ∧
      kVal.R S w (fewD v) [.int .i64 v.kind, .string v.s, .slice A1 (fewD v).l.length c1, .slice A2 (fewD v).z.length c2, .slice A3 (fewD v).h.length c3] ∧ Below w.heap.size w w' := by
  obtain ⟨B1, d1, B2, d2, B3, d3, he, hk1, hk2, hs, h1, h2, h3, r1, r2, r3⟩ := h
  injection he with _ he; injection he with _ he; injection he with e1 he; injection he with e2 he; injection he with e3 he
  cases e1; cases e2; cases e3
  have hR : kVal.R S w (fewD v) [.int .i64 v.kind, .string v.s, .slice A1 (fewD v).l.length c1, .slice A2 (fewD v).z.length c2, .slice A3 (fewD v).h.length c3] :=
    ⟨A1, c1, A2, c2, A3, c3, rfl, hk1, hk2, hs, ⟨by simp [fewD]; omega, h1.2⟩, ⟨by simp [fewD]; omega, h2.2⟩, ⟨by simp [fewD]; omega, h3.2⟩, r1.take 40, r2.take 40, r3.take 40⟩
  have hmain : Calls Tryz.prog 7 #[.agg #[.int .i64 v.kind, .string v.s, .slice A1 v.l.length c1, .slice A2 v.z.length c2, .slice A3 v.h.length c3]] w (FewPost v.kind v.s A1 A2 A3 v.l.length v.z.length v.h.length c1 c2 c3 w) := by
    by_cases g1 : 40 < v.l.length
    · obtain ⟨b1, o1, rfl⟩ := r1.form (by omega)
      by_cases g2 : 40 < v.z.length
      · obtain ⟨b2, o2, rfl⟩ := r2.form (by omega)
        by_cases g3 : 40 < v.h.length
        · obtain ⟨b3, o3, rfl⟩ := r3.form (by omega)
          exact few_111 v.kind v.s b1 o1 b2 o2 b3 o3 _ _ _ _ _ _ w g1 g2 g3 h1.1 h2.1 h3.1 h1.2 h2.2 h3.2
        · exact few_110 v.kind v.s b1 o1 b2 o2 A3 _ _ _ _ _ _ w g1 g2 g3 h1.1 h2.1 h3.1 h1.2 h2.2 h3.2
      · by_cases g3 : 40 < v.h.length
        · obtain ⟨b3, o3, rfl⟩ := r3.form (by omega)
          exact few_101 v.kind v.s b1 o1 A2 b3 o3 _ _ _ _ _ _ w g1 g2 g3 h1.1 h2.1 h3.1 h1.2 h2.2 h3.2
        · exact few_100 v.kind v.s b1 o1 A2 A3 _ _ _ _ _ _ w g1 g2 g3 h1.1 h2.1 h3.1 h1.2 h2.2 h3.2
    · by_cases g2 : 40 < v.z.length
      · obtain ⟨b2, o2, rfl⟩ := r2.form (by omega)
        by_cases g3 : 40 < v.h.length
        · obtain ⟨b3, o3, rfl⟩ := r3.form (by omega)
          exact few_011 v.kind v.s A1 b2 o2 b3 o3 _ _ _ _ _ _ w g1 g2 g3 h1.1 h2.1 h3.1 h1.2 h2.2 h3.2
        · exact few_010 v.kind v.s A1 b2 o2 A3 _ _ _ _ _ _ w g1 g2 g3 h1.1 h2.1 h3.1 h1.2 h2.2 h3.2
      · by_cases g3 : 40 < v.h.length
        · obtain ⟨b3, o3, rfl⟩ := r3.form (by omega)
          exact few_001 v.kind v.s A1 A2 b3 o3 _ _ _ _ _ _ w g1 g2 g3 h1.1 h2.1 h3.1 h1.2 h2.2 h3.2
        · exact few_000 v.kind v.s A1 A2 A3 _ _ _ _ _ _ w g1 g2 g3 h1.1 h2.1 h3.1 h1.2 h2.2 h3.2
  refine hmain.mono ?_
  rintro e w' ⟨rfl, hb⟩
  exact ⟨by simp only [fewD, List.length_take], hR, hb⟩
end Go.Proofs.YtkgghnjpegpnlaaGreatDoor
