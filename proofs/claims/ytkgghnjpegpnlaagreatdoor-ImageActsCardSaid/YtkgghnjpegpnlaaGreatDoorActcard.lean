/- The law ImageActs returns true on every input and leaves its arguments as they were: the tied card. Conditions: the listed variables hold what the text lays. -/
import Derived.Test.YtkgghnjpegpnlaaGreatDoorWorld
import Derived.Test.YtkgghnjpegpnlaaGreatDoorImageacts
import Derived.Test.YtkgghnjpegpnlaaGreatDoorCards
import Derived.SevenTiedAt
namespace Go.Proofs.YtkgghnjpegpnlaaGreatDoor
open Go.ChangeShapes Go.WideShapes Go.ChangeAt Go.RowKit
set_option linter.unusedSimpArgs false
set_option linter.unusedVariables false
set_option maxRecDepth 100000

theorem actsContract (H : Type) (enc : TypeId × Value → H) (W : World) (base : Nat) (args : Array Value) (ds gs : List (DataW H)) (before : List MemPlace)
    (hval : ∀ (j : Nat) t v, Tryz.f4.params[j]? = some t → args[j]? = some v → Value.okWide Tryz.prog W .any base t v)
    (hW : DataW.Whole enc Tryz.prog Tryz.f4.params.toList Rows.imageActsSpec.vars false W args.toList ds gs before)
    (hsz : (DataW.weightsEach Tryz.prog (Tryz.f4.params.toList ++ []) (ds ++ gs)).all (· ≤ reachBytes) = true)
    (hL : laidMetH Tryz.prog laidList W) (hS : W.ShapedOpen Tryz.prog) :
    Calls Tryz.prog 4 args W fun e W' => ∃ v, e = .returned v ∧ Rows.imageActsSpec.post enc Tryz.prog Tryz.f4 false true false false W args v W' := by
  have hW' := hW
  obtain ⟨p, q, hA0, hV, rfl, hfz, hnd⟩ := hW
  have hA : DataW.TrodAll enc Tryz.prog W 0 (fun _ => true) true Tryz.f4.params.toList args.toList ds p := hA0
  rw [Tryz.params4] at hA hval hsz
  obtain ⟨v0, vs0, d0, ds0, p0, q0, hargs, rfl, rfl, h0, r0⟩ := trodAll_cons hA
  obtain ⟨v1, vs1, d1, ds1, p1, q1, rfl, rfl, rfl, h1, r1⟩ := trodAll_cons r0
  obtain ⟨v2, vs2, d2, ds2, p2, q2, rfl, rfl, rfl, h2, r2⟩ := trodAll_cons r1
  obtain ⟨v3, vs3, d3, ds3, p3, q3, rfl, rfl, rfl, h3, r3⟩ := trodAll_cons r2
  obtain ⟨rfl, rfl, rfl⟩ := trodAll_nil r3
  obtain rfl : args = #[v0, v1, v2, v3] := by cases args; simp_all
  obtain ⟨rfl, rfl⟩ := trodVars_none hV
  have hwt : ∀ q ∈ d0.weights Tryz.prog 22 ++ (d1.weights Tryz.prog 30 ++ (d2.weights Tryz.prog 9 ++ (d3.weights Tryz.prog 3 ++ []))), q ≤ reachBytes := fun q hq => by
    have := List.all_eq_true.1 hsz q (by simpa only [DataW.weightsEach, List.append_nil, List.append_assoc, List.cons_append, List.nil_append] using hq)
    simpa using this
  obtain ⟨a0, l0, c0, rfl⟩ := okWide_slice Tryz.underlying22 (hval 0 22 v0 rfl rfl)
  obtain ⟨cs, rfl, hcs⟩ := okWide_struct Tryz.underlying30 (hval 1 30 v1 rfl rfl)
  obtain ⟨key, rfl⟩ := okWide_string Tryz.underlying9 (hval 2 9 v2 rfl rfl)
  obtain ⟨now, rfl⟩ := okWide_int Tryz.underlying3 (hval 3 3 v3 rfl rfl)
  obtain ⟨f0, h0'⟩ := h0
  obtain ⟨f1, h1'⟩ := h1
  obtain ⟨A, l, c, e0, hlc, hc, hrow⟩ := readEntries h0' (fun q hq => hwt q (List.mem_append_left _ hq))
  obtain ⟨x, hx⟩ := readEntry h1' (fun q hq => hwt q (List.mem_append_right _ (List.mem_append_left _ hq)))
  have e0 : [Value.slice a0 l0 c0] = [.slice A l.length c] := e0
  cases e0
  have hx : kEntry.R (fun _ => True) W x cs.toList := hx
  obtain ⟨A1, c1, A2, c2, A3, c3, ecs, hxr⟩ := id hx
  obtain rfl : cs = #[.string x.key, .int .i64 x.v.kind, .string x.v.s, .slice A1 x.v.l.length c1, .slice A2 x.v.z.length c2, .slice A3 x.v.h.length c3, .int .i64 x.at_] := by
    apply Array.ext'
    exact ecs
  refine (imageActs key now (aliveC (laidOf hL hS)) hrow hx).mono ?_
  rintro e W' ⟨rfl, hb⟩
  exact ⟨_, rfl, post_true (f := Tryz.f4) (s := Rows.imageActsSpec) rfl (by kernel_rfl) rfl (by kernel_rfl) hW' hb⟩

theorem actsLifted (os : Os) (started : os.Started) (H : Type) (enc : TypeId × Value → H) (F : Stop.Interp) :
    ReturnsInHanded {} Tryz.checked os 4 .any ((OpenSpec.ofChange Rows.imageActsSpec).preRow enc Tryz.prog Tryz.f4 Rows.imageActsRow.domain false Rows.imageActsRow.laid) (((OpenSpec.ofChange Rows.imageActsSpec).at F).post enc Tryz.prog Tryz.f4 false true false false) := by
  refine returnsInHanded_of_row (C := Tryz.checked) (s := OpenSpec.ofChange Rows.imageActsSpec) ownNone started (by kernel_rfl) Tryz.func4 ?_ ?_
  · have hok : Input.okWideB Tryz.prog ((worldLaid os).forCall (fun _ _ => 0) ⟨#[], #[.slice none 0 0, .agg #[.string ⟨#[]⟩, .int .i64 0, .string ⟨#[]⟩, .slice none 0 0, .slice none 0 0, .slice none 0 0, .int .i64 0], .string ⟨#[]⟩, .int .i64 0], []⟩) 4 ⟨#[], #[.slice none 0 0, .agg #[.string ⟨#[]⟩, .int .i64 0, .string ⟨#[]⟩, .slice none 0 0, .slice none 0 0, .slice none 0 0, .int .i64 0], .string ⟨#[]⟩, .int .i64 0], []⟩ = true := by kernel_rfl
    refine ⟨worldLaid os, fun _ _ => 0, ⟨#[], #[.slice none 0 0, .agg #[.string ⟨#[]⟩, .int .i64 0, .string ⟨#[]⟩, .slice none 0 0, .slice none 0 0, .slice none 0 0, .int .i64 0], .string ⟨#[]⟩, .int .i64 0], []⟩, World.laidAll_os _ _ _, worldShaped os _, (Input.okWide_of_okWideB (base := 0) hok).1, (Input.okWide_of_okWideB hok).2,
      OpenSpec.preRow_of_B rfl 8 (by kernel_rfl) (by kernel_rfl) (worldMet os _), ?_⟩
    simp only [Assume.holds]
    exact ⟨by simp, by simp, fun _ => Modest.zero, by simp, by simp⟩
  · intro W base args ds gs before hval hW _ _ hsz hL hS _
    exact actsContract H enc W base args ds gs before hval hW hsz hL hS

theorem actsSaid : Rows.ImageActsSaid :=
  OpenClaim.holds_of_cond 4 Tryz.f4 rfl rfl rfl rfl rfl rfl rfl ⟨rfl, rfl, rfl, rfl, rfl⟩ rfl rfl rfl rfl rfl (by kernel_rfl) Tryz.func4 (by kernel_rfl)
    (of_decide_eq_true (by kernel_rfl)) (by unfold Func.isWrapper; first | (rw [if_pos (by decide +kernel)]; kernel_rfl) | (rw [if_neg (by decide +kernel)]; exact ⟨rfl, rfl⟩))
    (fun os started H enc _ F => by rw [OpenClaim.pre_eq_preRow]; exact actsLifted os started H enc F)

/-- No parameter wants a stand-in: what the card asks. -/
theorem actsPlain (f : FuncId) (fn : Func) (hf : Tryz.pinned.checked.prog.funcNamed "millpond/millpondlaw09.ImageActs" = some f) (hfn : Tryz.pinned.checked.prog.funcs[f]? = some fn) :
    true = Tryz.pinned.checked.prog.looks [] ∧ ∀ (j : Nat) t, fn.params[j]? = some t → Tryz.pinned.checked.prog.wantsStandIn t = false := by
  obtain rfl : f = 4 := Option.some.inj ((show Tryz.prog.funcNamed "millpond/millpondlaw09.ImageActs" = some 4 by kernel_rfl).symm.trans hf) |>.symm
  obtain rfl : fn = Tryz.f4 := (Option.some.inj (Tryz.func4.symm.trans hfn)).symm
  refine ⟨by kernel_rfl, fun j t ht => ?_⟩
  rw [Tryz.params4] at ht
  have hm : t ∈ [22, 30, 9, 3] := by simpa using Array.mem_of_getElem? ht
  have hall : ([22, 30, 9, 3].all fun u => !Tryz.prog.wantsStandIn u) = true := by kernel_rfl
  exact (show Tryz.prog.wantsStandIn t = false by simpa using List.all_eq_true.1 hall t hm)

/-- THE CARD. -/
theorem imageActsCardSaid : Rows.ImageActsCardSaid :=
  Claim7.holds_tied_plain_at .later [] _ _ _ _ actsSaid (fun _ h => by cases h) (by kernel_rfl) (fun _ h => by cases h) imageActs_row_tie rfl ⟨rfl, rfl⟩ (by kernel_rfl) rfl actsPlain (by kernel_rfl)
#print axioms imageActsCardSaid
end Go.Proofs.YtkgghnjpegpnlaaGreatDoor
