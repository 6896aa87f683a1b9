/- The row of FnExactLikeOutcomes: its statement out of the pure one and the walk of its code; no condition. -/
import Derived.Test.YtfpobacomphnbaaRows
import Derived.Test.YtfpobacomphnbaaPureFnExactLikeOutcomes
import Derived.Test.YtfpobacomphnbaaOpen
import Derived.WalkKit
import Derived.ProofKit
import Derived.OpenShut
import Derived.ShutString
import Derived.ChangeOld
import Derived.Below
import Derived.SizedLaws
namespace Go.Proofs.Ytfpobacomphnbaa.fnExactLikeOutcomes
open Go.ChangeShapes Go.WideShapes Go.ChangeAt Go.RowKit
open Go.Proofs.Ytfpobacomphnbaa.Bs Go.Proofs.YtfpobacomphnbaaW.PrintWords Go.Proofs.Ytfpobacomphnbaa.PFnExactLikeOutcomes
set_option linter.unusedVariables false
theorem own : ownKnob Try.prog.godebug = none := by kernel_rfl
theorem laidOut : laidOutB Try.prog = true := by kernel_rfl
set_option maxRecDepth 100000 in
theorem lifted (os : Os) (started : os.Started) (H : Type) (enc : TypeId × Value → H) :
    ReturnsInHanded {} Try.checked os 7 .any (Rows.fnExactLikeOutcomesSpec.pre6 enc Try.prog Try.f7 Rows.fnExactLikeOutcomesRow.domain false) (Rows.fnExactLikeOutcomesSpec.post enc Try.prog Try.f7 false true false false) := by
  refine returnsInHanded_of_change_sized (C := Try.checked) own started (by kernel_rfl) Try.func7
    (ChangeSpec.witness6 (enc := enc) (C := Try.checked) false ⟨#[], #[.agg #[.slice none 0 0, .int .i64 0, .int .i64 0], .agg #[.slice none 0 0, .int .i64 0, .int .i64 0]], []⟩ 8 (by kernel_rfl) (by kernel_rfl) (by kernel_rfl) (by kernel_rfl)) ?_
  intro W base args ds gs before hval0 hW hcnd hsz0 _
  have hval : ∀ (j : Nat) t v, Try.f7.params[j]? = some t → args[j]? = some v → Value.okWide Try.prog W .any base t v := hval0
  have hW' := hW
  obtain ⟨p, q, hA0, hV, rfl, hfz, hnd⟩ := hW
  have hA : DataW.TrodAll enc Try.prog W 0 (fun _ => true) true Try.f7.params.toList args.toList ds p := hA0
  rw [Try.params7] at hA hval
  obtain ⟨v0, vs0, d0, ds0, p0, q0, hargs, rfl, rfl, h0, r0⟩ := trodAll_cons hA
  obtain ⟨v1, vs1, d1, ds1, p1, q1, rfl, rfl, rfl, h1, r1⟩ := trodAll_cons r0
  obtain ⟨rfl, rfl, rfl⟩ := trodAll_nil r1
  obtain rfl : args = #[v0, v1] := by cases args; simp_all
  obtain ⟨rfl, rfl⟩ := trodVars_none hV
  have k0 := h0
  have lt0 : ∀ x ∈ p0, x.block < W.heap.size := by obtain ⟨m, hm⟩ := k0; exact DataW.trod_lt m _ _ _ hm
  obtain ⟨cs0, rfl⟩ := Go.Proofs.Ytfpobacomphnbaa.Bs.okWide_struct Try.underlying32 (hval 0 32 v0 rfl rfl)
  obtain ⟨fu0, hf0⟩ := h0
  obtain ⟨y0, hK0, hq0⟩ := (Opens.struct Try.underlying32 (by kernel_rfl) (OpensF.cons rfl (by kernel_rfl) (Opens.slice Try.underlying25 (by kernel_rfl) (Opens.int Try.underlying2)) rfl (OpensF.cons rfl (by kernel_rfl) (Opens.int Try.underlying2) rfl (OpensF.one rfl (by kernel_rfl) (Opens.int Try.underlying2))))) H enc W fu0 _ _ hf0
  obtain ⟨_, _, hcs0_1, ⟨A0_0, c0_0, rfl, hc0_0, hr0_0⟩, ⟨_, _, hcs0_2, rfl, rfl⟩⟩ := hK0
  subst hcs0_2
  obtain rfl : cs0 = #[.slice A0_0 y0.1.length c0_0, .int .i64 y0.2.1, .int .i64 y0.2.2] := by
    have hz := congrArg List.toArray hcs0_1
    simpa [Value.cells] using hz
  have k1 := h1
  have lt1 : ∀ x ∈ p1, x.block < W.heap.size := by obtain ⟨m, hm⟩ := k1; exact DataW.trod_lt m _ _ _ hm
  obtain ⟨cs1, rfl⟩ := Go.Proofs.Ytfpobacomphnbaa.Bs.okWide_struct Try.underlying32 (hval 1 32 v1 rfl rfl)
  obtain ⟨fu1, hf1⟩ := h1
  obtain ⟨y1, hK1, hq1⟩ := (Opens.struct Try.underlying32 (by kernel_rfl) (OpensF.cons rfl (by kernel_rfl) (Opens.slice Try.underlying25 (by kernel_rfl) (Opens.int Try.underlying2)) rfl (OpensF.cons rfl (by kernel_rfl) (Opens.int Try.underlying2) rfl (OpensF.one rfl (by kernel_rfl) (Opens.int Try.underlying2))))) H enc W fu1 _ _ hf1
  obtain ⟨_, _, hcs1_1, ⟨A1_0, c1_0, rfl, hc1_0, hr1_0⟩, ⟨_, _, hcs1_2, rfl, rfl⟩⟩ := hK1
  subst hcs1_2
  obtain rfl : cs1 = #[.slice A1_0 y1.1.length c1_0, .int .i64 y1.2.1, .int .i64 y1.2.2] := by
    have hz := congrArg List.toArray hcs1_1
    simpa [Value.cells] using hz
  obtain ⟨k, h⟩ := Pure.FnExactLikeOutcomes y0.1 y0.2.1 y0.2.2 y1.1 y1.2.1 y1.2.2 hq0 hq1
  clear hA0 hval0 hsz0
  refine (PFnExactLikeOutcomes.laws_FnExactLikeOutcomes.calls k _ _ y0.1 y0.2.1 y0.2.2 _ _ y1.1 y1.2.1 y1.2.2 true W hr0_0 hc0_0 hr1_0 hc1_0 h).mono fun e W' he' => ?_
  have he := he'.1
  have bel := he'.2
  subst he
  exact ⟨_, rfl, _, _, _, [], _, [], hW', trodAll_mk1 (shut_bool Try.underlying4 _), (trodAll_cons_mk (Below.trod laidOut (by kernel_rfl) (of_decide_eq_true (by kernel_rfl)) k0 bel lt0) (trodAll_cons_mk (Below.trod laidOut (by kernel_rfl) (of_decide_eq_true (by kernel_rfl)) k1 bel lt1) trodAll_mk0)), rfl, bel.frame _, fun h => by cases h⟩
theorem over : Rows.fnExactLikeOutcomesRow.holds Try.pinned (OpenSpec.ofChange Rows.fnExactLikeOutcomesSpec) :=
  OpenClaim.holds_of_wide 7 Try.f7 rfl rfl rfl rfl rfl rfl rfl ⟨rfl, rfl, rfl, rfl, rfl⟩ rfl rfl rfl rfl rfl (by kernel_rfl) Try.func7 (by kernel_rfl)
    (of_decide_eq_true (by kernel_rfl)) (by unfold Func.isWrapper; first | (rw [if_pos (by decide +kernel)]; kernel_rfl) | (rw [if_neg (by decide +kernel)]; exact ⟨rfl, rfl⟩))
    (fun os started H enc _ => lifted os started H enc)
theorem proved : Rows.FnExactLikeOutcomesSaid := over
#print axioms proved
end Go.Proofs.Ytfpobacomphnbaa.fnExactLikeOutcomes
namespace Go.Proofs.Ytfpobacomphnbaa
/-- The row, under a short name, for the claim. -/
theorem fnExactLikeOutcomes_holds : Rows.FnExactLikeOutcomesSaid := fnExactLikeOutcomes.proved
end Go.Proofs.Ytfpobacomphnbaa
