/- The row of FnExactInputsIn: its statement out of the pure one and the walk of its code; no condition. -/
import Derived.Test.YtbjmhdoagjmmcaaRows
import Derived.Test.YtbjmhdoagjmmcaaPureFnExactInputsIn
import Derived.Test.YtbjmhdoagjmmcaaOpen
import Derived.WalkKit
import Derived.ProofKit
import Derived.OpenShut
import Derived.ShutString
import Derived.ChangeOld
import Derived.Below
import Derived.SizedLaws
namespace Go.Proofs.Ytbjmhdoagjmmcaa.fnExactInputsIn
open Go.ChangeShapes Go.WideShapes Go.ChangeAt Go.RowKit
open Go.Proofs.Ytbjmhdoagjmmcaa.Bs Go.Proofs.YtbjmhdoagjmmcaaW.PrintWords Go.Proofs.Ytbjmhdoagjmmcaa.PCore
set_option linter.unusedVariables false
theorem own : ownKnob Try.prog.godebug = none := by kernel_rfl
theorem laidOut : laidOutB Try.prog = true := by kernel_rfl
set_option maxRecDepth 100000 in
theorem lifted (os : Os) (started : os.Started) (H : Type) (enc : TypeId × Value → H) :
    ReturnsInHanded {} Try.checked os 9 .any (Rows.fnExactInputsInSpec.pre6 enc Try.prog Try.f9 Rows.fnExactInputsInRow.domain false) (Rows.fnExactInputsInSpec.post enc Try.prog Try.f9 false true false false) := by
  refine returnsInHanded_of_change_sized (C := Try.checked) own started (by kernel_rfl) Try.func9
    (ChangeSpec.witness6 (enc := enc) (C := Try.checked) false ⟨#[], #[.agg #[.int .i64 0, .slice none 0 0, .slice none 0 0, .int .i64 0, .slice none 0 0, .slice none 0 0]], []⟩ 8 (by kernel_rfl) (by kernel_rfl) (by kernel_rfl) (by kernel_rfl)) ?_
  intro W base args ds gs before hval0 hW hcnd hsz0 _
  have hval : ∀ (j : Nat) t v, Try.f9.params[j]? = some t → args[j]? = some v → Value.okWide Try.prog W .any base t v := hval0
  have hW' := hW
  obtain ⟨p, q, hA0, hV, rfl, hfz, hnd⟩ := hW
  have hA : DataW.TrodAll enc Try.prog W 0 (fun _ => true) true Try.f9.params.toList args.toList ds p := hA0
  rw [Try.params9] at hA hval
  obtain ⟨v0, vs0, d0, ds0, p0, q0, hargs, rfl, rfl, h0, r0⟩ := trodAll_cons hA
  obtain ⟨rfl, rfl, rfl⟩ := trodAll_nil r0
  obtain rfl : args = #[v0] := by cases args; simp_all
  obtain ⟨rfl, rfl⟩ := trodVars_none hV
  have k0 := h0
  have lt0 : ∀ x ∈ p0, x.block < W.heap.size := by obtain ⟨m, hm⟩ := k0; exact DataW.trod_lt m _ _ _ hm
  obtain ⟨cs0, rfl⟩ := Go.Proofs.Ytbjmhdoagjmmcaa.Bs.okWide_struct Try.underlying45 (hval 0 45 v0 rfl rfl)
  obtain ⟨fu0, hf0⟩ := h0
  obtain ⟨y0, hK0, hq0⟩ := (Opens.struct Try.underlying45 (by kernel_rfl) (OpensF.cons rfl (by kernel_rfl) (Opens.int Try.underlying2) rfl (OpensF.cons rfl (by kernel_rfl) (Opens.slice Try.underlying43 (by kernel_rfl) (Opens.iso (Opens.struct Try.underlying120 (by kernel_rfl) (OpensF.cons rfl (by kernel_rfl) (Opens.int Try.underlying2) rfl (OpensF.one rfl (by kernel_rfl) (Opens.int Try.underlying2)))) (fun x : S120 => (x.f0, x.f1)) (fun p => (⟨p.1, p.2⟩ : S120)) (fun _ => rfl))) rfl (OpensF.cons rfl (by kernel_rfl) (Opens.slice Try.underlying43 (by kernel_rfl) (Opens.iso (Opens.struct Try.underlying120 (by kernel_rfl) (OpensF.cons rfl (by kernel_rfl) (Opens.int Try.underlying2) rfl (OpensF.one rfl (by kernel_rfl) (Opens.int Try.underlying2)))) (fun x : S120 => (x.f0, x.f1)) (fun p => (⟨p.1, p.2⟩ : S120)) (fun _ => rfl))) rfl (OpensF.cons rfl (by kernel_rfl) (Opens.int Try.underlying2) rfl (OpensF.cons rfl (by kernel_rfl) (Opens.slice Try.underlying33 (by kernel_rfl) (Opens.int Try.underlying2)) rfl (OpensF.one rfl (by kernel_rfl) (Opens.slice Try.underlying22 (by kernel_rfl) (Opens.iso (Opens.struct Try.underlying64 (by kernel_rfl) (OpensF.cons rfl (by kernel_rfl) (Opens.int Try.underlying2) rfl (OpensF.cons rfl (by kernel_rfl) (Opens.int Try.underlying2) rfl (OpensF.cons rfl (by kernel_rfl) (Opens.slice Try.underlying52 (by kernel_rfl) (Opens.iso (Opens.struct Try.underlying102 (by kernel_rfl) (OpensF.cons rfl (by kernel_rfl) (Opens.int Try.underlying2) rfl (OpensF.one rfl (by kernel_rfl) (Opens.int Try.underlying2)))) (fun x : S102 => (x.f0, x.f1)) (fun p => (⟨p.1, p.2⟩ : S102)) (fun _ => rfl))) rfl (OpensF.one rfl (by kernel_rfl) (Opens.slice Try.underlying52 (by kernel_rfl) (Opens.iso (Opens.struct Try.underlying102 (by kernel_rfl) (OpensF.cons rfl (by kernel_rfl) (Opens.int Try.underlying2) rfl (OpensF.one rfl (by kernel_rfl) (Opens.int Try.underlying2)))) (fun x : S102 => (x.f0, x.f1)) (fun p => (⟨p.1, p.2⟩ : S102)) (fun _ => rfl)))))))) (fun x : S64 => (x.f0, (x.f1, (x.f2, x.f3)))) (fun p => (⟨p.1, p.2.1, p.2.2.1, p.2.2.2⟩ : S64)) (fun _ => rfl)))))))))) H enc W fu0 _ _ hf0
  obtain ⟨_, _, hcs0_1, rfl, ⟨_, _, hcs0_2, ⟨A0_1, c0_1, rfl, hc0_1, hr0_1⟩, ⟨_, _, hcs0_3, ⟨A0_2, c0_2, rfl, hc0_2, hr0_2⟩, ⟨_, _, hcs0_4, rfl, ⟨_, _, hcs0_5, ⟨A0_4, c0_4, rfl, hc0_4, hr0_4⟩, ⟨A0_5, c0_5, rfl, hc0_5, hr0_5⟩⟩⟩⟩⟩⟩ := hK0
  subst hcs0_5
  subst hcs0_4
  subst hcs0_3
  subst hcs0_2
  obtain rfl : cs0 = #[.int .i64 y0.1, .slice A0_1 y0.2.1.length c0_1, .slice A0_2 y0.2.2.1.length c0_2, .int .i64 y0.2.2.2.1, .slice A0_4 y0.2.2.2.2.1.length c0_4, .slice A0_5 y0.2.2.2.2.2.length c0_5] := by
    have hz := congrArg List.toArray hcs0_1
    simpa [Value.cells] using hz
  obtain ⟨k, h⟩ := Pure.FnExactInputsIn y0.1 y0.2.1 y0.2.2.1 y0.2.2.2.1 y0.2.2.2.2.1 y0.2.2.2.2.2 hq0
  clear hA0 hval0 hsz0
  refine (PCore.laws_FnExactInputsIn.calls k y0.1 _ _ y0.2.1 _ _ y0.2.2.1 y0.2.2.2.1 _ _ y0.2.2.2.2.1 _ _ y0.2.2.2.2.2 true W hr0_1 hc0_1 hr0_2 hc0_2 hr0_4 hc0_4 hr0_5 hc0_5 h).mono fun e W' he' => ?_
  have he := he'.1
  have bel := he'.2
  subst he
  exact ⟨_, rfl, _, _, _, [], _, [], hW', trodAll_mk1 (shut_bool Try.underlying4 _), (trodAll_cons_mk (Below.trod laidOut (by kernel_rfl) (of_decide_eq_true (by kernel_rfl)) k0 bel lt0) trodAll_mk0), rfl, bel.frame _, fun h => by cases h⟩
theorem over : Rows.fnExactInputsInRow.holds Try.pinned (OpenSpec.ofChange Rows.fnExactInputsInSpec) :=
  OpenClaim.holds_of_wide 9 Try.f9 rfl rfl rfl rfl rfl rfl rfl ⟨rfl, rfl, rfl, rfl, rfl⟩ rfl rfl rfl rfl rfl (by kernel_rfl) Try.func9 (by kernel_rfl)
    (of_decide_eq_true (by kernel_rfl)) (by unfold Func.isWrapper; first | (rw [if_pos (by decide +kernel)]; kernel_rfl) | (rw [if_neg (by decide +kernel)]; exact ⟨rfl, rfl⟩))
    (fun os started H enc _ => lifted os started H enc)
theorem proved : Rows.FnExactInputsInSaid := over
#print axioms proved
end Go.Proofs.Ytbjmhdoagjmmcaa.fnExactInputsIn
namespace Go.Proofs.Ytbjmhdoagjmmcaa
/-- The row, under a short name, for the claim. -/
theorem fnExactInputsIn_holds : Rows.FnExactInputsInSaid := fnExactInputsIn.proved
end Go.Proofs.Ytbjmhdoagjmmcaa
