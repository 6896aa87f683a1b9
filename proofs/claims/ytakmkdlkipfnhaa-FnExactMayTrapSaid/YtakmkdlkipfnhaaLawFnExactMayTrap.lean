/- The row of FnExactMayTrap: its statement out of the pure one and the walk of its code; no condition. -/
import Derived.Test.YtakmkdlkipfnhaaRows
import Derived.Test.YtakmkdlkipfnhaaPureFnExactMayTrap
import Derived.Test.YtakmkdlkipfnhaaOpen
import Derived.WalkKit
import Derived.ProofKit
import Derived.OpenShut
import Derived.ShutString
import Derived.ChangeOld
import Derived.Below
import Derived.SizedLaws
namespace Go.Proofs.Ytakmkdlkipfnhaa.fnExactMayTrap
open Go.ChangeShapes Go.WideShapes Go.ChangeAt Go.RowKit
open Go.Proofs.Ytakmkdlkipfnhaa.Bs Go.Proofs.YtakmkdlkipfnhaaW.PrintWords Go.Proofs.Ytakmkdlkipfnhaa.PCore
set_option linter.unusedVariables false
theorem own : ownKnob Try.prog.godebug = none := by kernel_rfl
theorem laidOut : laidOutB Try.prog = true := by kernel_rfl
set_option maxRecDepth 100000 in
theorem lifted (os : Os) (started : os.Started) (H : Type) (enc : TypeId × Value → H) :
    ReturnsInHanded {} Try.checked os 14 .any (Rows.fnExactMayTrapSpec.pre6 enc Try.prog Try.f14 Rows.fnExactMayTrapRow.domain false) (Rows.fnExactMayTrapSpec.post enc Try.prog Try.f14 false true false false) := by
  refine returnsInHanded_of_change_sized (C := Try.checked) own started (by kernel_rfl) Try.func14
    (ChangeSpec.witness6 (enc := enc) (C := Try.checked) false ⟨#[], #[.agg #[.int .i64 0, .slice none 0 0, .slice none 0 0, .int .i64 0, .slice none 0 0, .slice none 0 0], .slice none 0 0], []⟩ 8 (by kernel_rfl) (by kernel_rfl) (by kernel_rfl) (by kernel_rfl)) ?_
  intro W base args ds gs before hval0 hW hcnd hsz0 _
  have hval : ∀ (j : Nat) t v, Try.f14.params[j]? = some t → args[j]? = some v → Value.okWide Try.prog W .any base t v := hval0
  have hW' := hW
  obtain ⟨p, q, hA0, hV, rfl, hfz, hnd⟩ := hW
  have hA : DataW.TrodAll enc Try.prog W 0 (fun _ => true) true Try.f14.params.toList args.toList ds p := hA0
  rw [Try.params14] at hA hval
  obtain ⟨v0, vs0, d0, ds0, p0, q0, hargs, rfl, rfl, h0, r0⟩ := trodAll_cons hA
  obtain ⟨v1, vs1, d1, ds1, p1, q1, rfl, rfl, rfl, h1, r1⟩ := trodAll_cons r0
  obtain ⟨rfl, rfl, rfl⟩ := trodAll_nil r1
  obtain rfl : args = #[v0, v1] := by cases args; simp_all
  obtain ⟨rfl, rfl⟩ := trodVars_none hV
  have k0 := h0
  have lt0 : ∀ x ∈ p0, x.block < W.heap.size := by obtain ⟨m, hm⟩ := k0; exact DataW.trod_lt m _ _ _ hm
  obtain ⟨cs0, rfl⟩ := Go.Proofs.Ytakmkdlkipfnhaa.Bs.okWide_struct Try.underlying26 (hval 0 26 v0 rfl rfl)
  obtain ⟨fu0, hf0⟩ := h0
  obtain ⟨y0, hK0, hq0⟩ := (Opens.struct Try.underlying26 (by kernel_rfl) (OpensF.cons rfl (by kernel_rfl) (Opens.int Try.underlying2) rfl (OpensF.cons rfl (by kernel_rfl) (Opens.slice Try.underlying22 (by kernel_rfl) (Opens.iso (Opens.struct Try.underlying128 (by kernel_rfl) (OpensF.cons rfl (by kernel_rfl) (Opens.int Try.underlying2) rfl (OpensF.one rfl (by kernel_rfl) (Opens.int Try.underlying2)))) (fun x : S128 => (x.f0, x.f1)) (fun p => (⟨p.1, p.2⟩ : S128)) (fun _ => rfl))) rfl (OpensF.cons rfl (by kernel_rfl) (Opens.slice Try.underlying22 (by kernel_rfl) (Opens.iso (Opens.struct Try.underlying128 (by kernel_rfl) (OpensF.cons rfl (by kernel_rfl) (Opens.int Try.underlying2) rfl (OpensF.one rfl (by kernel_rfl) (Opens.int Try.underlying2)))) (fun x : S128 => (x.f0, x.f1)) (fun p => (⟨p.1, p.2⟩ : S128)) (fun _ => rfl))) rfl (OpensF.cons rfl (by kernel_rfl) (Opens.int Try.underlying2) rfl (OpensF.cons rfl (by kernel_rfl) (Opens.slice Try.underlying23 (by kernel_rfl) (Opens.int Try.underlying2)) rfl (OpensF.one rfl (by kernel_rfl) (Opens.slice Try.underlying24 (by kernel_rfl) (Opens.iso (Opens.struct Try.underlying126 (by kernel_rfl) (OpensF.cons rfl (by kernel_rfl) (Opens.int Try.underlying2) rfl (OpensF.cons rfl (by kernel_rfl) (Opens.int Try.underlying2) rfl (OpensF.cons rfl (by kernel_rfl) (Opens.slice Try.underlying78 (by kernel_rfl) (Opens.iso (Opens.struct Try.underlying122 (by kernel_rfl) (OpensF.cons rfl (by kernel_rfl) (Opens.int Try.underlying2) rfl (OpensF.one rfl (by kernel_rfl) (Opens.int Try.underlying2)))) (fun x : S122 => (x.f0, x.f1)) (fun p => (⟨p.1, p.2⟩ : S122)) (fun _ => rfl))) rfl (OpensF.one rfl (by kernel_rfl) (Opens.slice Try.underlying78 (by kernel_rfl) (Opens.iso (Opens.struct Try.underlying122 (by kernel_rfl) (OpensF.cons rfl (by kernel_rfl) (Opens.int Try.underlying2) rfl (OpensF.one rfl (by kernel_rfl) (Opens.int Try.underlying2)))) (fun x : S122 => (x.f0, x.f1)) (fun p => (⟨p.1, p.2⟩ : S122)) (fun _ => rfl)))))))) (fun x : S126 => (x.f0, (x.f1, (x.f2, x.f3)))) (fun p => (⟨p.1, p.2.1, p.2.2.1, p.2.2.2⟩ : S126)) (fun _ => rfl)))))))))) H enc W fu0 _ _ hf0
  obtain ⟨_, _, hcs0_1, rfl, ⟨_, _, hcs0_2, ⟨A0_1, c0_1, rfl, hc0_1, hr0_1⟩, ⟨_, _, hcs0_3, ⟨A0_2, c0_2, rfl, hc0_2, hr0_2⟩, ⟨_, _, hcs0_4, rfl, ⟨_, _, hcs0_5, ⟨A0_4, c0_4, rfl, hc0_4, hr0_4⟩, ⟨A0_5, c0_5, rfl, hc0_5, hr0_5⟩⟩⟩⟩⟩⟩ := hK0
  subst hcs0_5
  subst hcs0_4
  subst hcs0_3
  subst hcs0_2
  obtain rfl : cs0 = #[.int .i64 y0.1, .slice A0_1 y0.2.1.length c0_1, .slice A0_2 y0.2.2.1.length c0_2, .int .i64 y0.2.2.2.1, .slice A0_4 y0.2.2.2.2.1.length c0_4, .slice A0_5 y0.2.2.2.2.2.length c0_5] := by
    have hz := congrArg List.toArray hcs0_1
    simpa [Value.cells] using hz
  have k1 := h1
  have lt1 : ∀ x ∈ p1, x.block < W.heap.size := by obtain ⟨m, hm⟩ := k1; exact DataW.trod_lt m _ _ _ hm
  obtain ⟨a1, len1, cap1, rfl⟩ := okWide_slice Try.underlying78 (hval 1 78 v1 rfl rfl)
  obtain ⟨fu1, hf1⟩ := h1
  obtain ⟨y1, ⟨A1, c1, hcs1, hc1, hr1⟩, hq1⟩ := (Opens.slice Try.underlying78 (by kernel_rfl) (Opens.iso (Opens.struct Try.underlying122 (by kernel_rfl) (OpensF.cons rfl (by kernel_rfl) (Opens.int Try.underlying2) rfl (OpensF.one rfl (by kernel_rfl) (Opens.int Try.underlying2)))) (fun x : S122 => (x.f0, x.f1)) (fun p => (⟨p.1, p.2⟩ : S122)) (fun _ => rfl))) H enc W fu1 _ _ hf1
  simp [Value.cells] at hcs1
  obtain ⟨rfl, rfl, rfl⟩ := hcs1
  obtain ⟨k, h⟩ := Pure.FnExactMayTrap y0.1 y0.2.1 y0.2.2.1 y0.2.2.2.1 y0.2.2.2.2.1 y0.2.2.2.2.2 y1 hq0 hq1
  clear hA0 hval0 hsz0
  refine (PCore.laws_FnExactMayTrap.calls k y0.1 _ _ y0.2.1 _ _ y0.2.2.1 y0.2.2.2.1 _ _ y0.2.2.2.2.1 _ _ y0.2.2.2.2.2 _ _ y1 true W hr0_1 hc0_1 hr0_2 hc0_2 hr0_4 hc0_4 hr0_5 hc0_5 hr1 hc1 h).mono fun e W' he' => ?_
  have he := he'.1
  have bel := he'.2
  subst he
  exact ⟨_, rfl, _, _, _, [], _, [], hW', trodAll_mk1 (shut_bool Try.underlying4 _), (trodAll_cons_mk (Below.trod laidOut (by kernel_rfl) (of_decide_eq_true (by kernel_rfl)) k0 bel lt0) (trodAll_cons_mk (Below.trod laidOut (by kernel_rfl) (of_decide_eq_true (by kernel_rfl)) k1 bel lt1) trodAll_mk0)), rfl, bel.frame _, fun h => by cases h⟩
theorem over : Rows.fnExactMayTrapRow.holds Try.pinned (OpenSpec.ofChange Rows.fnExactMayTrapSpec) :=
  OpenClaim.holds_of_wide 14 Try.f14 rfl rfl rfl rfl rfl rfl rfl ⟨rfl, rfl, rfl, rfl, rfl⟩ rfl rfl rfl rfl rfl (by kernel_rfl) Try.func14 (by kernel_rfl)
    (of_decide_eq_true (by kernel_rfl)) (by unfold Func.isWrapper; first | (rw [if_pos (by decide +kernel)]; kernel_rfl) | (rw [if_neg (by decide +kernel)]; exact ⟨rfl, rfl⟩))
    (fun os started H enc _ => lifted os started H enc)
theorem proved : Rows.FnExactMayTrapSaid := over
#print axioms proved
end Go.Proofs.Ytakmkdlkipfnhaa.fnExactMayTrap
namespace Go.Proofs.Ytakmkdlkipfnhaa
/-- The row, under a short name, for the claim. -/
theorem fnExactMayTrap_holds : Rows.FnExactMayTrapSaid := fnExactMayTrap.proved
end Go.Proofs.Ytakmkdlkipfnhaa
