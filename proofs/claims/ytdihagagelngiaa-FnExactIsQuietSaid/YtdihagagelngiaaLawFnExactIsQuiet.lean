/- The row of FnExactIsQuiet: its statement out of the engine's walk; no condition. -/
import Derived.Test.YtdihagagelngiaaRows
import Derived.Test.YtdihagagelngiaaEngFh
import Derived.Test.YtdihagagelngiaaEngOp
import Derived.WalkKit
import Derived.ProofKit
import Derived.OpenShut
import Derived.ShutString
import Derived.ChangeOld
import Derived.Below
import Derived.SizedLaws
namespace Go.Proofs.Ytdihagagelngiaa.fnExactIsQuiet
open Go.ChangeShapes Go.WideShapes Go.ChangeAt Go.RowKit Go.Eng Go.Eng.C
set_option linter.unusedVariables false
theorem own : ownKnob Try.prog.godebug = none := by kernel_rfl
theorem laidOut : laidOutB Try.prog = true := by kernel_rfl
theorem mixed : Try.prog.follows .mixedOrders = true := by kernel_rfl
set_option maxRecDepth 100000 in
theorem lifted (os : Os) (started : os.Started) (H : Type) (enc : TypeId × Value → H) :
    ReturnsInHanded {} Try.checked os 12 .any (Rows.fnExactIsQuietSpec.pre6 enc Try.prog Try.f12 Rows.fnExactIsQuietRow.domain false) (Rows.fnExactIsQuietSpec.post enc Try.prog Try.f12 false true false false) := by
  refine returnsInHanded_of_change_sized (C := Try.checked) own started (by kernel_rfl) Try.func12
    (ChangeSpec.witness6 (enc := enc) (C := Try.checked) false ⟨#[], #[.agg #[.int .i64 0, .slice none 0 0, .slice none 0 0, .int .i64 0, .slice none 0 0, .slice none 0 0], .int .i64 0], []⟩ 8 (by kernel_rfl) (by kernel_rfl) (by kernel_rfl) (by kernel_rfl)) ?_
  intro W base args ds gs before hval0 hW hcnd hsz0 _
  have hval : ∀ (j : Nat) t v, Try.f12.params[j]? = some t → args[j]? = some v → Value.okWide Try.prog W .any base t v := hval0
  have hW' := hW
  obtain ⟨p, q, hA0, hV, rfl, hfz, hnd⟩ := hW
  have hA : DataW.TrodAll enc Try.prog W 0 (fun _ => true) true Try.f12.params.toList args.toList ds p := hA0
  rw [Try.params12] at hA hval
  obtain ⟨v0, vs0, d0, ds0, p0, q0, hargs, rfl, rfl, h0, r0⟩ := trodAll_cons hA
  obtain ⟨v1, vs1, d1, ds1, p1, q1, rfl, rfl, rfl, h1, r1⟩ := trodAll_cons r0
  obtain ⟨rfl, rfl, rfl⟩ := trodAll_nil r1
  obtain rfl : args = #[v0, v1] := by cases args; simp_all
  obtain ⟨rfl, rfl⟩ := trodVars_none hV
  have k0 := h0
  have lt0 : ∀ x ∈ p0, x.block < W.heap.size := by obtain ⟨m, hm⟩ := k0; exact DataW.trod_lt m _ _ _ hm
  obtain ⟨a0, rfl, -⟩ := okWide_struct Try.underlying70 (hval 0 70 v0 rfl rfl)
  obtain ⟨fu0, hf0⟩ := h0
  obtain ⟨y0, hC0, hO0, hq0⟩ := (opProg) H enc W fu0 _ _ hf0
  have hR0 : Reps W (AllF W) KF [.ag (prR y0)] noF [.agg a0] := Reps.one1 (by simp only [Rep]; exact ⟨a0, rfl, hO0, hC0⟩)
  obtain ⟨y1, rfl, rfl, rfl, hq1⟩ := open_int Try.underlying2 (hval 1 2 v1 rfl rfl) h1
  have hR1 : Reps W (AllF W) KF [i64 y1] noF [.int .i64 y1] := Reps.one1 (by simp only [Rep]; exact ⟨trivial, rfl⟩)
  clear hA0 hval0 hsz0
  refine (Ev.law (vs := [.agg a0, .int .i64 y1]) mixed (fnExactIsQuietW y0 hq0 y1 hq1) (Reps.app0 hR0 hR1)).mono fun e W' he' => ?_
  have he := he'.1
  have bel := he'.2
  subst he
  exact ⟨_, rfl, _, _, _, [], _, [], hW', trodAll_mk1 (shut_bool Try.underlying4 _), (trodAll_cons_mk (Below.trod laidOut (by kernel_rfl) (of_decide_eq_true (by kernel_rfl)) k0 bel lt0) (trodAll_cons_mk (shut_int Try.underlying2 hq1) trodAll_mk0)), rfl, bel.frame _, fun h => by cases h⟩
theorem over : Rows.fnExactIsQuietRow.holds Try.pinned (OpenSpec.ofChange Rows.fnExactIsQuietSpec) :=
  OpenClaim.holds_of_wide 12 Try.f12 rfl rfl rfl rfl rfl rfl rfl ⟨rfl, rfl, rfl, rfl, rfl⟩ rfl rfl rfl rfl rfl (by kernel_rfl) Try.func12 (by kernel_rfl)
    (of_decide_eq_true (by kernel_rfl)) (by unfold Func.isWrapper; first | (rw [if_pos (by decide +kernel)]; kernel_rfl) | (rw [if_neg (by decide +kernel)]; exact ⟨rfl, rfl⟩))
    (fun os started H enc _ => lifted os started H enc)
theorem proved : Rows.FnExactIsQuietSaid := over
#print axioms proved
end Go.Proofs.Ytdihagagelngiaa.fnExactIsQuiet
namespace Go.Proofs.Ytdihagagelngiaa
/-- The row, under a short name, for the claim. -/
theorem fnExactIsQuiet_holds : Rows.FnExactIsQuietSaid := fnExactIsQuiet.proved
end Go.Proofs.Ytdihagagelngiaa
