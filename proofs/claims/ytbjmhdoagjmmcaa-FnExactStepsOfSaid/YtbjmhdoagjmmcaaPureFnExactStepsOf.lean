/- StepsOf of the program and of the reference answer alike, for every Prog, and the argument is left as it was; no condition. -/
import Derived.Test.YtbjmhdoagjmmcaaPCoreg17
import Derived.Test.YtbjmhdoagjmmcaaTerm
import Derived.Test.YtbjmhdoagjmmcaaFL1In
import Derived.Test.YtbjmhdoagjmmcaaFNest
import Derived.Test.YtbjmhdoagjmmcaaFTakesOf
import Derived.Test.YtbjmhdoagjmmcaaFTm
import Derived.Test.YtbjmhdoagjmmcaaFExpOk
import Derived.Test.YtbjmhdoagjmmcaaFInputS
import Derived.Test.YtbjmhdoagjmmcaaFCode
import Derived.Test.YtbjmhdoagjmmcaaFTermS
import Derived.Test.YtbjmhdoagjmmcaaFStmtS
import Derived.Test.YtbjmhdoagjmmcaaFCodeSt
import Derived.Test.YtbjmhdoagjmmcaaFSteps
import Derived.Test.YtbjmhdoagjmmcaaFCodeOf
import Derived.Test.YtbjmhdoagjmmcaaFStepsOf
import Derived.Test.YtbjmhdoagjmmcaaFToInt64S
import Derived.Test.YtbjmhdoagjmmcaaFEqInt64S
import Derived.Test.YtbjmhdoagjmmcaaFProg
set_option linter.unusedVariables false
set_option linter.unusedSimpArgs false
namespace Go.Proofs.Ytbjmhdoagjmmcaa.Pure
open Go.RowKit Go.Proofs.Ytbjmhdoagjmmcaa.PCore Go.Proofs.YtbjmhdoagjmmcaaW.PrintWords Go.Proofs.YtbjmhdoagjmmcaaW.PrintLast Go.Proofs.YtbjmhdoagjmmcaaW.PrintMore Go.Proofs.Ytbjmhdoagjmmcaa.Bs


def Want_FnExactStepsOf : Prop := ∀ (a0_0 : Int) (l0_1 : List (S120)) (l0_2 : List (S120)) (a0_3 : Int) (l0_4 : List (Int)) (l0_5 : List (S64)), ((Lit.int .i64 a0_0).wf = true ∧ ((l0_1.length ≤ 9223372036854775807 ∧ ∀ u1 ∈ l0_1, ((Lit.int .i64 u1.f0).wf = true ∧ (Lit.int .i64 u1.f1).wf = true)) ∧ ((l0_2.length ≤ 9223372036854775807 ∧ ∀ u2 ∈ l0_2, ((Lit.int .i64 u2.f0).wf = true ∧ (Lit.int .i64 u2.f1).wf = true)) ∧ ((Lit.int .i64 a0_3).wf = true ∧ ((l0_4.length ≤ 9223372036854775807 ∧ ∀ u3 ∈ l0_4, (Lit.int .i64 u3).wf = true) ∧ (l0_5.length ≤ 9223372036854775807 ∧ ∀ u4 ∈ l0_5, ((Lit.int .i64 u4.f0).wf = true ∧ ((Lit.int .i64 u4.f1).wf = true ∧ ((u4.f2.length ≤ 9223372036854775807 ∧ ∀ u5 ∈ u4.f2, ((Lit.int .i64 u5.f0).wf = true ∧ (Lit.int .i64 u5.f1).wf = true)) ∧ (u4.f3.length ≤ 9223372036854775807 ∧ ∀ u6 ∈ u4.f3, ((Lit.int .i64 u6.f0).wf = true ∧ (Lit.int .i64 u6.f1).wf = true))))))))))) → ∃ k, laws_FnExactStepsOf.f k a0_0 l0_1 l0_2 a0_3 l0_4 l0_5 = some true
theorem FnExactStepsOf : Want_FnExactStepsOf := by
  intro w a b t c d ⟨_, ha, hb, _, hc, hd⟩
  refine Ev.rounds ?_
  simp only [laws_FnExactStepsOf.f]
  obtain ⟨r, er, hr⟩ := szProg_ex w t a b c d 1048576 (by omega) (by omega) ha.1 hb.1 hc.1 hd.1 (fun s hs => ⟨(hd.2 s hs).2.2.1.1, (hd.2 s hs).2.2.2.1⟩)
  refine Ev.bind er ?_
  by_cases cr : r < 0
  · simp only [if_pos cr]; exact Ev.now _
  simp only [if_neg cr]
  have ok : okPg a b c d := by
    rcases hr with h | h
    · exact absurd h cr
    · exact h.2.2
  have e1 := toProg_ev w t a b c d ok
  obtain ⟨v, k1, k2⟩ := stepsOf_all w (a.map inL) (b.map inL) (by simpa using ok.1) (by simpa using ok.2.1) t c (d.map stL) (by simpa using ok.2.2.2.1) (stL_ok ok.2.2.2.2)
  refine Ev.bind e1 ?_
  refine Ev.bind k1 ?_
  refine Ev.bind e1 ?_
  refine Ev.bind k2 ?_
  simp only [bne_self_eq_false, Bool.false_eq_true, if_false]
  refine Ev.bind e1 ?_
  refine Ev.bind (eqProg_same w t a b c d ok) ?_
  simp only [if_true]
  exact Ev.now _
end Go.Proofs.Ytbjmhdoagjmmcaa.Pure
