/- Part of the pure side: Prog. -/
import Derived.Test.YtbjmhdoagjmmcaaPCoreg
import Derived.Test.YtbjmhdoagjmmcaaPCoreg5
import Derived.Test.YtbjmhdoagjmmcaaPCoreg8
import Derived.Test.YtbjmhdoagjmmcaaTerm
import Derived.Test.YtbjmhdoagjmmcaaFInputS
import Derived.Test.YtbjmhdoagjmmcaaFStmtS
import Derived.Test.YtbjmhdoagjmmcaaFToInt64S
import Derived.Test.YtbjmhdoagjmmcaaFEqInt64S
set_option linter.unusedVariables false
set_option linter.unusedSimpArgs false
namespace Go.Proofs.Ytbjmhdoagjmmcaa.Pure
open Go.RowKit Go.Proofs.Ytbjmhdoagjmmcaa.PCore Go.Proofs.YtbjmhdoagjmmcaaW.PrintWords Go.Proofs.YtbjmhdoagjmmcaaW.PrintLast Go.Proofs.YtbjmhdoagjmmcaaW.PrintMore Go.Proofs.Ytbjmhdoagjmmcaa.Bs

theorem szInt64S_eq (l : List Int) (n : Int) (h0 : 0 ≤ n) (h1 : n ≤ 1048576) (hl : l.length ≤ 9223372036854775807) : laws_szInt64S.f l n = some (if n - (l.length : Int) < 0 then -1 else n - (l.length : Int)) := by
  have hw : wrap64 (n - (l.length : Int)) = n - (l.length : Int) := wrap_id (by omega) (by omega)
  simp only [laws_szInt64S.f, hw]
  split <;> rfl
/-- The Prog fits: all that is asked of its lists. -/
def okPg (a b : List S120) (c : List Int) (d : List S64) : Prop := a.length ≤ 1048576 ∧ b.length ≤ 1048576 ∧ c.length ≤ 1048576 ∧ d.length ≤ 1048576 ∧ ∀ s ∈ d, okSt s
theorem szProg_ex (w t : Int) (a b : List S120) (c : List Int) (d : List S64) (n : Int) (h0 : 0 ≤ n) (h1 : n ≤ 1048576) (ha : a.length ≤ 9223372036854775807) (hb : b.length ≤ 9223372036854775807) (hc : c.length ≤ 9223372036854775807) (hd : d.length ≤ 9223372036854775807) (hq : ∀ s ∈ d, s.f2.length ≤ 9223372036854775807 ∧ s.f3.length ≤ 9223372036854775807) :
    ∃ r, Ev (fun k => laws_szProg.f k w a b t c d n) r ∧ (r < 0 ∨ 0 ≤ r ∧ r ≤ n ∧ okPg a b c d) := by
  simp only [laws_szProg.f, szInputS_eq a n h0 h1 ha, Option.bind_some]
  by_cases c1 : n - (a.length : Int) < 0
  · simp only [if_pos c1, if_pos (show (-1 : Int) < 0 by decide)]
    exact ⟨_, Ev.now _, .inl (by decide)⟩
  simp only [if_neg c1, szInputS_eq b (n - (a.length : Int)) (by omega) (by omega) hb, Option.bind_some]
  by_cases c2 : n - (a.length : Int) - (b.length : Int) < 0
  · simp only [if_pos c2, if_pos (show (-1 : Int) < 0 by decide)]
    exact ⟨_, Ev.now _, .inl (by decide)⟩
  simp only [if_neg c2, szInt64S_eq c (n - (a.length : Int) - (b.length : Int)) (by omega) (by omega) hc, Option.bind_some]
  by_cases c3 : n - (a.length : Int) - (b.length : Int) - (c.length : Int) < 0
  · simp only [if_pos c3, if_pos (show (-1 : Int) < 0 by decide)]
    exact ⟨_, Ev.now _, .inl (by decide)⟩
  simp only [if_neg c3]
  obtain ⟨r, er, hr⟩ := szStmtS_ex d (n - (a.length : Int) - (b.length : Int) - (c.length : Int)) (by omega) (by omega) hd hq
  by_cases c4 : r < 0
  · refine ⟨-1, Ev.bind er ?_, .inl (by decide)⟩
    simp only [if_pos c4]
    exact Ev.now _
  · refine ⟨r, Ev.bind er ?_, ?_⟩
    · simp only [if_neg c4]
      exact Ev.now _
    · rcases hr with h | ⟨h2, h3, h4, h5⟩
      · exact absurd h c4
      · exact .inr ⟨h2, by omega, by omega, by omega, by omega, h4, h5⟩
theorem toProg_ev (w t : Int) (a b : List S120) (c : List Int) (d : List S64) (h : okPg a b c d) : Ev (fun k => laws_toProg.f k w a b t c d) (w, a.map inL, b.map inL, t, c, d.map stL) := by
  obtain ⟨h1, h2, h3, h4, h5⟩ := h
  simp only [laws_toProg.f]
  refine Ev.bind (toInputS_ev a h1) ?_
  refine Ev.bind (toInputS_ev b h2) ?_
  refine Ev.bind (toInt64S_ev c h3) ?_
  refine Ev.bind (toStmtS_ev d h4 h5) ?_
  exact Ev.now _
theorem eqProg_same (w t : Int) (a b : List S120) (c : List Int) (d : List S64) (h : okPg a b c d) : Ev (fun k => laws_eqProg.f k w (a.map inL) (b.map inL) t c (d.map stL) w (a.map inL) (b.map inL) t c (d.map stL)) true := by
  obtain ⟨h1, h2, h3, h4, h5⟩ := h
  simp only [laws_eqProg.f, if_true]
  refine Ev.bind (eqInputS_same _ (by simp; omega)) ?_
  simp only [if_true]
  refine Ev.bind (eqInputS_same _ (by simp; omega)) ?_
  simp only [if_true]
  refine Ev.bind ((eqInt64S_ev c c (by omega)).cast (decide_eq_true rfl)) ?_
  simp only [if_true]
  refine Ev.bind (eqStmtS_same _ (by simpa using h4) (stL_ok h5)) ?_
  simp only [if_true]
  exact Ev.now _

end Go.Proofs.Ytbjmhdoagjmmcaa.Pure
