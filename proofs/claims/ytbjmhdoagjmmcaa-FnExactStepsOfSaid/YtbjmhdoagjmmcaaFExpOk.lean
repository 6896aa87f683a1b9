/- Part of the pure side: ExpOk. -/
import Derived.Test.YtbjmhdoagjmmcaaPCoreg
import Derived.Test.YtbjmhdoagjmmcaaPCoreg2
import Derived.Test.YtbjmhdoagjmmcaaPCoreg6
import Derived.Test.YtbjmhdoagjmmcaaTerm
import Derived.Test.YtbjmhdoagjmmcaaFTakesOf
import Derived.Test.YtbjmhdoagjmmcaaFTm
import Derived.Test.YtbjmhdoagjmmcaaFL1In
set_option linter.unusedVariables false
set_option linter.unusedSimpArgs false
namespace Go.Proofs.Ytbjmhdoagjmmcaa.Pure
open Go.RowKit Go.Proofs.Ytbjmhdoagjmmcaa.PCore Go.Proofs.YtbjmhdoagjmmcaaW.PrintWords Go.Proofs.YtbjmhdoagjmmcaaW.PrintLast Go.Proofs.YtbjmhdoagjmmcaaW.PrintMore Go.Proofs.Ytbjmhdoagjmmcaa.Bs

theorem specExpOk_l (x : List S100) (hl : x.length ≤ 3000) (d : Nat) : ∀ (i : Nat) (h : Int), i + d = x.length → 0 ≤ h → h ≤ i → Ev (fun k => spec_ExpOk.l0 k x h (i : Int)) (decide (hgt ((x.drop i).map tmI) h = some 1)) := by
  induction d with
  | zero =>
    intro i h hi h0 h1
    refine Ev.step (fun k => by rw [spec_ExpOk.l0]) ?_
    simp only [if_neg (show ¬ (i : Int) < (x.length : Int) by omega)]
    rw [List.drop_of_length_le (show x.length ≤ i by omega)]
    exact (Ev.now _).cast (by rw [Bool.eq_iff_iff]; simp [hgt])
  | succ d ih =>
    intro i h hi h0 h1
    refine Ev.step (fun k => by rw [spec_ExpOk.l0]) ?_
    rw [rdTm_drop x i (by omega), List.map_cons, hgt]
    generalize rd_T100 x (i : Int) = t
    have hr := tks_range t.f0
    have et : (tmI t).op = t.f0 := rfl
    have en : (tmI t).n = t.f1 := rfl
    simp only [if_pos (show (i : Int) < (x.length : Int) by omega), if_pos (show 0 ≤ (i : Int) by omega), specTakesOf_eq, l1In_eq, Option.bind_some, wrap_succ (show i < 9223372036854775807 by omega), et]
    by_cases c : tmOk (tmI t) ∧ tks t.f0 ≤ h
    · rw [if_pos c]
      obtain ⟨⟨c1, c2, c3, c4⟩, c5⟩ := c
      rw [et] at c1 c4
      rw [en] at c2 c3 c4
      have hn : (decide (0 ≤ t.f1) && decide (t.f1 ≤ 255)) = true := by simp; omega
      have hw : wrap64 (wrap64 (h - tks t.f0) + 1) = h + (1 - tks t.f0) := by rw [wrap_id (x := h - tks t.f0) (by omega) (by omega), wrap_id (by omega) (by omega)]; omega
      simp only [if_neg (show ¬ tks t.f0 < 0 by omega), if_neg (show ¬ tks t.f0 > h by omega), hn, if_true, hw]
      have hg := ih (i + 1) (h + (1 - tks t.f0)) (by omega) (by omega) (by omega)
      by_cases c6 : t.f0 > 2
      · simp only [if_pos c6, if_pos (c4 c6)]; exact hg
      · simp only [if_neg c6]; exact hg
    · rw [if_neg c]
      have cf : decide ((none : Option Int) = some 1) = false := by simp
      rw [cf]
      by_cases c1 : tks t.f0 < 0
      · simp only [if_pos c1]; exact Ev.now _
      by_cases c2 : tks t.f0 > h
      · simp only [if_neg c1, if_pos c2]; exact Ev.now _
      by_cases c3 : (decide (0 ≤ t.f1) && decide (t.f1 ≤ 255)) = true
      · have c3' : 0 ≤ t.f1 ∧ t.f1 ≤ 255 := by simpa using c3
        have c4 : t.f0 > 2 ∧ ¬ t.f1 = 0 := by
          refine Classical.byContradiction fun e => c ⟨⟨by rw [et]; omega, by rw [en]; omega, by rw [en]; omega, ?_⟩, by omega⟩
          rw [et, en]; intro e1
          exact Classical.byContradiction fun e2 => e ⟨e1, e2⟩
        simp only [if_neg c1, if_neg c2, c3, if_true, if_pos c4.1, if_neg c4.2]; exact Ev.now _
      · simp only [if_neg c1, if_neg c2, if_neg c3]; exact Ev.now _
theorem specExpOk_ev (x : List S100) (hl : x.length ≤ 1048576) : Ev (fun k => spec_ExpOk.f k x) (expOk (x.map tmI)) := by
  simp only [spec_ExpOk.f]
  by_cases h : (x.length : Int) > 3000
  · simp only [if_pos h]
    exact (Ev.now _).cast (by simp [expOk]; omega)
  · simp only [if_neg h]
    exact (specExpOk_l x (by omega) x.length 0 0 (by omega) (by omega) (by omega)).cast (by simp [expOk]; omega)
theorem implExpOk_l (x : List S100) (hl : x.length ≤ 3000) (d : Nat) : ∀ (i : Nat) (h : Int), i + d = x.length → 0 ≤ h → h ≤ i → Ev (fun k => impl_ExpOk.l0 k h x (x.length : Int) (i : Int)) (decide (hgt ((x.drop i).map tmI) h = some 1)) := by
  induction d with
  | zero =>
    intro i h hi h0 h1
    refine Ev.step (fun k => by rw [impl_ExpOk.l0]) ?_
    simp only [if_neg (show ¬ (i : Int) < (x.length : Int) by omega)]
    rw [List.drop_of_length_le (show x.length ≤ i by omega)]
    exact (Ev.now _).cast (by rw [Bool.eq_iff_iff]; simp [hgt])
  | succ d ih =>
    intro i h hi h0 h1
    refine Ev.step (fun k => by rw [impl_ExpOk.l0]) ?_
    rw [rdTm_drop x i (by omega), List.map_cons, hgt]
    generalize rd_T100 x (i : Int) = t
    have hr := tks_range t.f0
    have et : (tmI t).op = t.f0 := rfl
    have en : (tmI t).n = t.f1 := rfl
    simp only [if_pos (show (i : Int) < (x.length : Int) by omega), if_pos (show 0 ≤ (i : Int) by omega), wrap_succ (show i < 9223372036854775807 by omega), et]
    refine Ev.bind (implTakesOf_ev t.f0) ?_
    by_cases c : tmOk (tmI t) ∧ tks t.f0 ≤ h
    · rw [if_pos c]
      obtain ⟨⟨c1, c2, c3, c4⟩, c5⟩ := c
      rw [et] at c1 c4
      rw [en] at c2 c3 c4
      have hw : wrap64 (h + wrap64 (1 - tks t.f0)) = h + (1 - tks t.f0) := by rw [wrap_id (x := 1 - tks t.f0) (by omega) (by omega), wrap_id (by omega) (by omega)]
      simp only [if_neg (show ¬ tks t.f0 < 0 by omega), if_neg (show ¬ tks t.f0 > h by omega), if_neg (show ¬ t.f1 < 0 by omega), if_neg (show ¬ t.f1 > 255 by omega), hw]
      have hg := ih (i + 1) (h + (1 - tks t.f0)) (by omega) (by omega) (by omega)
      by_cases c6 : t.f0 > 2
      · simp only [if_pos c6, if_pos (c4 c6)]; exact hg
      · simp only [if_neg c6]; exact hg
    · rw [if_neg c]
      have cf : decide ((none : Option Int) = some 1) = false := by simp
      rw [cf]
      by_cases c1 : tks t.f0 < 0
      · simp only [if_pos c1]; exact Ev.now _
      by_cases c2 : tks t.f0 > h
      · simp only [if_neg c1, if_pos c2]; exact Ev.now _
      by_cases c3 : t.f1 < 0
      · simp only [if_neg c1, if_neg c2, if_pos c3]; exact Ev.now _
      by_cases c3' : t.f1 > 255
      · simp only [if_neg c1, if_neg c2, if_neg c3, if_pos c3']; exact Ev.now _
      have c4 : t.f0 > 2 ∧ ¬ t.f1 = 0 := by
        refine Classical.byContradiction fun e => c ⟨⟨by rw [et]; omega, by rw [en]; omega, by rw [en]; omega, ?_⟩, by omega⟩
        rw [et, en]; intro e1
        exact Classical.byContradiction fun e2 => e ⟨e1, e2⟩
      simp only [if_neg c1, if_neg c2, if_neg c3, if_neg c3', if_pos c4.1, if_neg c4.2]; exact Ev.now _
theorem implExpOk_ev (x : List S100) : Ev (fun k => impl_ExpOk.f k x) (expOk (x.map tmI)) := by
  simp only [impl_ExpOk.f]
  by_cases h0 : x.length = 0
  · simp only [if_pos (show (x.length : Int) = 0 by omega)]
    refine Ev.step (fun k => by rw [impl_ExpOk.j0]) ?_
    simp only [if_true]
    exact (Ev.now _).cast (by rw [List.length_eq_zero_iff.1 h0]; simp [expOk, hgt])
  · simp only [if_neg (show ¬ (x.length : Int) = 0 by omega)]
    refine Ev.step (fun k => by rw [impl_ExpOk.j0]) ?_
    by_cases h : (x.length : Int) > 3000
    · simp only [decide_eq_true h, if_true]
      exact (Ev.now _).cast (by simp [expOk]; omega)
    · simp only [decide_eq_false h, Bool.false_eq_true, if_false]
      exact (implExpOk_l x (by omega) x.length 0 0 (by omega) (by omega) (by omega)).cast (by simp [expOk]; omega)

end Go.Proofs.Ytbjmhdoagjmmcaa.Pure
