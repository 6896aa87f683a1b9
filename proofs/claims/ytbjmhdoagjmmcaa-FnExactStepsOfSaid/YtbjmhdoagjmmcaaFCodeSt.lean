/- Part of the pure side: CodeSt. -/
import Derived.Test.YtbjmhdoagjmmcaaPCoreg
import Derived.Test.YtbjmhdoagjmmcaaPCoreg2
import Derived.Test.YtbjmhdoagjmmcaaPCoreg3
import Derived.Test.YtbjmhdoagjmmcaaPCoreg6
import Derived.Test.YtbjmhdoagjmmcaaPCoreg7
import Derived.Test.YtbjmhdoagjmmcaaTerm
import Derived.Test.YtbjmhdoagjmmcaaFCode
import Derived.Test.YtbjmhdoagjmmcaaFStmtS
set_option linter.unusedVariables false
set_option linter.unusedSimpArgs false
namespace Go.Proofs.Ytbjmhdoagjmmcaa.Pure
open Go.RowKit Go.Proofs.Ytbjmhdoagjmmcaa.PCore Go.Proofs.YtbjmhdoagjmmcaaW.PrintWords Go.Proofs.YtbjmhdoagjmmcaaW.PrintLast Go.Proofs.YtbjmhdoagjmmcaaW.PrintMore Go.Proofs.Ytbjmhdoagjmmcaa.Bs

/-! Stmts. -/
def rng (lo hi v : Int) : Bool := decide (lo ≤ v) && decide (v ≤ hi)
def hp (n : Nat) (a b : List S77) (t : Int) (c : List Int) (l : List S100) (q : Bool) : Bool := if q = true then exR n a b t c l else decide (l.length = 0)
def stR (n : Nat) (a b : List S77) (t : Int) (c : List Int) (s : S42) : Bool :=
  if s.f0 = 0 then rng ((a.length : Int) + (b.length : Int)) (vrs a b t - 1) s.f1 && (hp n a b t c s.f2 false && hp n a b t c s.f3 true)
  else if s.f0 = 1 then rng 0 ((c.length : Int) - 1) s.f1 && (hp n a b t c s.f2 true && hp n a b t c s.f3 true)
  else if s.f0 = 2 then rng 0 0 s.f1 && (hp n a b t c s.f2 false && hp n a b t c s.f3 true)
  else if s.f0 = 6 then rng 0 0 s.f1 && (hp n a b t c s.f2 false && hp n a b t c s.f3 true)
  else if s.f0 = 5 then rng 0 4 s.f1 && (hp n a b t c s.f2 false && hp n a b t c s.f3 false)
  else if s.f0 = 7 then rng 0 9 s.f1 && (hp n a b t c s.f2 false && hp n a b t c s.f3 false)
  else if s.f0 = 9 then rng 0 9 s.f1 && (hp n a b t c s.f2 false && hp n a b t c s.f3 false)
  else if s.f0 = 3 then rng 0 0 s.f1 && (hp n a b t c s.f2 false && hp n a b t c s.f3 false)
  else if s.f0 = 4 then rng 0 0 s.f1 && (hp n a b t c s.f2 false && hp n a b t c s.f3 false)
  else if s.f0 = 8 then rng 0 0 s.f1 && (hp n a b t c s.f2 false && hp n a b t c s.f3 false)
  else false
theorem rdSt_ (y z : S42) (h : y = z) : rd_T42 [y] 0 = z := h
theorem rdSt_one (s : S42) : rd_T42 [s] 0 = s := rdSt_ s s (Eq.trans rfl rfl)
theorem holds_ev {n : Nat} {a b : List S77} {t : Int} (h : Rt n a b t) (c : List Int) (x : List S42) (l : List S100) (hl : l.length ≤ 1048576) (q : Bool) : Ev (fun k => impl_holdsPlace.f k [(⟨(n : Int), a, b, t, c, x⟩ : S35)] l q) (hp n a b t c l q) := by
  simp only [impl_holdsPlace.f, rdPg]
  simp only [hp]
  cases q
  · simp only [Bool.false_eq_true, if_false]
    exact (Ev.now _).cast (by rw [Bool.eq_iff_iff]; simp)
  · simp only [if_true]
    refine Ev.bind (implStand_ev h c x l hl) ?_
    exact Ev.now _
theorem implSt_j2 {n : Nat} {a b : List S77} {t : Int} (h : Rt n a b t) (c : List Int) (x : List S42) (s : S42) (h2 : s.f2.length ≤ 1048576) (h3 : s.f3.length ≤ 1048576) (p q : Bool) (lo hi : Int) : Ev (fun k => impl_stmtRight.j2 k [(⟨(n : Int), a, b, t, c, x⟩ : S35)] [s] p q lo hi) (rng lo hi s.f1 && (hp n a b t c s.f2 p && hp n a b t c s.f3 q)) := by
  refine Ev.step (fun k => by rw [impl_stmtRight.j2]) ?_
  try simp only [rdPg]
  simp only [rdSt_one]
  have no : ∀ r : Bool, r = false → Ev (fun k => impl_stmtRight.j3 k [(⟨(n : Int), a, b, t, c, x⟩ : S35)] [s] p q true) r := by
    intro r hr
    subst hr
    refine Ev.step (fun k => by rw [impl_stmtRight.j3]) ?_
    try simp only [rdPg]
    simp only [if_true]; exact Ev.now _
  by_cases c1 : s.f1 < lo
  · simp only [if_pos c1]
    exact no _ (by rw [rng, decide_eq_false (show ¬ lo ≤ s.f1 by omega), Bool.false_and, Bool.false_and])
  by_cases c2 : s.f1 > hi
  · simp only [if_neg c1, decide_eq_true c2]
    exact no _ (by rw [rng, decide_eq_false (show ¬ s.f1 ≤ hi by omega), Bool.and_false, Bool.false_and])
  simp only [if_neg c1, decide_eq_false c2]
  refine Ev.step (fun k => by rw [impl_stmtRight.j3]) ?_
  try simp only [rdPg]
  simp only [Bool.false_eq_true, if_false, rdSt_one]
  rw [rng, decide_eq_true (show lo ≤ s.f1 by omega), decide_eq_true (show s.f1 ≤ hi by omega), Bool.true_and, Bool.true_and]
  refine Ev.bind (holds_ev h c x s.f2 h2 p) ?_
  cases hp n a b t c s.f2 p
  · simp only [Bool.false_eq_true, if_false]
    exact Ev.now _
  · simp only [if_true, Bool.true_and]
    refine Ev.bind (holds_ev h c x s.f3 h3 q) ?_
    exact Ev.now _
theorem implSt_ev {n : Nat} {a b : List S77} {t : Int} (h : Rt n a b t) (c : List Int) (hc : c.length ≤ 2) (x : List S42) (s : S42) (h2 : s.f2.length ≤ 1048576) (h3 : s.f3.length ≤ 1048576) : Ev (fun k => impl_stmtRight.f k [(⟨(n : Int), a, b, t, c, x⟩ : S35)] [s]) (stR n a b t c s) := by
  simp only [impl_stmtRight.f, rdPg]
  simp only [rdSt_one, implInputs_eq (n : Int) a b t c x h.ha h.hb, implVars_eq (n : Int) a b t c x h.ha h.hb h.h0 h.h1, Option.bind_some, stR]
  have J := fun p q lo hi => implSt_j2 h c x s h2 h3 p q lo hi
  have hv := h.ha
  have hv2 := h.hb
  have hv3 := h.h0
  have hv4 := h.h1
  generalize hop : s.f0 = op
  by_cases c0 : op = 0
  · simp only [if_pos c0]
    rw [wrap_id (show -9223372036854775808 ≤ (a.length : Int) + (b.length : Int) + t - 1 by omega) (by omega)]
    exact J _ _ _ _
  by_cases c1 : op = 1
  · simp only [if_neg c0, if_pos c1]
    rw [wrap_id (show -9223372036854775808 ≤ (c.length : Int) - 1 by omega) (by omega)]
    exact J _ _ _ _
  simp only [if_neg c0, if_neg c1]
  by_cases c2 : op = 2
  · simp only [if_pos c2, beq_iff_eq.2 c2]
    refine Ev.step (fun k => by rw [impl_stmtRight.j0]) ?_
    try simp only [rdPg]
    simp only [if_true]
    exact J _ _ _ _
  simp only [if_neg c2]
  by_cases c6 : op = 6
  · simp only [if_pos c6, beq_iff_eq.2 c6]
    refine Ev.step (fun k => by rw [impl_stmtRight.j0]) ?_
    try simp only [rdPg]
    simp only [if_true]
    exact J _ _ _ _
  simp only [if_neg c6, beq_eq_false_iff_ne.2 c6]
  refine Ev.step (fun k => by rw [impl_stmtRight.j0]) ?_
  try simp only [rdPg]
  simp only [Bool.false_eq_true, if_false]
  by_cases c5 : op = 5
  · simp only [if_pos c5]
    exact J _ _ _ _
  simp only [if_neg c5]
  by_cases c7 : op = 7
  · simp only [if_pos c7, beq_iff_eq.2 c7]
    refine Ev.step (fun k => by rw [impl_stmtRight.j1]) ?_
    try simp only [rdPg]
    simp only [if_true]
    exact J _ _ _ _
  simp only [if_neg c7]
  by_cases c9 : op = 9
  · simp only [if_pos c9, beq_iff_eq.2 c9]
    refine Ev.step (fun k => by rw [impl_stmtRight.j1]) ?_
    try simp only [rdPg]
    simp only [if_true]
    exact J _ _ _ _
  simp only [if_neg c9, beq_eq_false_iff_ne.2 c9]
  refine Ev.step (fun k => by rw [impl_stmtRight.j1]) ?_
  try simp only [rdPg]
  simp only [Bool.false_eq_true, if_false]
  by_cases c3 : op = 3
  · simp only [if_pos c3]
    exact J _ _ _ _
  simp only [if_neg c3]
  by_cases c4 : op = 4
  · simp only [if_pos c4]
    exact J _ _ _ _
  simp only [if_neg c4]
  by_cases c8 : op = 8
  · simp only [if_pos c8]
    exact J _ _ _ _
  simp only [if_neg c8]
  exact Ev.now _
/-- What the reference asks of the number. -/
def numR (a b : List S77) (t : Int) (c : List Int) (s : S42) : Bool :=
  if s.f0 = 0 then rng ((a.length : Int) + (b.length : Int)) (vrs a b t - 1) s.f1 else if s.f0 = 1 then rng 0 ((c.length : Int) - 1) s.f1 else if s.f0 = 5 then rng 0 4 s.f1 else if s.f0 = 7 then rng 0 9 s.f1 else if s.f0 = 9 then rng 0 9 s.f1 else s.f1 == 0
theorem specSt_j2 {n : Nat} {a b : List S77} {t : Int} (h : Rt n a b t) (c : List Int) (hc : c.length ≤ 2) (x : List S42) (s : S42) (q : Bool) : Ev (fun k => spec_l3Stmt.j2 k q (n : Int) a b t c x s.f0 s.f1 s.f2 s.f3) (!q && numR a b t c s) := by
  refine Ev.step (fun k => by rw [spec_l3Stmt.j2]) ?_
  have hv := h.ha
  have hv2 := h.hb
  have hv3 := h.h0
  have hv4 := h.h1
  cases q
  · simp only [Bool.false_eq_true, if_false, Bool.not_false, Bool.true_and, l1In_eq, Option.bind_some, numR, rng, vrs]
    rw [wrap_id (x := (a.length : Int) + (b.length : Int)) (by omega) (by omega), wrap_id (x := (a.length : Int) + (b.length : Int) + t) (by omega) (by omega), wrap_id (x := (a.length : Int) + (b.length : Int) + t - 1) (by omega) (by omega), wrap_id (x := (c.length : Int) - 1) (by omega) (by omega)]
    (repeat' split) <;> exact Ev.now _
  · simp only [if_true, Bool.not_true, Bool.false_and]
    exact Ev.now _
def stx (s : S42) : Bool := s.f0 == 0 || (s.f0 == 1 || (s.f0 == 2 || s.f0 == 6))
theorem specSt_j1 {n : Nat} {a b : List S77} {t : Int} (h : Rt n a b t) (c : List Int) (hc : c.length ≤ 2) (x : List S42) (s : S42) (h2 : s.f2.length ≤ 1048576) (h3 : s.f3.length ≤ 1048576) (e bad : Bool) : Ev (fun k => spec_l3Stmt.j1 k e bad (n : Int) a b t c x s.f0 s.f1 s.f2 s.f3) (!bad && ((!e || exR n a b t c s.f3) && ((!(s.f0 == 1) || exR n a b t c s.f2) && numR a b t c s))) := by
  refine Ev.step (fun k => by rw [spec_l3Stmt.j1]) ?_
  have J := fun q => specSt_j2 h c hc x s q
  cases bad
  · simp only [Bool.false_eq_true, if_false, Bool.not_false, Bool.true_and]
    have tail : Ev (fun k => if s.f0 = 1 then (spec_l3Exp.f k (n : Int) a b t c x s.f2).bind fun t242 => spec_l3Stmt.j2 k (!t242) (n : Int) a b t c x s.f0 s.f1 s.f2 s.f3 else spec_l3Stmt.j2 k false (n : Int) a b t c x s.f0 s.f1 s.f2 s.f3) ((!(s.f0 == 1) || exR n a b t c s.f2) && numR a b t c s) := by
      by_cases c1 : s.f0 = 1
      · simp only [if_pos c1, beq_iff_eq.2 c1, Bool.not_true, Bool.false_or]
        refine Ev.bind (specExp_ev h c x s.f2 h2) ?_
        exact (J _).cast (by rw [Bool.not_not])
      · simp only [if_neg c1, beq_eq_false_iff_ne.2 c1, Bool.not_false, Bool.true_or, Bool.true_and]
        exact (J _).cast (by rw [Bool.not_false, Bool.true_and])
    cases e
    · simp only [Bool.false_eq_true, if_false, Bool.not_false, Bool.true_or, Bool.true_and]
      exact tail
    · simp only [if_true, Bool.not_true, Bool.false_or]
      refine Ev.bind (specExp_ev h c x s.f3 h3) ?_
      cases exR n a b t c s.f3
      · simp only [Bool.false_eq_true, if_false, Bool.false_and]
        exact (J true).cast (by rw [Bool.not_true, Bool.false_and])
      · simp only [if_true, Bool.true_and]
        exact tail
  · simp only [if_true, Bool.not_true, Bool.false_and]
    exact Ev.now _
def stS (n : Nat) (a b : List S77) (t : Int) (c : List Int) (s : S42) : Bool :=
  rng 0 9 s.f0 && (!(stx s != decide (0 < s.f3.length)) && (!((s.f0 == 1) != decide (0 < s.f2.length)) && ((!(stx s) || exR n a b t c s.f3) && ((!(s.f0 == 1) || exR n a b t c s.f2) && numR a b t c s))))
theorem specSt_j0 {n : Nat} {a b : List S77} {t : Int} (h : Rt n a b t) (c : List Int) (hc : c.length ≤ 2) (x : List S42) (s : S42) (h2 : s.f2.length ≤ 1048576) (h3 : s.f3.length ≤ 1048576) (e : Bool) (he : e = stx s) : Ev (fun k => spec_l3Stmt.j0 k e (n : Int) a b t c x s.f0 s.f1 s.f2 s.f3) (stS n a b t c s) := by
  refine Ev.step (fun k => by rw [spec_l3Stmt.j0]) ?_
  simp only [l1In_eq, Option.bind_some]
  rw [he]
  have J := fun bad => specSt_j1 h c hc x s h2 h3 (stx s) bad
  have e3 : decide ((s.f3.length : Int) > 0) = decide (0 < s.f3.length) := by rw [decide_eq_decide]; omega
  have e2 : decide ((s.f2.length : Int) > 0) = decide (0 < s.f2.length) := by rw [decide_eq_decide]; omega
  simp only [e3, e2, stS]
  rw [show rng 0 9 s.f0 = (decide (0 ≤ s.f0) && decide (s.f0 ≤ 9)) from rfl]
  cases (decide (0 ≤ s.f0) && decide (s.f0 ≤ 9))
  · simp only [Bool.false_eq_true, if_false, Bool.false_and]
    exact (J true).cast (by rw [Bool.not_true, Bool.false_and])
  · simp only [if_true, Bool.true_and]
    cases (stx s != decide (0 < s.f3.length))
    · simp only [Bool.false_eq_true, if_false, Bool.not_false, Bool.true_and]
      exact J _
    · simp only [if_true, Bool.not_true, Bool.false_and]
      exact (J true).cast (by rw [Bool.not_true, Bool.false_and])
theorem specSt_ev {n : Nat} {a b : List S77} {t : Int} (h : Rt n a b t) (c : List Int) (hc : c.length ≤ 2) (x : List S42) (s : S42) (h2 : s.f2.length ≤ 1048576) (h3 : s.f3.length ≤ 1048576) : Ev (fun k => spec_l3Stmt.f k (n : Int) a b t c x s.f0 s.f1 s.f2 s.f3) (stS n a b t c s) := by
  simp only [spec_l3Stmt.f]
  have J := fun e he => specSt_j0 h c hc x s h2 h3 e he
  by_cases c0 : s.f0 = 0
  · simp only [if_pos c0]; exact J _ (by simp [stx, c0])
  by_cases c1 : s.f0 = 1
  · simp only [if_neg c0, if_pos c1]; exact J _ (by simp [stx, c1])
  by_cases c2 : s.f0 = 2
  · simp only [if_neg c0, if_neg c1, if_pos c2]; exact J _ (by simp [stx, c2])
  simp only [if_neg c0, if_neg c1, if_neg c2]
  exact J _ (by rw [stx, beq_eq_false_iff_ne.2 c0, beq_eq_false_iff_ne.2 c1, beq_eq_false_iff_ne.2 c2]; rfl)
theorem rng_zero (v : Int) : rng 0 0 v = (v == 0) := by rw [Bool.eq_iff_iff]; simp [rng]; omega
theorem stS_eq (n : Nat) (a b : List S77) (t : Int) (c : List Int) (s : S42) : stS n a b t c s = stR n a b t c s := by
  have k3 : exR n a b t c s.f3 = true → 0 < s.f3.length := expR_pos
  have k2 : exR n a b t c s.f2 = true → 0 < s.f2.length := expR_pos
  have z3 : decide (s.f3.length = 0) = !decide (0 < s.f3.length) := by by_cases h : s.f3.length = 0 <;> simp [h] <;> omega
  have z2 : decide (s.f2.length = 0) = !decide (0 < s.f2.length) := by by_cases h : s.f2.length = 0 <;> simp [h] <;> omega
  have r9 : ∀ v : Int, 0 ≤ v → v ≤ 9 → rng 0 9 v = true := by intro v h0 h1; simp [rng, h0, h1]
  have l3 : exR n a b t c s.f3 = (exR n a b t c s.f3 && decide (0 < s.f3.length)) := by
    cases e : exR n a b t c s.f3
    · rfl
    · rw [decide_eq_true (k3 e)]; rfl
  have l2 : exR n a b t c s.f2 = (exR n a b t c s.f2 && decide (0 < s.f2.length)) := by
    cases e : exR n a b t c s.f2
    · rfl
    · rw [decide_eq_true (k2 e)]; rfl
  unfold stS stR numR stx hp
  simp only [z3, z2, rng_zero, Bool.false_eq_true, if_false, if_true]
  rw [l3, l2]
  generalize exR n a b t c s.f3 = E3
  generalize exR n a b t c s.f2 = E2
  generalize decide (0 < s.f3.length) = D3
  generalize decide (0 < s.f2.length) = D2
  generalize s.f0 = op
  by_cases c0 : op = 0
  · subst c0; simp [r9]; cases E3 <;> cases D3 <;> cases D2 <;> simp
  by_cases c1 : op = 1
  · subst c1; simp [r9]; cases E3 <;> cases D3 <;> cases D2 <;> cases E2 <;> simp
  by_cases c2 : op = 2
  · subst c2; simp [r9]; cases E3 <;> cases D3 <;> cases D2 <;> simp
  by_cases c3 : op = 3
  · subst c3; simp [r9]; cases D3 <;> cases D2 <;> simp
  by_cases c4 : op = 4
  · subst c4; simp [r9]; cases D3 <;> cases D2 <;> simp
  by_cases c5 : op = 5
  · subst c5; simp [r9]; cases D3 <;> cases D2 <;> simp
  by_cases c6 : op = 6
  · subst c6; simp [r9]; cases E3 <;> cases D3 <;> cases D2 <;> simp
  by_cases c7 : op = 7
  · subst c7; simp [r9]; cases D3 <;> cases D2 <;> simp
  by_cases c8 : op = 8
  · subst c8; simp [r9]; cases D3 <;> cases D2 <;> simp
  by_cases c9 : op = 9
  · subst c9; simp [r9]; cases D3 <;> cases D2 <;> simp
  simp only [if_neg c0, if_neg c1, if_neg c2, if_neg c3, if_neg c4, if_neg c5, if_neg c6, if_neg c7, if_neg c8, if_neg c9]
  have : rng 0 9 op = false := by rw [← Bool.not_eq_true]; simp only [rng, Bool.and_eq_true, decide_eq_true_eq]; omega
  rw [this, Bool.false_and]
theorem specStmts_l {n : Nat} {a b : List S77} {t : Int} (h : Rt n a b t) (c : List Int) (hc : c.length ≤ 2) (x : List S42) (hx : x.length ≤ 1048576) (hq : ∀ s ∈ x, s.f2.length ≤ 1048576 ∧ s.f3.length ≤ 1048576) (d : Nat) : ∀ i : Nat, i + d = x.length → Ev (fun k => spec_l3Stmts.l0 k (i : Int) (n : Int) a b t c x) ((x.drop i).all (stR n a b t c)) := by
  induction d with
  | zero =>
    intro i hi
    refine Ev.step (fun k => by rw [spec_l3Stmts.l0]) ?_
    simp only [if_neg (show ¬ (i : Int) < (x.length : Int) by omega)]
    rw [List.drop_of_length_le (show x.length ≤ i by omega)]
    exact Ev.now _
  | succ d ih =>
    intro i hi
    have hil : i < x.length := by omega
    have hm := hq _ (List.getElem_mem hil)
    refine Ev.step (fun k => by rw [spec_l3Stmts.l0]) ?_
    simp only [if_pos (show (i : Int) < (x.length : Int) by omega), if_pos (show 0 ≤ (i : Int) by omega), rdSt_at x i hil, wrap_succ (show i < 9223372036854775807 by omega)]
    rw [List.drop_eq_getElem_cons hil, List.all_cons]
    refine Ev.bind ((specSt_ev h c hc x x[i] hm.1 hm.2).cast (stS_eq n a b t c x[i])) ?_
    cases stR n a b t c x[i]
    · simp only [Bool.false_eq_true, if_false, Bool.false_and]
      exact Ev.now _
    · simp only [if_true, Bool.true_and]
      exact ih (i + 1) (by omega)
theorem specStmts_ev {n : Nat} {a b : List S77} {t : Int} (h : Rt n a b t) (c : List Int) (hc : c.length ≤ 2) (x : List S42) (hx : x.length ≤ 1048576) (hq : ∀ s ∈ x, s.f2.length ≤ 1048576 ∧ s.f3.length ≤ 1048576) : Ev (fun k => spec_l3Stmts.f k (n : Int) a b t c x) (x.all (stR n a b t c)) := by
  simp only [spec_l3Stmts.f]
  exact specStmts_l h c hc x hx hq x.length 0 (by omega)

end Go.Proofs.Ytbjmhdoagjmmcaa.Pure
