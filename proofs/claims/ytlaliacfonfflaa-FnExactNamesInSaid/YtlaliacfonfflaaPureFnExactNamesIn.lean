/- NamesIn of the program and of the reference answer alike, for every list of Terms, in new memory each time, and the argument is left as it was; no condition. -/
import Derived.Test.YtlaliacfonfflaaPFnExactNamesInx5
import Derived.Test.YtlaliacfonfflaaTerm
set_option linter.unusedVariables false
set_option linter.unusedSimpArgs false
namespace Go.Proofs.Ytlaliacfonfflaa.Pure
open Go.RowKit Go.Proofs.Ytlaliacfonfflaa.PFnExactNamesIn Go.Proofs.YtlaliacfonfflaaW.PrintWords Go.Proofs.YtlaliacfonfflaaW.PrintLast Go.Proofs.YtlaliacfonfflaaW.PrintMore Go.Proofs.Ytlaliacfonfflaa.Bs

theorem specTakesOf_eq (a : Int) : spec_TakesOf.f a = some (tks a) := by
  unfold spec_TakesOf.f spec_l1In.f
  by_cases h : 0 ≤ a ∧ a ≤ 17
  · obtain ⟨h0, h1⟩ := h
    obtain ⟨n, rfl⟩ := Int.eq_ofNat_of_zero_le h0
    have : n ≤ 17 := by omega
    have : n = 0 ∨ n = 1 ∨ n = 2 ∨ n = 3 ∨ n = 4 ∨ n = 5 ∨ n = 6 ∨ n = 7 ∨ n = 8 ∨ n = 9 ∨ n = 10 ∨ n = 11 ∨ n = 12 ∨ n = 13 ∨ n = 14 ∨ n = 15 ∨ n = 16 ∨ n = 17 := by omega
    rcases this with h | h | h | h | h | h | h | h | h | h | h | h | h | h | h | h | h | h <;> subst h <;> rfl
  · have e : tks a = -1 := by
      unfold tks
      rw [if_neg (by omega), if_neg (by omega), if_neg (by omega), if_neg (by omega)]
    rw [e]
    by_cases h0 : a ≥ 0
    · rw [if_pos h0]; simp [show ¬ a ≤ 17 by omega]
    · rw [if_neg h0]; simp
theorem implTakesOf_ev (a : Int) : Ev (fun k => impl_TakesOf.f k a) (tks a) := by
  refine ⟨3, fun k hk => ?_⟩
  obtain ⟨k, rfl⟩ : ∃ m, k = m + 3 := ⟨k - 3, by omega⟩
  unfold tks
  by_cases c0 : a = 0
  · subst c0; rfl
  by_cases c1 : a = 1
  · subst c1; rfl
  by_cases c2 : a = 2
  · subst c2; rfl
  by_cases c3 : a = 3
  · subst c3; rfl
  by_cases c4 : a = 4
  · subst c4; rfl
  rw [if_neg (by omega), if_neg (by omega)]
  simp only [impl_TakesOf.f, impl_TakesOf.j0, impl_TakesOf.j1, if_neg c0, if_neg c2, if_neg c3, beq_eq_false_iff_ne.2 c1, beq_eq_false_iff_ne.2 c4, Bool.false_eq_true, if_false]
  by_cases c5 : a ≥ 5
  · simp only [if_pos c5, impl_TakesOf.j2]
    by_cases c6 : a ≤ 16
    · rw [if_pos (by simpa using c6), if_pos (by omega)]
    · rw [if_neg (by simpa using c6), if_neg (show ¬ (5 ≤ a ∧ a ≤ 16) by omega)]
      by_cases c7 : a = 17
      · rw [if_pos c7, if_pos c7]
      · rw [if_neg c7, if_neg c7]
  · simp only [if_neg c5, impl_TakesOf.j2, Bool.false_eq_true, if_false]
    rw [if_neg (by omega), if_neg (by omega), if_neg (by omega)]

def tmI (s : S40) : Tm := ⟨s.f0, s.f1⟩
theorem tmI_inj {a b : S40} (h : tmI a = tmI b) : a = b := by
  cases a; cases b; simp only [tmI, Tm.mk.injEq] at h; obtain ⟨h1, h2⟩ := h; subst h1; subst h2; rfl
theorem rdTm_drop (l : List S40) (i : Nat) (h : i < l.length) : l.drop i = rd_T40 l (i : Int) :: l.drop (i + 1) := by
  simp only [rd_T40, Int.toNat_natCast, List.getD_eq_getElem?_getD, List.getElem?_eq_getElem h, Option.getD_some]
  exact List.drop_eq_getElem_cons h
theorem rdTm_at (l : List S40) (i : Nat) (h : i < l.length) : rd_T40 l (i : Int) = l[i] := by
  simp only [rd_T40, Int.toNat_natCast, List.getD_eq_getElem?_getD, List.getElem?_eq_getElem h, Option.getD_some]

theorem l1In_eq (a b c : Int) : spec_l1In.f a b c = some (decide (b ≤ a) && decide (a ≤ c)) := by
  unfold spec_l1In.f
  by_cases h : a ≥ b
  · rw [if_pos h]; simp [show b ≤ a from h]
  · rw [if_neg h]; simp [show ¬ b ≤ a from h]

theorem specExpOk_l (x : List S40) (hl : x.length ≤ 3000) (d : Nat) : ∀ (i : Nat) (h : Int), i + d = x.length → 0 ≤ h → h ≤ i → Ev (fun k => spec_ExpOk.l0 k x h (i : Int)) (decide (hgt ((x.drop i).map tmI) h = some 1)) := by
  induction d with
  | zero =>
    intro i h hi h0 h1
    refine Ev.step (fun k => by rw [spec_ExpOk.l0]) ?_
    simp only [if_neg (show ¬ (i : Int) < (x.length : Int) by omega)]
    rw [List.drop_of_length_le (show x.length ≤ i by omega)]
    exact (Ev.now _).cast (by rw [Bool.eq_iff_iff]; simp [hgt])
  | succ d ih =>
    intro i h hi h0 h1
    refine Ev.step (fun k => by rw [spec_ExpOk.l0]) ?_
    rw [rdTm_drop x i (by omega), List.map_cons, hgt]
    generalize rd_T40 x (i : Int) = t
    have hr := tks_range t.f0
    have et : (tmI t).op = t.f0 := rfl
    have en : (tmI t).n = t.f1 := rfl
    simp only [if_pos (show (i : Int) < (x.length : Int) by omega), if_pos (show 0 ≤ (i : Int) by omega), specTakesOf_eq, l1In_eq, Option.bind_some, wrap_succ (show i < 9223372036854775807 by omega), et]
    by_cases c : tmOk (tmI t) ∧ tks t.f0 ≤ h
    · rw [if_pos c]
      obtain ⟨⟨c1, c2, c3, c4⟩, c5⟩ := c
      rw [et] at c1 c4
      rw [en] at c2 c3 c4
      have hn : (decide (0 ≤ t.f1) && decide (t.f1 ≤ 255)) = true := by simp; omega
      have hw : wrap64 (wrap64 (h - tks t.f0) + 1) = h + (1 - tks t.f0) := by rw [wrap_id (x := h - tks t.f0) (by omega) (by omega), wrap_id (by omega) (by omega)]; omega
      simp only [if_neg (show ¬ tks t.f0 < 0 by omega), if_neg (show ¬ tks t.f0 > h by omega), hn, if_true, hw]
      have hg := ih (i + 1) (h + (1 - tks t.f0)) (by omega) (by omega) (by omega)
      by_cases c6 : t.f0 > 2
      · simp only [if_pos c6, if_pos (c4 c6)]; exact hg
      · simp only [if_neg c6]; exact hg
    · rw [if_neg c]
      have cf : decide ((none : Option Int) = some 1) = false := by simp
      rw [cf]
      by_cases c1 : tks t.f0 < 0
      · simp only [if_pos c1]; exact Ev.now _
      by_cases c2 : tks t.f0 > h
      · simp only [if_neg c1, if_pos c2]; exact Ev.now _
      by_cases c3 : (decide (0 ≤ t.f1) && decide (t.f1 ≤ 255)) = true
      · have c3' : 0 ≤ t.f1 ∧ t.f1 ≤ 255 := by simpa using c3
        have c4 : t.f0 > 2 ∧ ¬ t.f1 = 0 := by
          refine Classical.byContradiction fun e => c ⟨⟨by rw [et]; omega, by rw [en]; omega, by rw [en]; omega, ?_⟩, by omega⟩
          rw [et, en]; intro e1
          exact Classical.byContradiction fun e2 => e ⟨e1, e2⟩
        simp only [if_neg c1, if_neg c2, c3, if_true, if_pos c4.1, if_neg c4.2]; exact Ev.now _
      · simp only [if_neg c1, if_neg c2, if_neg c3]; exact Ev.now _
theorem specExpOk_ev (x : List S40) (hl : x.length ≤ 1048576) : Ev (fun k => spec_ExpOk.f k x) (expOk (x.map tmI)) := by
  simp only [spec_ExpOk.f]
  by_cases h : (x.length : Int) > 3000
  · simp only [if_pos h]
    exact (Ev.now _).cast (by simp [expOk]; omega)
  · simp only [if_neg h]
    exact (specExpOk_l x (by omega) x.length 0 0 (by omega) (by omega) (by omega)).cast (by simp [expOk]; omega)
theorem implExpOk_l (x : List S40) (hl : x.length ≤ 3000) (d : Nat) : ∀ (i : Nat) (h : Int), i + d = x.length → 0 ≤ h → h ≤ i → Ev (fun k => impl_ExpOk.l0 k h x (x.length : Int) (i : Int)) (decide (hgt ((x.drop i).map tmI) h = some 1)) := by
  induction d with
  | zero =>
    intro i h hi h0 h1
    refine Ev.step (fun k => by rw [impl_ExpOk.l0]) ?_
    simp only [if_neg (show ¬ (i : Int) < (x.length : Int) by omega)]
    rw [List.drop_of_length_le (show x.length ≤ i by omega)]
    exact (Ev.now _).cast (by rw [Bool.eq_iff_iff]; simp [hgt])
  | succ d ih =>
    intro i h hi h0 h1
    refine Ev.step (fun k => by rw [impl_ExpOk.l0]) ?_
    rw [rdTm_drop x i (by omega), List.map_cons, hgt]
    generalize rd_T40 x (i : Int) = t
    have hr := tks_range t.f0
    have et : (tmI t).op = t.f0 := rfl
    have en : (tmI t).n = t.f1 := rfl
    simp only [if_pos (show (i : Int) < (x.length : Int) by omega), if_pos (show 0 ≤ (i : Int) by omega), wrap_succ (show i < 9223372036854775807 by omega), et]
    refine Ev.bind (implTakesOf_ev t.f0) ?_
    by_cases c : tmOk (tmI t) ∧ tks t.f0 ≤ h
    · rw [if_pos c]
      obtain ⟨⟨c1, c2, c3, c4⟩, c5⟩ := c
      rw [et] at c1 c4
      rw [en] at c2 c3 c4
      have hw : wrap64 (h + wrap64 (1 - tks t.f0)) = h + (1 - tks t.f0) := by rw [wrap_id (x := 1 - tks t.f0) (by omega) (by omega), wrap_id (by omega) (by omega)]
      simp only [if_neg (show ¬ tks t.f0 < 0 by omega), if_neg (show ¬ tks t.f0 > h by omega), if_neg (show ¬ t.f1 < 0 by omega), if_neg (show ¬ t.f1 > 255 by omega), hw]
      have hg := ih (i + 1) (h + (1 - tks t.f0)) (by omega) (by omega) (by omega)
      by_cases c6 : t.f0 > 2
      · simp only [if_pos c6, if_pos (c4 c6)]; exact hg
      · simp only [if_neg c6]; exact hg
    · rw [if_neg c]
      have cf : decide ((none : Option Int) = some 1) = false := by simp
      rw [cf]
      by_cases c1 : tks t.f0 < 0
      · simp only [if_pos c1]; exact Ev.now _
      by_cases c2 : tks t.f0 > h
      · simp only [if_neg c1, if_pos c2]; exact Ev.now _
      by_cases c3 : t.f1 < 0
      · simp only [if_neg c1, if_neg c2, if_pos c3]; exact Ev.now _
      by_cases c3' : t.f1 > 255
      · simp only [if_neg c1, if_neg c2, if_neg c3, if_pos c3']; exact Ev.now _
      have c4 : t.f0 > 2 ∧ ¬ t.f1 = 0 := by
        refine Classical.byContradiction fun e => c ⟨⟨by rw [et]; omega, by rw [en]; omega, by rw [en]; omega, ?_⟩, by omega⟩
        rw [et, en]; intro e1
        exact Classical.byContradiction fun e2 => e ⟨e1, e2⟩
      simp only [if_neg c1, if_neg c2, if_neg c3, if_neg c3', if_pos c4.1, if_neg c4.2]; exact Ev.now _
theorem implExpOk_ev (x : List S40) : Ev (fun k => impl_ExpOk.f k x) (expOk (x.map tmI)) := by
  simp only [impl_ExpOk.f]
  by_cases h0 : x.length = 0
  · simp only [if_pos (show (x.length : Int) = 0 by omega)]
    refine Ev.step (fun k => by rw [impl_ExpOk.j0]) ?_
    simp only [if_true]
    exact (Ev.now _).cast (by rw [List.length_eq_zero_iff.1 h0]; simp [expOk, hgt])
  · simp only [if_neg (show ¬ (x.length : Int) = 0 by omega)]
    refine Ev.step (fun k => by rw [impl_ExpOk.j0]) ?_
    by_cases h : (x.length : Int) > 3000
    · simp only [decide_eq_true h, if_true]
      exact (Ev.now _).cast (by simp [expOk]; omega)
    · simp only [decide_eq_false h, Bool.false_eq_true, if_false]
      exact (implExpOk_l x (by omega) x.length 0 0 (by omega) (by omega) (by omega)).cast (by simp [expOk]; omega)

/-- With n put in, ahead of the first that is greater. -/
def insB (n : Int) : List Int → List Int
  | [] => [n]
  | a :: l => if n < a then n :: a :: l else a :: insB n l
def withR (l : List Int) (n : Int) : List Int := if n ∈ l then l else insB n l
theorem insB_len (n : Int) (l : List Int) : (insB n l).length = l.length + 1 := by
  induction l with
  | nil => rfl
  | cons a l ih =>
    rw [insB]
    split
    · rfl
    · simp [ih]
theorem l2In_l (l : List Int) (hl : l.length ≤ 1048576) (n : Int) (d : Nat) : ∀ i : Nat, i + d = l.length → Ev (fun k => spec_l2In.l0 k l n (i : Int)) (decide (n ∈ l.drop i)) := by
  induction d with
  | zero =>
    intro i hi
    refine Ev.step (fun k => by rw [spec_l2In.l0]) ?_
    simp only [if_neg (show ¬ (i : Int) < (l.length : Int) by omega), List.drop_eq_nil_of_le (show l.length ≤ i by omega)]
    exact (Ev.now _).cast (by simp)
  | succ d ih =>
    intro i hi
    have hil : i < l.length := by omega
    refine Ev.step (fun k => by rw [spec_l2In.l0]) ?_
    simp only [if_pos (show (i : Int) < (l.length : Int) by omega), if_pos (show 0 ≤ (i : Int) by omega), rd_lt l i hil, List.drop_eq_getElem_cons hil, List.mem_cons, wrap_succ (show i < 9223372036854775807 by omega)]
    by_cases c : l[i] = n
    · simp only [if_pos c]
      exact (Ev.now _).cast (by simp [c])
    · simp only [if_neg c]
      exact (ih (i + 1) (by omega)).cast (by simp [Ne.symm c])
theorem l2With_put (l : List Int) (hl : l.length ≤ 1048576) (n : Int) (d : Nat) : ∀ (i : Nat) (out : List Int), i + d = l.length → out.length ≤ i + 1 → Ev (fun k => spec_l2With.l0 k l n out true (i : Int)) (out ++ l.drop i) := by
  induction d with
  | zero =>
    intro i out hi ho
    refine Ev.step (fun k => by rw [spec_l2With.l0]) ?_
    simp only [if_neg (show ¬ (i : Int) < (l.length : Int) by omega), if_true, List.drop_eq_nil_of_le (show l.length ≤ i by omega), List.append_nil]
    exact Ev.now _
  | succ d ih =>
    intro i out hi ho
    have hil : i < l.length := by omega
    refine Ev.step (fun k => by rw [spec_l2With.l0]) ?_
    simp only [if_pos (show (i : Int) < (l.length : Int) by omega), if_true, if_pos (show 0 ≤ (i : Int) by omega), if_pos (show (i : Int) < (l.length : Int) by omega), if_pos (show out.length < 17592186044416 by omega), rd_lt l i hil, wrap_succ (show i < 9223372036854775807 by omega)]
    refine (ih (i + 1) (out ++ [l[i]]) (by omega) (by simp; omega)).cast ?_
    rw [List.drop_eq_getElem_cons hil, List.append_assoc]; rfl
theorem l2With_l (l : List Int) (hl : l.length ≤ 1048576) (n : Int) (d : Nat) : ∀ (i : Nat) (out : List Int), i + d = l.length → out.length ≤ i → Ev (fun k => spec_l2With.l0 k l n out false (i : Int)) (out ++ insB n (l.drop i)) := by
  induction d with
  | zero =>
    intro i out hi ho
    refine Ev.step (fun k => by rw [spec_l2With.l0]) ?_
    simp only [if_neg (show ¬ (i : Int) < (l.length : Int) by omega), Bool.false_eq_true, if_false, List.drop_eq_nil_of_le (show l.length ≤ i by omega), insB, if_pos (show out.length < 17592186044416 by omega)]
    exact Ev.now _
  | succ d ih =>
    intro i out hi ho
    have hil : i < l.length := by omega
    refine Ev.step (fun k => by rw [spec_l2With.l0]) ?_
    simp only [if_pos (show (i : Int) < (l.length : Int) by omega), Bool.false_eq_true, if_false, if_pos (show 0 ≤ (i : Int) by omega), rd_lt l i hil]
    by_cases c : n < l[i]
    · simp only [if_pos c, if_pos (show out.length < 17592186044416 by omega), Option.bind_some, if_pos (show 0 ≤ (i : Int) by omega), if_pos (show (i : Int) < (l.length : Int) by omega), List.length_append, List.length_singleton, if_pos (show out.length + 1 < 17592186044416 by omega), rd_lt l i hil, wrap_succ (show i < 9223372036854775807 by omega)]
      refine (l2With_put l hl n d (i + 1) (out ++ [n] ++ [l[i]]) (by omega) (by simp; omega)).cast ?_
      rw [List.drop_eq_getElem_cons hil, insB, if_pos c, List.append_assoc, List.append_assoc]; rfl
    · simp only [if_neg c, if_pos (show out.length < 17592186044416 by omega), wrap_succ (show i < 9223372036854775807 by omega)]
      refine (ih (i + 1) (out ++ [l[i]]) (by omega) (by simp; omega)).cast ?_
      rw [List.drop_eq_getElem_cons hil, insB, if_neg c, List.append_assoc]; rfl
theorem l2With_ev (l : List Int) (hl : l.length ≤ 1048576) (n : Int) : Ev (fun k => spec_l2With.f k l n) (withR l n) := by
  simp only [spec_l2With.f]
  refine Ev.bind (l2In_l l hl n l.length 0 (by omega)) ?_
  rw [List.drop_zero]
  by_cases c : n ∈ l
  · simp only [decide_eq_true c, if_true, Option.bind_some, List.length_nil, List.nil_append, if_pos (show 0 + l.length < 17592186044416 by omega)]
    exact (Ev.now _).cast (by rw [withR, if_pos c])
  · simp only [decide_eq_false c, Bool.false_eq_true, if_false]
    exact (l2With_l l hl n l.length 0 [] (by omega) (by simp)).cast (by rw [withR, if_neg c]; simp)
/-! What the flags tell. -/
theorem ris_ge (m : List Bool) : ∀ (i : Nat) (x : Int), x ∈ ris m i → (i : Int) ≤ x := by
  induction m with
  | nil => intro i x h; simp [ris] at h
  | cons b m ih =>
    intro i x h
    rw [ris] at h
    split at h
    · rcases List.mem_cons.1 h with rfl | h
      · exact Int.le_refl _
      · have := ih (i + 1) x h; omega
    · have := ih (i + 1) x h; omega
theorem ris_len (m : List Bool) : ∀ i : Nat, (ris m i).length ≤ m.length := by
  induction m with
  | nil => intro i; simp [ris]
  | cons b m ih =>
    intro i
    rw [ris]
    have := ih (i + 1)
    split
    · simp; omega
    · simp; omega
theorem insB_low (n : Int) (l : List Int) (h : ∀ x ∈ l, n < x) : insB n l = n :: l := by
  cases l with
  | nil => rfl
  | cons a l => rw [insB, if_pos (h a (List.mem_cons_self ..))]
theorem ris_set (m : List Bool) : ∀ (i j : Nat), j < m.length → ris (m.set j true) i = withR (ris m i) ((i + j : Nat) : Int) := by
  induction m with
  | nil => intro i j h; simp at h
  | cons b m ih =>
    intro i j h
    cases j with
    | zero =>
      have e0 : ((i + 0 : Nat) : Int) = (i : Int) := by rw [Nat.add_zero]
      rw [List.set_cons_zero, ris, if_pos rfl, ris, e0]
      cases b with
      | true => rw [if_pos rfl, withR, if_pos (by simp)]
      | false =>
        have h1 : ¬ (i : Int) ∈ ris m (i + 1) := fun hx => by have := ris_ge m (i + 1) _ hx; omega
        rw [if_neg (by decide), withR, if_neg h1, insB_low _ _ (fun x hx => by have := ris_ge m (i + 1) x hx; omega)]
    | succ j =>
      rw [List.set_cons_succ, ris, ris, ih (i + 1) j (by simpa using h), show i + 1 + j = i + (j + 1) by omega]
      cases b with
      | false => rw [if_neg (by decide), if_neg (by decide)]
      | true =>
        rw [if_pos rfl, if_pos rfl, withR, withR]
        by_cases c : ((i + (j + 1) : Nat) : Int) ∈ ris m (i + 1)
        · rw [if_pos c, if_pos (List.mem_cons_of_mem _ c)]
        · rw [if_neg c, if_neg (by simp only [List.mem_cons, not_or]; exact ⟨by omega, c⟩), insB, if_neg (by omega)]
theorem mk_len (c : Int) (l : List S40) : ∀ m : List Bool, (mk_ c m l).length = m.length := by
  induction l with
  | nil => intro m; rfl
  | cons t l ih =>
    intro m
    rw [mk_, ih]
    split
    · rw [List.length_set]
    · rfl
theorem specNames_l (x : List S40) (hx : x.length ≤ 3000) (hr : ∀ t ∈ x, 0 ≤ t.f1 ∧ t.f1 < 256) (d : Nat) : ∀ (i : Nat) (m1 m2 : List Bool), i + d = x.length → m1.length = 256 → m2.length = 256 → Ev (fun k => spec_NamesIn.l0 k x (ris m1 0) (ris m2 0) (i : Int)) (ris (mk_ 1 m1 (x.drop i)) 0, ris (mk_ 2 m2 (x.drop i)) 0) := by
  induction d with
  | zero =>
    intro i m1 m2 hi h1 h2
    refine Ev.step (fun k => by rw [spec_NamesIn.l0]) ?_
    simp only [if_neg (show ¬ (i : Int) < (x.length : Int) by omega), List.drop_eq_nil_of_le (show x.length ≤ i by omega), mk_]
    exact Ev.now _
  | succ d ih =>
    intro i m1 m2 hi h1 h2
    have hil : i < x.length := by omega
    have hb := hr _ (List.getElem_mem hil)
    have l1 := ris_len m1 0
    have l2 := ris_len m2 0
    refine Ev.step (fun k => by rw [spec_NamesIn.l0]) ?_
    simp only [if_pos (show (i : Int) < (x.length : Int) by omega), if_pos (show 0 ≤ (i : Int) by omega), rdTm_at x i hil, wrap_succ (show i < 9223372036854775807 by omega), List.drop_eq_getElem_cons hil, mk_]
    generalize x[i] = t at hb
    obtain ⟨j, hj⟩ := Int.eq_ofNat_of_zero_le hb.1
    have hj2 : j < 256 := by omega
    by_cases c1 : t.f0 = 1
    · simp only [if_pos c1, hj, Int.toNat_natCast, if_neg (show ¬ t.f0 = 2 by omega)]
      refine Ev.bind (l2With_ev _ (by omega) _) ?_
      have e := ris_set m1 0 j (by omega)
      rw [Nat.zero_add] at e
      rw [← e]
      exact ih (i + 1) (m1.set j true) m2 (by omega) (by rw [List.length_set]; exact h1) h2
    by_cases c2 : t.f0 = 2
    · simp only [if_neg c1, if_pos c2, hj, Int.toNat_natCast]
      refine Ev.bind (l2With_ev _ (by omega) _) ?_
      have e := ris_set m2 0 j (by omega)
      rw [Nat.zero_add] at e
      rw [← e]
      exact ih (i + 1) m1 (m2.set j true) (by omega) h1 (by rw [List.length_set]; exact h2)
    · simp only [if_neg c1, if_neg c2]
      exact ih (i + 1) m1 m2 (by omega) h1 h2
theorem noF_len : noF.length = 256 := by rw [noF, List.length_replicate]
theorem ris_rep (n : Nat) : ∀ i, ris (List.replicate n false) i = [] := by
  induction n with
  | zero => intro i; rfl
  | succ n ih => intro i; rw [List.replicate_succ, ris, if_neg (by decide)]; exact ih _
theorem ris_noF : ris noF 0 = [] := ris_rep 256 0
def namesR (x : List S40) : List Int × List Int := if expOk (x.map tmI) = true then (ris (mk_ 1 noF x) 0, ris (mk_ 2 noF x) 0) else ([], [])
theorem namesR_len (x : List S40) : (namesR x).1.length ≤ 256 ∧ (namesR x).2.length ≤ 256 := by
  rw [namesR]
  split
  · have h1 := ris_len (mk_ 1 noF x) 0
    have h2 := ris_len (mk_ 2 noF x) 0
    rw [mk_len, noF_len] at h1 h2
    exact ⟨h1, h2⟩
  · simp
theorem implNames_ev (x : List S40) : Ev (fun k => impl_NamesIn.f k x) (namesR x) := by
  simp only [impl_NamesIn.f]
  refine Ev.bind (implExpOk_ev x) ?_
  by_cases h : expOk (x.map tmI) = true
  · simp only [if_pos h]
    exact (Ev.now _).cast (by rw [namesR, if_pos h])
  · simp only [if_neg h]
    exact (Ev.now _).cast (by rw [namesR, if_neg h])
theorem specNames_ev (x : List S40) (hx : x.length ≤ 1048576) : Ev (fun k => spec_NamesIn.f k x) (namesR x) := by
  simp only [spec_NamesIn.f, Option.bind_some]
  refine Ev.bind (specExpOk_ev x hx) ?_
  by_cases h : expOk (x.map tmI) = true
  · simp only [if_pos h]
    obtain ⟨K, hK⟩ := implExpOk_ev x
    have hr := expOk_in ((hK K (Nat.le_refl _)).trans (congrArg some h))
    have e := specNames_l x hr.1 hr.2 x.length 0 noF noF (by omega) noF_len noF_len
    rw [ris_noF, List.drop_zero] at e
    exact e.cast (by rw [namesR, if_pos h])
  · simp only [if_neg h]
    exact (Ev.now _).cast (by rw [namesR, if_neg h])

def tmL (s : S57) : S40 := ⟨s.f0, s.f1⟩
theorem rdTl_at (l : List S57) (i : Nat) (h : i < l.length) : rd_T57 l (i : Int) = l[i] := by
  simp only [rd_T57, Int.toNat_natCast, List.getD_eq_getElem?_getD, List.getElem?_eq_getElem h, Option.getD_some]
theorem szTermS_eq (l : List S57) (n : Int) (h0 : 0 ≤ n) (h1 : n ≤ 1048576) (hl : l.length ≤ 9223372036854775807) : laws_szTermS.f l n = some (if n - (l.length : Int) < 0 then -1 else n - (l.length : Int)) := by
  have hw : wrap64 (n - (l.length : Int)) = n - (l.length : Int) := wrap_id (by omega) (by omega)
  simp only [laws_szTermS.f, hw]
  split <;> rfl
theorem toTermS_l (l : List S57) (hl : l.length ≤ 1048576) (d : Nat) : ∀ (i : Nat) (x : List S40), i + d = l.length → x.length = l.length → (∀ j, j < i → x[j]? = (l.map tmL)[j]?) → Ev (fun k => laws_toTermS.l0 k l x (i : Int)) (l.map tmL) := by
  induction d with
  | zero =>
    intro i x hi hx ht
    refine Ev.step (fun k => by rw [laws_toTermS.l0]) ?_
    simp only [if_neg (show ¬ (i : Int) < (l.length : Int) by omega)]
    obtain rfl : x = l.map tmL := ext_at (by simpa using hx) (fun j hj => ht j (by simp at hj; omega))
    exact Ev.now _
  | succ d ih =>
    intro i x hi hx ht
    refine Ev.step (fun k => by rw [laws_toTermS.l0]) ?_
    simp only [if_pos (show (i : Int) < (l.length : Int) by omega), if_pos (show 0 ≤ (i : Int) by omega), if_pos (show (i : Int) < (x.length : Int) by omega), wrap_succ (show i < 9223372036854775807 by omega), Int.toNat_natCast, laws_toTerm.f, Option.bind_some]
    refine ih (i + 1) _ (by omega) (by simpa using hx) (fun j hj => ?_)
    rw [List.getElem?_set]
    by_cases e : i = j
    · subst e
      rw [if_pos rfl, if_pos (by omega), rdTl_at l i (by omega), List.getElem?_map, List.getElem?_eq_getElem (show i < l.length by omega)]
      rfl
    · rw [if_neg e]; exact ht j (by omega)
theorem toTermS_ev (l : List S57) (hl : l.length ≤ 1048576) : Ev (fun k => laws_toTermS.f k l) (l.map tmL) := by
  simp only [laws_toTermS.f, if_pos (show 0 ≤ (l.length : Int) by omega), Int.toNat_natCast, if_pos (show l.length ≤ 17592186044416 by omega)]
  exact toTermS_l l hl l.length 0 _ (by omega) (by simp) (fun j hj => by omega)
theorem eqTermS_l (a : List S40) (ha : a.length ≤ 9223372036854775807) (d : Nat) : ∀ (i : Nat), i + d = a.length → Ev (fun k => laws_eqTermS.l0 k a a (i : Int)) true := by
  induction d with
  | zero =>
    intro i hi
    refine Ev.step (fun k => by rw [laws_eqTermS.l0]) ?_
    simp only [if_neg (show ¬ (i : Int) < (a.length : Int) by omega)]
    exact Ev.now _
  | succ d ih =>
    intro i hi
    refine Ev.step (fun k => by rw [laws_eqTermS.l0]) ?_
    simp only [if_pos (show (i : Int) < (a.length : Int) by omega), if_pos (show 0 ≤ (i : Int) by omega), wrap_succ (show i < 9223372036854775807 by omega), laws_eqTerm.f, if_true, Option.bind_some]
    exact ih (i + 1) (by omega)
theorem eqTermS_same (a : List S40) (ha : a.length ≤ 9223372036854775807) : Ev (fun k => laws_eqTermS.f k a a) true := by
  simp only [laws_eqTermS.f, if_true]
  exact eqTermS_l a ha a.length 0 (by omega)

theorem markTermS_l (n : Nat) (hn : n ≤ 1048576) (d : Nat) : ∀ (i : Nat) (m : Int) (x : List S40), i + d = n → x.length = n → 0 ≤ m → m + 2 * (d : Int) ≤ 4611686018427387904 → ∃ x', Ev (fun k => laws_markTermS.l0 k x m (i : Int)) (m + 2 * (d : Int), x') := by
  induction d with
  | zero =>
    intro i m x hi hx h0 hm
    refine ⟨x, Ev.step (fun k => by rw [laws_markTermS.l0]) ?_⟩
    simp only [if_neg (show ¬ (i : Int) < (x.length : Int) by omega)]
    exact (Ev.now _).cast (by simp)
  | succ d ih =>
    intro i m x hi hx h0 hm
    have hw1 : wrap64 (m + 1) = m + 1 := wrap_id (by omega) (by omega)
    have hw2 : wrap64 (m + 1 + 1) = m + 2 := by rw [wrap_id (by omega) (by omega)]; omega
    obtain ⟨x', e⟩ := ih (i + 1) (m + 2) ((x.set i ⟨m, (rd_T40 x (i : Int)).f1⟩).set i ⟨(rd_T40 (x.set i ⟨m, (rd_T40 x (i : Int)).f1⟩) (i : Int)).f0, m + 1⟩) (by omega) (by simpa using hx) (by omega) (by omega)
    refine ⟨x', Ev.step (fun k => by rw [laws_markTermS.l0]) ?_⟩
    simp only [if_pos (show (i : Int) < (x.length : Int) by omega), if_pos (show 0 ≤ (i : Int) by omega), Option.bind_some, hw1, hw2, Int.toNat_natCast, wrap_succ (show i < 9223372036854775807 by omega)]
    exact e.cast (by congr 1; omega)
theorem markTermS_ex (x : List S40) (hx : x.length ≤ 1048576) : ∃ x', Ev (fun k => laws_markTermS.f k x 1) (1 + 2 * (x.length : Int), x') := by
  simp only [laws_markTermS.f]
  exact markTermS_l x.length hx x.length 0 1 x (by omega) rfl (by omega) (by omega)

theorem eqInt64S_l (a b : List Int) (hl : a.length = b.length) (ha : a.length ≤ 9223372036854775807) (d : Nat) : ∀ (i : Nat), i + d = a.length → Ev (fun k => laws_eqInt64S.l0 k a b (i : Int)) (decide (a.drop i = b.drop i)) := by
  induction d with
  | zero =>
    intro i hi
    refine Ev.step (fun k => by rw [laws_eqInt64S.l0]) ?_
    simp only [if_neg (show ¬ (i : Int) < (a.length : Int) by omega)]
    rw [List.drop_of_length_le (show a.length ≤ i by omega), List.drop_of_length_le (show b.length ≤ i by omega)]
    simp only [decide_true]
    exact Ev.now _
  | succ d ih =>
    intro i hi
    refine Ev.step (fun k => by rw [laws_eqInt64S.l0]) ?_
    simp only [if_pos (show (i : Int) < (a.length : Int) by omega), if_pos (show 0 ≤ (i : Int) by omega), if_pos (show (i : Int) < (b.length : Int) by omega), wrap_succ (show i < 9223372036854775807 by omega)]
    rw [drop_rd a i (by omega), drop_rd b i (by omega)]
    by_cases e : rd a (i : Int) = rd b (i : Int)
    · simp only [if_pos e]
      exact (ih (i + 1) (by omega)).cast (by simp [e])
    · simp only [if_neg e]
      exact (Ev.now false).cast (by simp [e])
theorem eqInt64S_ev (a b : List Int) (ha : a.length ≤ 9223372036854775807) : Ev (fun k => laws_eqInt64S.f k a b) (decide (a = b)) := by
  simp only [laws_eqInt64S.f]
  by_cases hl : a.length = b.length
  · simp only [if_pos (show (a.length : Int) = (b.length : Int) by omega)]
    exact (eqInt64S_l a b hl ha a.length 0 (by omega)).cast (by simp)
  · simp only [if_neg (show ¬ (a.length : Int) = (b.length : Int) by omega)]
    exact (Ev.now false).cast (by have : a ≠ b := (fun e => hl (by rw [e])); simp [this])

theorem markInt64S_l (n : Nat) (m : Int) (h0 : 0 ≤ m) (hm : m + n ≤ 4611686018427387904) (d : Nat) : ∀ (i : Nat) (x : List Int), i + d = n → x.length = n → (∀ j, j < i → x[j]? = some (m + (j : Int))) → Ev (fun k => laws_markInt64S.l0 k x (m + (i : Int)) (i : Int)) (m + (n : Int), ups m n) := by
  induction d with
  | zero =>
    intro i x hi hx ht
    refine Ev.step (fun k => by rw [laws_markInt64S.l0]) ?_
    simp only [if_neg (show ¬ (i : Int) < (x.length : Int) by omega)]
    obtain rfl : x = ups m n := ext_at (by rw [hx, ups_len]) (fun j hj => by rw [ups_len] at hj; rw [ht j (by omega), ups_at hj])
    obtain rfl : i = n := by omega
    exact Ev.now _
  | succ d ih =>
    intro i x hi hx ht
    refine Ev.step (fun k => by rw [laws_markInt64S.l0]) ?_
    have hw : wrap64 (m + (i : Int) + 1) = m + ((i + 1 : Nat) : Int) := by unfold wrap64; omega
    simp only [if_pos (show (i : Int) < (x.length : Int) by omega), if_pos (show 0 ≤ (i : Int) by omega), wrap_succ (show i < 9223372036854775807 by omega), hw, Int.toNat_natCast]
    refine ih (i + 1) _ (by omega) (by simpa using hx) (fun j hj => ?_)
    rw [List.getElem?_set]
    by_cases e : i = j
    · subst e
      rw [if_pos rfl, if_pos (by omega)]
    · rw [if_neg e]; exact ht j (by omega)
theorem markInt64S_ev (l : List Int) (m : Int) (h0 : 0 ≤ m) (hm : m + l.length ≤ 4611686018427387904) : Ev (fun k => laws_markInt64S.f k l m) (m + (l.length : Int), ups m l.length) := by
  simp only [laws_markInt64S.f]
  have h := markInt64S_l l.length m h0 hm l.length 0 l (by omega) rfl (fun j hj => by omega)
  simpa using h
theorem heldInt64S_l (n : Nat) (m : Int) (h0 : 0 ≤ m) (hm : m + n ≤ 4611686018427387904) (d : Nat) : ∀ (i : Nat), i + d = n → Ev (fun k => laws_heldInt64S.l0 k (ups m n) (m + (i : Int)) (i : Int)) (m + (n : Int)) := by
  induction d with
  | zero =>
    intro i hi
    refine Ev.step (fun k => by rw [laws_heldInt64S.l0]) ?_
    simp only [ups_len, if_neg (show ¬ (i : Int) < (n : Int) by omega)]
    obtain rfl : i = n := by omega
    exact Ev.now _
  | succ d ih =>
    intro i hi
    refine Ev.step (fun k => by rw [laws_heldInt64S.l0]) ?_
    have hw : wrap64 (m + (i : Int) + 1) = m + ((i + 1 : Nat) : Int) := by unfold wrap64; omega
    simp only [ups_len, if_pos (show (i : Int) < (n : Int) by omega), if_pos (show 0 ≤ (i : Int) by omega), wrap_succ (show i < 9223372036854775807 by omega), hw, ups_rd (show i < n by omega), if_true]
    exact ih (i + 1) (by omega)
theorem heldInt64S_ev (n : Nat) (m : Int) (h0 : 0 ≤ m) (hm : m + n ≤ 4611686018427387904) : Ev (fun k => laws_heldInt64S.f k (ups m n) m) (m + (n : Int)) := by
  simp only [laws_heldInt64S.f]
  have h := heldInt64S_l n m h0 hm n 0 (by omega)
  simpa using h

def Want_FnExactNamesIn : Prop := ∀ (l0 : List (S57)), (l0.length ≤ 9223372036854775807 ∧ ∀ u1 ∈ l0, ((Lit.int .i64 u1.f0).wf = true ∧ (Lit.int .i64 u1.f1).wf = true)) → ∃ k, laws_FnExactNamesIn.f k l0 = some true
theorem FnExactNamesIn : Want_FnExactNamesIn := by
  intro l hq
  have hl := hq.1
  refine Ev.rounds ?_
  simp only [laws_FnExactNamesIn.f, szTermS_eq l 1048576 (by omega) (by omega) (by omega), Option.bind_some]
  by_cases h : (1048576 : Int) - (l.length : Int) < 0
  · simp only [if_pos h, if_pos (show (-1 : Int) < 0 by omega)]; exact Ev.now _
  simp only [if_neg h]
  have hl' : l.length ≤ 1048576 := by omega
  have hm : (l.map tmL).length ≤ 1048576 := by simpa using hl'
  have e1 := specNames_ev (l.map tmL) hm
  have e2 := implNames_ev (l.map tmL)
  have hb := namesR_len (l.map tmL)
  generalize namesR (l.map tmL) = R at e1 e2 hb
  obtain ⟨a, b⟩ := R
  simp only at hb
  refine Ev.bind (toTermS_ev l hl') ?_
  refine Ev.bind e1 ?_
  refine Ev.bind (toTermS_ev l hl') ?_
  refine Ev.bind e2 ?_
  refine Ev.bind (eqInt64S_ev a a (by omega)) ?_
  simp only [decide_true, if_true]
  refine Ev.bind (eqInt64S_ev b b (by omega)) ?_
  simp only [decide_true, Bool.not_true]
  refine Ev.step (fun k => by rw [laws_FnExactNamesIn.j0]) ?_
  simp only [Bool.false_eq_true, if_false]
  refine Ev.bind (toTermS_ev l hl') ?_
  refine Ev.bind (eqTermS_same _ (by omega)) ?_
  simp only [if_true]
  obtain ⟨x', e3⟩ := markTermS_ex (l.map tmL) hm
  refine Ev.bind e3 ?_
  simp only [if_neg (show ¬ (1 : Int) + 2 * ((l.map tmL).length : Int) < 0 by omega)]
  refine Ev.bind (eqInt64S_ev a a (by omega)) ?_
  simp only [decide_true, if_true]
  refine Ev.bind (eqInt64S_ev b b (by omega)) ?_
  simp only [decide_true, Bool.not_true]
  refine Ev.step (fun k => by rw [laws_FnExactNamesIn.j1]) ?_
  simp only [Bool.false_eq_true, if_false]
  refine Ev.bind (markInt64S_ev a 1 (by omega) (by omega)) ?_
  refine Ev.bind (markInt64S_ev b (1 + (a.length : Int)) (by omega) (by omega)) ?_
  refine Ev.bind (heldInt64S_ev a.length 1 (by omega) (by omega)) ?_
  simp only [if_neg (show ¬ (1 : Int) + (a.length : Int) < 0 by omega)]
  refine Ev.bind (heldInt64S_ev b.length (1 + (a.length : Int)) (by omega) (by omega)) ?_
  simp only [if_neg (show ¬ (1 : Int) + (a.length : Int) + (b.length : Int) < 0 by omega), if_true]
  refine Ev.bind (toTermS_ev l hl') ?_
  refine Ev.bind e2 ?_
  refine Ev.bind (eqInt64S_ev a a (by omega)) ?_
  simp only [decide_true, if_true]
  refine Ev.bind (eqInt64S_ev b b (by omega)) ?_
  simp only [decide_true, Bool.not_true]
  refine Ev.step (fun k => by rw [laws_FnExactNamesIn.j2]) ?_
  simp only [Bool.false_eq_true, if_false]
  refine Ev.bind (heldInt64S_ev a.length 1 (by omega) (by omega)) ?_
  simp only [if_neg (show ¬ (1 : Int) + (a.length : Int) < 0 by omega)]
  refine Ev.bind (heldInt64S_ev b.length (1 + (a.length : Int)) (by omega) (by omega)) ?_
  simp only [if_neg (show ¬ (1 : Int) + (a.length : Int) + (b.length : Int) < 0 by omega), if_true]
  exact Ev.now _
end Go.Proofs.Ytlaliacfonfflaa.Pure
