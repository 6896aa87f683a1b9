/- FnNames answers true for every code: the names of a drawn expression are those of its Terms, in order, as the reference has them; no condition. -/
import Derived.Test.YtlaliacfonfflaaPFnNamesx6
import Derived.Test.YtlaliacfonfflaaTerm
import Derived.Test.YtlaliacfonfflaaBits
set_option linter.unusedVariables false
set_option linter.unusedSimpArgs false
namespace Go.Proofs.Ytlaliacfonfflaa.Pure
open Go.RowKit Go.Proofs.Ytlaliacfonfflaa.PFnNames Go.Proofs.YtlaliacfonfflaaW.PrintWords Go.Proofs.YtlaliacfonfflaaW.PrintLast Go.Proofs.YtlaliacfonfflaaW.PrintMore Go.Proofs.Ytlaliacfonfflaa.Bs

theorem specTakesOf_eq (a : Int) : spec_TakesOf.f a = some (tks a) := by
  unfold spec_TakesOf.f spec_l1In.f
  by_cases h : 0 ≤ a ∧ a ≤ 17
  · obtain ⟨h0, h1⟩ := h
    obtain ⟨n, rfl⟩ := Int.eq_ofNat_of_zero_le h0
    have : n ≤ 17 := by omega
    have : n = 0 ∨ n = 1 ∨ n = 2 ∨ n = 3 ∨ n = 4 ∨ n = 5 ∨ n = 6 ∨ n = 7 ∨ n = 8 ∨ n = 9 ∨ n = 10 ∨ n = 11 ∨ n = 12 ∨ n = 13 ∨ n = 14 ∨ n = 15 ∨ n = 16 ∨ n = 17 := by omega
    rcases this with h | h | h | h | h | h | h | h | h | h | h | h | h | h | h | h | h | h <;> subst h <;> rfl
  · have e : tks a = -1 := by
      unfold tks
      rw [if_neg (by omega), if_neg (by omega), if_neg (by omega), if_neg (by omega)]
    rw [e]
    by_cases h0 : a ≥ 0
    · rw [if_pos h0]; simp [show ¬ a ≤ 17 by omega]
    · rw [if_neg h0]; simp
theorem implTakesOf_ev (a : Int) : Ev (fun k => impl_TakesOf.f k a) (tks a) := by
  refine ⟨3, fun k hk => ?_⟩
  obtain ⟨k, rfl⟩ : ∃ m, k = m + 3 := ⟨k - 3, by omega⟩
  unfold tks
  by_cases c0 : a = 0
  · subst c0; rfl
  by_cases c1 : a = 1
  · subst c1; rfl
  by_cases c2 : a = 2
  · subst c2; rfl
  by_cases c3 : a = 3
  · subst c3; rfl
  by_cases c4 : a = 4
  · subst c4; rfl
  rw [if_neg (by omega), if_neg (by omega)]
  simp only [impl_TakesOf.f, impl_TakesOf.j0, impl_TakesOf.j1, if_neg c0, if_neg c2, if_neg c3, beq_eq_false_iff_ne.2 c1, beq_eq_false_iff_ne.2 c4, Bool.false_eq_true, if_false]
  by_cases c5 : a ≥ 5
  · simp only [if_pos c5, impl_TakesOf.j2]
    by_cases c6 : a ≤ 16
    · rw [if_pos (by simpa using c6), if_pos (by omega)]
    · rw [if_neg (by simpa using c6), if_neg (show ¬ (5 ≤ a ∧ a ≤ 16) by omega)]
      by_cases c7 : a = 17
      · rw [if_pos c7, if_pos c7]
      · rw [if_neg c7, if_neg c7]
  · simp only [if_neg c5, impl_TakesOf.j2, Bool.false_eq_true, if_false]
    rw [if_neg (by omega), if_neg (by omega), if_neg (by omega)]

def tmI (s : S40) : Tm := ⟨s.f0, s.f1⟩
theorem tmI_inj {a b : S40} (h : tmI a = tmI b) : a = b := by
  cases a; cases b; simp only [tmI, Tm.mk.injEq] at h; obtain ⟨h1, h2⟩ := h; subst h1; subst h2; rfl
theorem rdTm_drop (l : List S40) (i : Nat) (h : i < l.length) : l.drop i = rd_T40 l (i : Int) :: l.drop (i + 1) := by
  simp only [rd_T40, Int.toNat_natCast, List.getD_eq_getElem?_getD, List.getElem?_eq_getElem h, Option.getD_some]
  exact List.drop_eq_getElem_cons h
theorem rdTm_at (l : List S40) (i : Nat) (h : i < l.length) : rd_T40 l (i : Int) = l[i] := by
  simp only [rd_T40, Int.toNat_natCast, List.getD_eq_getElem?_getD, List.getElem?_eq_getElem h, Option.getD_some]

theorem l1In_eq (a b c : Int) : spec_l1In.f a b c = some (decide (b ≤ a) && decide (a ≤ c)) := by
  unfold spec_l1In.f
  by_cases h : a ≥ b
  · rw [if_pos h]; simp [show b ≤ a from h]
  · rw [if_neg h]; simp [show ¬ b ≤ a from h]

theorem specExpOk_l (x : List S40) (hl : x.length ≤ 3000) (d : Nat) : ∀ (i : Nat) (h : Int), i + d = x.length → 0 ≤ h → h ≤ i → Ev (fun k => spec_ExpOk.l0 k x h (i : Int)) (decide (hgt ((x.drop i).map tmI) h = some 1)) := by
  induction d with
  | zero =>
    intro i h hi h0 h1
    refine Ev.step (fun k => by rw [spec_ExpOk.l0]) ?_
    simp only [if_neg (show ¬ (i : Int) < (x.length : Int) by omega)]
    rw [List.drop_of_length_le (show x.length ≤ i by omega)]
    exact (Ev.now _).cast (by rw [Bool.eq_iff_iff]; simp [hgt])
  | succ d ih =>
    intro i h hi h0 h1
    refine Ev.step (fun k => by rw [spec_ExpOk.l0]) ?_
    rw [rdTm_drop x i (by omega), List.map_cons, hgt]
    generalize rd_T40 x (i : Int) = t
    have hr := tks_range t.f0
    have et : (tmI t).op = t.f0 := rfl
    have en : (tmI t).n = t.f1 := rfl
    simp only [if_pos (show (i : Int) < (x.length : Int) by omega), if_pos (show 0 ≤ (i : Int) by omega), specTakesOf_eq, l1In_eq, Option.bind_some, wrap_succ (show i < 9223372036854775807 by omega), et]
    by_cases c : tmOk (tmI t) ∧ tks t.f0 ≤ h
    · rw [if_pos c]
      obtain ⟨⟨c1, c2, c3, c4⟩, c5⟩ := c
      rw [et] at c1 c4
      rw [en] at c2 c3 c4
      have hn : (decide (0 ≤ t.f1) && decide (t.f1 ≤ 255)) = true := by simp; omega
      have hw : wrap64 (wrap64 (h - tks t.f0) + 1) = h + (1 - tks t.f0) := by rw [wrap_id (x := h - tks t.f0) (by omega) (by omega), wrap_id (by omega) (by omega)]; omega
      simp only [if_neg (show ¬ tks t.f0 < 0 by omega), if_neg (show ¬ tks t.f0 > h by omega), hn, if_true, hw]
      have hg := ih (i + 1) (h + (1 - tks t.f0)) (by omega) (by omega) (by omega)
      by_cases c6 : t.f0 > 2
      · simp only [if_pos c6, if_pos (c4 c6)]; exact hg
      · simp only [if_neg c6]; exact hg
    · rw [if_neg c]
      have cf : decide ((none : Option Int) = some 1) = false := by simp
      rw [cf]
      by_cases c1 : tks t.f0 < 0
      · simp only [if_pos c1]; exact Ev.now _
      by_cases c2 : tks t.f0 > h
      · simp only [if_neg c1, if_pos c2]; exact Ev.now _
      by_cases c3 : (decide (0 ≤ t.f1) && decide (t.f1 ≤ 255)) = true
      · have c3' : 0 ≤ t.f1 ∧ t.f1 ≤ 255 := by simpa using c3
        have c4 : t.f0 > 2 ∧ ¬ t.f1 = 0 := by
          refine Classical.byContradiction fun e => c ⟨⟨by rw [et]; omega, by rw [en]; omega, by rw [en]; omega, ?_⟩, by omega⟩
          rw [et, en]; intro e1
          exact Classical.byContradiction fun e2 => e ⟨e1, e2⟩
        simp only [if_neg c1, if_neg c2, c3, if_true, if_pos c4.1, if_neg c4.2]; exact Ev.now _
      · simp only [if_neg c1, if_neg c2, if_neg c3]; exact Ev.now _
theorem specExpOk_ev (x : List S40) (hl : x.length ≤ 1048576) : Ev (fun k => spec_ExpOk.f k x) (expOk (x.map tmI)) := by
  simp only [spec_ExpOk.f]
  by_cases h : (x.length : Int) > 3000
  · simp only [if_pos h]
    exact (Ev.now _).cast (by simp [expOk]; omega)
  · simp only [if_neg h]
    exact (specExpOk_l x (by omega) x.length 0 0 (by omega) (by omega) (by omega)).cast (by simp [expOk]; omega)
theorem implExpOk_l (x : List S40) (hl : x.length ≤ 3000) (d : Nat) : ∀ (i : Nat) (h : Int), i + d = x.length → 0 ≤ h → h ≤ i → Ev (fun k => impl_ExpOk.l0 k h x (x.length : Int) (i : Int)) (decide (hgt ((x.drop i).map tmI) h = some 1)) := by
  induction d with
  | zero =>
    intro i h hi h0 h1
    refine Ev.step (fun k => by rw [impl_ExpOk.l0]) ?_
    simp only [if_neg (show ¬ (i : Int) < (x.length : Int) by omega)]
    rw [List.drop_of_length_le (show x.length ≤ i by omega)]
    exact (Ev.now _).cast (by rw [Bool.eq_iff_iff]; simp [hgt])
  | succ d ih =>
    intro i h hi h0 h1
    refine Ev.step (fun k => by rw [impl_ExpOk.l0]) ?_
    rw [rdTm_drop x i (by omega), List.map_cons, hgt]
    generalize rd_T40 x (i : Int) = t
    have hr := tks_range t.f0
    have et : (tmI t).op = t.f0 := rfl
    have en : (tmI t).n = t.f1 := rfl
    simp only [if_pos (show (i : Int) < (x.length : Int) by omega), if_pos (show 0 ≤ (i : Int) by omega), wrap_succ (show i < 9223372036854775807 by omega), et]
    refine Ev.bind (implTakesOf_ev t.f0) ?_
    by_cases c : tmOk (tmI t) ∧ tks t.f0 ≤ h
    · rw [if_pos c]
      obtain ⟨⟨c1, c2, c3, c4⟩, c5⟩ := c
      rw [et] at c1 c4
      rw [en] at c2 c3 c4
      have hw : wrap64 (h + wrap64 (1 - tks t.f0)) = h + (1 - tks t.f0) := by rw [wrap_id (x := 1 - tks t.f0) (by omega) (by omega), wrap_id (by omega) (by omega)]
      simp only [if_neg (show ¬ tks t.f0 < 0 by omega), if_neg (show ¬ tks t.f0 > h by omega), if_neg (show ¬ t.f1 < 0 by omega), if_neg (show ¬ t.f1 > 255 by omega), hw]
      have hg := ih (i + 1) (h + (1 - tks t.f0)) (by omega) (by omega) (by omega)
      by_cases c6 : t.f0 > 2
      · simp only [if_pos c6, if_pos (c4 c6)]; exact hg
      · simp only [if_neg c6]; exact hg
    · rw [if_neg c]
      have cf : decide ((none : Option Int) = some 1) = false := by simp
      rw [cf]
      by_cases c1 : tks t.f0 < 0
      · simp only [if_pos c1]; exact Ev.now _
      by_cases c2 : tks t.f0 > h
      · simp only [if_neg c1, if_pos c2]; exact Ev.now _
      by_cases c3 : t.f1 < 0
      · simp only [if_neg c1, if_neg c2, if_pos c3]; exact Ev.now _
      by_cases c3' : t.f1 > 255
      · simp only [if_neg c1, if_neg c2, if_neg c3, if_pos c3']; exact Ev.now _
      have c4 : t.f0 > 2 ∧ ¬ t.f1 = 0 := by
        refine Classical.byContradiction fun e => c ⟨⟨by rw [et]; omega, by rw [en]; omega, by rw [en]; omega, ?_⟩, by omega⟩
        rw [et, en]; intro e1
        exact Classical.byContradiction fun e2 => e ⟨e1, e2⟩
      simp only [if_neg c1, if_neg c2, if_neg c3, if_neg c3', if_pos c4.1, if_neg c4.2]; exact Ev.now _
theorem implExpOk_ev (x : List S40) : Ev (fun k => impl_ExpOk.f k x) (expOk (x.map tmI)) := by
  simp only [impl_ExpOk.f]
  by_cases h0 : x.length = 0
  · simp only [if_pos (show (x.length : Int) = 0 by omega)]
    refine Ev.step (fun k => by rw [impl_ExpOk.j0]) ?_
    simp only [if_true]
    exact (Ev.now _).cast (by rw [List.length_eq_zero_iff.1 h0]; simp [expOk, hgt])
  · simp only [if_neg (show ¬ (x.length : Int) = 0 by omega)]
    refine Ev.step (fun k => by rw [impl_ExpOk.j0]) ?_
    by_cases h : (x.length : Int) > 3000
    · simp only [decide_eq_true h, if_true]
      exact (Ev.now _).cast (by simp [expOk]; omega)
    · simp only [decide_eq_false h, Bool.false_eq_true, if_false]
      exact (implExpOk_l x (by omega) x.length 0 0 (by omega) (by omega) (by omega)).cast (by simp [expOk]; omega)

/-- With n put in, ahead of the first that is greater. -/
def insB (n : Int) : List Int → List Int
  | [] => [n]
  | a :: l => if n < a then n :: a :: l else a :: insB n l
def withR (l : List Int) (n : Int) : List Int := if n ∈ l then l else insB n l
theorem insB_len (n : Int) (l : List Int) : (insB n l).length = l.length + 1 := by
  induction l with
  | nil => rfl
  | cons a l ih =>
    rw [insB]
    split
    · rfl
    · simp [ih]
theorem l2In_l (l : List Int) (hl : l.length ≤ 1048576) (n : Int) (d : Nat) : ∀ i : Nat, i + d = l.length → Ev (fun k => spec_l2In.l0 k l n (i : Int)) (decide (n ∈ l.drop i)) := by
  induction d with
  | zero =>
    intro i hi
    refine Ev.step (fun k => by rw [spec_l2In.l0]) ?_
    simp only [if_neg (show ¬ (i : Int) < (l.length : Int) by omega), List.drop_eq_nil_of_le (show l.length ≤ i by omega)]
    exact (Ev.now _).cast (by simp)
  | succ d ih =>
    intro i hi
    have hil : i < l.length := by omega
    refine Ev.step (fun k => by rw [spec_l2In.l0]) ?_
    simp only [if_pos (show (i : Int) < (l.length : Int) by omega), if_pos (show 0 ≤ (i : Int) by omega), rd_lt l i hil, List.drop_eq_getElem_cons hil, List.mem_cons, wrap_succ (show i < 9223372036854775807 by omega)]
    by_cases c : l[i] = n
    · simp only [if_pos c]
      exact (Ev.now _).cast (by simp [c])
    · simp only [if_neg c]
      exact (ih (i + 1) (by omega)).cast (by simp [Ne.symm c])
theorem l2With_put (l : List Int) (hl : l.length ≤ 1048576) (n : Int) (d : Nat) : ∀ (i : Nat) (out : List Int), i + d = l.length → out.length ≤ i + 1 → Ev (fun k => spec_l2With.l0 k l n out true (i : Int)) (out ++ l.drop i) := by
  induction d with
  | zero =>
    intro i out hi ho
    refine Ev.step (fun k => by rw [spec_l2With.l0]) ?_
    simp only [if_neg (show ¬ (i : Int) < (l.length : Int) by omega), if_true, List.drop_eq_nil_of_le (show l.length ≤ i by omega), List.append_nil]
    exact Ev.now _
  | succ d ih =>
    intro i out hi ho
    have hil : i < l.length := by omega
    refine Ev.step (fun k => by rw [spec_l2With.l0]) ?_
    simp only [if_pos (show (i : Int) < (l.length : Int) by omega), if_true, if_pos (show 0 ≤ (i : Int) by omega), if_pos (show (i : Int) < (l.length : Int) by omega), if_pos (show out.length < 17592186044416 by omega), rd_lt l i hil, wrap_succ (show i < 9223372036854775807 by omega)]
    refine (ih (i + 1) (out ++ [l[i]]) (by omega) (by simp; omega)).cast ?_
    rw [List.drop_eq_getElem_cons hil, List.append_assoc]; rfl
theorem l2With_l (l : List Int) (hl : l.length ≤ 1048576) (n : Int) (d : Nat) : ∀ (i : Nat) (out : List Int), i + d = l.length → out.length ≤ i → Ev (fun k => spec_l2With.l0 k l n out false (i : Int)) (out ++ insB n (l.drop i)) := by
  induction d with
  | zero =>
    intro i out hi ho
    refine Ev.step (fun k => by rw [spec_l2With.l0]) ?_
    simp only [if_neg (show ¬ (i : Int) < (l.length : Int) by omega), Bool.false_eq_true, if_false, List.drop_eq_nil_of_le (show l.length ≤ i by omega), insB, if_pos (show out.length < 17592186044416 by omega)]
    exact Ev.now _
  | succ d ih =>
    intro i out hi ho
    have hil : i < l.length := by omega
    refine Ev.step (fun k => by rw [spec_l2With.l0]) ?_
    simp only [if_pos (show (i : Int) < (l.length : Int) by omega), Bool.false_eq_true, if_false, if_pos (show 0 ≤ (i : Int) by omega), rd_lt l i hil]
    by_cases c : n < l[i]
    · simp only [if_pos c, if_pos (show out.length < 17592186044416 by omega), Option.bind_some, if_pos (show 0 ≤ (i : Int) by omega), if_pos (show (i : Int) < (l.length : Int) by omega), List.length_append, List.length_singleton, if_pos (show out.length + 1 < 17592186044416 by omega), rd_lt l i hil, wrap_succ (show i < 9223372036854775807 by omega)]
      refine (l2With_put l hl n d (i + 1) (out ++ [n] ++ [l[i]]) (by omega) (by simp; omega)).cast ?_
      rw [List.drop_eq_getElem_cons hil, insB, if_pos c, List.append_assoc, List.append_assoc]; rfl
    · simp only [if_neg c, if_pos (show out.length < 17592186044416 by omega), wrap_succ (show i < 9223372036854775807 by omega)]
      refine (ih (i + 1) (out ++ [l[i]]) (by omega) (by simp; omega)).cast ?_
      rw [List.drop_eq_getElem_cons hil, insB, if_neg c, List.append_assoc]; rfl
theorem l2With_ev (l : List Int) (hl : l.length ≤ 1048576) (n : Int) : Ev (fun k => spec_l2With.f k l n) (withR l n) := by
  simp only [spec_l2With.f]
  refine Ev.bind (l2In_l l hl n l.length 0 (by omega)) ?_
  rw [List.drop_zero]
  by_cases c : n ∈ l
  · simp only [decide_eq_true c, if_true, Option.bind_some, List.length_nil, List.nil_append, if_pos (show 0 + l.length < 17592186044416 by omega)]
    exact (Ev.now _).cast (by rw [withR, if_pos c])
  · simp only [decide_eq_false c, Bool.false_eq_true, if_false]
    exact (l2With_l l hl n l.length 0 [] (by omega) (by simp)).cast (by rw [withR, if_neg c]; simp)
/-! What the flags tell. -/
theorem ris_ge (m : List Bool) : ∀ (i : Nat) (x : Int), x ∈ ris m i → (i : Int) ≤ x := by
  induction m with
  | nil => intro i x h; simp [ris] at h
  | cons b m ih =>
    intro i x h
    rw [ris] at h
    split at h
    · rcases List.mem_cons.1 h with rfl | h
      · exact Int.le_refl _
      · have := ih (i + 1) x h; omega
    · have := ih (i + 1) x h; omega
theorem ris_len (m : List Bool) : ∀ i : Nat, (ris m i).length ≤ m.length := by
  induction m with
  | nil => intro i; simp [ris]
  | cons b m ih =>
    intro i
    rw [ris]
    have := ih (i + 1)
    split
    · simp; omega
    · simp; omega
theorem insB_low (n : Int) (l : List Int) (h : ∀ x ∈ l, n < x) : insB n l = n :: l := by
  cases l with
  | nil => rfl
  | cons a l => rw [insB, if_pos (h a (List.mem_cons_self ..))]
theorem ris_set (m : List Bool) : ∀ (i j : Nat), j < m.length → ris (m.set j true) i = withR (ris m i) ((i + j : Nat) : Int) := by
  induction m with
  | nil => intro i j h; simp at h
  | cons b m ih =>
    intro i j h
    cases j with
    | zero =>
      have e0 : ((i + 0 : Nat) : Int) = (i : Int) := by rw [Nat.add_zero]
      rw [List.set_cons_zero, ris, if_pos rfl, ris, e0]
      cases b with
      | true => rw [if_pos rfl, withR, if_pos (by simp)]
      | false =>
        have h1 : ¬ (i : Int) ∈ ris m (i + 1) := fun hx => by have := ris_ge m (i + 1) _ hx; omega
        rw [if_neg (by decide), withR, if_neg h1, insB_low _ _ (fun x hx => by have := ris_ge m (i + 1) x hx; omega)]
    | succ j =>
      rw [List.set_cons_succ, ris, ris, ih (i + 1) j (by simpa using h), show i + 1 + j = i + (j + 1) by omega]
      cases b with
      | false => rw [if_neg (by decide), if_neg (by decide)]
      | true =>
        rw [if_pos rfl, if_pos rfl, withR, withR]
        by_cases c : ((i + (j + 1) : Nat) : Int) ∈ ris m (i + 1)
        · rw [if_pos c, if_pos (List.mem_cons_of_mem _ c)]
        · rw [if_neg c, if_neg (by simp only [List.mem_cons, not_or]; exact ⟨by omega, c⟩), insB, if_neg (by omega)]
theorem mk_len (c : Int) (l : List S40) : ∀ m : List Bool, (mk_ c m l).length = m.length := by
  induction l with
  | nil => intro m; rfl
  | cons t l ih =>
    intro m
    rw [mk_, ih]
    split
    · rw [List.length_set]
    · rfl
theorem specNames_l (x : List S40) (hx : x.length ≤ 3000) (hr : ∀ t ∈ x, 0 ≤ t.f1 ∧ t.f1 < 256) (d : Nat) : ∀ (i : Nat) (m1 m2 : List Bool), i + d = x.length → m1.length = 256 → m2.length = 256 → Ev (fun k => spec_NamesIn.l0 k x (ris m1 0) (ris m2 0) (i : Int)) (ris (mk_ 1 m1 (x.drop i)) 0, ris (mk_ 2 m2 (x.drop i)) 0) := by
  induction d with
  | zero =>
    intro i m1 m2 hi h1 h2
    refine Ev.step (fun k => by rw [spec_NamesIn.l0]) ?_
    simp only [if_neg (show ¬ (i : Int) < (x.length : Int) by omega), List.drop_eq_nil_of_le (show x.length ≤ i by omega), mk_]
    exact Ev.now _
  | succ d ih =>
    intro i m1 m2 hi h1 h2
    have hil : i < x.length := by omega
    have hb := hr _ (List.getElem_mem hil)
    have l1 := ris_len m1 0
    have l2 := ris_len m2 0
    refine Ev.step (fun k => by rw [spec_NamesIn.l0]) ?_
    simp only [if_pos (show (i : Int) < (x.length : Int) by omega), if_pos (show 0 ≤ (i : Int) by omega), rdTm_at x i hil, wrap_succ (show i < 9223372036854775807 by omega), List.drop_eq_getElem_cons hil, mk_]
    generalize x[i] = t at hb
    obtain ⟨j, hj⟩ := Int.eq_ofNat_of_zero_le hb.1
    have hj2 : j < 256 := by omega
    by_cases c1 : t.f0 = 1
    · simp only [if_pos c1, hj, Int.toNat_natCast, if_neg (show ¬ t.f0 = 2 by omega)]
      refine Ev.bind (l2With_ev _ (by omega) _) ?_
      have e := ris_set m1 0 j (by omega)
      rw [Nat.zero_add] at e
      rw [← e]
      exact ih (i + 1) (m1.set j true) m2 (by omega) (by rw [List.length_set]; exact h1) h2
    by_cases c2 : t.f0 = 2
    · simp only [if_neg c1, if_pos c2, hj, Int.toNat_natCast]
      refine Ev.bind (l2With_ev _ (by omega) _) ?_
      have e := ris_set m2 0 j (by omega)
      rw [Nat.zero_add] at e
      rw [← e]
      exact ih (i + 1) m1 (m2.set j true) (by omega) h1 (by rw [List.length_set]; exact h2)
    · simp only [if_neg c1, if_neg c2]
      exact ih (i + 1) m1 m2 (by omega) h1 h2
theorem noF_len : noF.length = 256 := by rw [noF, List.length_replicate]
theorem ris_rep (n : Nat) : ∀ i, ris (List.replicate n false) i = [] := by
  induction n with
  | zero => intro i; rfl
  | succ n ih => intro i; rw [List.replicate_succ, ris, if_neg (by decide)]; exact ih _
theorem ris_noF : ris noF 0 = [] := ris_rep 256 0
def namesR (x : List S40) : List Int × List Int := if expOk (x.map tmI) = true then (ris (mk_ 1 noF x) 0, ris (mk_ 2 noF x) 0) else ([], [])
theorem namesR_len (x : List S40) : (namesR x).1.length ≤ 256 ∧ (namesR x).2.length ≤ 256 := by
  rw [namesR]
  split
  · have h1 := ris_len (mk_ 1 noF x) 0
    have h2 := ris_len (mk_ 2 noF x) 0
    rw [mk_len, noF_len] at h1 h2
    exact ⟨h1, h2⟩
  · simp
theorem implNames_ev (x : List S40) : Ev (fun k => impl_NamesIn.f k x) (namesR x) := by
  simp only [impl_NamesIn.f]
  refine Ev.bind (implExpOk_ev x) ?_
  by_cases h : expOk (x.map tmI) = true
  · simp only [if_pos h]
    exact (Ev.now _).cast (by rw [namesR, if_pos h])
  · simp only [if_neg h]
    exact (Ev.now _).cast (by rw [namesR, if_neg h])
theorem specNames_ev (x : List S40) (hx : x.length ≤ 1048576) : Ev (fun k => spec_NamesIn.f k x) (namesR x) := by
  simp only [spec_NamesIn.f, Option.bind_some]
  refine Ev.bind (specExpOk_ev x hx) ?_
  by_cases h : expOk (x.map tmI) = true
  · simp only [if_pos h]
    obtain ⟨K, hK⟩ := implExpOk_ev x
    have hr := expOk_in ((hK K (Nat.le_refl _)).trans (congrArg some h))
    have e := specNames_l x hr.1 hr.2 x.length 0 noF noF (by omega) noF_len noF_len
    rw [ris_noF, List.drop_zero] at e
    exact e.cast (by rw [namesR, if_pos h])
  · simp only [if_neg h]
    exact (Ev.now _).cast (by rw [namesR, if_neg h])

theorem likeInts_l (a : List Int) (ha : a.length ≤ 1048576) (d : Nat) : ∀ (i : Nat), i + d = a.length → Ev (fun k => laws_likeInts.l0 k a a (i : Int)) true := by
  induction d with
  | zero =>
    intro i hi
    refine Ev.step (fun k => by rw [laws_likeInts.l0]) ?_
    simp only [if_neg (show ¬ (i : Int) < (a.length : Int) by omega)]
    exact Ev.now _
  | succ d ih =>
    intro i hi
    refine Ev.step (fun k => by rw [laws_likeInts.l0]) ?_
    simp only [if_pos (show (i : Int) < (a.length : Int) by omega), if_pos (show 0 ≤ (i : Int) by omega), wrap_succ (show i < 9223372036854775807 by omega), if_true]
    exact ih (i + 1) (by omega)
theorem likeInts_ev (a : List Int) (ha : a.length ≤ 1048576) : Ev (fun k => laws_likeInts.f k a a) true := by
  simp only [laws_likeInts.f, if_true]
  exact likeInts_l a ha a.length 0 (by omega)

theorem l1New_l (s : List Int) (hs : s.length ≤ 4611686018427387904) (d : Nat) : ∀ (i : Nat) (h : Int), i + d = s.length → ∃ h', Ev (fun k => spec_l1New.l0 k s h (i : Int)) (s, 0, h') := by
  induction d with
  | zero =>
    intro i h hi
    refine ⟨h, Ev.step (fun k => by rw [spec_l1New.l0]) ?_⟩
    simp only [if_neg (show ¬ (i : Int) < (s.length : Int) by omega)]
    exact Ev.now _
  | succ d ih =>
    intro i h hi
    obtain ⟨h', e⟩ := ih (i + 1) (Go.bits .and .i64 (wrap64 ((wrap64 ((wrap64 (h * 181)) + (wrap64 (rd s (i : Int))))) + 11)) 1073741823) (by omega)
    refine ⟨h', Ev.step (fun k => by rw [spec_l1New.l0]) ?_⟩
    simp only [if_pos (show (i : Int) < (s.length : Int) by omega), if_pos (show 0 ≤ (i : Int) by omega), wrap_succ (show i < 9223372036854775807 by omega)]
    exact e
theorem l1New_ex (s : List Int) (hs : s.length ≤ 4611686018427387904) : ∃ h', Ev (fun k => spec_l1New.f k s) (s, 0, h') := by
  simp only [spec_l1New.f]
  exact l1New_l s hs s.length 0 _ (by omega)

theorem l1Byte_ex (s : List Int) (i h : Int) (h0 : 0 ≤ i) (h1 : i ≤ (s.length : Int)) (hs : s.length ≤ 4611686018427387904) : ∃ b i' h', spec_l1Byte.f s i h = some (b, i', h') ∧ 0 ≤ b ∧ b ≤ 255 ∧ 0 ≤ i' ∧ i' ≤ (s.length : Int) := by
  unfold spec_l1Byte.f
  by_cases c : i < (s.length : Int)
  · rw [if_pos c, if_pos h0]
    have hm := and_mask (wrap64 ((Go.bits .and .i64 (Go.bits .xor .i64 ((wrap64 ((wrap64 (h * 6364136223846793005)) + 1442695040888963407)) / 8589934592) ((wrap64 ((wrap64 (h * 6364136223846793005)) + 1442695040888963407)) / 35184372088832)) 255) + (wrap64 (rd s i)))) 255 (by decide)
    exact ⟨_, _, _, rfl, hm.1, hm.2, by rw [wrap_id (by omega) (by omega)]; omega, by rw [wrap_id (by omega) (by omega)]; omega⟩
  · rw [if_neg c]
    have hm := and_mask (Go.bits .xor .i64 ((wrap64 ((wrap64 (h * 6364136223846793005)) + 1442695040888963407)) / 8589934592) ((wrap64 ((wrap64 (h * 6364136223846793005)) + 1442695040888963407)) / 35184372088832)) 255 (by decide)
    exact ⟨_, _, _, rfl, hm.1, hm.2, h0, h1⟩
theorem l1Below_ex (s : List Int) (hs : s.length ≤ 4611686018427387904) (i h a : Int) (h0 : 0 ≤ i) (h1 : i ≤ (s.length : Int)) : ∃ b i' h', spec_l1Below.f s i h a = some (b, i', h') ∧ 0 ≤ b ∧ (0 < a → b < a) ∧ (a ≤ 0 → b = 0) ∧ 0 ≤ i' ∧ i' ≤ (s.length : Int) := by
  unfold spec_l1Below.f
  by_cases c : a ≤ 0
  · rw [if_pos c]
    exact ⟨0, i, h, rfl, by omega, by omega, by omega, h0, h1⟩
  rw [if_neg c]
  obtain ⟨b1, i1, g1, e1, x1, y1, z1, w1⟩ := l1Byte_ex s i h h0 h1 hs
  by_cases c2 : a ≤ 256
  · rw [if_pos c2, e1]
    simp only [Option.bind_some, if_neg (show ¬ a = 0 by omega)]
    have hm := Int.emod_lt_of_pos b1 (show 0 < a by omega)
    have hn := Int.emod_nonneg b1 (show a ≠ 0 by omega)
    rw [← Int.tmod_eq_emod_of_nonneg x1] at hm hn
    exact ⟨_, _, _, rfl, hn, fun _ => hm, by omega, z1, w1⟩
  · obtain ⟨b2, i2, g2, e2, x2, y2, z2, w2⟩ := l1Byte_ex s i1 g1 z1 w1 hs
    obtain ⟨b3, i3, g3, e3, x3, y3, z3, w3⟩ := l1Byte_ex s i2 g2 z2 w2 hs
    obtain ⟨b4, i4, g4, e4, x4, y4, z4, w4⟩ := l1Byte_ex s i3 g3 z3 w3 hs
    rw [if_neg c2]
    simp only [e1, e2, e3, e4, Option.bind_some, if_neg (show ¬ a = 0 by omega)]
    have hw : wrap64 ((wrap64 ((wrap64 ((wrap64 (b1 * 16777216)) + (wrap64 (b2 * 65536)))) + (wrap64 (b3 * 256)))) + b4) = b1 * 16777216 + b2 * 65536 + b3 * 256 + b4 := by
      rw [wrap_id (x := b1 * 16777216) (by omega) (by omega), wrap_id (x := b2 * 65536) (by omega) (by omega), wrap_id (x := b3 * 256) (by omega) (by omega), wrap_id (x := b1 * 16777216 + b2 * 65536) (by omega) (by omega), wrap_id (x := b1 * 16777216 + b2 * 65536 + b3 * 256) (by omega) (by omega), wrap_id (by omega) (by omega)]
    rw [hw]
    have hm := Int.emod_lt_of_pos (b1 * 16777216 + b2 * 65536 + b3 * 256 + b4) (show 0 < a by omega)
    have hn := Int.emod_nonneg (b1 * 16777216 + b2 * 65536 + b3 * 256 + b4) (show a ≠ 0 by omega)
    rw [← Int.tmod_eq_emod_of_nonneg (show 0 ≤ b1 * 16777216 + b2 * 65536 + b3 * 256 + b4 by omega)] at hm hn
    exact ⟨_, _, _, rfl, hn, fun _ => hm, by omega, z4, w4⟩
theorem l1Once_ex (s : List Int) (hs : s.length ≤ 4611686018427387904) (i h a : Int) (h0 : 0 ≤ i) (h1 : i ≤ (s.length : Int)) : ∃ b i' h', spec_l1Once.f s i h a = some (b, i', h') ∧ 0 ≤ i' ∧ i' ≤ (s.length : Int) := by
  obtain ⟨b, i', h', e, _, _, _, x, y⟩ := l1Below_ex s hs i h a h0 h1
  unfold spec_l1Once.f
  simp only [e, Option.bind_some]
  exact ⟨_, _, _, rfl, x, y⟩

theorem l1Odd_ex (s : List Int) (hs : s.length ≤ 4611686018427387904) (i h : Int) (h0 : 0 ≤ i) (h1 : i ≤ (s.length : Int)) : ∃ r i' h', spec_l1Odd.f s i h = some (r, i', h') ∧ 0 ≤ i' ∧ i' ≤ (s.length : Int) := by
  obtain ⟨v, i1, g1, e1, v0, v1, _, p1, q1⟩ := l1Below_ex s hs i h 10 h0 h1
  have v2 := v1 (by omega)
  unfold spec_l1Odd.f
  simp only [Option.bind_some, e1, if_pos v0]
  rw [if_pos (by simpa using v2)]
  exact ⟨_, _, _, rfl, p1, q1⟩

theorem l1From_ex (s : List Int) (hs : s.length ≤ 4611686018427387904) (i h a b : Int) (h0 : 0 ≤ i) (h1 : i ≤ (s.length : Int)) (ha : -1000 ≤ a ∧ a ≤ b) (hb : b ≤ 1000) : ∃ r i' h', spec_l1From.f s i h a b = some (r, i', h') ∧ a ≤ r ∧ r ≤ b ∧ 0 ≤ i' ∧ i' ≤ (s.length : Int) := by
  unfold spec_l1From.f
  have hw : wrap64 (wrap64 (b - a) + 1) = b - a + 1 := by rw [wrap_id (x := b - a) (by omega) (by omega), wrap_id (by omega) (by omega)]
  obtain ⟨r, i', h', e, p, q, _, x, y⟩ := l1Below_ex s hs i h (b - a + 1) h0 h1
  have := q (by omega)
  simp only [hw, e, Option.bind_some]
  exact ⟨_, _, _, rfl, by rw [wrap_id (by omega) (by omega)]; omega, by rw [wrap_id (by omega) (by omega)]; omega, x, y⟩

theorem l1Num_ex (s : List Int) (hs : s.length ≤ 4611686018427387904) (i h a : Int) (h0 : 0 ≤ i) (h1 : i ≤ (s.length : Int)) : ∃ r i' h', spec_l1Num.f s i h a = some (r, i', h') ∧ 0 ≤ i' ∧ i' ≤ (s.length : Int) := by
  obtain ⟨b, i1, g1, e1, p1, q1⟩ := l1Once_ex s hs i h 10 h0 h1
  simp only [spec_l1Num.f, e1, Option.bind_some]
  by_cases c : b = true
  · obtain ⟨o, i2, g2, e2, p2, q2⟩ := l1Odd_ex s hs i1 g1 p1 q1
    obtain ⟨u, i3, g3, e3, u0, u1, _, p3, q3⟩ := l1Below_ex s hs i2 g2 4 p2 q2
    have u2 := u1 (by omega)
    simp only [if_pos c, e2, e3, Option.bind_some, if_pos u0]
    rw [if_pos (by simpa using u2)]
    exact ⟨_, _, _, rfl, p3, q3⟩
  · obtain ⟨b2, i2, g2, e2, p2, q2⟩ := l1Once_ex s hs i1 g1 2 p1 q1
    simp only [if_neg c, e2, Option.bind_some]
    by_cases c2 : b2 = true
    · have hm : ∃ m, spec_l1Min.f a 4 = some m := by
        simp only [spec_l1Min.f]
        split <;> exact ⟨_, rfl⟩
      obtain ⟨m, hm⟩ := hm
      obtain ⟨u, i3, g3, e3, u0, u1, _, p3, q3⟩ := l1Below_ex s hs i2 g2 (wrap64 (m + 1)) p2 q2
      simp only [if_pos c2, hm, e3, Option.bind_some]
      exact ⟨_, _, _, rfl, p3, q3⟩
    · obtain ⟨u, i3, g3, e3, u0, u1, _, p3, q3⟩ := l1Below_ex s hs i2 g2 (wrap64 (a + 1)) p2 q2
      simp only [if_neg c2, e3, Option.bind_some]
      exact ⟨_, _, _, rfl, p3, q3⟩
/-- How long a drawn expression of this depth may be. -/
def dlen : Nat → Nat
  | 0 => 1
  | d + 1 => 3 * dlen d + 1
theorem dlen_le {d : Nat} (h : d ≤ 4) : dlen d ≤ 121 := by
  have : d = 0 ∨ d = 1 ∨ d = 2 ∨ d = 3 ∨ d = 4 := by omega
  rcases this with rfl | rfl | rfl | rfl | rfl <;> decide
theorem dlen_pos (d : Nat) : 1 ≤ dlen d := by cases d <;> simp [dlen]
theorem tks_mid {a : Int} (h0 : 2 ≤ a) (h1 : a ≤ 17) : 0 ≤ tks a ∧ tks a ≤ 3 := by
  unfold tks
  rw [if_neg (by omega)]
  split
  · omega
  split
  · omega
  split <;> omega
theorem l2Draw_l (s : List Int) (hs : s.length ≤ 4611686018427387904) (x1 x2 x3 x4 : Int) (x5 : Bool) (x13 : Int) (B : Nat) (hB : B ≤ 121)
    (ih : ∀ (i h : Int), 0 ≤ i → i ≤ (s.length : Int) → ∃ r i' h', Ev (fun k => spec_l2Draw.f k s i h x1 x2 x3 (wrap64 (x4 - 1)) x5) (r, i', h') ∧ 1 ≤ r.length ∧ r.length ≤ B ∧ 0 ≤ i' ∧ i' ≤ (s.length : Int)) (n : Nat) :
    ∀ (x : List S40) (i h : Int) (M : Nat), n ≤ 3 → M = n * B → x.length + M ≤ 363 → 0 ≤ i → i ≤ (s.length : Int) → ∃ r i' h', Ev (fun k => spec_l2Draw.l0 k x1 x2 x3 x4 x5 x13 x (n : Int) s i h) (r, i', h') ∧ 1 ≤ r.length ∧ r.length ≤ x.length + M + 1 ∧ 0 ≤ i' ∧ i' ≤ (s.length : Int) := by
  induction n with
  | zero =>
    intro x i h M hn hM hx h0 h1
    by_cases c : x13 = 2
    · obtain ⟨v, i1, g1, e1, v0, v1, _, p1, q1⟩ := l1Below_ex s hs i h x2 h0 h1
      refine ⟨x ++ [⟨x13, v⟩], i1, g1, Ev.step (fun k => by rw [spec_l2Draw.l0]) ?_, by simp, by rw [List.length_append]; simp, p1, q1⟩
      simp only [if_neg (show ¬ ((0 : Nat) : Int) > 0 by omega), if_pos c, e1, Option.bind_some, if_pos (show x.length < 8796093022208 by omega)]
      exact Ev.now _
    · refine ⟨x ++ [⟨x13, 0⟩], i, h, Ev.step (fun k => by rw [spec_l2Draw.l0]) ?_, by simp, by rw [List.length_append]; simp, h0, h1⟩
      simp only [if_neg (show ¬ ((0 : Nat) : Int) > 0 by omega), if_neg c, if_pos (show x.length < 8796093022208 by omega)]
      exact Ev.now _
  | succ n ihn =>
    intro x i h M hn hM hx h0 h1
    rw [Nat.succ_mul] at hM
    obtain ⟨r1, i1, g1, e1, a1, b1, p1, q1⟩ := ih i h h0 h1
    generalize hM' : n * B = M' at hM
    obtain ⟨r, i', h', e, a, b, p, q⟩ := ihn (x ++ r1) i1 g1 M' (by omega) hM'.symm (by rw [List.length_append]; omega) p1 q1
    rw [List.length_append] at b
    refine ⟨r, i', h', Ev.step (fun k => by rw [spec_l2Draw.l0]) ?_, a, by omega, p, q⟩
    simp only [if_pos (show ((n + 1 : Nat) : Int) > 0 by omega)]
    refine Ev.bind e1 ?_
    simp only [if_pos (show x.length + r1.length < 8796093022208 by omega), wrap_pred (show n < 9223372036854775807 by omega)]
    exact e
theorem l2Draw_j1 (s : List Int) (hs : s.length ≤ 4611686018427387904) (x1 x3 : Int) (b : Bool) (i h : Int) (h0 : 0 ≤ i) (h1 : i ≤ (s.length : Int)) : ∃ r i' h', Ev (fun k => spec_l2Draw.j1 k x1 x3 b s i h) (r, i', h') ∧ r.length = 1 ∧ 0 ≤ i' ∧ i' ≤ (s.length : Int) := by
  by_cases c : b = true
  · obtain ⟨v, i1, g1, e1, _, _, _, p1, q1⟩ := l1Below_ex s hs i h x1 h0 h1
    refine ⟨[⟨1, v⟩], i1, g1, Ev.step (fun k => by rw [spec_l2Draw.j1]) ?_, rfl, p1, q1⟩
    simp only [if_pos c, e1, Option.bind_some]
    exact Ev.now _
  · obtain ⟨v, i1, g1, e1, _, _, _, p1, q1⟩ := l1Below_ex s hs i h x3 h0 h1
    refine ⟨[⟨0, v⟩], i1, g1, Ev.step (fun k => by rw [spec_l2Draw.j1]) ?_, rfl, p1, q1⟩
    simp only [if_neg c, e1, Option.bind_some]
    exact Ev.now _
theorem l2Draw_leaf (s : List Int) (hs : s.length ≤ 4611686018427387904) (x1 x2 x3 x4 : Int) (x5 : Bool) (i h : Int) (h0 : 0 ≤ i) (h1 : i ≤ (s.length : Int)) : ∃ r i' h', Ev (fun k => spec_l2Draw.j0 k x1 x2 x3 x4 x5 true s i h) (r, i', h') ∧ r.length = 1 ∧ 0 ≤ i' ∧ i' ≤ (s.length : Int) := by
  by_cases c : x1 > 0
  · obtain ⟨b, i1, g1, e1, p1, q1⟩ := l1Once_ex s hs i h 3 h0 h1
    obtain ⟨r, i', h', e, l, p, q⟩ := l2Draw_j1 s hs x1 x3 (!b) i1 g1 p1 q1
    refine ⟨r, i', h', Ev.step (fun k => by rw [spec_l2Draw.j0]) ?_, l, p, q⟩
    simp only [if_true, if_pos c, e1, Option.bind_some]
    exact e
  · obtain ⟨r, i', h', e, l, p, q⟩ := l2Draw_j1 s hs x1 x3 false i h h0 h1
    refine ⟨r, i', h', Ev.step (fun k => by rw [spec_l2Draw.j0]) ?_, l, p, q⟩
    simp only [if_true, if_neg c]
    exact e
theorem l2Draw_ex (s : List Int) (hs : s.length ≤ 4611686018427387904) (x1 x2 x3 : Int) (x5 : Bool) (d : Nat) : ∀ (i h : Int), d ≤ 4 → 0 ≤ i → i ≤ (s.length : Int) → ∃ r i' h', Ev (fun k => spec_l2Draw.f k s i h x1 x2 x3 (d : Int) x5) (r, i', h') ∧ 1 ≤ r.length ∧ r.length ≤ dlen d ∧ 0 ≤ i' ∧ i' ≤ (s.length : Int) := by
  induction d with
  | zero =>
    intro i h hd h0 h1
    obtain ⟨r, i', h', e, l, p, q⟩ := l2Draw_leaf s hs x1 x2 x3 ((0 : Nat) : Int) x5 i h h0 h1
    refine ⟨r, i', h', Ev.step (fun k => by rw [spec_l2Draw.f]) ?_, by omega, by rw [l]; exact dlen_pos 0, p, q⟩
    simp only [if_pos (show ((0 : Nat) : Int) ≤ 0 by omega)]
    exact e
  | succ d ih =>
    intro i h hd h0 h1
    obtain ⟨b, i1, g1, e1, p1, q1⟩ := l1Once_ex s hs i h 4 h0 h1
    by_cases c : b = true
    · subst c
      obtain ⟨r, i', h', e, l, p, q⟩ := l2Draw_leaf s hs x1 x2 x3 ((d + 1 : Nat) : Int) x5 i1 g1 p1 q1
      refine ⟨r, i', h', Ev.step (fun k => by rw [spec_l2Draw.f]) ?_, by omega, by rw [l]; exact dlen_pos _, p, q⟩
      simp only [if_neg (show ¬ ((d + 1 : Nat) : Int) ≤ 0 by omega), e1, Option.bind_some]
      exact e
    · -- an inner Term: the op, then its parts
      have hB : dlen d ≤ 121 := dlen_le (by omega)
      have hj5 : ∀ (op i h : Int), 2 ≤ op → op ≤ 17 → 0 ≤ i → i ≤ (s.length : Int) → ∃ r i' h', Ev (fun k => spec_l2Draw.j5 k x1 x2 x3 ((d + 1 : Nat) : Int) x5 op s i h) (r, i', h') ∧ 1 ≤ r.length ∧ r.length ≤ dlen (d + 1) ∧ 0 ≤ i' ∧ i' ≤ (s.length : Int) := by
        intro op i h o0 o1 h0 h1
        have ht := tks_mid o0 o1
        obtain ⟨n, hn⟩ := Int.eq_ofNat_of_zero_le ht.1
        have hn3 : n ≤ 3 := by omega
        have hm : n * dlen d ≤ 3 * dlen d := Nat.mul_le_mul_right _ hn3
        generalize hM : n * dlen d = M at hm
        obtain ⟨r, i', h', e, a, b, p, q⟩ := l2Draw_l s hs x1 x2 x3 ((d + 1 : Nat) : Int) x5 op (dlen d) hB (fun i h h0 h1 => by rw [wrap_pred (show d < 9223372036854775807 by omega)]; exact ih i h (by omega) h0 h1) n [] i h M hn3 hM.symm (by simp; omega) h0 h1
        refine ⟨r, i', h', Ev.step (fun k => by rw [spec_l2Draw.j5]) ?_, a, by rw [dlen]; simp at b; omega, p, q⟩
        simp only [specTakesOf_eq, Option.bind_some, hn]
        exact e
      have hj4 : ∀ (op : Int) (b : Bool) (i h : Int), 2 ≤ op → op ≤ 17 → 0 ≤ i → i ≤ (s.length : Int) → ∃ r i' h', Ev (fun k => spec_l2Draw.j4 k x1 x2 x3 ((d + 1 : Nat) : Int) x5 op b s i h) (r, i', h') ∧ 1 ≤ r.length ∧ r.length ≤ dlen (d + 1) ∧ 0 ≤ i' ∧ i' ≤ (s.length : Int) := by
        intro op b i h o0 o1 h0 h1
        by_cases c : b = true
        · obtain ⟨r, i', h', e, z⟩ := hj5 17 i h (by omega) (by omega) h0 h1
          refine ⟨r, i', h', Ev.step (fun k => by rw [spec_l2Draw.j4]) ?_, z⟩
          simp only [if_pos c]
          exact e
        · obtain ⟨r, i', h', e, z⟩ := hj5 op i h o0 o1 h0 h1
          refine ⟨r, i', h', Ev.step (fun k => by rw [spec_l2Draw.j4]) ?_, z⟩
          simp only [if_neg c]
          exact e
      have hj3 : ∀ (op i h : Int), 2 ≤ op → op ≤ 17 → 0 ≤ i → i ≤ (s.length : Int) → ∃ r i' h', Ev (fun k => spec_l2Draw.j3 k x1 x2 x3 ((d + 1 : Nat) : Int) x5 op s i h) (r, i', h') ∧ 1 ≤ r.length ∧ r.length ≤ dlen (d + 1) ∧ 0 ≤ i' ∧ i' ≤ (s.length : Int) := by
        intro op i h o0 o1 h0 h1
        by_cases c : x5 = true
        · obtain ⟨b, i2, g2, e2, p2, q2⟩ := l1Once_ex s hs i h 8 h0 h1
          obtain ⟨r, i', h', e, z⟩ := hj4 op b i2 g2 o0 o1 p2 q2
          refine ⟨r, i', h', Ev.step (fun k => by rw [spec_l2Draw.j3]) ?_, z⟩
          simp only [if_pos c, e2, Option.bind_some]
          exact e
        · obtain ⟨r, i', h', e, z⟩ := hj4 op false i h o0 o1 h0 h1
          refine ⟨r, i', h', Ev.step (fun k => by rw [spec_l2Draw.j3]) ?_, z⟩
          simp only [if_neg c]
          exact e
      have hj2 : ∀ (op : Int) (b : Bool) (i h : Int), 2 ≤ op → op ≤ 17 → 0 ≤ i → i ≤ (s.length : Int) → ∃ r i' h', Ev (fun k => spec_l2Draw.j2 k x1 x2 x3 ((d + 1 : Nat) : Int) x5 op b s i h) (r, i', h') ∧ 1 ≤ r.length ∧ r.length ≤ dlen (d + 1) ∧ 0 ≤ i' ∧ i' ≤ (s.length : Int) := by
        intro op b i h o0 o1 h0 h1
        by_cases c : b = true
        · obtain ⟨r, i', h', e, z⟩ := hj3 2 i h (by omega) (by omega) h0 h1
          refine ⟨r, i', h', Ev.step (fun k => by rw [spec_l2Draw.j2]) ?_, z⟩
          simp only [if_pos c]
          exact e
        · obtain ⟨r, i', h', e, z⟩ := hj3 op i h o0 o1 h0 h1
          refine ⟨r, i', h', Ev.step (fun k => by rw [spec_l2Draw.j2]) ?_, z⟩
          simp only [if_neg c]
          exact e
      rw [Bool.not_eq_true] at c; subst c
      obtain ⟨op, i2, g2, e2, o0, o1, p2, q2⟩ := l1From_ex s hs i1 g1 3 16 p1 q1 (by omega) (by omega)
      by_cases ca : x2 > 0
      · obtain ⟨b, i3, g3, e3, p3, q3⟩ := l1Once_ex s hs i2 g2 6 p2 q2
        obtain ⟨r, i', h', e, z⟩ := hj2 op b i3 g3 (by omega) (by omega) p3 q3
        refine ⟨r, i', h', Ev.step (fun k => by rw [spec_l2Draw.f]) ?_, z⟩
        simp only [if_neg (show ¬ ((d + 1 : Nat) : Int) ≤ 0 by omega), e1, Option.bind_some]
        refine Ev.step (fun k => by rw [spec_l2Draw.j0]) ?_
        simp only [Bool.false_eq_true, if_false, e2, e3, Option.bind_some, if_pos ca]
        exact e
      · obtain ⟨r, i', h', e, z⟩ := hj2 op false i2 g2 (by omega) (by omega) p2 q2
        refine ⟨r, i', h', Ev.step (fun k => by rw [spec_l2Draw.f]) ?_, z⟩
        simp only [if_neg (show ¬ ((d + 1 : Nat) : Int) ≤ 0 by omega), e1, Option.bind_some]
        refine Ev.step (fun k => by rw [spec_l2Draw.j0]) ?_
        simp only [Bool.false_eq_true, if_false, e2, Option.bind_some, if_neg ca]
        exact e

theorem l2DrawAny_l0 (s : List Int) (hs : s.length ≤ 4611686018427387904) (d : Nat) : ∀ (x : List S40) (i h : Int), x.length + d = 3001 → 0 ≤ i → i ≤ (s.length : Int) → ∃ r i' h', Ev (fun k => spec_l2DrawAny.l0 k x s i h) (r, i', h') ∧ r.length ≤ 3001 ∧ 0 ≤ i' ∧ i' ≤ (s.length : Int) := by
  induction d with
  | zero =>
    intro x i h hd h0 h1
    obtain ⟨v, i1, g1, e1, v0, v1, _, p1, q1⟩ := l1Below_ex s hs i h 2 h0 h1
    have v2 := v1 (by omega)
    refine ⟨x, i1, g1, Ev.step (fun k => by rw [spec_l2DrawAny.l0]) ?_, by omega, p1, q1⟩
    simp only [e1, Option.bind_some, wrap_id (show -9223372036854775808 ≤ 3000 + v by omega) (show 3000 + v ≤ 9223372036854775807 by omega), if_neg (show ¬ (x.length : Int) < 3000 + v by omega)]
    exact Ev.now _
  | succ d ih =>
    intro x i h hd h0 h1
    obtain ⟨v, i1, g1, e1, v0, v1, _, p1, q1⟩ := l1Below_ex s hs i h 2 h0 h1
    have v2 := v1 (by omega)
    by_cases c : (x.length : Int) < 3000 + v
    · obtain ⟨r, i', h', er, hl, p, q⟩ := ih (x ++ [⟨3, 0⟩]) i1 g1 (by simp; omega) p1 q1
      refine ⟨r, i', h', Ev.step (fun k => by rw [spec_l2DrawAny.l0]) ?_, hl, p, q⟩
      simp only [e1, Option.bind_some, wrap_id (show -9223372036854775808 ≤ 3000 + v by omega) (show 3000 + v ≤ 9223372036854775807 by omega), if_pos c, if_pos (show x.length < 8796093022208 by omega)]
      exact er
    · refine ⟨x, i1, g1, Ev.step (fun k => by rw [spec_l2DrawAny.l0]) ?_, by omega, p1, q1⟩
      simp only [e1, Option.bind_some, wrap_id (show -9223372036854775808 ≤ 3000 + v by omega) (show 3000 + v ≤ 9223372036854775807 by omega), if_neg c]
      exact Ev.now _
theorem l2DrawAny_j0 (s : List Int) (hs : s.length ≤ 4611686018427387904) (x : List S40) (hx : x.length ≤ 3001) (i h : Int) (h0 : 0 ≤ i) (h1 : i ≤ (s.length : Int)) : ∃ r i' h', Ev (fun k => spec_l2DrawAny.j0 k x s i h) (r, i', h') ∧ r.length ≤ 3001 ∧ 0 ≤ i' ∧ i' ≤ (s.length : Int) := by
  obtain ⟨b, i1, g1, e1, p1, q1⟩ := l1Once_ex s hs i h 60 h0 h1
  by_cases c : b = true
  · obtain ⟨r, i', h', e, hl, p, q⟩ := l2DrawAny_l0 s hs 3000 [⟨0, 0⟩] i1 g1 (by simp) p1 q1
    refine ⟨r, i', h', Ev.step (fun k => by rw [spec_l2DrawAny.j0]) ?_, hl, p, q⟩
    simp only [e1, Option.bind_some, if_pos c]
    exact e
  · refine ⟨x, i1, g1, Ev.step (fun k => by rw [spec_l2DrawAny.j0]) ?_, hx, p1, q1⟩
    simp only [e1, Option.bind_some, if_neg c]
    exact Ev.now _
theorem l2DrawAny_ex (s : List Int) (hs : s.length ≤ 4611686018427387904) (i h : Int) (h0 : 0 ≤ i) (h1 : i ≤ (s.length : Int)) : ∃ r i' h', Ev (fun k => spec_l2DrawAny.f k s i h) (r, i', h') ∧ r.length ≤ 3001 ∧ 0 ≤ i' ∧ i' ≤ (s.length : Int) := by
  obtain ⟨v, i1, g1, e1, v0, v1, _, p1, q1⟩ := l1Below_ex s hs i h 4 h0 h1
  have v2 := v1 (by omega)
  obtain ⟨n, rfl⟩ := Int.eq_ofNat_of_zero_le v0
  have hw : wrap64 (1 + (n : Int)) = ((n + 1 : Nat) : Int) := by rw [wrap_id (by omega) (by omega)]; omega
  obtain ⟨x, i2, g2, e2, x0, x1, p2, q2⟩ := l2Draw_ex s hs 4 2 9 true (n + 1) i1 g1 (by omega) p1 q1
  have hx : x.length ≤ 121 := Nat.le_trans x1 (dlen_le (by omega))
  obtain ⟨b, i3, g3, e3, p3, q3⟩ := l1Once_ex s hs i2 g2 6 p2 q2
  have key : ∃ r i' h', Ev (fun k => (if b = true then ((spec_l1Below.f s i3 g3 (x.length : Int)).bind fun bt248 => ((spec_l1Below.f s bt248.2.1 bt248.2.2 4).bind fun bt251 => (if bt251.1 = 0 then ((spec_l1From.f s bt251.2.1 bt251.2.2 (-1) 18).bind fun bt254 => (if 0 ≤ bt248.1 then (if bt248.1 < (x.length : Int) then (spec_l2DrawAny.j0 k (x.set (bt248.1 : Int).toNat (⟨bt254.1, (rd_T40 x bt248.1).f1⟩ : S40)) s bt254.2.1 bt254.2.2) else (none)) else (none))) else (if bt251.1 = 1 then ((spec_l1Num.f s bt251.2.1 bt251.2.2 255).bind fun bt258 => (if 0 ≤ bt248.1 then (if bt248.1 < (x.length : Int) then (spec_l2DrawAny.j0 k (x.set (bt248.1 : Int).toNat (⟨(rd_T40 x bt248.1).f0, bt258.1⟩ : S40)) s bt258.2.1 bt258.2.2) else (none)) else (none))) else (if bt251.1 = 2 then ((spec_l1From.f s bt251.2.1 bt251.2.2 0 17).bind fun bt262 => (if x.length < 8796093022208 then (spec_l2DrawAny.j0 k (x ++ [(⟨bt262.1, 0⟩ : S40)]) s bt262.2.1 bt262.2.2) else (none))) else (if bt251.1 = 3 then (if 1 ≤ (x.length : Int) then (spec_l2DrawAny.j0 k (x.drop (1 : Int).toNat) s bt251.2.1 bt251.2.2) else (none)) else (spec_l2DrawAny.j0 k x s bt251.2.1 bt251.2.2))))))) else (spec_l2DrawAny.j0 k x s i3 g3))) (r, i', h') ∧ r.length ≤ 3001 ∧ 0 ≤ i' ∧ i' ≤ (s.length : Int) := by
    by_cases c : b = true
    · obtain ⟨j, i4, g4, e4, j0, j1, _, p4, q4⟩ := l1Below_ex s hs i3 g3 (x.length : Int) p3 q3
      have j2 := j1 (by omega)
      obtain ⟨u, i5, g5, e5, u0, u1, _, p5, q5⟩ := l1Below_ex s hs i4 g4 4 p4 q4
      have u2 := u1 (by omega)
      simp only [if_pos c, e4, e5, Option.bind_some, if_pos j0, if_pos j2]
      have hu : u = 0 ∨ u = 1 ∨ u = 2 ∨ u = 3 := by omega
      rcases hu with rfl | rfl | rfl | rfl
      · obtain ⟨o, i6, g6, e6, _, _, p6, q6⟩ := l1From_ex s hs i5 g5 (-1) 18 p5 q5 (by omega) (by omega)
        simp only [if_true, e6, Option.bind_some]
        exact l2DrawAny_j0 s hs _ (by rw [List.length_set]; omega) i6 g6 p6 q6
      · obtain ⟨o, i6, g6, e6, p6, q6⟩ := l1Num_ex s hs i5 g5 255 p5 q5
        simp only [if_neg (show ¬ (1 : Int) = 0 by omega), if_true, e6, Option.bind_some]
        exact l2DrawAny_j0 s hs _ (by rw [List.length_set]; omega) i6 g6 p6 q6
      · obtain ⟨o, i6, g6, e6, _, _, p6, q6⟩ := l1From_ex s hs i5 g5 0 17 p5 q5 (by omega) (by omega)
        simp only [if_neg (show ¬ (2 : Int) = 0 by omega), if_neg (show ¬ (2 : Int) = 1 by omega), if_true, e6, Option.bind_some, if_pos (show x.length < 8796093022208 by omega)]
        exact l2DrawAny_j0 s hs _ (by rw [List.length_append]; simp; omega) i6 g6 p6 q6
      · simp only [if_neg (show ¬ (3 : Int) = 0 by omega), if_neg (show ¬ (3 : Int) = 1 by omega), if_neg (show ¬ (3 : Int) = 2 by omega), if_true, if_pos (show 1 ≤ (x.length : Int) by omega)]
        exact l2DrawAny_j0 s hs _ (by rw [List.length_drop]; omega) i5 g5 p5 q5
    · simp only [if_neg c]
      exact l2DrawAny_j0 s hs _ (by omega) i3 g3 p3 q3
  obtain ⟨r, i', h', e, z⟩ := key
  refine ⟨r, i', h', ?_, z⟩
  simp only [spec_l2DrawAny.f, e1, Option.bind_some, hw]
  refine Ev.bind e2 ?_
  simp only [e3, Option.bind_some]
  exact e

def Want_FnNames : Prop := ∀ (l0 : List (Int)), (l0.length ≤ 9223372036854775807 ∧ ∀ u1 ∈ l0, (Lit.int .u8 u1).wf = true) → ∃ k, laws_FnNames.f k l0 = some true
theorem drawNames_ex (s : List Int) (hs : s.length ≤ 1048576) : ∃ x : List S40, Ev (fun k => spec_DrawNamesIn.f k s) x ∧ x.length ≤ 3001 := by
  obtain ⟨h, e⟩ := l1New_ex s (by omega)
  obtain ⟨x, i1, g1, e1, hl, p1, q1⟩ := l2DrawAny_ex s (by omega) 0 h (by omega) (by omega)
  refine ⟨x, ?_, hl⟩
  simp only [spec_DrawNamesIn.f]
  refine Ev.bind e ?_
  refine Ev.bind e1 ?_
  exact Ev.now _
theorem mem_ris (m : List Bool) : ∀ (i j : Nat), m.getD j false = true → ((i + j : Nat) : Int) ∈ ris m i := by
  induction m with
  | nil => intro i j h; simp at h
  | cons b m ih =>
    intro i j h
    rw [ris]
    cases j with
    | zero =>
      have hb : b = true := by simpa using h
      rw [if_pos hb]; simp
    | succ j =>
      have hm := ih (i + 1) j (by simpa using h)
      rw [show i + 1 + j = i + (j + 1) by omega] at hm
      split
      · exact List.mem_cons_of_mem _ hm
      · exact hm
theorem mk_keep (c : Int) (l : List S40) (j : Nat) : ∀ m : List Bool, m.getD j false = true → (mk_ c m l).getD j false = true := by
  induction l with
  | nil => intro m h; exact h
  | cons t l ih =>
    intro m h
    rw [mk_]
    refine ih _ ?_
    split
    · rw [List.getD_eq_getElem?_getD, List.getElem?_set]
      have hj : j < m.length := by
        rcases Nat.lt_or_ge j m.length with h2 | h2
        · exact h2
        · rw [List.getD_eq_getElem?_getD, List.getElem?_eq_none h2] at h; cases h
      split
      · rw [if_pos (by omega)]; rfl
      · rw [← List.getD_eq_getElem?_getD]; exact h
    · exact h
theorem mk_mem (c : Int) (l : List S40) : ∀ m : List Bool, m.length = 256 → ∀ t ∈ l, t.f0 = c → 0 ≤ t.f1 ∧ t.f1 < 256 → (mk_ c m l).getD t.f1.toNat false = true := by
  induction l with
  | nil => intro m hm t ht; cases ht
  | cons u l ih =>
    intro m hm t ht hc hr
    rw [mk_]
    rcases List.mem_cons.1 ht with rfl | ht
    · rw [if_pos hc]
      refine mk_keep c l _ _ ?_
      rw [List.getD_eq_getElem?_getD, List.getElem?_set, if_pos rfl, if_pos (by omega)]; rfl
    · refine ih _ ?_ t ht hc hr
      split
      · rw [List.length_set]; exact hm
      · exact hm
theorem names_mem (x : List S40) (hr : ∀ t ∈ x, 0 ≤ t.f1 ∧ t.f1 < 256) (c : Int) (t : S40) (ht : t ∈ x) (hc : t.f0 = c) : t.f1 ∈ ris (mk_ c noF x) 0 := by
  have h := mem_ris _ 0 _ (mk_mem c x noF noF_len t ht hc (hr t ht))
  rw [show ((0 + t.f1.toNat : Nat) : Int) = t.f1 by have := (hr t ht).1; omega] at h
  exact h
theorem fnNames_in (x : List S40) (hx : x.length ≤ 3001) (v a : List Int) (i : Nat) (hi : i < x.length) (l : List Int) (hl : l.length ≤ 256) (kn : Ev (fun k => laws_FnNames.l0 k x v a ((i + 1 : Nat) : Int)) true) (d : Nat) :
    ∀ (j : Nat) (b : Bool), j + d = l.length → ((x[i].f0 = 1 ∨ x[i].f0 = 2) → b = true ∨ x[i].f1 ∈ l.drop j) → Ev (fun k => laws_FnNames.l1 k x v a (i : Int) b l (j : Int)) true := by
  induction d with
  | zero =>
    intro j b hj hb
    rw [List.drop_eq_nil_of_le (show l.length ≤ j by omega)] at hb
    refine Ev.step (fun k => by rw [laws_FnNames.l1]) ?_
    simp only [if_neg (show ¬ (j : Int) < (l.length : Int) by omega), if_pos (show 0 ≤ (i : Int) by omega), if_pos (show (i : Int) < (x.length : Int) by omega), rdTm_at x i hi, wrap_succ (show i < 9223372036854775807 by omega)]
    by_cases c1 : x[i].f0 = 1
    · have : b = true := by simpa using hb (.inl c1)
      simp only [if_pos c1, if_pos this]; exact kn
    by_cases c2 : x[i].f0 = 2
    · have : b = true := by simpa using hb (.inr c2)
      simp only [if_neg c1, if_pos c2, if_pos this]; exact kn
    · simp only [if_neg c1, if_neg c2]; exact kn
  | succ d ih =>
    intro j b hj hb
    have hjl : j < l.length := by omega
    rw [List.drop_eq_getElem_cons hjl] at hb
    refine Ev.step (fun k => by rw [laws_FnNames.l1]) ?_
    simp only [if_pos (show (j : Int) < (l.length : Int) by omega), if_pos (show 0 ≤ (j : Int) by omega), if_pos (show 0 ≤ (i : Int) by omega), if_pos (show (i : Int) < (x.length : Int) by omega), rdTm_at x i hi, rd_lt l j hjl, wrap_succ (show j < 9223372036854775807 by omega)]
    by_cases c : b = true
    · simp only [if_pos c]
      exact ih (j + 1) true (by omega) (fun _ => .inl rfl)
    · simp only [if_neg c]
      refine ih (j + 1) _ (by omega) (fun h => ?_)
      rcases hb h with h2 | h2
      · exact absurd h2 c
      · rcases List.mem_cons.1 h2 with h3 | h3
        · left; rw [h3]; simp
        · exact .inr h3
theorem fnNames_l (x : List S40) (hx : x.length ≤ 3001) (h : expOk (x.map tmI) = true) (hr : ∀ t ∈ x, 0 ≤ t.f1 ∧ t.f1 < 256) (d : Nat) : ∀ i : Nat, i + d = x.length → Ev (fun k => laws_FnNames.l0 k x (namesR x).1 (namesR x).2 (i : Int)) true := by
  have hb := namesR_len x
  induction d with
  | zero =>
    intro i hi
    refine Ev.step (fun k => by rw [laws_FnNames.l0]) ?_
    simp only [if_neg (show ¬ (i : Int) < (x.length : Int) by omega)]
    refine Ev.bind (specNames_ev x (by omega)) ?_
    refine Ev.bind (likeInts_ev _ (by omega)) ?_
    simp only [if_true]
    refine Ev.bind (likeInts_ev _ (by omega)) ?_
    simp only [if_true]
    refine Ev.bind (implExpOk_ev x) ?_
    exact (Ev.now _).cast h
  | succ d ih =>
    intro i hi
    have hil : i < x.length := by omega
    have hm : x[i] ∈ x := List.getElem_mem _
    have e1 : (namesR x).1 = ris (mk_ 1 noF x) 0 := by rw [namesR, if_pos h]
    have e2 : (namesR x).2 = ris (mk_ 2 noF x) 0 := by rw [namesR, if_pos h]
    refine Ev.step (fun k => by rw [laws_FnNames.l0]) ?_
    simp only [if_pos (show (i : Int) < (x.length : Int) by omega), if_pos (show 0 ≤ (i : Int) by omega), rdTm_at x i hil]
    by_cases c2 : x[i].f0 = 2
    · simp only [if_pos c2]
      refine Ev.step (fun k => by rw [laws_FnNames.j1]) ?_
      refine fnNames_in x hx _ _ i hil (namesR x).2 hb.2 (ih (i + 1) (by omega)) (namesR x).2.length 0 false (by omega) (fun _ => .inr ?_)
      rw [List.drop_zero, e2]
      exact names_mem x hr 2 _ hm c2
    · simp only [if_neg c2]
      refine Ev.step (fun k => by rw [laws_FnNames.j1]) ?_
      refine fnNames_in x hx _ _ i hil (namesR x).1 hb.1 (ih (i + 1) (by omega)) (namesR x).1.length 0 false (by omega) (fun h12 => .inr ?_)
      rw [List.drop_zero, e1]
      rcases h12 with h1 | h1
      · exact names_mem x hr 1 _ hm h1
      · exact absurd h1 c2
theorem FnNames : Want_FnNames := by
  intro s hq
  refine Ev.rounds ?_
  simp only [laws_FnNames.f, laws_big.f, Option.bind_some]
  by_cases hb : (s.length : Int) > 4096
  · simp only [decide_eq_true hb, if_true]; exact Ev.now _
  simp only [decide_eq_false hb, Bool.false_eq_true, if_false]
  obtain ⟨x, ex, hl⟩ := drawNames_ex s (by omega)
  refine Ev.bind ex ?_
  refine Ev.bind (implNames_ev x) ?_
  refine Ev.bind (specExpOk_ev x (by omega)) ?_
  by_cases h : expOk (x.map tmI) = true
  · simp only [if_pos h]
    obtain ⟨K, hK⟩ := implExpOk_ev x
    have hr := expOk_in ((hK K (Nat.le_refl _)).trans (congrArg some h))
    exact fnNames_l x (by omega) h hr.2 x.length 0 (by omega)
  · have e : namesR x = ([], []) := by rw [namesR, if_neg h]
    simp only [if_neg h, e, List.length_nil, if_pos (show ((0 : Nat) : Int) = 0 by omega)]
    refine Ev.bind (implExpOk_ev x) ?_
    exact (Ev.now _).cast (by rw [Bool.not_eq_true] at h; rw [h]; rfl)
end Go.Proofs.Ytlaliacfonfflaa.Pure
