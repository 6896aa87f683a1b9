/- FirstOf of the program and of the reference answer alike, for every list of Terms and every place, and the argument is left as it was; no condition. -/
import Derived.Test.YtlaliacfonfflaaPFnExactFirstOfx3
import Derived.Test.YtlaliacfonfflaaTerm
set_option linter.unusedVariables false
set_option linter.unusedSimpArgs false
namespace Go.Proofs.Ytlaliacfonfflaa.Pure
open Go.RowKit Go.Proofs.Ytlaliacfonfflaa.PFnExactFirstOf Go.Proofs.YtlaliacfonfflaaW.PrintWords Go.Proofs.YtlaliacfonfflaaW.PrintLast Go.Proofs.YtlaliacfonfflaaW.PrintMore Go.Proofs.Ytlaliacfonfflaa.Bs

theorem specTakesOf_eq (a : Int) : spec_TakesOf.f a = some (tks a) := by
  unfold spec_TakesOf.f spec_l1In.f
  by_cases h : 0 ≤ a ∧ a ≤ 17
  · obtain ⟨h0, h1⟩ := h
    obtain ⟨n, rfl⟩ := Int.eq_ofNat_of_zero_le h0
    have : n ≤ 17 := by omega
    have : n = 0 ∨ n = 1 ∨ n = 2 ∨ n = 3 ∨ n = 4 ∨ n = 5 ∨ n = 6 ∨ n = 7 ∨ n = 8 ∨ n = 9 ∨ n = 10 ∨ n = 11 ∨ n = 12 ∨ n = 13 ∨ n = 14 ∨ n = 15 ∨ n = 16 ∨ n = 17 := by omega
    rcases this with h | h | h | h | h | h | h | h | h | h | h | h | h | h | h | h | h | h <;> subst h <;> rfl
  · have e : tks a = -1 := by
      unfold tks
      rw [if_neg (by omega), if_neg (by omega), if_neg (by omega), if_neg (by omega)]
    rw [e]
    by_cases h0 : a ≥ 0
    · rw [if_pos h0]; simp [show ¬ a ≤ 17 by omega]
    · rw [if_neg h0]; simp
theorem implTakesOf_ev (a : Int) : Ev (fun k => impl_TakesOf.f k a) (tks a) := by
  refine ⟨3, fun k hk => ?_⟩
  obtain ⟨k, rfl⟩ : ∃ m, k = m + 3 := ⟨k - 3, by omega⟩
  unfold tks
  by_cases c0 : a = 0
  · subst c0; rfl
  by_cases c1 : a = 1
  · subst c1; rfl
  by_cases c2 : a = 2
  · subst c2; rfl
  by_cases c3 : a = 3
  · subst c3; rfl
  by_cases c4 : a = 4
  · subst c4; rfl
  rw [if_neg (by omega), if_neg (by omega)]
  simp only [impl_TakesOf.f, impl_TakesOf.j0, impl_TakesOf.j1, if_neg c0, if_neg c2, if_neg c3, beq_eq_false_iff_ne.2 c1, beq_eq_false_iff_ne.2 c4, Bool.false_eq_true, if_false]
  by_cases c5 : a ≥ 5
  · simp only [if_pos c5, impl_TakesOf.j2]
    by_cases c6 : a ≤ 16
    · rw [if_pos (by simpa using c6), if_pos (by omega)]
    · rw [if_neg (by simpa using c6), if_neg (show ¬ (5 ≤ a ∧ a ≤ 16) by omega)]
      by_cases c7 : a = 17
      · rw [if_pos c7, if_pos c7]
      · rw [if_neg c7, if_neg c7]
  · simp only [if_neg c5, impl_TakesOf.j2, Bool.false_eq_true, if_false]
    rw [if_neg (by omega), if_neg (by omega), if_neg (by omega)]

def tmI (s : S40) : Tm := ⟨s.f0, s.f1⟩
theorem tmI_inj {a b : S40} (h : tmI a = tmI b) : a = b := by
  cases a; cases b; simp only [tmI, Tm.mk.injEq] at h; obtain ⟨h1, h2⟩ := h; subst h1; subst h2; rfl
theorem rdTm_drop (l : List S40) (i : Nat) (h : i < l.length) : l.drop i = rd_T40 l (i : Int) :: l.drop (i + 1) := by
  simp only [rd_T40, Int.toNat_natCast, List.getD_eq_getElem?_getD, List.getElem?_eq_getElem h, Option.getD_some]
  exact List.drop_eq_getElem_cons h
theorem rdTm_at (l : List S40) (i : Nat) (h : i < l.length) : rd_T40 l (i : Int) = l[i] := by
  simp only [rd_T40, Int.toNat_natCast, List.getD_eq_getElem?_getD, List.getElem?_eq_getElem h, Option.getD_some]
def tmL (s : S57) : S40 := ⟨s.f0, s.f1⟩
theorem rdTl_at (l : List S57) (i : Nat) (h : i < l.length) : rd_T57 l (i : Int) = l[i] := by
  simp only [rd_T57, Int.toNat_natCast, List.getD_eq_getElem?_getD, List.getElem?_eq_getElem h, Option.getD_some]
theorem szTermS_eq (l : List S57) (n : Int) (h0 : 0 ≤ n) (h1 : n ≤ 1048576) (hl : l.length ≤ 9223372036854775807) : laws_szTermS.f l n = some (if n - (l.length : Int) < 0 then -1 else n - (l.length : Int)) := by
  have hw : wrap64 (n - (l.length : Int)) = n - (l.length : Int) := wrap_id (by omega) (by omega)
  simp only [laws_szTermS.f, hw]
  split <;> rfl
theorem toTermS_l (l : List S57) (hl : l.length ≤ 1048576) (d : Nat) : ∀ (i : Nat) (x : List S40), i + d = l.length → x.length = l.length → (∀ j, j < i → x[j]? = (l.map tmL)[j]?) → Ev (fun k => laws_toTermS.l0 k l x (i : Int)) (l.map tmL) := by
  induction d with
  | zero =>
    intro i x hi hx ht
    refine Ev.step (fun k => by rw [laws_toTermS.l0]) ?_
    simp only [if_neg (show ¬ (i : Int) < (l.length : Int) by omega)]
    obtain rfl : x = l.map tmL := ext_at (by simpa using hx) (fun j hj => ht j (by simp at hj; omega))
    exact Ev.now _
  | succ d ih =>
    intro i x hi hx ht
    refine Ev.step (fun k => by rw [laws_toTermS.l0]) ?_
    simp only [if_pos (show (i : Int) < (l.length : Int) by omega), if_pos (show 0 ≤ (i : Int) by omega), if_pos (show (i : Int) < (x.length : Int) by omega), wrap_succ (show i < 9223372036854775807 by omega), Int.toNat_natCast, laws_toTerm.f, Option.bind_some]
    refine ih (i + 1) _ (by omega) (by simpa using hx) (fun j hj => ?_)
    rw [List.getElem?_set]
    by_cases e : i = j
    · subst e
      rw [if_pos rfl, if_pos (by omega), rdTl_at l i (by omega), List.getElem?_map, List.getElem?_eq_getElem (show i < l.length by omega)]
      rfl
    · rw [if_neg e]; exact ht j (by omega)
theorem toTermS_ev (l : List S57) (hl : l.length ≤ 1048576) : Ev (fun k => laws_toTermS.f k l) (l.map tmL) := by
  simp only [laws_toTermS.f, if_pos (show 0 ≤ (l.length : Int) by omega), Int.toNat_natCast, if_pos (show l.length ≤ 17592186044416 by omega)]
  exact toTermS_l l hl l.length 0 _ (by omega) (by simp) (fun j hj => by omega)
theorem eqTermS_l (a : List S40) (ha : a.length ≤ 9223372036854775807) (d : Nat) : ∀ (i : Nat), i + d = a.length → Ev (fun k => laws_eqTermS.l0 k a a (i : Int)) true := by
  induction d with
  | zero =>
    intro i hi
    refine Ev.step (fun k => by rw [laws_eqTermS.l0]) ?_
    simp only [if_neg (show ¬ (i : Int) < (a.length : Int) by omega)]
    exact Ev.now _
  | succ d ih =>
    intro i hi
    refine Ev.step (fun k => by rw [laws_eqTermS.l0]) ?_
    simp only [if_pos (show (i : Int) < (a.length : Int) by omega), if_pos (show 0 ≤ (i : Int) by omega), wrap_succ (show i < 9223372036854775807 by omega), laws_eqTerm.f, if_true, Option.bind_some]
    exact ih (i + 1) (by omega)
theorem eqTermS_same (a : List S40) (ha : a.length ≤ 9223372036854775807) : Ev (fun k => laws_eqTermS.f k a a) true := by
  simp only [laws_eqTermS.f, if_true]
  exact eqTermS_l a ha a.length 0 (by omega)

theorem l1In_eq (a b c : Int) : spec_l1In.f a b c = some (decide (b ≤ a) && decide (a ≤ c)) := by
  unfold spec_l1In.f
  by_cases h : a ≥ b
  · rw [if_pos h]; simp [show b ≤ a from h]
  · rw [if_neg h]; simp [show ¬ b ≤ a from h]
theorem specExpOk_l (x : List S40) (hl : x.length ≤ 3000) (d : Nat) : ∀ (i : Nat) (h : Int), i + d = x.length → 0 ≤ h → h ≤ i → Ev (fun k => spec_ExpOk.l0 k x h (i : Int)) (decide (hgt ((x.drop i).map tmI) h = some 1)) := by
  induction d with
  | zero =>
    intro i h hi h0 h1
    refine Ev.step (fun k => by rw [spec_ExpOk.l0]) ?_
    simp only [if_neg (show ¬ (i : Int) < (x.length : Int) by omega)]
    rw [List.drop_of_length_le (show x.length ≤ i by omega)]
    exact (Ev.now _).cast (by rw [Bool.eq_iff_iff]; simp [hgt])
  | succ d ih =>
    intro i h hi h0 h1
    refine Ev.step (fun k => by rw [spec_ExpOk.l0]) ?_
    rw [rdTm_drop x i (by omega), List.map_cons, hgt]
    generalize rd_T40 x (i : Int) = t
    have hr := tks_range t.f0
    have et : (tmI t).op = t.f0 := rfl
    have en : (tmI t).n = t.f1 := rfl
    simp only [if_pos (show (i : Int) < (x.length : Int) by omega), if_pos (show 0 ≤ (i : Int) by omega), specTakesOf_eq, l1In_eq, Option.bind_some, wrap_succ (show i < 9223372036854775807 by omega), et]
    by_cases c : tmOk (tmI t) ∧ tks t.f0 ≤ h
    · rw [if_pos c]
      obtain ⟨⟨c1, c2, c3, c4⟩, c5⟩ := c
      rw [et] at c1 c4
      rw [en] at c2 c3 c4
      have hn : (decide (0 ≤ t.f1) && decide (t.f1 ≤ 255)) = true := by simp; omega
      have hw : wrap64 (wrap64 (h - tks t.f0) + 1) = h + (1 - tks t.f0) := by rw [wrap_id (x := h - tks t.f0) (by omega) (by omega), wrap_id (by omega) (by omega)]; omega
      simp only [if_neg (show ¬ tks t.f0 < 0 by omega), if_neg (show ¬ tks t.f0 > h by omega), hn, if_true, hw]
      have hg := ih (i + 1) (h + (1 - tks t.f0)) (by omega) (by omega) (by omega)
      by_cases c6 : t.f0 > 2
      · simp only [if_pos c6, if_pos (c4 c6)]; exact hg
      · simp only [if_neg c6]; exact hg
    · rw [if_neg c]
      have cf : decide ((none : Option Int) = some 1) = false := by simp
      rw [cf]
      by_cases c1 : tks t.f0 < 0
      · simp only [if_pos c1]; exact Ev.now _
      by_cases c2 : tks t.f0 > h
      · simp only [if_neg c1, if_pos c2]; exact Ev.now _
      by_cases c3 : (decide (0 ≤ t.f1) && decide (t.f1 ≤ 255)) = true
      · have c3' : 0 ≤ t.f1 ∧ t.f1 ≤ 255 := by simpa using c3
        have c4 : t.f0 > 2 ∧ ¬ t.f1 = 0 := by
          refine Classical.byContradiction fun e => c ⟨⟨by rw [et]; omega, by rw [en]; omega, by rw [en]; omega, ?_⟩, by omega⟩
          rw [et, en]; intro e1
          exact Classical.byContradiction fun e2 => e ⟨e1, e2⟩
        simp only [if_neg c1, if_neg c2, c3, if_true, if_pos c4.1, if_neg c4.2]; exact Ev.now _
      · simp only [if_neg c1, if_neg c2, if_neg c3]; exact Ev.now _
theorem specExpOk_ev (x : List S40) (hl : x.length ≤ 1048576) : Ev (fun k => spec_ExpOk.f k x) (expOk (x.map tmI)) := by
  simp only [spec_ExpOk.f]
  by_cases h : (x.length : Int) > 3000
  · simp only [if_pos h]
    exact (Ev.now _).cast (by simp [expOk]; omega)
  · simp only [if_neg h]
    exact (specExpOk_l x (by omega) x.length 0 0 (by omega) (by omega) (by omega)).cast (by simp [expOk]; omega)
theorem implExpOk_l (x : List S40) (hl : x.length ≤ 3000) (d : Nat) : ∀ (i : Nat) (h : Int), i + d = x.length → 0 ≤ h → h ≤ i → Ev (fun k => impl_ExpOk.l0 k h x (x.length : Int) (i : Int)) (decide (hgt ((x.drop i).map tmI) h = some 1)) := by
  induction d with
  | zero =>
    intro i h hi h0 h1
    refine Ev.step (fun k => by rw [impl_ExpOk.l0]) ?_
    simp only [if_neg (show ¬ (i : Int) < (x.length : Int) by omega)]
    rw [List.drop_of_length_le (show x.length ≤ i by omega)]
    exact (Ev.now _).cast (by rw [Bool.eq_iff_iff]; simp [hgt])
  | succ d ih =>
    intro i h hi h0 h1
    refine Ev.step (fun k => by rw [impl_ExpOk.l0]) ?_
    rw [rdTm_drop x i (by omega), List.map_cons, hgt]
    generalize rd_T40 x (i : Int) = t
    have hr := tks_range t.f0
    have et : (tmI t).op = t.f0 := rfl
    have en : (tmI t).n = t.f1 := rfl
    simp only [if_pos (show (i : Int) < (x.length : Int) by omega), if_pos (show 0 ≤ (i : Int) by omega), wrap_succ (show i < 9223372036854775807 by omega), et]
    refine Ev.bind (implTakesOf_ev t.f0) ?_
    by_cases c : tmOk (tmI t) ∧ tks t.f0 ≤ h
    · rw [if_pos c]
      obtain ⟨⟨c1, c2, c3, c4⟩, c5⟩ := c
      rw [et] at c1 c4
      rw [en] at c2 c3 c4
      have hw : wrap64 (h + wrap64 (1 - tks t.f0)) = h + (1 - tks t.f0) := by rw [wrap_id (x := 1 - tks t.f0) (by omega) (by omega), wrap_id (by omega) (by omega)]
      simp only [if_neg (show ¬ tks t.f0 < 0 by omega), if_neg (show ¬ tks t.f0 > h by omega), if_neg (show ¬ t.f1 < 0 by omega), if_neg (show ¬ t.f1 > 255 by omega), hw]
      have hg := ih (i + 1) (h + (1 - tks t.f0)) (by omega) (by omega) (by omega)
      by_cases c6 : t.f0 > 2
      · simp only [if_pos c6, if_pos (c4 c6)]; exact hg
      · simp only [if_neg c6]; exact hg
    · rw [if_neg c]
      have cf : decide ((none : Option Int) = some 1) = false := by simp
      rw [cf]
      by_cases c1 : tks t.f0 < 0
      · simp only [if_pos c1]; exact Ev.now _
      by_cases c2 : tks t.f0 > h
      · simp only [if_neg c1, if_pos c2]; exact Ev.now _
      by_cases c3 : t.f1 < 0
      · simp only [if_neg c1, if_neg c2, if_pos c3]; exact Ev.now _
      by_cases c3' : t.f1 > 255
      · simp only [if_neg c1, if_neg c2, if_neg c3, if_pos c3']; exact Ev.now _
      have c4 : t.f0 > 2 ∧ ¬ t.f1 = 0 := by
        refine Classical.byContradiction fun e => c ⟨⟨by rw [et]; omega, by rw [en]; omega, by rw [en]; omega, ?_⟩, by omega⟩
        rw [et, en]; intro e1
        exact Classical.byContradiction fun e2 => e ⟨e1, e2⟩
      simp only [if_neg c1, if_neg c2, if_neg c3, if_neg c3', if_pos c4.1, if_neg c4.2]; exact Ev.now _
theorem implExpOk_ev (x : List S40) : Ev (fun k => impl_ExpOk.f k x) (expOk (x.map tmI)) := by
  simp only [impl_ExpOk.f]
  by_cases h0 : x.length = 0
  · simp only [if_pos (show (x.length : Int) = 0 by omega)]
    refine Ev.step (fun k => by rw [impl_ExpOk.j0]) ?_
    simp only [if_true]
    exact (Ev.now _).cast (by rw [List.length_eq_zero_iff.1 h0]; simp [expOk, hgt])
  · simp only [if_neg (show ¬ (x.length : Int) = 0 by omega)]
    refine Ev.step (fun k => by rw [impl_ExpOk.j0]) ?_
    by_cases h : (x.length : Int) > 3000
    · simp only [decide_eq_true h, if_true]
      exact (Ev.now _).cast (by simp [expOk]; omega)
    · simp only [decide_eq_false h, Bool.false_eq_true, if_false]
      exact (implExpOk_l x (by omega) x.length 0 0 (by omega) (by omega) (by omega)).cast (by simp [expOk]; omega)

theorem take_rev (x : List S40) (i : Nat) (h : i < x.length) : ((x.take (i + 1)).map tmI).reverse = tmI (rd_T40 x (i : Int)) :: ((x.take i).map tmI).reverse := by
  rw [rdTm_at x i h, List.take_succ_eq_append_getElem h, List.map_append, List.reverse_append]; rfl
theorem l2First_l (x : List S40) (hx : x.length ≤ 3000) (r : Nat) (i : Nat) : ∀ n : Int, i < x.length → n ≤ 4 * ((x.length : Int) - i) → -4 * ((x.length : Int) - i) ≤ n → bk ((x.take (i + 1)).map tmI).reverse n = some r → Ev (fun k => spec_l2First.l0 k x n (i : Int)) (r : Int) := by
  induction i with
  | zero =>
    intro n hi h1 h2 hb
    refine Ev.step (fun k => by rw [spec_l2First.l0]) ?_
    rw [take_rev x 0 hi, bk] at hb
    have hr := tks_range (rd_T40 x ((0 : Nat) : Int)).f0
    have et : (tmI (rd_T40 x ((0 : Nat) : Int))).op = (rd_T40 x ((0 : Nat) : Int)).f0 := rfl
    rw [et] at hb
    have hw : wrap64 (wrap64 (n - 1) + tks (rd_T40 x ((0 : Nat) : Int)).f0) = n - 1 + tks (rd_T40 x ((0 : Nat) : Int)).f0 := by rw [wrap_id (x := n - 1) (by omega) (by omega), wrap_id (by omega) (by omega)]
    simp only [if_pos (show ((0 : Nat) : Int) ≥ 0 by omega), if_pos (show 0 ≤ ((0 : Nat) : Int) by omega), if_pos (show ((0 : Nat) : Int) < (x.length : Int) by omega), specTakesOf_eq, Option.bind_some, hw]
    by_cases c : n - 1 + tks (rd_T40 x ((0 : Nat) : Int)).f0 = 0
    · rw [if_pos c] at hb
      simp only [if_pos c]
      simp at hb
      subst hb; exact Ev.now _
    · rw [if_neg c] at hb
      simp [bk] at hb
  | succ i ih =>
    intro n hi h1 h2 hb
    refine Ev.step (fun k => by rw [spec_l2First.l0]) ?_
    rw [take_rev x (i + 1) hi, bk] at hb
    have hr := tks_range (rd_T40 x ((i + 1 : Nat) : Int)).f0
    have et : (tmI (rd_T40 x ((i + 1 : Nat) : Int))).op = (rd_T40 x ((i + 1 : Nat) : Int)).f0 := rfl
    rw [et] at hb
    have hw : wrap64 (wrap64 (n - 1) + tks (rd_T40 x ((i + 1 : Nat) : Int)).f0) = n - 1 + tks (rd_T40 x ((i + 1 : Nat) : Int)).f0 := by rw [wrap_id (x := n - 1) (by omega) (by omega), wrap_id (by omega) (by omega)]
    simp only [if_pos (show ((i + 1 : Nat) : Int) ≥ 0 by omega), if_pos (show 0 ≤ ((i + 1 : Nat) : Int) by omega), if_pos (show ((i + 1 : Nat) : Int) < (x.length : Int) by omega), specTakesOf_eq, Option.bind_some, hw, wrap_pred (show i < 9223372036854775807 by omega)]
    by_cases c : n - 1 + tks (rd_T40 x ((i + 1 : Nat) : Int)).f0 = 0
    · rw [if_pos c] at hb
      simp only [if_pos c]
      have hr' : r = i + 1 := by
        have := Option.some.inj hb
        rw [← this]; simp; omega
      subst hr'; exact Ev.now _
    · rw [if_neg c] at hb
      simp only [if_neg c]
      exact ih _ (by omega) (by omega) (by omega) hb
theorem beginOf_l (x : List S40) (hx : x.length ≤ 3000) (r : Nat) (i : Nat) : ∀ n : Int, i < x.length → n ≤ 4 * ((x.length : Int) - i) → -4 * ((x.length : Int) - i) ≤ n → bk ((x.take (i + 1)).map tmI).reverse n = some r → Ev (fun k => impl_beginOf.l0 k x (i : Int) n) (r : Int) := by
  induction i with
  | zero =>
    intro n hi h1 h2 hb
    refine Ev.step (fun k => by rw [impl_beginOf.l0]) ?_
    rw [take_rev x 0 hi, bk] at hb
    have hr := tks_range (rd_T40 x ((0 : Nat) : Int)).f0
    have et : (tmI (rd_T40 x ((0 : Nat) : Int))).op = (rd_T40 x ((0 : Nat) : Int)).f0 := rfl
    rw [et] at hb
    have hw : wrap64 (n + wrap64 (tks (rd_T40 x ((0 : Nat) : Int)).f0 - 1)) = n - 1 + tks (rd_T40 x ((0 : Nat) : Int)).f0 := by rw [wrap_id (x := tks (rd_T40 x ((0 : Nat) : Int)).f0 - 1) (by omega) (by omega), wrap_id (by omega) (by omega)]; omega
    simp only [if_pos (show 0 ≤ ((0 : Nat) : Int) by omega), if_pos (show ((0 : Nat) : Int) < (x.length : Int) by omega)]
    refine Ev.bind (implTakesOf_ev _) ?_
    simp only [hw]
    by_cases c : n - 1 + tks (rd_T40 x ((0 : Nat) : Int)).f0 = 0
    · rw [if_pos c] at hb
      simp only [if_pos c]
      simp at hb
      subst hb; exact Ev.now _
    · rw [if_neg c] at hb
      simp [bk] at hb
  | succ i ih =>
    intro n hi h1 h2 hb
    refine Ev.step (fun k => by rw [impl_beginOf.l0]) ?_
    rw [take_rev x (i + 1) hi, bk] at hb
    have hr := tks_range (rd_T40 x ((i + 1 : Nat) : Int)).f0
    have et : (tmI (rd_T40 x ((i + 1 : Nat) : Int))).op = (rd_T40 x ((i + 1 : Nat) : Int)).f0 := rfl
    rw [et] at hb
    have hw : wrap64 (n + wrap64 (tks (rd_T40 x ((i + 1 : Nat) : Int)).f0 - 1)) = n - 1 + tks (rd_T40 x ((i + 1 : Nat) : Int)).f0 := by rw [wrap_id (x := tks (rd_T40 x ((i + 1 : Nat) : Int)).f0 - 1) (by omega) (by omega), wrap_id (by omega) (by omega)]; omega
    simp only [if_pos (show 0 ≤ ((i + 1 : Nat) : Int) by omega), if_pos (show ((i + 1 : Nat) : Int) < (x.length : Int) by omega), wrap_pred (show i < 9223372036854775807 by omega)]
    refine Ev.bind (implTakesOf_ev _) ?_
    simp only [hw]
    by_cases c : n - 1 + tks (rd_T40 x ((i + 1 : Nat) : Int)).f0 = 0
    · rw [if_pos c] at hb
      simp only [if_pos c]
      have hr' : r = i + 1 := by
        have := Option.some.inj hb
        rw [← this]; simp; omega
      subst hr'; exact Ev.now _
    · rw [if_neg c] at hb
      simp only [if_neg c]
      exact ih _ (by omega) (by omega) (by omega) hb
theorem l2First_ev (x : List S40) (hx : x.length ≤ 3000) {r i : Nat} (hi : i < x.length) (hb : bk ((x.take (i + 1)).map tmI).reverse 1 = some r) : Ev (fun k => spec_l2First.f k x (i : Int)) (r : Int) := by
  simp only [spec_l2First.f]
  exact l2First_l x hx r i 1 hi (by omega) (by omega) hb
theorem beginOf_ev (x : List S40) (hx : x.length ≤ 3000) {r i : Nat} (hi : i < x.length) (hb : bk ((x.take (i + 1)).map tmI).reverse 1 = some r) : Ev (fun k => impl_beginOf.f k x (i : Int)) (r : Int) := by
  simp only [impl_beginOf.f]
  exact beginOf_l x hx r i 1 hi (by omega) (by omega) hb
/-- In a right expression each place has its begin. -/
theorem first_ex (x : List S40) (h : expOk (x.map tmI) = true) {i : Nat} (hi : i < x.length) : ∃ r : Nat, bk ((x.take (i + 1)).map tmI).reverse 1 = some r := by
  obtain ⟨st, a, ho, he⟩ := exp_at h (i := i) (by simpa using hi)
  rw [List.map_take, he, bk_begin ho.1]
  exact ⟨_, rfl⟩
theorem expOk_len {x : List S40} (h : expOk (x.map tmI) = true) : x.length ≤ 3000 := by
  simp only [expOk, Bool.and_eq_true, decide_eq_true_eq, List.length_map] at h
  exact h.1
theorem expOk_pos {x : List S40} (h : expOk (x.map tmI) = true) : 0 < x.length := by
  obtain ⟨a, _, h2, _⟩ := exp_tree h
  have := a.flat_pos
  rw [h2, List.length_map] at this; exact this

def firstR (x : List S40) (a : Int) : Int := if expOk (x.map tmI) = true ∧ 0 ≤ a ∧ a < (x.length : Int) then ((bk ((x.take (a.toNat + 1)).map tmI).reverse 1).getD 0 : Nat) else -1
theorem specFirstOf_ev (x : List S40) (hx : x.length ≤ 1048576) (a : Int) : Ev (fun k => spec_FirstOf.f k x a) (firstR x a) := by
  simp only [spec_FirstOf.f]
  refine Ev.bind (specExpOk_ev x hx) ?_
  by_cases h : expOk (x.map tmI) = true
  · have hp := expOk_pos h
    simp only [if_pos h, l1In_eq, Option.bind_some, wrap_id (show -9223372036854775808 ≤ (x.length : Int) - 1 by omega) (show (x.length : Int) - 1 ≤ 9223372036854775807 by omega)]
    by_cases c : 0 ≤ a ∧ a < (x.length : Int)
    · have e : (decide (0 ≤ a) && decide (a ≤ (x.length : Int) - 1)) = true := by simp; omega
      simp only [if_pos e]
      obtain ⟨i, rfl⟩ := Int.eq_ofNat_of_zero_le c.1
      obtain ⟨r, hr⟩ := first_ex x h (show i < x.length by omega)
      refine Ev.bind (l2First_ev x (expOk_len h) (by omega) hr) ?_
      exact (Ev.now _).cast (by rw [firstR, if_pos ⟨h, c⟩, Int.toNat_natCast, hr]; rfl)
    · have e : ¬ (decide (0 ≤ a) && decide (a ≤ (x.length : Int) - 1)) = true := by simp; omega
      simp only [if_neg e]
      exact (Ev.now _).cast (by rw [firstR, if_neg (fun g => c g.2)])
  · simp only [if_neg h]
    exact (Ev.now _).cast (by rw [firstR, if_neg (fun g => h g.1)])
theorem implFirstOf_ev (x : List S40) (a : Int) : Ev (fun k => impl_FirstOf.f k x a) (firstR x a) := by
  simp only [impl_FirstOf.f]
  refine Ev.bind (implExpOk_ev x) ?_
  by_cases h : expOk (x.map tmI) = true
  · have hp := expOk_pos h
    simp only [if_pos h]
    by_cases c0 : a < 0
    · simp only [if_pos c0]
      exact (Ev.now _).cast (by rw [firstR, if_neg (fun g => by omega)])
    by_cases c1 : a ≥ (x.length : Int)
    · simp only [if_neg c0, if_pos c1]
      exact (Ev.now _).cast (by rw [firstR, if_neg (fun g => by omega)])
    simp only [if_neg c0, if_neg c1]
    obtain ⟨i, rfl⟩ := Int.eq_ofNat_of_zero_le (show 0 ≤ a by omega)
    obtain ⟨r, hr⟩ := first_ex x h (show i < x.length by omega)
    refine Ev.bind (beginOf_ev x (expOk_len h) (by omega) hr) ?_
    exact (Ev.now _).cast (by rw [firstR, if_pos ⟨h, by omega, by omega⟩, Int.toNat_natCast, hr]; rfl)
  · simp only [if_neg h]
    exact (Ev.now _).cast (by rw [firstR, if_neg (fun g => h g.1)])

def Want_FnExactFirstOf : Prop := ∀ (l0 : List (S57)) (a1 : Int), (l0.length ≤ 9223372036854775807 ∧ ∀ u1 ∈ l0, ((Lit.int .i64 u1.f0).wf = true ∧ (Lit.int .i64 u1.f1).wf = true)) → (Lit.int .i64 a1).wf = true → ∃ k, laws_FnExactFirstOf.f k l0 a1 = some true
theorem FnExactFirstOf : Want_FnExactFirstOf := by
  intro l a hq ha
  have hl := hq.1
  refine Ev.rounds ?_
  simp only [laws_FnExactFirstOf.f, szTermS_eq l 1048576 (by omega) (by omega) (by omega), Option.bind_some]
  by_cases h : (1048576 : Int) - (l.length : Int) < 0
  · simp only [if_pos h, if_pos (show (-1 : Int) < 0 by omega)]; exact Ev.now _
  simp only [if_neg h]
  have hl' : l.length ≤ 1048576 := by omega
  refine Ev.bind (toTermS_ev l hl') ?_
  refine Ev.bind (specFirstOf_ev _ (by simpa using hl') a) ?_
  refine Ev.bind (toTermS_ev l hl') ?_
  refine Ev.bind (implFirstOf_ev _ a) ?_
  simp only [if_true]
  refine Ev.bind (toTermS_ev l hl') ?_
  refine Ev.bind (eqTermS_same _ (by simp; omega)) ?_
  simp only [if_true]
  exact Ev.now _
end Go.Proofs.Ytlaliacfonfflaa.Pure
